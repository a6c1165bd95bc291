/- The walk of culvertlaw10.FilterSame. -/
import Derived.Test.YtadgagndfmdjmaaFlN
import Derived.IntWalk
namespace Go.Proofs.Ytadgagndfmdjmaa.Fl
open Go.RowKit Go.Proofs.Ytadgagndfmdjmaa.MFi Go.Proofs.YtadgagndfmdjmaaW.PrintWords Go.Proofs.YtadgagndfmdjmaaW.PrintLast Go.Proofs.YtadgagndfmdjmaaW.PrintMore
open Extern.Stop (cell)
attribute [local go_sem] max2_int min2_int max_two min_two

/-- A rule about nothing. -/
def plain (chain : Int) (deny : Bool) (add : Int) : Rul := ⟨chain, ⟨#[]⟩, zpfx, false, 0, 0, zpfx, false, no8, deny, add⟩
theorem plain_ok (chain : Int) (deny : Bool) (add : Int) : (plain chain deny add).Ok := ⟨rfl, rfl, rfl⟩
theorem empty_list : (⟨#[]⟩ : ByteArray).toList = [] := by decide +kernel
theorem plain_mat (chain : Int) (deny : Bool) (add : Int) (name : ByteArray) (q : Par) (id : List UInt8) : matB (plain chain deny add) chain name q id = true := by
  have h1 : ifB (plain chain deny add) name = false := by unfold ifB; rw [if_pos (show (plain chain deny add).I.toList = [] from empty_list)]
  have h2 : idB (plain chain deny add) id = false := rfl
  unfold matB
  rw [if_pos (show (plain chain deny add).C = chain from rfl), h1, h2]
  rfl
theorem plain_deny (chain m : Int) (name : ByteArray) (q : Par) (id : List UInt8) : metV (fun r => matB r chain name q id) [plain chain true 0] m = 65535 := by
  rw [metV, if_pos (plain_mat _ _ _ _ _ _)]; rfl
theorem plain_add (chain m add : Int) (ha : 0 ≤ add ∧ add ≤ 65535) (name : ByteArray) (q : Par) (id : List UInt8) (l : List Rul) : metV (fun r => matB r chain name q id) (plain chain false add :: l) m = sat (m + add) := by
  rw [metV, if_pos (plain_mat _ _ _ _ _ _)]
  show sat (m + add % 65536) = sat (m + add)
  rw [show add % 65536 = add by omega]
set_option maxRecDepth 100000 in
set_option maxHeartbeats 4000000 in
theorem law_same (chain : Int) (name : ByteArray) (q : Par) (hq : q.Ok) (hL : In64 q.D.L) (id : List UInt8) (hid : id.length = 8) (m : Int) (hm : 0 ≤ m ∧ m ≤ 65535) (add : Int) (ha : 0 ≤ add ∧ add ≤ 65535) (w : World) :
    Calls Try.prog 6 #[.int .i64 chain, .string name, .agg (qc q).toArray, .agg (bs id).toArray, .int .u16 m, .int .u16 add] w fun e w' => e = .returned (.bool true) ∧ Below w.heap.size w w' := by
  go_enter Try.func6, Try.ntmps6
  go_upto_region 1 with (first | ((with_reducible refine gate_dst (N := 8) rfl ?_); refine box_gen 28 _ rfl rfl (qc q).toArray ?hx ?_; (case hx => rfl); intro w1 g1 b1; (try simp only [Act.put, List.setIfInBounds_toArray, List.set_cons_zero, List.set_cons_succ])) | (((with_reducible refine gate_dst (N := 9) rfl ?_); refine box_gen 30 _ rfl rfl (bs id).toArray ?hx ?_; (case hx => rfl); intro w2 g2 b2; (try simp only [Act.put, List.setIfInBounds_toArray, List.set_cons_zero, List.set_cons_succ])); have HB0 := Aside0.mk (below_then b1.out.1 b1.out.1.size b2.out.1); have HP := Aside0.mk (blk_below g1.out b2.out.1); have HD := Aside0.mk g2.out; clear g1 g2 b1 b2))
  go_cut [26] from 12 (fun v w' => (∃ b, v = .bool b) ∧ Below w2.heap.size w2 w')
  case first =>
    have kP := par_all hq HP.out
    go_wp2_with ((with_reducible refine gate_dst (N := 16) rfl ?_); (try (refine gate_guard (by rfl) ?_; dsimp only)); refine load_step 28 _ rfl rfl _ kP ?_; (try simp only [Act.put, List.setIfInBounds_toArray, List.set_cons_zero, List.set_cons_succ]))
    refine (ref_checkpair_any q hq _).mono ?_; rintro e w3 ⟨⟨n, rfl⟩, hbb⟩
    have HM := Aside0.mk hbb
    clear hbb kP
    cases q1 : (n != 0) with
    | true =>
      go_wp2_with (fail)
      go_meet
      case rel => exact ⟨⟨_, rfl⟩, HM.out⟩
    | false =>
      cases q2 : decide (chain < 0) with
      | true =>
        go_wp2_with (fail)
        go_meet
        case rel => exact ⟨⟨_, rfl⟩, HM.out⟩
      | false =>
        go_wp2_with (fail)
        go_meet
        case rel => exact ⟨⟨_, rfl⟩, HM.out⟩
  case rest =>
    obtain ⟨⟨b, rfl⟩, hbb⟩ := hcut
    have HB1 := Aside0.mk (below_then HB0.out HB0.out.size hbb)
    have HP1 := Aside0.mk (blk_below HP.out hbb)
    have HD1 := Aside0.mk (blk_below HD.out hbb)
    clear hbb HP HD HB0
    cases b with
    | true =>
      go_wp2_with (fail)
      refine (law_live _).mono ?_; rintro e w4 ⟨rfl, hbb⟩
      have HB4 := Aside0.mk (below_then HB1.out HB1.out.size hbb)
      clear hbb
      go_wp2_with (fail)
      go_ret
      exact ⟨rfl, HB4.out⟩
    | false =>
      have kP := par_all hq HP1.out
      have kD := arr_blk (ty := 30) hid HD1.out Try.underlying30 rfl (by kernel_rfl)
      go_wp2_with (first | ((with_reducible refine gate_dst (N := 30) rfl ?_); (try (refine gate_guard (by rfl) ?_; dsimp only)); refine load_step 28 _ rfl rfl _ kP ?_; (try simp only [Act.put, List.setIfInBounds_toArray, List.set_cons_zero, List.set_cons_succ])) | ((with_reducible refine gate_dst (N := 31) rfl ?_); (try (refine gate_guard (by rfl) ?_; dsimp only)); refine load_step 30 _ rfl rfl _ kD ?_; (try simp only [Act.put, List.setIfInBounds_toArray, List.set_cons_zero, List.set_cons_succ])))
      refine (fil_metric_ _ 1 [plain chain true 0] 1 rfl chain name q hq hL id hid m hm _ (RD_one (plain_ok _ _ _) (blk_new _ _)) 65535 (plain_deny _ _ _ _ _)).mono ?_; rintro e w4 ⟨rfl, hbb⟩
      have hb4 := (below_alloc (Below.refl wc.heap.size wc) (Obj.cells (rc (plain chain true 0)).toArray 41)).trans (hbb.mono (by simp))
      have HB4 := Aside0.mk (below_then HB1.out HB1.out.size hb4)
      have HP4 := Aside0.mk (blk_below HP1.out hb4)
      have HD4 := Aside0.mk (blk_below HD1.out hb4)
      clear hbb hb4 kP kD HP1 HD1 HB1
      have kP := par_all hq HP4.out
      have kD := arr_blk (ty := 30) hid HD4.out Try.underlying30 rfl (by kernel_rfl)
      have hw : IntKind.i64.wrap add = add := by rw [IntWalk.i64_in _ (by omega)]
      go_wp2_with (first | ((with_reducible refine gate_dst (N := 39) rfl ?_); (try (refine gate_guard (by rfl) ?_; dsimp only)); refine load_step 28 _ rfl rfl _ kP ?_; (try simp only [Act.put, List.setIfInBounds_toArray, List.set_cons_zero, List.set_cons_succ])) | ((with_reducible refine gate_dst (N := 40) rfl ?_); (try (refine gate_guard (by rfl) ?_; dsimp only)); refine load_step 30 _ rfl rfl _ kD ?_; (try simp only [Act.put, List.setIfInBounds_toArray, List.set_cons_zero, List.set_cons_succ])))
      obtain ⟨Z, hZ⟩ : ∃ Z, sat (m + add) = Z := ⟨_, rfl⟩
      refine (fil_metric_ _ 1 [plain chain false add] 1 rfl chain name q hq hL id hid m hm _ (RD_one (plain_ok _ _ _) (blk_new _ _)) Z ((plain_add _ _ _ ha _ _ _ _).trans hZ)).mono ?_; rintro e w5 ⟨rfl, hbb⟩
      have hb5 := (below_alloc (Below.refl w4.heap.size w4) (Obj.cells (rc (plain chain false add)).toArray 41)).trans (hbb.mono (by simp))
      have HB5 := Aside0.mk (below_then HB4.out HB4.out.size hb5)
      have HP5 := Aside0.mk (blk_below HP4.out hb5)
      have HD5 := Aside0.mk (blk_below HD4.out hb5)
      clear hbb hb5 kP kD HP4 HD4 HB4
      have kP := par_all hq HP5.out
      have kD := arr_blk (ty := 30) hid HD5.out Try.underlying30 rfl (by kernel_rfl)
      go_wp2_with (first | ((with_reducible refine gate_dst (N := 50) rfl ?_); (try (refine gate_guard (by rfl) ?_; dsimp only)); refine load_step 28 _ rfl rfl _ kP ?_; (try simp only [Act.put, List.setIfInBounds_toArray, List.set_cons_zero, List.set_cons_succ])) | ((with_reducible refine gate_dst (N := 51) rfl ?_); (try (refine gate_guard (by rfl) ?_; dsimp only)); refine load_step 30 _ rfl rfl _ kD ?_; (try simp only [Act.put, List.setIfInBounds_toArray, List.set_cons_zero, List.set_cons_succ])))
      refine (fil_metric_ _ 2 [plain chain false add, plain chain true 0] 2 rfl chain name q hq hL id hid m hm _ (RD_two (plain_ok _ _ _) (plain_ok _ _ _) (blk_new _ _)) Z ((plain_add _ _ _ ha _ _ _ _).trans hZ)).mono ?_; rintro e w6 ⟨rfl, hbb⟩
      have hb6 := (below_alloc (Below.refl w5.heap.size w5) (Obj.cells (rc (plain chain false add) ++ rc (plain chain true 0)).toArray 41)).trans (hbb.mono (by simp))
      have HB6 := Aside0.mk (below_then HB5.out HB5.out.size hb6)
      clear hbb hb6 kP kD HP5 HD5 HB5
      have hz : (Z = m + add ∧ m + add ≤ 65535) ∨ (Z = 65535 ∧ 65535 < m + add) := by unfold sat at hZ; split at hZ <;> omega
      have hZ0 : 0 ≤ Z ∧ Z ≤ 65535 := by omega
      have hwm : IntKind.i64.wrap m = m := by rw [IntWalk.i64_in _ (by omega)]
      have hwz : IntKind.i64.wrap Z = Z := by rw [IntWalk.i64_in _ (by omega)]
      have hws : IntKind.i64.wrap (m + add) = m + add := by rw [IntWalk.i64_in _ (by omega)]
      have hZZ : (Z == Z) = true := by simp
      go_wp2_with (fail)
      all_goals (refine (law_live _).mono ?_; rintro e w7 ⟨rfl, hbb⟩; have HB7 := Aside0.mk (below_then HB6.out HB6.out.size hbb); clear hbb; go_wp2_with (fail); go_ret; exact ⟨rfl, HB7.out⟩)
end Go.Proofs.Ytadgagndfmdjmaa.Fl
