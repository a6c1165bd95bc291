/- The walk of culvertlaw10.FilterTells. -/
import Derived.Test.YtadgagndfmdjmaaFlN
import Derived.Test.YtadgagndfmdjmaaFlP
namespace Go.Proofs.Ytadgagndfmdjmaa.Fl
open Go.RowKit Go.Proofs.Ytadgagndfmdjmaa.MFi Go.Proofs.YtadgagndfmdjmaaW.PrintWords Go.Proofs.YtadgagndfmdjmaaW.PrintLast Go.Proofs.YtadgagndfmdjmaaW.PrintMore
open Extern.Stop (cell)
attribute [local go_sem] max2_int min2_int max_two min_two

set_option maxRecDepth 100000 in
set_option maxHeartbeats 4000000 in
theorem law_tells (A : Option Addr) (c : Nat) (l : List Rul) (chain : Int) (name : ByteArray) (q : Par) (hq : q.Ok) (hL : In64 q.D.L) (id : List UInt8) (hid : id.length = 8) (m : Int) (hm : 0 ≤ m ∧ m ≤ 65535) (w : World) (hr : RD w A l) (hok : ∀ r ∈ l, r.Ok) :
    Calls Try.prog 3 #[.slice A l.length c, .int .i64 chain, .string name, .agg (qc q).toArray, .agg (bs id).toArray, .int .u16 m] w fun e w' => e = .returned (.bool true) ∧ Below w.heap.size w w' := by
  have HR := Aside0.mk hr
  have hmx := hr.2.1
  clear hr
  go_enter Try.func3, Try.ntmps3
  go_wp2_with (first | ((with_reducible refine gate_dst (N := 9) rfl ?_); refine box_gen 28 _ rfl rfl (qc q).toArray ?hx ?_; (case hx => rfl); intro w1 g1 b1; (try simp only [Act.put, List.setIfInBounds_toArray, List.set_cons_zero, List.set_cons_succ])) | (((with_reducible refine gate_dst (N := 10) rfl ?_); refine box_gen 30 _ rfl rfl (bs id).toArray ?hx ?_; (case hx => rfl); intro w2 g2 b2; (try simp only [Act.put, List.setIfInBounds_toArray, List.set_cons_zero, List.set_cons_succ])); have HB0 := Aside0.mk (below_then b1.out.1 b1.out.1.size b2.out.1); have HP := Aside0.mk (blk_below g1.out b2.out.1); have HD := Aside0.mk g2.out; have kP := par_all hq HP.out; clear g1 g2 b1 b2) | ((with_reducible refine gate_dst (N := 18) rfl ?_); (try (refine gate_guard (by rfl) ?_; dsimp only)); refine load_step 28 _ rfl rfl _ kP ?_; (try simp only [Act.put, List.setIfInBounds_toArray, List.set_cons_zero, List.set_cons_succ])))
  refine (law_right A c l q hq _ (RD.below HR.out HB0.out)).mono ?_; rintro e w3 ⟨⟨b, rfl, hb3⟩, hbb⟩
  have HB3 := Aside0.mk (below_then HB0.out HB0.out.size hbb)
  have HP3 := Aside0.mk (blk_below HP.out hbb)
  have HD3 := Aside0.mk (blk_below HD.out hbb)
  clear hbb kP HP HD HB0
  cases b with
  | false =>
    go_wp2_with (fail)
    refine (law_live _).mono ?_; rintro e w4 ⟨rfl, hbb⟩
    have HB4 := Aside0.mk (below_then HB3.out HB3.out.size hbb)
    clear hbb
    go_wp2_with (fail)
    go_ret
    exact ⟨rfl, HB4.out⟩
  | true =>
    obtain ⟨R, hR⟩ : ∃ R, idx (fun r => matB r chain name q id) l 0 = R := ⟨_, rfl⟩
    have HW := Aside0.mk hR
    have HW2 := Aside0.mk ((idxs hok chain name hq id 0).symm.trans hR)
    obtain ⟨V, hV⟩ : ∃ V, metV (fun r => matB r chain name q id) l m = V := ⟨_, rfl⟩
    have HV := Aside0.mk hV
    have HV2 := Aside0.mk ((mets hok chain name hq id m).symm.trans hV)
    have hRR : R = -1 ∨ 0 ≤ R := by
      rcases idx_met (fun r => matB r chain name q id) l m with ⟨h, _⟩ | ⟨k, x, h, _⟩
      · exact .inl (hR.symm.trans h)
      · exact .inr (by rw [← hR, h]; omega)
    clear hR hV
    have kP := par_all hq HP3.out
    have kD := arr_blk (ty := 30) hid HD3.out Try.underlying30 rfl (by kernel_rfl)
    go_wp2_with (first | ((with_reducible refine gate_dst (N := 25) rfl ?_); (try (refine gate_guard (by rfl) ?_; dsimp only)); refine load_step 28 _ rfl rfl _ kP ?_; (try simp only [Act.put, List.setIfInBounds_toArray, List.set_cons_zero, List.set_cons_succ])) | ((with_reducible refine gate_dst (N := 26) rfl ?_); (try (refine gate_guard (by rfl) ?_; dsimp only)); refine load_step 30 _ rfl rfl _ kD ?_; (try simp only [Act.put, List.setIfInBounds_toArray, List.set_cons_zero, List.set_cons_succ])))
    refine (fil_which_ A c l chain name q hq hL id hid _ (RD.below HR.out HB3.out) (atI R) (hasI R) (by rw [HW.out]) (by rw [HW.out])).mono ?_; rintro e w4 ⟨rfl, hbb⟩
    have HB4 := Aside0.mk (below_then HB3.out HB3.out.size hbb)
    have HP4 := Aside0.mk (blk_below HP3.out hbb)
    have HD4 := Aside0.mk (blk_below HD3.out hbb)
    clear hbb kP kD HP3 HD3 HB3
    have kP := par_all hq HP4.out
    have kD := arr_blk (ty := 30) hid HD4.out Try.underlying30 rfl (by kernel_rfl)
    go_wp2_with (first | ((with_reducible refine gate_dst (N := 33) rfl ?_); (try (refine gate_guard (by rfl) ?_; dsimp only)); refine load_step 28 _ rfl rfl _ kP ?_; (try simp only [Act.put, List.setIfInBounds_toArray, List.set_cons_zero, List.set_cons_succ])) | ((with_reducible refine gate_dst (N := 34) rfl ?_); (try (refine gate_guard (by rfl) ?_; dsimp only)); refine load_step 30 _ rfl rfl _ kD ?_; (try simp only [Act.put, List.setIfInBounds_toArray, List.set_cons_zero, List.set_cons_succ])))
    refine (ref_which_ A c l chain name q hq hL id hid _ (RD.below HR.out HB4.out) R HW2.out).mono ?_; rintro e w5 ⟨rfl, hbb⟩
    have HB5 := Aside0.mk (below_then HB4.out HB4.out.size hbb)
    have HP5 := Aside0.mk (blk_below HP4.out hbb)
    have HD5 := Aside0.mk (blk_below HD4.out hbb)
    clear hbb kP kD HP4 HD4 HB4
    go_upto_region 5 with (fail)
    go_cut [13, 14, 63] from 17 (fun v13 v14 v w' => v13 = .int .i64 (atI R) ∧ v14 = .bool (hasI R) ∧ v = .bool false ∧ Below w5.heap.size w5 w')
    case first =>
      refine region_quietB (by kernel_rfl) (by kernel_rfl) ?_
      intro X F _ HB' HN
      have kP : ∀ y, _ := fun y => par_all hq (blk_below HP5.out (HB'.out y))
      have kD : ∀ y, _ := fun y => arr_blk (ty := 30) hid (blk_below HD5.out (HB'.out y)) Try.underlying30 rfl (by kernel_rfl)
      have hVV : (V != V) = false := by simp
      rcases hRR with rfl | hR0
      · have ha : atI (-1) = 0 := rfl
        have hb : hasI (-1) = false := rfl
        rw [ha, hb]
        repeat (first | (go_big_quiet_want; refine quiet_loadF 50 rfl 28 _ rfl _ kP ?_; (simp only [Act.put, List.setIfInBounds_toArray, List.set_cons_zero, List.set_cons_succ]); go_big_quiet_on) | (go_big_quiet_want; refine quiet_loadF 51 rfl 30 _ rfl _ kD ?_; (simp only [Act.put, List.setIfInBounds_toArray, List.set_cons_zero, List.set_cons_succ]); go_big_quiet_on) | (go_big_quiet_want; refine quiet_loadF 57 rfl 28 _ rfl _ kP ?_; (simp only [Act.put, List.setIfInBounds_toArray, List.set_cons_zero, List.set_cons_succ]); go_big_quiet_on) | (go_big_quiet_want; refine quiet_loadF 58 rfl 30 _ rfl _ kD ?_; (simp only [Act.put, List.setIfInBounds_toArray, List.set_cons_zero, List.set_cons_succ]); go_big_quiet_on) | (go_big_quiet_step (((first | with_reducible refine (fil_metric_ A c l l.length rfl chain name q hq hL id hid m hm _ (RD.below HR.out ?hw1) V HV.out).mono ?_ | with_reducible refine (ref_metric_ A c l chain name q hq hL id hid m hm _ (RD.below HR.out ?hw1) V HV2.out).mono ?_); (case hw1 => exact below_then HB5.out HB5.out.size (HB'.out _)); rintro e w2 ⟨rfl, hb2⟩; exact ⟨rfl, HN.out _ _ hb2⟩))))
        refine wpQuiet_nil ?_
        rintro w' ⟨x, rfl⟩
        have HB9 := HB'.out x
        clear kP kD HB' HN
        go_wp2_with (fail)
        go_meet
        case rel => exact ⟨by rw [ha], by rw [hb], rfl, HB9⟩
      · have ha : atI R = R := by unfold atI; rw [if_neg (by omega)]
        have hb : hasI R = true := by unfold hasI; rw [decide_eq_true hR0]
        have hd : decide (0 ≤ R) = true := decide_eq_true hR0
        rw [ha, hb]
        repeat (first | (go_big_quiet_want; refine quiet_loadF 50 rfl 28 _ rfl _ kP ?_; (simp only [Act.put, List.setIfInBounds_toArray, List.set_cons_zero, List.set_cons_succ]); go_big_quiet_on) | (go_big_quiet_want; refine quiet_loadF 51 rfl 30 _ rfl _ kD ?_; (simp only [Act.put, List.setIfInBounds_toArray, List.set_cons_zero, List.set_cons_succ]); go_big_quiet_on) | (go_big_quiet_want; refine quiet_loadF 57 rfl 28 _ rfl _ kP ?_; (simp only [Act.put, List.setIfInBounds_toArray, List.set_cons_zero, List.set_cons_succ]); go_big_quiet_on) | (go_big_quiet_want; refine quiet_loadF 58 rfl 30 _ rfl _ kD ?_; (simp only [Act.put, List.setIfInBounds_toArray, List.set_cons_zero, List.set_cons_succ]); go_big_quiet_on) | (go_big_quiet_step (((first | with_reducible refine (fil_metric_ A c l l.length rfl chain name q hq hL id hid m hm _ (RD.below HR.out ?hw1) V HV.out).mono ?_ | with_reducible refine (ref_metric_ A c l chain name q hq hL id hid m hm _ (RD.below HR.out ?hw1) V HV2.out).mono ?_); (case hw1 => exact below_then HB5.out HB5.out.size (HB'.out _)); rintro e w2 ⟨rfl, hb2⟩; exact ⟨rfl, HN.out _ _ hb2⟩))))
        refine wpQuiet_nil ?_
        rintro w' ⟨x, rfl⟩
        have HB9 := HB'.out x
        clear kP kD HB' HN
        go_wp2_with (fail)
        go_meet
        case rel => exact ⟨by rw [ha], by rw [hb], rfl, HB9⟩
    case rest =>
      obtain ⟨rfl, rfl, rfl, hbb⟩ := hcut
      have HB6 := Aside0.mk (below_then HB5.out HB5.out.size hbb)
      have HP6 := Aside0.mk (blk_below HP5.out hbb)
      have HD6 := Aside0.mk (blk_below HD5.out hbb)
      clear hbb HP5 HD5 HB5
      go_wp2_with (fail)
      go_loopw [16] (fun i wr => ∃ k : Nat, k ≤ l.length ∧ i = .int .i64 k ∧ Aside0 (Below wc.heap.size wc wr)) (fun i _ => l.length - (intOf i).toNat)
      case atStart => exact ⟨0, Nat.zero_le _, rfl, ⟨Below.refl _ _⟩⟩
      case round =>
        obtain ⟨k, hk, rfl, HB⟩ := hrel
        have HB7 := Aside0.mk (below_then HB6.out HB6.out.size HB.out)
        by_cases hlt : k < l.length
        · obtain ⟨ad, x, rfl, hx, hxok, _, _, _, _, _⟩ := RD.at (RD.below HR.out HB7.out) k hlt
          obtain ⟨b, hb⟩ : ∃ b, matB x chain name q id = b := ⟨_, rfl⟩
          have hb2 := (mats hxok chain name hq id).symm.trans hb
          have hbb : (b != b) = false := by simp
          go_upto_region 10 with (fail)
          refine region_quietB (by kernel_rfl) (by kernel_rfl) ?_
          intro X F _ HB' HN
          have q41 : ∀ y, (Instr.loadAt 41 (.pointer (some (ad.add (k * 50))))).run Try.prog (F y) = .ok (.agg (rc x).toArray) (F y) := fun y => by
            obtain ⟨ad', x', e', hx', _, h41, _⟩ := RD.at (RD.below HR.out (below_then HB7.out HB7.out.size (HB'.out y))) k hlt
            cases e'; rw [hx] at hx'; cases hx'; exact h41
          have kP : ∀ y, _ := fun y => par_all hq (blk_below (blk_below HP6.out HB.out) (HB'.out y))
          have kD : ∀ y, _ := fun y => arr_blk (ty := 30) hid (blk_below (blk_below HD6.out HB.out) (HB'.out y)) Try.underlying30 rfl (by kernel_rfl)
          repeat (first | (go_big_quiet_want; refine quiet_loadF 73 rfl 41 _ rfl _ q41 ?_; (simp only [Act.put, List.setIfInBounds_toArray, List.set_cons_zero, List.set_cons_succ]); go_big_quiet_on) | (go_big_quiet_want; refine quiet_loadF 76 rfl 28 _ rfl _ kP ?_; (simp only [Act.put, List.setIfInBounds_toArray, List.set_cons_zero, List.set_cons_succ]); go_big_quiet_on) | (go_big_quiet_want; refine quiet_loadF 77 rfl 30 _ rfl _ kD ?_; (simp only [Act.put, List.setIfInBounds_toArray, List.set_cons_zero, List.set_cons_succ]); go_big_quiet_on) | (go_big_quiet_want; refine quiet_loadF 82 rfl 41 _ rfl _ q41 ?_; (simp only [Act.put, List.setIfInBounds_toArray, List.set_cons_zero, List.set_cons_succ]); go_big_quiet_on) | (go_big_quiet_want; refine quiet_loadF 85 rfl 28 _ rfl _ kP ?_; (simp only [Act.put, List.setIfInBounds_toArray, List.set_cons_zero, List.set_cons_succ]); go_big_quiet_on) | (go_big_quiet_want; refine quiet_loadF 86 rfl 30 _ rfl _ kD ?_; (simp only [Act.put, List.setIfInBounds_toArray, List.set_cons_zero, List.set_cons_succ]); go_big_quiet_on) | (go_big_quiet_step (((first | with_reducible refine (fil_matches_ x hxok chain name q hq hL id hid _ b hb).mono ?_ | with_reducible refine (ref_matches_ x hxok chain name q hq hL id hid _ b hb2).mono ?_); rintro e w2 ⟨rfl, hb2⟩; exact ⟨rfl, HN.out _ _ hb2⟩))))
          refine wpQuiet_nil ?_
          rintro w' ⟨y, rfl⟩
          have HB8 := Aside0.mk (below_then HB.out HB.out.size (HB'.out y))
          clear q41 kP kD HB' HN
          go_wp2_with (fail)
          go_roundw
          case rel => exact ⟨k + 1, by omega, by go_num, HB8⟩
          case measure => simp [intOf]; omega
        · obtain rfl : k = l.length := by omega
          go_wp2_with (fail)
          refine (law_live _).mono ?_; rintro e w8 ⟨rfl, hbb⟩
          have HB8 := Aside0.mk (below_then HB7.out HB7.out.size hbb)
          clear hbb
          go_wp2_with (fail)
          go_ret
          exact ⟨rfl, HB8.out⟩
end Go.Proofs.Ytadgagndfmdjmaa.Fl
