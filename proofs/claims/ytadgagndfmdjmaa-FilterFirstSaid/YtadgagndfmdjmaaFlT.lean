/- The walk of culvertlaw10.FilterFirst. -/
import Derived.Test.YtadgagndfmdjmaaFlN
import Derived.Test.YtadgagndfmdjmaaFlV
import Derived.OrdersHeld
import Derived.IntWalk
namespace Go.Proofs.Ytadgagndfmdjmaa.Fl
open Go.RowKit Go.Proofs.Ytadgagndfmdjmaa.MFi Go.Proofs.YtadgagndfmdjmaaW.PrintWords Go.Proofs.YtadgagndfmdjmaaW.PrintLast Go.Proofs.YtadgagndfmdjmaaW.PrintMore
open Extern.Stop (cell)

theorem idx_ge (p : Rul → Bool) : ∀ (l : List Rul) (i : Int), idx p l i = -1 ∨ i ≤ idx p l i
  | [], _ => .inl rfl
  | x :: l, i => by
    rw [idx]
    split
    · exact .inr (Int.le_refl _)
    · rcases idx_ge p l (i + 1) with h | h
      · exact .inl h
      · exact .inr (by omega)
theorem met_take (p : Rul → Bool) (more : List Rul) (m : Int) (x : Rul) : ∀ (l : List Rul) (i : Int) (k : Nat), 0 ≤ i → idx p l i = i + k → l[k]? = some x → metV p (l.take (k + 1) ++ more) m = act x m
  | [], i, k, _, _, hx => by simp at hx
  | y :: l, i, k, h0, hi, hx => by
    rw [idx] at hi
    rw [List.take_succ_cons, List.cons_append, metV]
    by_cases h : p y = true
    · rw [if_pos h] at hi ⊢
      have : k = 0 := by omega
      subst this
      have : y = x := by simpa using hx
      rw [this]
    · rw [if_neg h] at hi ⊢
      rcases idx_ge p l (i + 1) with hg | hg
      · omega
      · obtain ⟨k', rfl⟩ : ∃ k', k = k' + 1 := ⟨k - 1, by omega⟩
        exact met_take p more m x l (i + 1) k' (by omega) (by omega) (by simpa using hx)
theorem act_ge (x : Rul) {m : Int} (hm : 0 ≤ m ∧ m ≤ 65535) : m ≤ act x m := by
  unfold act sat
  split
  · omega
  · split <;> omega
theorem RD_take {w : World} {A : Option Addr} {l : List Rul} (h : RD w A l) (k : Nat) (hk : k ≤ l.length) : ReadsRow KR 50 w A k (l.take k) := by
  refine ⟨by rw [List.length_take]; omega, by have := h.2.1; omega, fun h0 => ?_⟩
  obtain ⟨ad, e, hc⟩ := h.2.2 (by omega)
  exact ⟨ad, e, fun j p hj => hc j p (by rw [List.getElem?_take] at hj; split at hj; exact hj; cases hj)⟩
theorem op0 {o0 : Oper} {l : List Oper} : (o0 :: l).toArray[0]? = some o0 := rfl
theorem op1 {o0 o1 : Oper} {l : List Oper} : (o0 :: o1 :: l).toArray[1]? = some o1 := rfl
theorem op2 {o0 o1 o2 : Oper} {l : List Oper} : (o0 :: o1 :: o2 :: l).toArray[2]? = some o2 := rfl
theorem op3 {o0 o1 o2 o3 : Oper} {l : List Oper} : (o0 :: o1 :: o2 :: o3 :: l).toArray[3]? = some o3 := rfl
theorem op4 {o0 o1 o2 o3 o4 : Oper} {l : List Oper} : (o0 :: o1 :: o2 :: o3 :: o4 :: l).toArray[4]? = some o4 := rfl
theorem op5 {o0 o1 o2 o3 o4 o5 : Oper} {l : List Oper} : (o0 :: o1 :: o2 :: o3 :: o4 :: o5 :: l).toArray[5]? = some o5 := rfl
theorem op6 {o0 o1 o2 o3 o4 o5 o6 : Oper} {l : List Oper} : (o0 :: o1 :: o2 :: o3 :: o4 :: o5 :: o6 :: l).toArray[6]? = some o6 := rfl
theorem op7 {o0 o1 o2 o3 o4 o5 o6 o7 : Oper} {l : List Oper} : (o0 :: o1 :: o2 :: o3 :: o4 :: o5 :: o6 :: o7 :: l).toArray[7]? = some o7 := rfl
theorem op8 {o0 o1 o2 o3 o4 o5 o6 o7 o8 : Oper} {l : List Oper} : (o0 :: o1 :: o2 :: o3 :: o4 :: o5 :: o6 :: o7 :: o8 :: l).toArray[8]? = some o8 := rfl
theorem op9 {o0 o1 o2 o3 o4 o5 o6 o7 o8 o9 : Oper} {l : List Oper} : (o0 :: o1 :: o2 :: o3 :: o4 :: o5 :: o6 :: o7 :: o8 :: o9 :: l).toArray[9]? = some o9 := rfl
theorem op10 {o0 o1 o2 o3 o4 o5 o6 o7 o8 o9 o10 : Oper} {l : List Oper} : (o0 :: o1 :: o2 :: o3 :: o4 :: o5 :: o6 :: o7 :: o8 :: o9 :: o10 :: l).toArray[10]? = some o10 := rfl
theorem op11 {o0 o1 o2 o3 o4 o5 o6 o7 o8 o9 o10 o11 : Oper} {l : List Oper} : (o0 :: o1 :: o2 :: o3 :: o4 :: o5 :: o6 :: o7 :: o8 :: o9 :: o10 :: o11 :: l).toArray[11]? = some o11 := rfl
theorem op12 {o0 o1 o2 o3 o4 o5 o6 o7 o8 o9 o10 o11 o12 : Oper} {l : List Oper} : (o0 :: o1 :: o2 :: o3 :: o4 :: o5 :: o6 :: o7 :: o8 :: o9 :: o10 :: o11 :: o12 :: l).toArray[12]? = some o12 := rfl
theorem op13 {o0 o1 o2 o3 o4 o5 o6 o7 o8 o9 o10 o11 o12 o13 : Oper} {l : List Oper} : (o0 :: o1 :: o2 :: o3 :: o4 :: o5 :: o6 :: o7 :: o8 :: o9 :: o10 :: o11 :: o12 :: o13 :: l).toArray[13]? = some o13 := rfl
theorem op14 {o0 o1 o2 o3 o4 o5 o6 o7 o8 o9 o10 o11 o12 o13 o14 : Oper} {l : List Oper} : (o0 :: o1 :: o2 :: o3 :: o4 :: o5 :: o6 :: o7 :: o8 :: o9 :: o10 :: o11 :: o12 :: o13 :: o14 :: l).toArray[14]? = some o14 := rfl
theorem yields_load {P : Program} {ops : Array Oper} {S : World → Prop} {o : Oper} {a : Act} (hw : Region.wanted o (yielded ops a.tmps) = true) (ty : TypeId) (x : Operand) (ho : o.op = .load ty x) (v : Value) (hv : ∀ w, S w → (Instr.loadAt ty (a.eval x)).run P w = .ok v w) : YieldsIf P ops S o v a :=
  .inl ⟨hw, fun w h => by
    unfold execOp
    simp only [ho, hv w h, Sem.run_bind, Sem.run_pure, Result.andThen_ok]⟩
set_option maxRecDepth 100000 in
set_option maxHeartbeats 4000000 in
theorem law_first (A : Option Addr) (c : Nat) (l : List Rul) (A1 : Option Addr) (c1 : Nat) (more : List Rul) (chain : Int) (name : ByteArray) (q : Par) (hq : q.Ok) (hL : In64 q.D.L) (id : List UInt8) (hid : id.length = 8) (m : Int) (hm : 0 ≤ m ∧ m ≤ 65535) (w : World) (hr : RD w A l) (hr1 : RD w A1 more) (hcap : l.length ≤ c) :
    Calls Try.prog 4 #[.slice A l.length c, .slice A1 more.length c1, .int .i64 chain, .string name, .agg (qc q).toArray, .agg (bs id).toArray, .int .u16 m] w fun e w' => e = .returned (.bool true) ∧ Below w.heap.size w w' := by
  have HR := Aside0.mk hr
  have HS := Aside0.mk hr1
  have hmx := hr.2.1
  clear hr hr1
  go_enter Try.func4, Try.ntmps4
  go_wp2_with (first | ((with_reducible refine gate_dst (N := 11) rfl ?_); refine box_gen 28 _ rfl rfl (qc q).toArray ?hx ?_; (case hx => rfl); intro w1 g1 b1; (try simp only [Act.put, List.setIfInBounds_toArray, List.set_cons_zero, List.set_cons_succ])) | (((with_reducible refine gate_dst (N := 12) rfl ?_); refine box_gen 30 _ rfl rfl (bs id).toArray ?hx ?_; (case hx => rfl); intro w2 g2 b2; (try simp only [Act.put, List.setIfInBounds_toArray, List.set_cons_zero, List.set_cons_succ])); have HB0 := Aside0.mk (below_then b1.out.1 b1.out.1.size b2.out.1); have HP := Aside0.mk (blk_below g1.out b2.out.1); have HD := Aside0.mk g2.out; have kP := par_all hq HP.out; clear g1 g2 b1 b2) | ((with_reducible refine gate_dst (N := 20) rfl ?_); (try (refine gate_guard (by rfl) ?_; dsimp only)); refine load_step 28 _ rfl rfl _ kP ?_; (try simp only [Act.put, List.setIfInBounds_toArray, List.set_cons_zero, List.set_cons_succ])))
  refine (law_right A c l q hq _ (RD.below HR.out HB0.out)).mono ?_; rintro e w3 ⟨⟨b, rfl, hb3⟩, hbb⟩
  have HB3 := Aside0.mk (below_then HB0.out HB0.out.size hbb)
  have HP3 := Aside0.mk (blk_below HP.out hbb)
  have HD3 := Aside0.mk (blk_below HD.out hbb)
  clear hbb kP HP HD HB0
  cases b with
  | false =>
    go_wp2_with (fail)
    refine (law_live _).mono ?_; rintro e w4 ⟨rfl, hbb⟩
    have HB4 := Aside0.mk (below_then HB3.out HB3.out.size hbb)
    clear hbb
    go_wp2_with (fail)
    go_ret
    exact ⟨rfl, HB4.out⟩
  | true =>
    have h300 : l.length ≤ 300 := hb3 rfl
    clear hb3
    have kP := par_all hq HP3.out
    go_wp2_with ((with_reducible refine gate_dst (N := 25) rfl ?_); (try (refine gate_guard (by rfl) ?_; dsimp only)); refine load_step 28 _ rfl rfl _ kP ?_; (try simp only [Act.put, List.setIfInBounds_toArray, List.set_cons_zero, List.set_cons_succ]))
    refine (law_right A1 c1 more q hq _ (RD.below HS.out HB3.out)).mono ?_; rintro e w4 ⟨⟨b, rfl, hb4⟩, hbb⟩
    have HB4 := Aside0.mk (below_then HB3.out HB3.out.size hbb)
    have HP4 := Aside0.mk (blk_below HP3.out hbb)
    have HD4 := Aside0.mk (blk_below HD3.out hbb)
    clear hbb kP HP3 HD3 HB3
    cases b with
    | false =>
      go_wp2_with (fail)
      refine (law_live _).mono ?_; rintro e w5 ⟨rfl, hbb⟩
      have HB5 := Aside0.mk (below_then HB4.out HB4.out.size hbb)
      clear hbb
      go_wp2_with (fail)
      go_ret
      exact ⟨rfl, HB5.out⟩
    | true =>
      have h301 : more.length ≤ 300 := hb4 rfl
      clear hb4
      obtain ⟨V, hV⟩ : ∃ V, metV (fun r => matB r chain name q id) l m = V := ⟨_, rfl⟩
      have HV := Aside0.mk hV
      have kP := par_all hq HP4.out
      have kD := arr_blk (ty := 30) hid HD4.out Try.underlying30 rfl (by kernel_rfl)
      go_wp2_with (first | ((with_reducible refine gate_dst (N := 32) rfl ?_); (try (refine gate_guard (by rfl) ?_; dsimp only)); refine load_step 28 _ rfl rfl _ kP ?_; (try simp only [Act.put, List.setIfInBounds_toArray, List.set_cons_zero, List.set_cons_succ])) | ((with_reducible refine gate_dst (N := 33) rfl ?_); (try (refine gate_guard (by rfl) ?_; dsimp only)); refine load_step 30 _ rfl rfl _ kD ?_; (try simp only [Act.put, List.setIfInBounds_toArray, List.set_cons_zero, List.set_cons_succ])))
      refine (fil_metric_ A c l l.length rfl chain name q hq hL id hid m hm _ (RD.below HR.out HB4.out) V HV.out).mono ?_; rintro e w5 ⟨rfl, hbb⟩
      have HB5 := Aside0.mk (below_then HB4.out HB4.out.size hbb)
      have HP5 := Aside0.mk (blk_below HP4.out hbb)
      have HD5 := Aside0.mk (blk_below HD4.out hbb)
      clear hbb kP kD HP4 HD4 HB4
      have kP := par_all hq HP5.out
      have kD := arr_blk (ty := 30) hid HD5.out Try.underlying30 rfl (by kernel_rfl)
      go_wp2_with (first | ((with_reducible refine gate_dst (N := 40) rfl ?_); (try (refine gate_guard (by rfl) ?_; dsimp only)); refine load_step 28 _ rfl rfl _ kP ?_; (try simp only [Act.put, List.setIfInBounds_toArray, List.set_cons_zero, List.set_cons_succ])) | ((with_reducible refine gate_dst (N := 41) rfl ?_); (try (refine gate_guard (by rfl) ?_; dsimp only)); refine load_step 30 _ rfl rfl _ kD ?_; (try simp only [Act.put, List.setIfInBounds_toArray, List.set_cons_zero, List.set_cons_succ])))
      rcases idx_met (fun r => matB r chain name q id) l m with ⟨hi, hv⟩ | ⟨k, x, hi, hx, hp, hv⟩
      · obtain rfl : V = m := hV.symm.trans hv
        have hlt : decide (V < V) = false := decide_eq_false (by omega)
        have hne : (V != V) = false := by simp
        refine (fil_which_ A c l chain name q hq hL id hid _ (RD.below HR.out HB5.out) 0 false (by rw [hi]; rfl) (by rw [hi]; rfl)).mono ?_; rintro e w6 ⟨rfl, hbb⟩
        have HB6 := Aside0.mk (below_then HB5.out HB5.out.size hbb)
        clear hbb kP kD HP5 HD5 HB5
        go_wp2_with (fail)
        refine (law_live _).mono ?_; rintro e w7 ⟨rfl, hbb⟩
        have HB7 := Aside0.mk (below_then HB6.out HB6.out.size hbb)
        clear hbb
        go_wp2_with (fail)
        go_ret
        exact ⟨rfl, HB7.out⟩
      · have hk : k < l.length := (List.getElem?_eq_some_iff.1 hx).1
        have hVx : V = act x m := hV.symm.trans hv
        have hge := act_ge x hm
        have hlt : decide (V < m) = false := decide_eq_false (by omega)
        have hne : (V != V) = false := by simp
        refine (fil_which_ A c l chain name q hq hL id hid _ (RD.below HR.out HB5.out) k true (by rw [hi]; unfold atI; rw [if_neg (by omega)]) (by rw [hi]; unfold hasI; rw [decide_eq_true (by omega)])).mono ?_; rintro e w6 ⟨rfl, hbb⟩
        have HB6 := Aside0.mk (below_then HB5.out HB5.out.size hbb)
        have HP6 := Aside0.mk (blk_below HP5.out hbb)
        have HD6 := Aside0.mk (blk_below HD5.out hbb)
        have HV2 := Aside0.mk ((met_take (fun r => matB r chain name q id) more m x l 0 k (by omega) (by rw [hi]; omega) hx).trans hVx.symm)
        have HX := Aside0.mk hp
        clear hbb kP kD HP5 HD5 HB5 hv hp hVx hge hV
        go_upto_region 8 with (fail)
        go_cut [18] from 59 (fun v w' => v = .int .u16 V ∧ Below w6.heap.size w6 w')
        case first =>
          have kP : ∀ w', Below w6.heap.size w6 w' → _ := fun w' hb => par_all hq (blk_below HP6.out hb)
          have kD : ∀ w', Below w6.heap.size w6 w' → _ := fun w' hb => arr_blk (ty := 30) hid (blk_below HD6.out hb) Try.underlying30 rfl (by kernel_rfl)
          have hS : Below w6.heap.size w6 w6.drew := (Below.refl _ _).drew
          refine wp_region_held (S := fun w' => Below w6.heap.size w6 w') (by kernel_rfl) ?_
          refine wpAnyH_take (i := 0) (v := .int .i64 chain) op0 (by kernel_rfl) (by kernel_rfl) (by kernel_rfl) (fun _ _ _ h => h) (Or.inl ⟨by rfl, fun _ _ => by kernel_rfl⟩) hS ?_
          (try simp only [Act.put, List.setIfInBounds_toArray, List.set_cons_zero, List.set_cons_succ])
          refine wpAnyH_take (i := 1) (v := .string name) op1 (by kernel_rfl) (by kernel_rfl) (by kernel_rfl) (fun _ _ _ h => h) (Or.inl ⟨by rfl, fun _ _ => by kernel_rfl⟩) hS ?_
          (try simp only [Act.put, List.setIfInBounds_toArray, List.set_cons_zero, List.set_cons_succ])
          refine wpAnyH_take (i := 2) (v := .agg (qc q).toArray) op2 (by kernel_rfl) (by kernel_rfl) (by kernel_rfl) (fun _ _ _ h => h) (yields_load rfl 28 (.tmp 11) rfl _ kP) hS ?_
          (try simp only [Act.put, List.setIfInBounds_toArray, List.set_cons_zero, List.set_cons_succ])
          refine wpAnyH_take (i := 3) (v := .agg (bs id).toArray) op3 (by kernel_rfl) (by kernel_rfl) (by kernel_rfl) (fun _ _ _ h => h) (yields_load rfl 30 (.tmp 12) rfl _ kD) hS ?_
          (try simp only [Act.put, List.setIfInBounds_toArray, List.set_cons_zero, List.set_cons_succ])
          refine wpAnyH_take (i := 4) (v := .int .u16 m) op4 (by kernel_rfl) (by kernel_rfl) (by kernel_rfl) (fun _ _ _ h => h) (Or.inl ⟨by rfl, fun _ _ => by kernel_rfl⟩) hS ?_
          (try simp only [Act.put, List.setIfInBounds_toArray, List.set_cons_zero, List.set_cons_succ])
          refine wpAnyH_take (i := 6) (v := .slice A l.length c) op6 (by kernel_rfl) (by kernel_rfl) (by kernel_rfl) (fun _ _ _ h => h) (Or.inl ⟨by rfl, fun _ _ => by kernel_rfl⟩) hS ?_
          (try simp only [Act.put, List.setIfInBounds_toArray, List.set_cons_zero, List.set_cons_succ])
          refine wpAnyH_take (i := 7) (v := .int .i64 k) op7 (by kernel_rfl) (by kernel_rfl) (by kernel_rfl) (fun _ _ _ h => h) (Or.inl ⟨by rfl, fun _ _ => by kernel_rfl⟩) hS ?_
          (try simp only [Act.put, List.setIfInBounds_toArray, List.set_cons_zero, List.set_cons_succ])
          refine wpAnyH_take (i := 8) (v := .int .i64 (IntKind.i64.wrap ((k : Int) + 1))) op8 (by kernel_rfl) (by kernel_rfl) (by kernel_rfl) (fun _ _ _ h => h) (Or.inl ⟨by rfl, fun _ _ => by kernel_rfl⟩) hS ?_
          (try simp only [Act.put, List.setIfInBounds_toArray, List.set_cons_zero, List.set_cons_succ])
          have hwr : IntKind.i64.wrap ((k : Int) + 1) = ((k + 1 : Nat) : Int) := by rw [IntWalk.i64_in _ (by omega)]; omega
          rw [hwr]
          have hs0 : (0 : Int) ≤ ((k + 1 : Nat) : Int) := by omega
          have hs1 : ((k + 1 : Nat) : Int) ≤ (c : Int) := by omega
          refine wpAnyH_take (i := 9) (v := .slice A (k + 1) c) op9 (by kernel_rfl) (by kernel_rfl) (by kernel_rfl) (fun _ _ _ h => h) (Or.inl ⟨by rfl, fun w' _ => by go_simp; intro h; exact absurd (h (by omega)) (by omega)⟩) hS ?_
          (try simp only [Act.put, List.setIfInBounds_toArray, List.set_cons_zero, List.set_cons_succ])
          refine wpAnyH_take (i := 11) (v := .slice A1 more.length c1) op11 (by kernel_rfl) (by kernel_rfl) (by kernel_rfl) (fun _ _ _ h => h) (Or.inl ⟨by rfl, fun _ _ => by kernel_rfl⟩) hS ?_
          (try simp only [Act.put, List.setIfInBounds_toArray, List.set_cons_zero, List.set_cons_succ])
          have pick : ∀ {n i : Nat}, i ∈ [n] → i = n := fun h => by simpa using h
          refine wpAnyH_all (rs := [5]) (by kernel_rfl) (by simp) ?_
          intro i hi5; obtain rfl := pick hi5
          refine wpOp_plain op5 rfl ?_
          refine wp_of_run (w' := w6.drew.alloc (.cells #[] 41)) (.slice (some ⟨w6.drew.heap.size, 0, none⟩) 0 0) (by kernel_rfl) ?_
          (try simp only [Act.put, List.setIfInBounds_toArray, List.set_cons_zero, List.set_cons_succ])
          have hS1 : Below w6.heap.size w6 (w6.drew.alloc (.cells #[] 41)) := below_alloc hS _
          refine ⟨hS1, ?_⟩
          have HO := OwnRow.lit (R := KR) (e := 41) (size := 50) (ps := []) w6.drew w6.heap.size (inner := []) (Reps.none _ _) (Nat.le_refl _) (by simp)
          rw [show (List.toArray ([] : List Value)) = #[] from rfl] at HO
          generalize w6.drew.alloc (.cells #[] 41) = wa at *
          refine wpAnyH_all (rs := [10]) (by kernel_rfl) (by simp) ?_
          intro i hi5; obtain rfl := pick hi5
          refine wpOp_plain op10 rfl ?_
          refine wp_append_rows (w0 := w6) w6.heap.size (.tmp 64) (.tmp 68) rfl _ [] (l.take (k + 1)) A (k + 1) c rfl rfl HO (RD_take (RD.below HR.out (below_then HB6.out HB6.out.size hS1)) (k + 1) (by omega)) hS1 hS1.size (by simp only [List.length_nil]; omega) ?_
          intro v1 wb HO1 hS2
          (try simp only [Act.put, List.setIfInBounds_toArray, List.set_cons_zero, List.set_cons_succ])
          rw [List.nil_append] at HO1
          refine ⟨hS2, ?_⟩
          refine wpAnyH_all (rs := [12]) (by kernel_rfl) (by simp) ?_
          intro i hi5; obtain rfl := pick hi5
          refine wpOp_plain op12 rfl ?_
          refine wp_append_rows (w0 := w6) w6.heap.size (.tmp 69) (.tmp 70) rfl _ (l.take (k + 1)) more A1 more.length c1 rfl rfl HO1 (RD.below HS.out (below_then HB6.out HB6.out.size hS2)) hS2 hS2.size (by rw [List.length_take]; omega) ?_
          intro v2 wd HO2 hS3
          (try simp only [Act.put, List.setIfInBounds_toArray, List.set_cons_zero, List.set_cons_succ])
          refine ⟨hS3, ?_⟩
          obtain ⟨A2, c2, rfl, hc2, HC⟩ := HO2.reads
          refine wpAnyH_all (rs := [13]) (by kernel_rfl) (by simp) ?_
          intro i hi5; obtain rfl := pick hi5
          refine wpOp_plain op13 rfl ?_
          refine wp_of_call (w' := wd) 11 #[.int .i64 chain, .string name, .agg (qc q).toArray, .agg (bs id).toArray, .int .u16 m, .slice A2 (l.take (k + 1) ++ more).length c2] (by kernel_rfl) ?_
          refine (fil_metric_ A2 c2 _ _ rfl chain name q hq hL id hid m hm _ HC V HV2.out).mono ?_; rintro e we ⟨rfl, hbb⟩
          refine ⟨_, rfl, below_then hS3 hS3.size hbb, ?_⟩
          have HS4 := below_then hS3 hS3.size hbb
          (try simp only [Act.put, List.setIfInBounds_toArray, List.set_cons_zero, List.set_cons_succ])
          refine wpAnyH_all (rs := [14]) (by kernel_rfl) (by simp) ?_
          intro i hi5; obtain rfl := pick hi5
          refine wpOp_plain op14 rfl ?_
          refine wp_of_run (w' := we) (.int .u16 V) (by kernel_rfl) ?_
          (try simp only [Act.put, List.setIfInBounds_toArray, List.set_cons_zero, List.set_cons_succ])
          refine ⟨HS4, wpAnyH_done (by kernel_rfl) ?_ _⟩
          clear HC HO HO1 HO2 hS1 hS2 hS3 hbb hS kP kD hwr hs0 hs1 hc2 pick
          go_wp2_with (fail)
          go_meet
          case rel => exact ⟨rfl, HS4⟩
        case rest =>
          obtain ⟨rfl, hbb⟩ := hcut
          have HB7 := Aside0.mk (below_then HB6.out HB6.out.size hbb)
          have HP7 := Aside0.mk (blk_below HP6.out hbb)
          have HD7 := Aside0.mk (blk_below HD6.out hbb)
          clear hbb HP6 HD6 HB6
          go_upto_region 9 with (fail)
          obtain ⟨ad, x', rfl, hx', hxok, _, _, _, _, _⟩ := RD.at (RD.below HR.out HB7.out) k hk
          rw [hx] at hx'; cases hx'
          refine region_quietB (by kernel_rfl) (by kernel_rfl) ?_
          intro X F _ HB' HN
          have q41 : ∀ y, (Instr.loadAt 41 (.pointer (some (ad.add (k * 50))))).run Try.prog (F y) = .ok (.agg (rc x).toArray) (F y) := fun y => by
            obtain ⟨ad', x', e', hx', _, h41, _⟩ := RD.at (RD.below HR.out (below_then HB7.out HB7.out.size (HB'.out y))) k hk
            cases e'; rw [hx] at hx'; cases hx'; exact h41
          have kP : ∀ y, _ := fun y => par_all hq (blk_below HP7.out (HB'.out y))
          have kD : ∀ y, _ := fun y => arr_blk (ty := 30) hid (blk_below HD7.out (HB'.out y)) Try.underlying30 rfl (by kernel_rfl)
          repeat (first | (go_big_quiet_want; refine quiet_loadF 80 rfl 41 _ rfl _ q41 ?_; (simp only [Act.put, List.setIfInBounds_toArray, List.set_cons_zero, List.set_cons_succ]); go_big_quiet_on) | (go_big_quiet_want; refine quiet_loadF 83 rfl 28 _ rfl _ kP ?_; (simp only [Act.put, List.setIfInBounds_toArray, List.set_cons_zero, List.set_cons_succ]); go_big_quiet_on) | (go_big_quiet_want; refine quiet_loadF 84 rfl 30 _ rfl _ kD ?_; (simp only [Act.put, List.setIfInBounds_toArray, List.set_cons_zero, List.set_cons_succ]); go_big_quiet_on) | (go_big_quiet_step ((refine (fil_matches_ x hxok chain name q hq hL id hid _ true HX.out).mono ?_; rintro e w2 ⟨rfl, hb2⟩; exact ⟨rfl, HN.out _ _ hb2⟩))))
          refine wpQuiet_nil ?_
          rintro w' ⟨y, rfl⟩
          have HB8 := Aside0.mk (below_then HB7.out HB7.out.size (HB'.out y))
          clear q41 kP kD HB' HN
          go_wp2_with (fail)
          refine (law_live _).mono ?_; rintro e w8 ⟨rfl, hbb⟩
          have HB9 := Aside0.mk (below_then HB8.out HB8.out.size hbb)
          clear hbb
          go_wp2_with (fail)
          go_ret
          exact ⟨rfl, HB9.out⟩
end Go.Proofs.Ytadgagndfmdjmaa.Fl
