/- What sums and rules make of a metric; walks of filter.Metric and of the document's Metric. -/
import Derived.Test.YtadgagndfmdjmaaFlH
namespace Go.Proofs.Ytadgagndfmdjmaa.Fl
open Go.RowKit Go.Proofs.Ytadgagndfmdjmaa.MFi Go.Proofs.YtadgagndfmdjmaaW.PrintWords Go.Proofs.YtadgagndfmdjmaaW.PrintLast
open Extern.Stop (cell)

theorem wrap16 (a : Int) : IntKind.u16.wrap a = a % 65536 := by
  simp [IntKind.wrap, IntKind.bits, IntKind.signed]
theorem w64 {a : Int} (h0 : -9223372036854775808 ≤ a) (h1 : a ≤ 9223372036854775807) : wrap64 a = a := by unfold wrap64; omega
/-- A sum that ends. -/
def sat (x : Int) : Int := if x ≤ 65535 then x else 65535
theorem rd0 (a b : Int) : rd [a, b] 0 = a := rfl
theorem rd1 (a b : Int) : rd [a, b] 1 = b := rfl
theorem sum_two {a b : Int} (ha : 0 ≤ a ∧ a ≤ 65535) (hb : 0 ≤ b ∧ b ≤ 65535) : seqno_Sum.f 3 [a, b] = some (sat (a + b)) := by
  unfold seqno_Sum.f
  simp only [seqno_Sum.l0, List.length_cons, List.length_nil]
  rw [if_pos (by decide), if_pos (by decide), if_pos (by decide), rd0, wrap16, wrap16, if_neg (by omega), w64 (by decide) (by decide), if_pos (by decide), if_pos (by decide), if_pos (by decide), show (0 : Int) + 1 = 1 from rfl, rd1, wrap16, wrap16]
  unfold sat
  by_cases h : a + b ≤ 65535
  · rw [if_neg (by omega), if_pos h, w64 (by decide) (by decide), if_neg (by decide), wrap16]; congr 1; omega
  · rw [if_pos (by omega), if_neg h]
theorem refsum_two {a b : Int} (ha : 0 ≤ a ∧ a ≤ 65535) (hb : 0 ≤ b ∧ b ≤ 65535) : culvertref03_Sum.f 3 [a, b] = some (sat (a + b)) := by
  unfold culvertref03_Sum.f
  simp only [culvertref03_Sum.l0, List.length_cons, List.length_nil]
  rw [if_pos (by decide), if_pos (by decide), rd0, w64 (a := a) (by omega) (by omega), w64 (a := 0 + a) (by omega) (by omega), w64 (a := 0 + 1) (by decide) (by decide), if_pos (by decide), if_pos (by decide), show (0 : Int) + 1 = 1 from rfl, rd1, w64 (a := b) (by omega) (by omega), w64 (a := 1 + 1) (by decide) (by decide), if_neg (by decide), wrap16]
  have h0 : mn (0 + a) 65535 = a := by unfold mn; split <;> omega
  rw [h0, w64 (a := a + b) (by omega) (by omega)]
  unfold mn sat
  congr 1
  split <;> split <;> omega
theorem two_C (w : World) (m x : Int) (e : TypeId) : Kd.C (Kd.int .u16) (w.alloc (.cells #[.int .u16 m, .int .u16 x] e)) (some ⟨w.heap.size, 0, none⟩) 2 [m, x] := by
  refine ⟨rfl, by decide, fun _ => ⟨_, rfl, fun j p hj => ⟨[.int .u16 p], rfl, ?_, fun i u hi => ?_⟩⟩⟩
  · rfl
  · have hi0 : i = 0 := by
      have := (List.getElem?_eq_some_iff.1 hi).1
      simpa using this
    subst hi0
    obtain rfl : Value.int .u16 p = u := by simpa using hi
    rw [Addr.add_mid, blk_cell (blk_new _ _)]
    match j, hj with
    | 0, hj => obtain rfl : m = p := by simpa using hj
               rfl
    | 1, hj => obtain rfl : x = p := by simpa using hj
               rfl
/-- What a rule makes of a metric. -/
def act (r : Rul) (m : Int) : Int := if r.N = true then 65535 else sat (m + r.X % 65536)
def metV (p : Rul → Bool) : List Rul → Int → Int
  | [], m => m
  | x :: l, m => if p x = true then act x m else metV p l m
theorem idx_from (p : Rul → Bool) : ∀ (l : List Rul) (m i : Int), (idx p l i = -1 ∧ metV p l m = m) ∨ ∃ k x, idx p l i = i + (k : Nat) ∧ l[k]? = some x ∧ p x = true ∧ metV p l m = act x m
  | [], m, i => .inl ⟨rfl, rfl⟩
  | y :: l, m, i => by
    unfold idx metV
    by_cases h : p y = true
    · rw [if_pos h, if_pos h]
      exact .inr ⟨0, y, by simp, rfl, h, rfl⟩
    · rw [if_neg h, if_neg h]
      rcases idx_from p l m (i + 1) with h1 | ⟨k, x, h1, h2, h3, h4⟩
      · exact .inl h1
      · exact .inr ⟨k + 1, x, by rw [h1]; push_cast; omega, h2, h3, h4⟩
theorem idx_met (p : Rul → Bool) (l : List Rul) (m : Int) : (idx p l 0 = -1 ∧ metV p l m = m) ∨ ∃ (k : Nat) (x : Rul), idx p l 0 = k ∧ l[k]? = some x ∧ p x = true ∧ metV p l m = act x m := by
  rcases idx_from p l m 0 with h | ⟨k, x, h1, h2⟩
  · exact .inl h
  · exact .inr ⟨k, x, by rw [h1]; omega, h2⟩
theorem fil_which_ (A : Option Addr) (c : Nat) (l : List Rul) (chain : Int) (name : ByteArray) (q : Par) (hq : q.Ok) (hL : In64 q.D.L) (id : List UInt8) (hid : id.length = 8) (w : World) (hr : RD w A l) (k : Int) (b : Bool) (hk : atI (idx (fun r => matB r chain name q id) l 0) = k) (hb : hasI (idx (fun r => matB r chain name q id) l 0) = b) :
    Calls Try.prog 9 #[.int .i64 chain, .string name, .agg (qc q).toArray, .agg (bs id).toArray, .slice A l.length c] w fun e w' => e = .returned (.tuple #[.int .i64 k, .bool b]) ∧ Below w.heap.size w w' := hk ▸ hb ▸ fil_which A c l chain name q hq hL id hid w hr
theorem ref_which_ (A : Option Addr) (c : Nat) (l : List Rul) (chain : Int) (name : ByteArray) (q : Par) (hq : q.Ok) (hL : In64 q.D.L) (id : List UInt8) (hid : id.length = 8) (w : World) (hr : RD w A l) (k : Int) (hk : idx (fun r => rmatB r chain name q id) l 0 = k) :
    Calls Try.prog 10 #[.int .i64 chain, .string name, .agg (qc q).toArray, .agg (bs id).toArray, .slice A l.length c] w fun e w' => e = .returned (.int .i64 k) ∧ Below w.heap.size w w' := hk ▸ ref_which A c l chain name q hq hL id hid w hr

set_option maxHeartbeats 1000000 in
theorem fil_metric (A : Option Addr) (c : Nat) (l : List Rul) (chain : Int) (name : ByteArray) (q : Par) (hq : q.Ok) (hL : In64 q.D.L) (id : List UInt8) (hid : id.length = 8) (m : Int) (hm : 0 ≤ m ∧ m ≤ 65535) (w : World) (hr : RD w A l) :
    Calls Try.prog 11 #[.int .i64 chain, .string name, .agg (qc q).toArray, .agg (bs id).toArray, .int .u16 m, .slice A l.length c] w fun e w' => e = .returned (.int .u16 (metV (fun r => matB r chain name q id) l m)) ∧ Below w.heap.size w w' := by
  have HR := Aside0.mk hr
  clear hr
  rcases idx_met (fun r => matB r chain name q id) l m with ⟨hi, hv⟩ | ⟨k, x, hi, hx, hp, hv⟩
  · have HV := Aside0.mk hv
    have HK := Aside0.mk (show atI (idx (fun r => matB r chain name q id) l 0) = 0 by rw [hi]; rfl)
    have HB := Aside0.mk (show hasI (idx (fun r => matB r chain name q id) l 0) = false by rw [hi]; rfl)
    clear hv hi
    go_enter Try.func11, Try.ntmps11
    go_wp2_with (first | ((with_reducible refine gate_dst (N := 8) rfl ?_); refine box_gen 28 _ rfl rfl (qc q).toArray ?hx ?_; (case hx => rfl); intro w1 g1 b1; (try simp only [Act.put, List.setIfInBounds_toArray, List.set_cons_zero, List.set_cons_succ])) | (((with_reducible refine gate_dst (N := 9) rfl ?_); refine box_gen 30 _ rfl rfl (bs id).toArray ?hx ?_; (case hx => rfl); intro w2 g2 b2; (try simp only [Act.put, List.setIfInBounds_toArray, List.set_cons_zero, List.set_cons_succ])); have HB0 := Aside0.mk (below_then b1.out.1 b1.out.1.size b2.out.1); have kP := par_all hq (blk_below g1.out b2.out.1); have kI := arr_blk (ty := 30) hid g2.out Try.underlying30 rfl (by kernel_rfl); clear g1 g2 b1 b2) | ((with_reducible refine gate_dst (N := 18) rfl ?_); (try (refine gate_guard (by rfl) ?_; dsimp only)); refine load_step 28 _ rfl rfl _ kP ?_; (try simp only [Act.put, List.setIfInBounds_toArray, List.set_cons_zero, List.set_cons_succ])) | ((with_reducible refine gate_dst (N := 19) rfl ?_); (try (refine gate_guard (by rfl) ?_; dsimp only)); refine load_step 30 _ rfl rfl _ kI ?_; (try simp only [Act.put, List.setIfInBounds_toArray, List.set_cons_zero, List.set_cons_succ])))
    refine (fil_which_ A c l chain name q hq hL id hid _ (RD.below HR.out HB0.out) _ _ HK.out HB.out).mono ?_; rintro e w3 ⟨rfl, hbb⟩
    have HB3 := Aside0.mk (below_then HB0.out HB0.out.size hbb)
    clear hbb kP kI
    go_wp2_with (fail)
    go_ret
    exact ⟨by rw [HV.out]; rfl, HB3.out⟩
  · obtain ⟨hk, _⟩ := List.getElem?_eq_some_iff.1 hx
    have HK := Aside0.mk (show atI (idx (fun r => matB r chain name q id) l 0) = k by rw [hi]; unfold atI; rw [if_neg (by omega)])
    have HB := Aside0.mk (show hasI (idx (fun r => matB r chain name q id) l 0) = true by rw [hi]; unfold hasI; rw [decide_eq_true (by omega)])
    have HM := Aside0.mk (show metV (fun r => matB r chain name q id) l m = act x m from hv)
    clear hv hi hp
    go_enter Try.func11, Try.ntmps11
    go_wp2_with (first | ((with_reducible refine gate_dst (N := 8) rfl ?_); refine box_gen 28 _ rfl rfl (qc q).toArray ?hx ?_; (case hx => rfl); intro w1 g1 b1; (try simp only [Act.put, List.setIfInBounds_toArray, List.set_cons_zero, List.set_cons_succ])) | (((with_reducible refine gate_dst (N := 9) rfl ?_); refine box_gen 30 _ rfl rfl (bs id).toArray ?hx ?_; (case hx => rfl); intro w2 g2 b2; (try simp only [Act.put, List.setIfInBounds_toArray, List.set_cons_zero, List.set_cons_succ])); have HB0 := Aside0.mk (below_then b1.out.1 b1.out.1.size b2.out.1); have kP := par_all hq (blk_below g1.out b2.out.1); have kI := arr_blk (ty := 30) hid g2.out Try.underlying30 rfl (by kernel_rfl); clear g1 g2 b1 b2) | ((with_reducible refine gate_dst (N := 18) rfl ?_); (try (refine gate_guard (by rfl) ?_; dsimp only)); refine load_step 28 _ rfl rfl _ kP ?_; (try simp only [Act.put, List.setIfInBounds_toArray, List.set_cons_zero, List.set_cons_succ])) | ((with_reducible refine gate_dst (N := 19) rfl ?_); (try (refine gate_guard (by rfl) ?_; dsimp only)); refine load_step 30 _ rfl rfl _ kI ?_; (try simp only [Act.put, List.setIfInBounds_toArray, List.set_cons_zero, List.set_cons_succ])))
    refine (fil_which_ A c l chain name q hq hL id hid _ (RD.below HR.out HB0.out) _ _ HK.out HB.out).mono ?_; rintro e w3 ⟨rfl, hbb⟩
    have HB3 := Aside0.mk (below_then HB0.out HB0.out.size hbb)
    clear hbb kP kI
    obtain ⟨ad, x', rfl, hx', hok, l41, c0, c1, c48, c49⟩ := RD.at (RD.below HR.out HB3.out) k hk
    rw [hx] at hx'; cases hx'
    clear l41 c0 c1
    cases hN : x.N with
    | true =>
      rw [hN] at c48
      have HV := Aside0.mk (show act x m = 65535 by unfold act; rw [if_pos hN])
      clear hN
      go_wp2_with (fail)
      go_ret
      exact ⟨by rw [HM.out, HV.out]; rfl, HB3.out⟩
    | false =>
      rw [hN] at c48
      have HV := Aside0.mk (show act x m = sat (m + x.X % 65536) by unfold act; rw [if_neg (by rw [hN]; decide)])
      clear hN
      have hX : 0 ≤ x.X % 65536 ∧ x.X % 65536 ≤ 65535 := by omega
      go_wp2_with (fail)
      rw [wrap16]
      refine (seqno_Sum.calls 3 _ 2 [m, x.X % 65536] _ _ (two_C _ _ _ _) (Nat.le_refl 2) (sum_two hm hX)).mono ?_; rintro e w4 ⟨rfl, hd⟩
      have HB4 := Aside0.mk (below_then HB3.out HB3.out.size ((below_alloc (Below.refl _ _) _).trans (hd.below.mono (by simp))))
      clear hd c48 c49
      go_wp2_with (fail)
      go_ret
      exact ⟨by rw [HM.out, HV.out]; rfl, HB4.out⟩
set_option maxHeartbeats 1000000 in
theorem ref_metric (A : Option Addr) (c : Nat) (l : List Rul) (chain : Int) (name : ByteArray) (q : Par) (hq : q.Ok) (hL : In64 q.D.L) (id : List UInt8) (hid : id.length = 8) (m : Int) (hm : 0 ≤ m ∧ m ≤ 65535) (w : World) (hr : RD w A l) :
    Calls Try.prog 12 #[.int .i64 chain, .string name, .agg (qc q).toArray, .agg (bs id).toArray, .int .u16 m, .slice A l.length c] w fun e w' => e = .returned (.int .u16 (metV (fun r => rmatB r chain name q id) l m)) ∧ Below w.heap.size w w' := by
  have HR := Aside0.mk hr
  clear hr
  rcases idx_met (fun r => rmatB r chain name q id) l m with ⟨hi, hv⟩ | ⟨k, x, hi, hx, hp, hv⟩
  · have HV := Aside0.mk hv
    have HK := Aside0.mk (show idx (fun r => rmatB r chain name q id) l 0 = -1 from hi)
    clear hv hi
    go_enter Try.func12, Try.ntmps12
    go_wp2_with (first | ((with_reducible refine gate_dst (N := 8) rfl ?_); refine box_gen 28 _ rfl rfl (qc q).toArray ?hx ?_; (case hx => rfl); intro w1 g1 b1; (try simp only [Act.put, List.setIfInBounds_toArray, List.set_cons_zero, List.set_cons_succ])) | (((with_reducible refine gate_dst (N := 9) rfl ?_); refine box_gen 30 _ rfl rfl (bs id).toArray ?hx ?_; (case hx => rfl); intro w2 g2 b2; (try simp only [Act.put, List.setIfInBounds_toArray, List.set_cons_zero, List.set_cons_succ])); have HB0 := Aside0.mk (below_then b1.out.1 b1.out.1.size b2.out.1); have kP := par_all hq (blk_below g1.out b2.out.1); have kI := arr_blk (ty := 30) hid g2.out Try.underlying30 rfl (by kernel_rfl); clear g1 g2 b1 b2) | ((with_reducible refine gate_dst (N := 16) rfl ?_); (try (refine gate_guard (by rfl) ?_; dsimp only)); refine load_step 28 _ rfl rfl _ kP ?_; (try simp only [Act.put, List.setIfInBounds_toArray, List.set_cons_zero, List.set_cons_succ])) | ((with_reducible refine gate_dst (N := 17) rfl ?_); (try (refine gate_guard (by rfl) ?_; dsimp only)); refine load_step 30 _ rfl rfl _ kI ?_; (try simp only [Act.put, List.setIfInBounds_toArray, List.set_cons_zero, List.set_cons_succ])))
    refine (ref_which_ A c l chain name q hq hL id hid _ (RD.below HR.out HB0.out) _ HK.out).mono ?_; rintro e w3 ⟨rfl, hbb⟩
    have HB3 := Aside0.mk (below_then HB0.out HB0.out.size hbb)
    clear hbb kP kI
    go_wp2_with (fail)
    go_ret
    exact ⟨by rw [HV.out]; rfl, HB3.out⟩
  · obtain ⟨hk, _⟩ := List.getElem?_eq_some_iff.1 hx
    have HK := Aside0.mk (show idx (fun r => rmatB r chain name q id) l 0 = k from hi)
    have hk0 : ¬ ((k : Int) < 0) := by omega
    have hk1 : decide ((k : Int) < 0) = false := decide_eq_false hk0
    have HM := Aside0.mk (show metV (fun r => rmatB r chain name q id) l m = act x m from hv)
    clear hv hi hp
    go_enter Try.func12, Try.ntmps12
    go_wp2_with (first | ((with_reducible refine gate_dst (N := 8) rfl ?_); refine box_gen 28 _ rfl rfl (qc q).toArray ?hx ?_; (case hx => rfl); intro w1 g1 b1; (try simp only [Act.put, List.setIfInBounds_toArray, List.set_cons_zero, List.set_cons_succ])) | (((with_reducible refine gate_dst (N := 9) rfl ?_); refine box_gen 30 _ rfl rfl (bs id).toArray ?hx ?_; (case hx => rfl); intro w2 g2 b2; (try simp only [Act.put, List.setIfInBounds_toArray, List.set_cons_zero, List.set_cons_succ])); have HB0 := Aside0.mk (below_then b1.out.1 b1.out.1.size b2.out.1); have kP := par_all hq (blk_below g1.out b2.out.1); have kI := arr_blk (ty := 30) hid g2.out Try.underlying30 rfl (by kernel_rfl); clear g1 g2 b1 b2) | ((with_reducible refine gate_dst (N := 16) rfl ?_); (try (refine gate_guard (by rfl) ?_; dsimp only)); refine load_step 28 _ rfl rfl _ kP ?_; (try simp only [Act.put, List.setIfInBounds_toArray, List.set_cons_zero, List.set_cons_succ])) | ((with_reducible refine gate_dst (N := 17) rfl ?_); (try (refine gate_guard (by rfl) ?_; dsimp only)); refine load_step 30 _ rfl rfl _ kI ?_; (try simp only [Act.put, List.setIfInBounds_toArray, List.set_cons_zero, List.set_cons_succ])))
    refine (ref_which_ A c l chain name q hq hL id hid _ (RD.below HR.out HB0.out) _ HK.out).mono ?_; rintro e w3 ⟨rfl, hbb⟩
    have HB3 := Aside0.mk (below_then HB0.out HB0.out.size hbb)
    clear hbb kP kI
    obtain ⟨ad, x', rfl, hx', hok, l41, c0, c1, c48, c49⟩ := RD.at (RD.below HR.out HB3.out) k hk
    rw [hx] at hx'; cases hx'
    clear l41 c0 c1
    cases hN : x.N with
    | true =>
      rw [hN] at c48
      have HV := Aside0.mk (show act x m = 65535 by unfold act; rw [if_pos hN])
      clear hN
      go_wp2_with (fail)
      go_ret
      exact ⟨by rw [HM.out, HV.out]; rfl, HB3.out⟩
    | false =>
      rw [hN] at c48
      have HV := Aside0.mk (show act x m = sat (m + x.X % 65536) by unfold act; rw [if_neg (by rw [hN]; decide)])
      clear hN
      have hX : 0 ≤ x.X % 65536 ∧ x.X % 65536 ≤ 65535 := by omega
      go_wp2_with (fail)
      rw [wrap16]
      refine (culvertref03_Sum.calls 3 _ 2 [m, x.X % 65536] _ _ (two_C _ _ _ _) (Nat.le_refl 2) (refsum_two hm hX)).mono ?_; rintro e w4 ⟨rfl, hd⟩
      have HB4 := Aside0.mk (below_then HB3.out HB3.out.size ((below_alloc (Below.refl _ _) _).trans (hd.mono (by simp))))
      clear hd c48 c49
      go_wp2_with (fail)
      go_ret
      exact ⟨by rw [HM.out, HV.out]; rfl, HB4.out⟩
end Go.Proofs.Ytadgagndfmdjmaa.Fl
