/- culvertlaw10.right returns something; true: at most 300 rules. -/
import Derived.Test.YtadgagndfmdjmaaFlJ
namespace Go.Proofs.Ytadgagndfmdjmaa.Fl
open Go.RowKit Go.Proofs.Ytadgagndfmdjmaa.MFi Go.Proofs.YtadgagndfmdjmaaW.PrintWords Go.Proofs.YtadgagndfmdjmaaW.PrintLast
open Extern.Stop (cell)

theorem ref_checkpair_any (q : Par) (hq : q.Ok) (w : World) : Calls Try.prog 15 #[.agg (qc q).toArray] w fun e w' => (∃ n, e = .returned (.int .i64 n)) ∧ Below w.heap.size w w' :=
  (ref_checkpair q hq w).mono fun _ _ ⟨he, hd⟩ => ⟨⟨_, he⟩, hd⟩
set_option maxHeartbeats 1000000 in
theorem law_right (A : Option Addr) (c : Nat) (l : List Rul) (q : Par) (hq : q.Ok) (w : World) (hr : RD w A l) :
    Calls Try.prog 7 #[.slice A l.length c, .agg (qc q).toArray] w fun e w' => (∃ b, e = .returned (.bool b) ∧ (b = true → l.length ≤ 300)) ∧ Below w.heap.size w w' := by
  have hm := hr.2.1
  have HR := Aside0.mk hr
  clear hr
  go_enter Try.func7, Try.ntmps7
  go_wp2_with (((with_reducible refine gate_dst (N := 3) rfl ?_); refine box_gen 28 _ rfl rfl (qc q).toArray ?hx ?_; (case hx => rfl); intro w1 g1 b1; (try simp only [Act.put, List.setIfInBounds_toArray, List.set_cons_zero, List.set_cons_succ])); have HB1 := Aside0.mk b1.out.1; have HG := Aside0.mk g1.out; clear g1 b1)
  go_loopw [5] (fun i wr => ∃ k : Nat, k ≤ l.length ∧ k ≤ 301 ∧ i = .int .i64 k ∧ Aside0 (Below w1.heap.size w1 wr)) (fun i _ => l.length - (intOf i).toNat)
  case atStart => exact ⟨0, Nat.zero_le _, by omega, rfl, ⟨Below.refl _ _⟩⟩
  case round =>
    obtain ⟨k, hk, hk3, rfl, HB⟩ := hrel
    have HB2 := Aside0.mk (below_then HB1.out HB1.out.size HB.out)
    by_cases hlt : k < l.length
    · by_cases h3 : k ≤ 300
      · obtain ⟨ad, x, rfl, hx, hok, l41, c0, c1, c48, c49⟩ := RD.at (RD.below HR.out HB2.out) k hlt
        clear c0 c1 c48 c49
        have d3 : decide ((k : Int) ≤ 300) = true := decide_eq_true (by omega)
        go_wp2_with ((with_reducible refine gate_dst (N := 19) rfl ?_); (try (refine gate_guard (by rfl) ?_; dsimp only)); refine load_step 41 _ rfl rfl _ l41 ?_; (try simp only [Act.put, List.setIfInBounds_toArray, List.set_cons_zero, List.set_cons_succ]))
        refine (ref_checkrule x hok _).mono ?_; rintro e w3 ⟨⟨n, rfl⟩, hbb⟩
        have HB3 := Aside0.mk (below_then HB.out HB.out.size hbb)
        have HB4 := Aside0.mk (below_then HB2.out HB2.out.size hbb)
        clear hbb l41
        cases hn : (n != 0) with
        | true =>
          go_wp2_with (fail)
          go_ret
          exact ⟨⟨false, rfl, fun h => by cases h⟩, HB4.out⟩
        | false =>
          go_wp2_with (fail)
          go_roundw
          case rel => exact ⟨k + 1, by omega, by omega, by go_num, HB3⟩
          case measure => simp [intOf]; omega
      · have d3 : decide ((k : Int) ≤ 300) = false := decide_eq_false (by omega)
        have d4 : decide ((l.length : Int) ≤ 300) = false := decide_eq_false (by omega)
        go_wp2_with (fail)
        go_ret
        exact ⟨⟨false, rfl, fun h => by cases h⟩, HB2.out⟩
    · obtain rfl : k = l.length := by omega
      by_cases h3 : l.length ≤ 300
      · have d4 : decide ((l.length : Int) ≤ 300) = true := decide_eq_true (by omega)
        have kP := par_all hq (blk_below HG.out HB.out)
        go_wp2_with ((with_reducible refine gate_dst (N := 26) rfl ?_); (try (refine gate_guard (by rfl) ?_; dsimp only)); refine load_step 28 _ rfl rfl _ kP ?_; (try simp only [Act.put, List.setIfInBounds_toArray, List.set_cons_zero, List.set_cons_succ]))
        refine (ref_checkpair_any q hq _).mono ?_; rintro e w3 ⟨⟨n, rfl⟩, hbb⟩
        have HB4 := Aside0.mk (below_then HB2.out HB2.out.size hbb)
        clear hbb kP
        cases hn : (n == 0) with
        | true =>
          go_wp2_with (fail)
          go_ret
          exact ⟨⟨true, rfl, fun _ => h3⟩, HB4.out⟩
        | false =>
          go_wp2_with (fail)
          go_ret
          exact ⟨⟨false, rfl, fun h => by cases h⟩, HB4.out⟩
      · have d4 : decide ((l.length : Int) ≤ 300) = false := decide_eq_false (by omega)
        go_wp2_with (fail)
        go_ret
        exact ⟨⟨false, rfl, fun h => by cases h⟩, HB2.out⟩
end Go.Proofs.Ytadgagndfmdjmaa.Fl
