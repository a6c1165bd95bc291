/- The walk of culvertlaw03.live: it returns true. -/
import Derived.Test.YtphbomcemcipeaaSqA
namespace Go.Proofs.Ytphbomcemcipeaa.Sq
open Go.RowKit Go.Proofs.Ytphbomcemcipeaa.MSq Go.Proofs.YtphbomcemcipeaaW.PrintWords Go.Proofs.YtphbomcemcipeaaW.PrintLast

theorem l1 : seqno_Less.f 65535 0 = some true := by decide +kernel
theorem l2 : seqno_Less.f 0 32768 = some false := by decide +kernel
theorem l3 : seqno_Less.f 32768 0 = some false := by decide +kernel
theorem b1 : seqno_Better.f 5 10 5 10 = some false := by decide +kernel
theorem b2 : seqno_Better.f 6 99 5 10 = some true := by decide +kernel
theorem s1 : seqno_Sum.f 10 [65000, 600] = some 65535 := by decide +kernel
theorem p1 : seqno_Plus.f 65535 2 = some 1 := by decide +kernel
theorem n1 : seqno_Since.f 1 4294967295 = some 2 := by decide +kernel

theorem below_of {P : Program} {f : FuncId} {args : Array Value} {w : World} {v : Value} (h : Calls P f args w fun e w' => e = .returned v ∧ Drawn0 w w') : Calls P f args w fun e w' => e = .returned v ∧ Below w.heap.size w w' :=
  h.mono fun _ _ ⟨he, hd⟩ => ⟨he, hd.below⟩

theorem c_of_blk {w : World} {g : Nat} {k : IntKind} {xs : List Int} {t : TypeId} (h : w.heap[g]? = some (.cells (nums k xs).toArray t (0, 0))) (hm : xs.length ≤ 9223372036854775807) : (Kd.int k).C w (some ⟨g, 0, none⟩) xs.length xs := by
  refine ⟨rfl, hm, fun hp => ⟨_, rfl, fun j p hj => ⟨[.int k p], rfl, rfl, fun i u hi => ?_⟩⟩⟩
  obtain rfl : i = 0 := by
    rcases Nat.eq_zero_or_pos i with h0 | h0
    · exact h0
    · rw [List.getElem?_eq_none (by simp; omega)] at hi; cases hi
  have : (.int k p) = u := by simpa using hi
  subst this
  rw [add_plain, blk_cell h]
  simp [nums, show (Kd.int k).sz = 1 from rfl, hj]

set_option maxHeartbeats 4000000 in
theorem live_any (w : World) : Calls Try.prog 8 #[] w fun e w' => e = .returned (.bool true) ∧ Below w.heap.size w w' := by
  go_enter Try.func8, Try.ntmps8
  go_wp2_with (fail)
  generalize hw0 : w.alloc (Obj.cells #[Value.int IntKind.u16 5, Value.int IntKind.u16 10] 35) = w0
  have HB0 : Aside0 (Below w.heap.size w w0) := ⟨by rw [← hw0]; exact below_alloc (Below.refl _ _) _⟩
  have HG0 : Aside0 (w0.heap[w.heap.size]? = some (Obj.cells #[Value.int IntKind.u16 5, Value.int IntKind.u16 10] 35 (0, 0))) := ⟨by rw [← hw0]; exact blk_new _ _⟩
  clear hw0
  refine (below_of (seqno_Less.calls 65535 0 _ _ l1)).mono ?_; rintro e w1 ⟨rfl, hb⟩
  have HB1 := Aside0.mk (below_then HB0.out HB0.out.size hb); have HG1 := Aside0.mk (blk_below HG0.out hb); clear hb HB0 HG0
  go_wp2_with (fail)
  refine (below_of (seqno_Less.calls 0 32768 _ _ l2)).mono ?_; rintro e w2 ⟨rfl, hb⟩
  have HB2 := Aside0.mk (below_then HB1.out HB1.out.size hb); have HG2 := Aside0.mk (blk_below HG1.out hb); clear hb HB1 HG1
  go_wp2_with (fail)
  refine (below_of (seqno_Less.calls 32768 0 _ _ l3)).mono ?_; rintro e w3 ⟨rfl, hb⟩
  have HB3 := Aside0.mk (below_then HB2.out HB2.out.size hb); have HG3 := Aside0.mk (blk_below HG2.out hb); clear hb HB2 HG2
  go_wp2_with (fail)
  generalize hw4 : w3.alloc (Obj.cells #[Value.int IntKind.u16 65000, Value.int IntKind.u16 600] 22) = w4
  have HB4 : Aside0 (Below w.heap.size w w4) := ⟨by rw [← hw4]; exact below_alloc HB3.out _⟩
  have HG4 : Aside0 (w4.heap[w.heap.size]? = some (Obj.cells #[Value.int IntKind.u16 5, Value.int IntKind.u16 10] 35 (0, 0))) := ⟨by rw [← hw4]; exact blk_alloc HG3.out _⟩
  have hc : (Kd.int .u16).C w4 (some ⟨w3.heap.size, 0, none⟩) 2 [65000, 600] := c_of_blk (t := 22) (xs := [65000, 600]) (by rw [← hw4]; exact blk_new _ _) (by decide)
  clear hw4 HB3 HG3
  refine (below_of (seqno_Sum.calls 10 (some ⟨w3.heap.size, 0, none⟩) 2 [65000, 600] _ _ hc (by decide) s1)).mono ?_; rintro e w5 ⟨rfl, hb⟩
  have HB5 := Aside0.mk (below_then HB4.out HB4.out.size hb); have HG5 := Aside0.mk (blk_below HG4.out hb); clear hb HB4 HG4 hc
  have c0 : w5.cell? ⟨w.heap.size, 0, none⟩ = some (.int .u16 5) := (blk_cell HG5.out 0).trans rfl
  have c1 : w5.cell? ⟨w.heap.size, 1, none⟩ = some (.int .u16 10) := (blk_cell HG5.out 1).trans rfl
  go_wp2_with (fail)
  refine (feas_fin 5 10 5 10 _ w.heap.size _ HG5.out rfl b1).mono ?_; rintro e w6 ⟨rfl, hb⟩
  have HB6 := Aside0.mk (below_then HB5.out HB5.out.size hb); have HG6 := Aside0.mk (blk_below HG5.out hb); clear hb HB5 HG5 c0 c1
  go_wp2_with (fail)
  refine (feas_fin 6 99 5 10 _ w.heap.size _ HG6.out rfl b2).mono ?_; rintro e w7 ⟨rfl, hb⟩
  have HB7 := Aside0.mk (below_then HB6.out HB6.out.size hb); clear hb HB6 HG6
  go_wp2_with (fail)
  refine (below_of (seqno_Plus.calls 65535 2 _ _ p1)).mono ?_; rintro e w8 ⟨rfl, hb⟩
  have HB8 := Aside0.mk (below_then HB7.out HB7.out.size hb); clear hb HB7
  go_wp2_with (fail)
  refine (below_of (seqno_Since.calls 1 4294967295 _ _ n1)).mono ?_; rintro e w9 ⟨rfl, hb⟩
  have HB9 := Aside0.mk (below_then HB8.out HB8.out.size hb); clear hb HB8
  go_wp2_with (fail)
  go_ret
  exact ⟨rfl, HB9.out⟩
end Go.Proofs.Ytphbomcemcipeaa.Sq
