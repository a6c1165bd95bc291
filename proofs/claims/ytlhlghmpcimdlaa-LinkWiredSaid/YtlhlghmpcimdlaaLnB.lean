/- The walk of culvertlaw11.live: it returns true. -/
import Derived.Test.YtlhlghmpcimdlaaMLmx2
import Derived.Test.YtlhlghmpcimdlaaLnA
namespace Go.Proofs.Ytlhlghmpcimdlaa.Ln
open Go.RowKit Go.Proofs.Ytlhlghmpcimdlaa.MLm Go.Proofs.YtlhlghmpcimdlaaW.PrintWords Go.Proofs.YtlhlghmpcimdlaaW.PrintLast

theorem h1 : link_Hear.f 10 0 0 false 5 = some (32768, 6, true) := by decide +kernel
theorem h2 : link_Hear.f 10 32768 6 true 7 = some (40960, 8, true) := by decide +kernel
theorem r1 : link_Rx.f 10 0 96 [⟨40960, 8, true⟩] = some 96 := by decide +kernel
theorem r2 : link_Rx.f 10 0 96 [⟨32768, 6, true⟩] = some 65535 := by decide +kernel
theorem c1 : link_Cost.f 10 1 256 256 = some 256 := by decide +kernel
theorem m1 : link_Miss.f 32768 6 true 1 = some (16384, 7, true) := by decide +kernel

theorem c_one {w : World} {g : Nat} {b n : Int} {q : Bool} (h : w.heap[g]? = some (.cells #[.int .u16 b, .int .u16 n, .bool q] 24 (0, 0))) : Kd.C k24 w (some ⟨g, 0, none⟩) 1 [⟨b, n, q⟩] := by
  refine ⟨rfl, by omega, fun hp => ⟨_, rfl, fun j p hj => ?_⟩⟩
  obtain rfl : j = 0 := by
    rcases Nat.eq_zero_or_pos j with h0 | h0
    · exact h0
    · rw [List.getElem?_eq_none (by simp; omega)] at hj; cases hj
  have : (⟨b, n, q⟩ : S24) = p := by simpa using hj
  subst this
  refine ⟨_, rfl, k24_mk w _, fun i u hi => ?_⟩
  rw [add_plain, blk_cell h]
  simpa using hi


set_option maxHeartbeats 4000000 in
theorem live_any (w : World) : Calls Try.prog 8 #[] w fun e w' => e = .returned (.bool true) ∧ Below w.heap.size w w' := by
  go_enter Try.func8, Try.ntmps8
  go_wp2_with (fail)
  refine (link_Hear.calls 10 0 0 false 5 _ _ _ _ h1).mono ?_; rintro e w1 ⟨rfl, hb⟩
  have HB1 := Aside0.mk hb; clear hb
  go_wp2_with (fail)
  generalize hw2 : w1.alloc (Obj.cells #[Value.int IntKind.u16 32768, Value.int IntKind.u16 6, Value.bool true] 24) = w2
  have HB2 : Aside0 (Below w.heap.size w w2) := ⟨by rw [← hw2]; exact below_alloc HB1.out _⟩
  have HG2 : Aside0 (w2.heap[w1.heap.size]? = some (Obj.cells #[Value.int IntKind.u16 32768, Value.int IntKind.u16 6, Value.bool true] 24 (0, 0))) := ⟨by rw [← hw2]; exact blk_new _ _⟩
  clear hw2
  refine (link_Hear.calls 10 32768 6 true 7 _ _ _ _ h2).mono ?_; rintro e w3 ⟨rfl, hb⟩
  have HB3 := Aside0.mk (below_then HB2.out HB2.out.size hb)
  have HG3 := Aside0.mk (blk_below HG2.out hb)
  clear hb HB2 HG2
  have e0 : ∀ o, (w3.alloc o).cell? ⟨w1.heap.size, 0, none⟩ = some (.int .u16 32768) := fun o => (blk_cell (blk_alloc HG3.out o) 0).trans rfl
  have e1 : ∀ o, (w3.alloc o).cell? ⟨w1.heap.size, 1, none⟩ = some (.int .u16 6) := fun o => (blk_cell (blk_alloc HG3.out o) 1).trans rfl
  have e2 : ∀ o, (w3.alloc o).cell? ⟨w1.heap.size, 2, none⟩ = some (.bool true) := fun o => (blk_cell (blk_alloc HG3.out o) 2).trans rfl
  go_wp2_with (fail)
  clear e0 e1 e2
  generalize hw4 : (w3.alloc (Obj.cells #[Value.int IntKind.u16 40960, Value.int IntKind.u16 8, Value.bool true] 24)).alloc (Obj.cells #[Value.int IntKind.u16 40960, Value.int IntKind.u16 8, Value.bool true] 24) = w4
  have HB4 : Aside0 (Below w.heap.size w w4) := ⟨by rw [← hw4]; exact below_alloc (below_alloc HB3.out _) _⟩
  have HG4 : Aside0 (w4.heap[w1.heap.size]? = some (Obj.cells #[Value.int IntKind.u16 32768, Value.int IntKind.u16 6, Value.bool true] 24 (0, 0))) := ⟨by rw [← hw4]; exact blk_alloc (blk_alloc HG3.out _) _⟩
  have hc : Kd.C k24 w4 (some ⟨w3.heap.size + 1, 0, none⟩) 1 [⟨40960, 8, true⟩] := c_one (by rw [← hw4]; have := blk_new (w3.alloc (Obj.cells #[Value.int IntKind.u16 40960, Value.int IntKind.u16 8, Value.bool true] 24)) (Obj.cells #[Value.int IntKind.u16 40960, Value.int IntKind.u16 8, Value.bool true] 24); simpa using this)
  clear hw4 HB3 HG3
  refine (link_Rx.calls 10 0 96 (some ⟨w3.heap.size + 1, 0, none⟩) 1 [⟨40960, 8, true⟩] _ _ hc (by decide) r1).mono ?_; rintro e w5 ⟨rfl, hb⟩
  have HB5 := Aside0.mk (below_then HB4.out HB4.out.size hb)
  have HG5 := Aside0.mk (blk_below HG4.out hb)
  clear hb HB4 HG4 hc
  have e0 : w5.cell? ⟨w1.heap.size, 0, none⟩ = some (.int .u16 32768) := (blk_cell HG5.out 0).trans rfl
  have e1 : w5.cell? ⟨w1.heap.size, 1, none⟩ = some (.int .u16 6) := (blk_cell HG5.out 1).trans rfl
  have e2 : w5.cell? ⟨w1.heap.size, 2, none⟩ = some (.bool true) := (blk_cell HG5.out 2).trans rfl
  go_wp2_with (fail)
  clear e0 e1 e2
  generalize hw6 : w5.alloc (Obj.cells #[Value.int IntKind.u16 32768, Value.int IntKind.u16 6, Value.bool true] 24) = w6
  have HB6 : Aside0 (Below w.heap.size w w6) := ⟨by rw [← hw6]; exact below_alloc HB5.out _⟩
  have HG6 : Aside0 (w6.heap[w1.heap.size]? = some (Obj.cells #[Value.int IntKind.u16 32768, Value.int IntKind.u16 6, Value.bool true] 24 (0, 0))) := ⟨by rw [← hw6]; exact blk_alloc HG5.out _⟩
  have hc : Kd.C k24 w6 (some ⟨w5.heap.size, 0, none⟩) 1 [⟨32768, 6, true⟩] := c_one (by rw [← hw6]; exact blk_new _ _)
  clear hw6 HB5 HG5
  refine (link_Rx.calls 10 0 96 (some ⟨w5.heap.size, 0, none⟩) 1 [⟨32768, 6, true⟩] _ _ hc (by decide) r2).mono ?_; rintro e w7 ⟨rfl, hb⟩
  have HB7 := Aside0.mk (below_then HB6.out HB6.out.size hb)
  have HG7 := Aside0.mk (blk_below HG6.out hb)
  clear hb HB6 HG6 hc
  go_wp2_with (fail)
  refine (link_Cost.calls 10 1 256 256 _ _ c1).mono ?_; rintro e w8 ⟨rfl, hb⟩
  have HB8 := Aside0.mk (below_then HB7.out HB7.out.size hb)
  have HG8 := Aside0.mk (blk_below HG7.out hb)
  clear hb HB7 HG7
  have e0 : w8.cell? ⟨w1.heap.size, 0, none⟩ = some (.int .u16 32768) := (blk_cell HG8.out 0).trans rfl
  have e1 : w8.cell? ⟨w1.heap.size, 1, none⟩ = some (.int .u16 6) := (blk_cell HG8.out 1).trans rfl
  have e2 : w8.cell? ⟨w1.heap.size, 2, none⟩ = some (.bool true) := (blk_cell HG8.out 2).trans rfl
  go_wp2_with (fail)
  refine (link_Miss.calls 32768 6 true 1 _ _ _ _ m1).mono ?_; rintro e w9 ⟨rfl, hb⟩
  have HB9 := Aside0.mk (below_then HB8.out HB8.out.size hb)
  have hf := field24_0 16384 7 true
  clear hb HB8 HG8 e0 e1 e2
  go_wp2_with (fail)
  go_ret
  exact ⟨rfl, HB9.out⟩
end Go.Proofs.Ytlhlghmpcimdlaa.Ln
