/- The walks of culvertlaw03.SeqnoTakes: it returns true, for every two distances. -/
import Derived.Test.YtphbomcemcipeaaSqB
import Derived.Test.YtphbomcemcipeaaSqP
namespace Go.Proofs.Ytphbomcemcipeaa.SqT
open Go.RowKit Go.Proofs.Ytphbomcemcipeaa.MSq Go.Proofs.Ytphbomcemcipeaa.Sq Go.Proofs.YtphbomcemcipeaaW.PrintWords Go.Proofs.YtphbomcemcipeaaW.PrintLast

set_option linter.unusedVariables false
set_option maxHeartbeats 1000000 in
theorem takes_inf (a0 b0 b1 : Int) (w : World) :
    Calls Try.prog 7 #[.agg #[.int .u16 a0, .int .u16 65535], .agg #[.int .u16 b0, .int .u16 b1]] w fun e w' => e = .returned (.bool true) ∧ Below w.heap.size w w' := by
  go_enter Try.func7, Try.ntmps7
  go_wp2_with (fail)
  generalize hw0 : (w.alloc (Obj.cells #[Value.int IntKind.u16 a0, Value.int IntKind.u16 65535] 35)).alloc (Obj.cells #[Value.int IntKind.u16 b0, Value.int IntKind.u16 b1] 35) = w0
  have HB0 : Aside0 (Below w.heap.size w w0) := ⟨by rw [← hw0]; exact below_alloc (below_alloc (Below.refl _ _) _) _⟩
  clear hw0
  refine (feas_inf a0 _ _).mono ?_; rintro e w1 ⟨rfl, hb⟩
  have HB1 := Aside0.mk (below_then HB0.out HB0.out.size hb); clear hb HB0
  go_wp2_with (fail)
  refine (live_any _).mono ?_; rintro e w2 ⟨rfl, hb⟩
  have HB2 := Aside0.mk (below_then HB1.out HB1.out.size hb); clear hb HB1
  go_wp2_with (fail)
  go_ret
  exact ⟨rfl, HB2.out⟩

set_option maxHeartbeats 2000000 in
theorem takes_A (a0 a1 b1 : Int) (w : World) (ha : (a1 == 65535) = false) (hAB : seqno_Better.f a0 a1 a0 b1 = some true) (hBA : seqno_Better.f a0 b1 a0 a1 = some false) (hKK : seqno_Better.f a0 a1 a0 a1 = some false) (hkk : (a1 == 65535) = false) (hkn : (a1 != 65535) = true) (h1 : (a1 == b1) = false) (h2 : (b1 == a1) = false) :
    Calls Try.prog 7 #[.agg #[.int .u16 a0, .int .u16 a1], .agg #[.int .u16 a0, .int .u16 b1]] w fun e w' => e = .returned (.bool true) ∧ Below w.heap.size w w' := by
  go_enter Try.func7, Try.ntmps7
  go_wp2_with (fail)
  generalize hw0 : (w.alloc (Obj.cells #[Value.int IntKind.u16 a0, Value.int IntKind.u16 a1] 35)).alloc (Obj.cells #[Value.int IntKind.u16 a0, Value.int IntKind.u16 b1] 35) = w0
  have HB0 : Aside0 (Below w.heap.size w w0) := ⟨by rw [← hw0]; exact below_alloc (below_alloc (Below.refl _ _) _) _⟩
  have HA0 : Aside0 (w0.heap[w.heap.size]? = some (Obj.cells #[Value.int IntKind.u16 a0, Value.int IntKind.u16 a1] 35 (0, 0))) := ⟨by rw [← hw0]; exact blk_alloc (blk_new _ _) _⟩
  have HK0 : Aside0 (w0.heap[w.heap.size + 1]? = some (Obj.cells #[Value.int IntKind.u16 a0, Value.int IntKind.u16 b1] 35 (0, 0))) := ⟨by rw [← hw0]; have := blk_new (w.alloc (Obj.cells #[Value.int IntKind.u16 a0, Value.int IntKind.u16 a1] 35)) (Obj.cells #[Value.int IntKind.u16 a0, Value.int IntKind.u16 b1] 35); simpa using this⟩
  clear hw0
  refine (keep_yes a0 a1 a0 b1 (w.heap.size + 1) _ HK0.out hAB).mono ?_; rintro e w1 ⟨rfl, hb⟩
  have HB1 := Aside0.mk (below_then HB0.out HB0.out.size hb)
  have HA1 := Aside0.mk (blk_below HA0.out hb)
  have HK1 := Aside0.mk (blk_below HK0.out hb)
  clear hb HB0 HA0 HK0
  go_wp2_with (fail)
  generalize hw2 : w1.alloc (Obj.cells #[Value.int IntKind.u16 a0, Value.int IntKind.u16 a1] 35) = w2
  have HB2 : Aside0 (Below w.heap.size w w2) := ⟨by rw [← hw2]; exact below_alloc HB1.out _⟩
  have hA : w2.heap[w.heap.size]? = some (Obj.cells #[Value.int IntKind.u16 a0, Value.int IntKind.u16 a1] 35 (0, 0)) := by rw [← hw2]; exact blk_alloc HA1.out _
  have hK : w2.heap[w.heap.size + 1]? = some (Obj.cells #[Value.int IntKind.u16 a0, Value.int IntKind.u16 b1] 35 (0, 0)) := by rw [← hw2]; exact blk_alloc HK1.out _
  have hN : w2.heap[w1.heap.size]? = some (Obj.cells #[Value.int IntKind.u16 a0, Value.int IntKind.u16 a1] 35 (0, 0)) := by rw [← hw2]; exact blk_new _ _
  clear hw2
  refine region_quietB (by kernel_rfl) (by kernel_rfl) ?_
  intro X F _ HB HN
  have c0 : ∀ x, (F x).cell? ⟨w.heap.size, 0, none⟩ = some (.int .u16 a0) := fun x => (blk_cell (blk_below hA (HB.out x)) 0).trans rfl
  have c1 : ∀ x, (F x).cell? ⟨w.heap.size, 1, none⟩ = some (.int .u16 a1) := fun x => (blk_cell (blk_below hA (HB.out x)) 1).trans rfl
  have c2 : ∀ x, (F x).cell? ⟨w.heap.size + 1, 0, none⟩ = some (.int .u16 a0) := fun x => (blk_cell (blk_below hK (HB.out x)) 0).trans rfl
  have c3 : ∀ x, (F x).cell? ⟨w.heap.size + 1, 1, none⟩ = some (.int .u16 b1) := fun x => (blk_cell (blk_below hK (HB.out x)) 1).trans rfl
  have c4 : ∀ x, (F x).cell? ⟨w1.heap.size, 0, none⟩ = some (.int .u16 a0) := fun x => (blk_cell (blk_below hN (HB.out x)) 0).trans rfl
  have c5 : ∀ x, (F x).cell? ⟨w1.heap.size, 1, none⟩ = some (.int .u16 a1) := fun x => (blk_cell (blk_below hN (HB.out x)) 1).trans rfl
  repeat (go_big_quiet_step (((first
    | (with_reducible refine (feas_fin a0 a1 a0 b1 _ (w.heap.size + 1) _ (blk_below hK (HB.out _)) ha hAB).mono ?_)
    | (with_reducible refine (feas_fin a0 a1 a0 a1 _ w1.heap.size _ (blk_below hN (HB.out _)) hkk hKK).mono ?_)
    | (with_reducible refine (seqno_Better.calls a0 a1 a0 b1 _ _ hAB).mono ?_)
    | (with_reducible refine (seqno_Better.calls a0 b1 a0 a1 _ _ hBA).mono ?_)
    | (with_reducible refine (live_any _).mono ?_)); rintro e w3 ⟨rfl, hb2⟩; exact ⟨rfl, HN.out _ _ hb2⟩)))
  refine wpQuiet_nil ?_
  rintro w' ⟨x, rfl⟩
  have HB3 := Aside0.mk (below_then HB2.out HB2.out.size (HB.out x))
  clear c0 c1 c2 c3 c4 c5 HB HN
  generalize F x = w3 at *
  go_wp2
  go_ret
  exact ⟨rfl, HB3.out⟩

set_option maxHeartbeats 2000000 in
theorem takes_B (a0 a1 b0 b1 : Int) (w : World) (ha : (a1 == 65535) = false) (hAB : seqno_Better.f a0 a1 b0 b1 = some true) (hBA : seqno_Better.f b0 b1 a0 a1 = some false) (hKK : seqno_Better.f a0 a1 a0 a1 = some false) (hkk : (a1 == 65535) = false) (hkn : (a1 != 65535) = true) (h1 : (a0 == b0) = false) (h2 : (b0 == a0) = false) :
    Calls Try.prog 7 #[.agg #[.int .u16 a0, .int .u16 a1], .agg #[.int .u16 b0, .int .u16 b1]] w fun e w' => e = .returned (.bool true) ∧ Below w.heap.size w w' := by
  go_enter Try.func7, Try.ntmps7
  go_wp2_with (fail)
  generalize hw0 : (w.alloc (Obj.cells #[Value.int IntKind.u16 a0, Value.int IntKind.u16 a1] 35)).alloc (Obj.cells #[Value.int IntKind.u16 b0, Value.int IntKind.u16 b1] 35) = w0
  have HB0 : Aside0 (Below w.heap.size w w0) := ⟨by rw [← hw0]; exact below_alloc (below_alloc (Below.refl _ _) _) _⟩
  have HA0 : Aside0 (w0.heap[w.heap.size]? = some (Obj.cells #[Value.int IntKind.u16 a0, Value.int IntKind.u16 a1] 35 (0, 0))) := ⟨by rw [← hw0]; exact blk_alloc (blk_new _ _) _⟩
  have HK0 : Aside0 (w0.heap[w.heap.size + 1]? = some (Obj.cells #[Value.int IntKind.u16 b0, Value.int IntKind.u16 b1] 35 (0, 0))) := ⟨by rw [← hw0]; have := blk_new (w.alloc (Obj.cells #[Value.int IntKind.u16 a0, Value.int IntKind.u16 a1] 35)) (Obj.cells #[Value.int IntKind.u16 b0, Value.int IntKind.u16 b1] 35); simpa using this⟩
  clear hw0
  refine (keep_yes a0 a1 b0 b1 (w.heap.size + 1) _ HK0.out hAB).mono ?_; rintro e w1 ⟨rfl, hb⟩
  have HB1 := Aside0.mk (below_then HB0.out HB0.out.size hb)
  have HA1 := Aside0.mk (blk_below HA0.out hb)
  have HK1 := Aside0.mk (blk_below HK0.out hb)
  clear hb HB0 HA0 HK0
  go_wp2_with (fail)
  generalize hw2 : w1.alloc (Obj.cells #[Value.int IntKind.u16 a0, Value.int IntKind.u16 a1] 35) = w2
  have HB2 : Aside0 (Below w.heap.size w w2) := ⟨by rw [← hw2]; exact below_alloc HB1.out _⟩
  have hA : w2.heap[w.heap.size]? = some (Obj.cells #[Value.int IntKind.u16 a0, Value.int IntKind.u16 a1] 35 (0, 0)) := by rw [← hw2]; exact blk_alloc HA1.out _
  have hK : w2.heap[w.heap.size + 1]? = some (Obj.cells #[Value.int IntKind.u16 b0, Value.int IntKind.u16 b1] 35 (0, 0)) := by rw [← hw2]; exact blk_alloc HK1.out _
  have hN : w2.heap[w1.heap.size]? = some (Obj.cells #[Value.int IntKind.u16 a0, Value.int IntKind.u16 a1] 35 (0, 0)) := by rw [← hw2]; exact blk_new _ _
  clear hw2
  refine region_quietB (by kernel_rfl) (by kernel_rfl) ?_
  intro X F _ HB HN
  have c0 : ∀ x, (F x).cell? ⟨w.heap.size, 0, none⟩ = some (.int .u16 a0) := fun x => (blk_cell (blk_below hA (HB.out x)) 0).trans rfl
  have c1 : ∀ x, (F x).cell? ⟨w.heap.size, 1, none⟩ = some (.int .u16 a1) := fun x => (blk_cell (blk_below hA (HB.out x)) 1).trans rfl
  have c2 : ∀ x, (F x).cell? ⟨w.heap.size + 1, 0, none⟩ = some (.int .u16 b0) := fun x => (blk_cell (blk_below hK (HB.out x)) 0).trans rfl
  have c3 : ∀ x, (F x).cell? ⟨w.heap.size + 1, 1, none⟩ = some (.int .u16 b1) := fun x => (blk_cell (blk_below hK (HB.out x)) 1).trans rfl
  have c4 : ∀ x, (F x).cell? ⟨w1.heap.size, 0, none⟩ = some (.int .u16 a0) := fun x => (blk_cell (blk_below hN (HB.out x)) 0).trans rfl
  have c5 : ∀ x, (F x).cell? ⟨w1.heap.size, 1, none⟩ = some (.int .u16 a1) := fun x => (blk_cell (blk_below hN (HB.out x)) 1).trans rfl
  repeat (go_big_quiet_step (((first
    | (with_reducible refine (feas_fin a0 a1 b0 b1 _ (w.heap.size + 1) _ (blk_below hK (HB.out _)) ha hAB).mono ?_)
    | (with_reducible refine (feas_fin a0 a1 a0 a1 _ w1.heap.size _ (blk_below hN (HB.out _)) hkk hKK).mono ?_)
    | (with_reducible refine (seqno_Better.calls a0 a1 b0 b1 _ _ hAB).mono ?_)
    | (with_reducible refine (seqno_Better.calls b0 b1 a0 a1 _ _ hBA).mono ?_)
    | (with_reducible refine (live_any _).mono ?_)); rintro e w3 ⟨rfl, hb2⟩; exact ⟨rfl, HN.out _ _ hb2⟩)))
  refine wpQuiet_nil ?_
  rintro w' ⟨x, rfl⟩
  have HB3 := Aside0.mk (below_then HB2.out HB2.out.size (HB.out x))
  clear c0 c1 c2 c3 c4 c5 HB HN
  generalize F x = w3 at *
  go_wp2
  go_ret
  exact ⟨rfl, HB3.out⟩

set_option maxHeartbeats 2000000 in
theorem takes_C (a0 a1 : Int) (w : World) (ha : (a1 == 65535) = false) (hAB : seqno_Better.f a0 a1 a0 a1 = some false) (hKK : seqno_Better.f a0 a1 a0 a1 = some false) (hkk : (a1 == 65535) = false) (hkn : (a1 != 65535) = true) :
    Calls Try.prog 7 #[.agg #[.int .u16 a0, .int .u16 a1], .agg #[.int .u16 a0, .int .u16 a1]] w fun e w' => e = .returned (.bool true) ∧ Below w.heap.size w w' := by
  go_enter Try.func7, Try.ntmps7
  go_wp2_with (fail)
  generalize hw0 : (w.alloc (Obj.cells #[Value.int IntKind.u16 a0, Value.int IntKind.u16 a1] 35)).alloc (Obj.cells #[Value.int IntKind.u16 a0, Value.int IntKind.u16 a1] 35) = w0
  have HB0 : Aside0 (Below w.heap.size w w0) := ⟨by rw [← hw0]; exact below_alloc (below_alloc (Below.refl _ _) _) _⟩
  have HA0 : Aside0 (w0.heap[w.heap.size]? = some (Obj.cells #[Value.int IntKind.u16 a0, Value.int IntKind.u16 a1] 35 (0, 0))) := ⟨by rw [← hw0]; exact blk_alloc (blk_new _ _) _⟩
  have HK0 : Aside0 (w0.heap[w.heap.size + 1]? = some (Obj.cells #[Value.int IntKind.u16 a0, Value.int IntKind.u16 a1] 35 (0, 0))) := ⟨by rw [← hw0]; have := blk_new (w.alloc (Obj.cells #[Value.int IntKind.u16 a0, Value.int IntKind.u16 a1] 35)) (Obj.cells #[Value.int IntKind.u16 a0, Value.int IntKind.u16 a1] 35); simpa using this⟩
  clear hw0
  refine (keep_no a0 a1 a0 a1 (w.heap.size + 1) _ HK0.out hAB).mono ?_; rintro e w1 ⟨rfl, hb⟩
  have HB1 := Aside0.mk (below_then HB0.out HB0.out.size hb)
  have HA1 := Aside0.mk (blk_below HA0.out hb)
  have HK1 := Aside0.mk (blk_below HK0.out hb)
  clear hb HB0 HA0 HK0
  go_wp2_with (fail)
  generalize hw2 : w1.alloc (Obj.cells #[Value.int IntKind.u16 a0, Value.int IntKind.u16 a1] 35) = w2
  have HB2 : Aside0 (Below w.heap.size w w2) := ⟨by rw [← hw2]; exact below_alloc HB1.out _⟩
  have hA : w2.heap[w.heap.size]? = some (Obj.cells #[Value.int IntKind.u16 a0, Value.int IntKind.u16 a1] 35 (0, 0)) := by rw [← hw2]; exact blk_alloc HA1.out _
  have hK : w2.heap[w.heap.size + 1]? = some (Obj.cells #[Value.int IntKind.u16 a0, Value.int IntKind.u16 a1] 35 (0, 0)) := by rw [← hw2]; exact blk_alloc HK1.out _
  have hN : w2.heap[w1.heap.size]? = some (Obj.cells #[Value.int IntKind.u16 a0, Value.int IntKind.u16 a1] 35 (0, 0)) := by rw [← hw2]; exact blk_new _ _
  clear hw2
  refine region_quietB (by kernel_rfl) (by kernel_rfl) ?_
  intro X F _ HB HN
  have c0 : ∀ x, (F x).cell? ⟨w.heap.size, 0, none⟩ = some (.int .u16 a0) := fun x => (blk_cell (blk_below hA (HB.out x)) 0).trans rfl
  have c1 : ∀ x, (F x).cell? ⟨w.heap.size, 1, none⟩ = some (.int .u16 a1) := fun x => (blk_cell (blk_below hA (HB.out x)) 1).trans rfl
  have c2 : ∀ x, (F x).cell? ⟨w.heap.size + 1, 0, none⟩ = some (.int .u16 a0) := fun x => (blk_cell (blk_below hK (HB.out x)) 0).trans rfl
  have c3 : ∀ x, (F x).cell? ⟨w.heap.size + 1, 1, none⟩ = some (.int .u16 a1) := fun x => (blk_cell (blk_below hK (HB.out x)) 1).trans rfl
  have c4 : ∀ x, (F x).cell? ⟨w1.heap.size, 0, none⟩ = some (.int .u16 a0) := fun x => (blk_cell (blk_below hN (HB.out x)) 0).trans rfl
  have c5 : ∀ x, (F x).cell? ⟨w1.heap.size, 1, none⟩ = some (.int .u16 a1) := fun x => (blk_cell (blk_below hN (HB.out x)) 1).trans rfl
  repeat (go_big_quiet_step (((first
    | (with_reducible refine (feas_fin a0 a1 a0 a1 _ (w.heap.size + 1) _ (blk_below hK (HB.out _)) ha hAB).mono ?_)
    | (with_reducible refine (feas_fin a0 a1 a0 a1 _ w1.heap.size _ (blk_below hN (HB.out _)) hkk hKK).mono ?_)
    | (with_reducible refine (seqno_Better.calls a0 a1 a0 a1 _ _ hAB).mono ?_)
    | (with_reducible refine (seqno_Better.calls a0 a1 a0 a1 _ _ hBA).mono ?_)
    | (with_reducible refine (live_any _).mono ?_)); rintro e w3 ⟨rfl, hb2⟩; exact ⟨rfl, HN.out _ _ hb2⟩)))
  refine wpQuiet_nil ?_
  rintro w' ⟨x, rfl⟩
  have HB3 := Aside0.mk (below_then HB2.out HB2.out.size (HB.out x))
  clear c0 c1 c2 c3 c4 c5 HB HN
  generalize F x = w3 at *
  go_wp2
  go_ret
  exact ⟨rfl, HB3.out⟩

set_option maxHeartbeats 2000000 in
theorem takes_D (a0 a1 b1 : Int) (w : World) (ha : (a1 == 65535) = false) (hAB : seqno_Better.f a0 a1 a0 b1 = some false) (hKK : seqno_Better.f a0 b1 a0 b1 = some false) (hkk : (b1 == 65535) = false) (hkn : (b1 != 65535) = true) (h1 : (a1 == b1) = false) (h2 : (b1 == a1) = false) :
    Calls Try.prog 7 #[.agg #[.int .u16 a0, .int .u16 a1], .agg #[.int .u16 a0, .int .u16 b1]] w fun e w' => e = .returned (.bool true) ∧ Below w.heap.size w w' := by
  go_enter Try.func7, Try.ntmps7
  go_wp2_with (fail)
  generalize hw0 : (w.alloc (Obj.cells #[Value.int IntKind.u16 a0, Value.int IntKind.u16 a1] 35)).alloc (Obj.cells #[Value.int IntKind.u16 a0, Value.int IntKind.u16 b1] 35) = w0
  have HB0 : Aside0 (Below w.heap.size w w0) := ⟨by rw [← hw0]; exact below_alloc (below_alloc (Below.refl _ _) _) _⟩
  have HA0 : Aside0 (w0.heap[w.heap.size]? = some (Obj.cells #[Value.int IntKind.u16 a0, Value.int IntKind.u16 a1] 35 (0, 0))) := ⟨by rw [← hw0]; exact blk_alloc (blk_new _ _) _⟩
  have HK0 : Aside0 (w0.heap[w.heap.size + 1]? = some (Obj.cells #[Value.int IntKind.u16 a0, Value.int IntKind.u16 b1] 35 (0, 0))) := ⟨by rw [← hw0]; have := blk_new (w.alloc (Obj.cells #[Value.int IntKind.u16 a0, Value.int IntKind.u16 a1] 35)) (Obj.cells #[Value.int IntKind.u16 a0, Value.int IntKind.u16 b1] 35); simpa using this⟩
  clear hw0
  refine (keep_no a0 a1 a0 b1 (w.heap.size + 1) _ HK0.out hAB).mono ?_; rintro e w1 ⟨rfl, hb⟩
  have HB1 := Aside0.mk (below_then HB0.out HB0.out.size hb)
  have HA1 := Aside0.mk (blk_below HA0.out hb)
  have HK1 := Aside0.mk (blk_below HK0.out hb)
  clear hb HB0 HA0 HK0
  go_wp2_with (fail)
  generalize hw2 : w1.alloc (Obj.cells #[Value.int IntKind.u16 a0, Value.int IntKind.u16 b1] 35) = w2
  have HB2 : Aside0 (Below w.heap.size w w2) := ⟨by rw [← hw2]; exact below_alloc HB1.out _⟩
  have hA : w2.heap[w.heap.size]? = some (Obj.cells #[Value.int IntKind.u16 a0, Value.int IntKind.u16 a1] 35 (0, 0)) := by rw [← hw2]; exact blk_alloc HA1.out _
  have hK : w2.heap[w.heap.size + 1]? = some (Obj.cells #[Value.int IntKind.u16 a0, Value.int IntKind.u16 b1] 35 (0, 0)) := by rw [← hw2]; exact blk_alloc HK1.out _
  have hN : w2.heap[w1.heap.size]? = some (Obj.cells #[Value.int IntKind.u16 a0, Value.int IntKind.u16 b1] 35 (0, 0)) := by rw [← hw2]; exact blk_new _ _
  clear hw2
  refine region_quietB (by kernel_rfl) (by kernel_rfl) ?_
  intro X F _ HB HN
  have c0 : ∀ x, (F x).cell? ⟨w.heap.size, 0, none⟩ = some (.int .u16 a0) := fun x => (blk_cell (blk_below hA (HB.out x)) 0).trans rfl
  have c1 : ∀ x, (F x).cell? ⟨w.heap.size, 1, none⟩ = some (.int .u16 a1) := fun x => (blk_cell (blk_below hA (HB.out x)) 1).trans rfl
  have c2 : ∀ x, (F x).cell? ⟨w.heap.size + 1, 0, none⟩ = some (.int .u16 a0) := fun x => (blk_cell (blk_below hK (HB.out x)) 0).trans rfl
  have c3 : ∀ x, (F x).cell? ⟨w.heap.size + 1, 1, none⟩ = some (.int .u16 b1) := fun x => (blk_cell (blk_below hK (HB.out x)) 1).trans rfl
  have c4 : ∀ x, (F x).cell? ⟨w1.heap.size, 0, none⟩ = some (.int .u16 a0) := fun x => (blk_cell (blk_below hN (HB.out x)) 0).trans rfl
  have c5 : ∀ x, (F x).cell? ⟨w1.heap.size, 1, none⟩ = some (.int .u16 b1) := fun x => (blk_cell (blk_below hN (HB.out x)) 1).trans rfl
  repeat (go_big_quiet_step (((first
    | (with_reducible refine (feas_fin a0 a1 a0 b1 _ (w.heap.size + 1) _ (blk_below hK (HB.out _)) ha hAB).mono ?_)
    | (with_reducible refine (feas_fin a0 b1 a0 b1 _ w1.heap.size _ (blk_below hN (HB.out _)) hkk hKK).mono ?_)
    | (with_reducible refine (seqno_Better.calls a0 a1 a0 b1 _ _ hAB).mono ?_)
    | (with_reducible refine (seqno_Better.calls a0 b1 a0 a1 _ _ hBA).mono ?_)
    | (with_reducible refine (live_any _).mono ?_)); rintro e w3 ⟨rfl, hb2⟩; exact ⟨rfl, HN.out _ _ hb2⟩)))
  refine wpQuiet_nil ?_
  rintro w' ⟨x, rfl⟩
  have HB3 := Aside0.mk (below_then HB2.out HB2.out.size (HB.out x))
  clear c0 c1 c2 c3 c4 c5 HB HN
  generalize F x = w3 at *
  go_wp2
  go_ret
  exact ⟨rfl, HB3.out⟩

set_option maxHeartbeats 2000000 in
theorem takes_E (a0 a1 b0 : Int) (w : World) (ha : (a1 == 65535) = false) (hAB : seqno_Better.f a0 a1 b0 65535 = some false) (h1 : (a0 == b0) = false) (h2 : (b0 == a0) = false) :
    Calls Try.prog 7 #[.agg #[.int .u16 a0, .int .u16 a1], .agg #[.int .u16 b0, .int .u16 65535]] w fun e w' => e = .returned (.bool true) ∧ Below w.heap.size w w' := by
  go_enter Try.func7, Try.ntmps7
  go_wp2_with (fail)
  generalize hw0 : (w.alloc (Obj.cells #[Value.int IntKind.u16 a0, Value.int IntKind.u16 a1] 35)).alloc (Obj.cells #[Value.int IntKind.u16 b0, Value.int IntKind.u16 65535] 35) = w0
  have HB0 : Aside0 (Below w.heap.size w w0) := ⟨by rw [← hw0]; exact below_alloc (below_alloc (Below.refl _ _) _) _⟩
  have HA0 : Aside0 (w0.heap[w.heap.size]? = some (Obj.cells #[Value.int IntKind.u16 a0, Value.int IntKind.u16 a1] 35 (0, 0))) := ⟨by rw [← hw0]; exact blk_alloc (blk_new _ _) _⟩
  have HK0 : Aside0 (w0.heap[w.heap.size + 1]? = some (Obj.cells #[Value.int IntKind.u16 b0, Value.int IntKind.u16 65535] 35 (0, 0))) := ⟨by rw [← hw0]; have := blk_new (w.alloc (Obj.cells #[Value.int IntKind.u16 a0, Value.int IntKind.u16 a1] 35)) (Obj.cells #[Value.int IntKind.u16 b0, Value.int IntKind.u16 65535] 35); simpa using this⟩
  clear hw0
  refine (keep_no a0 a1 b0 65535 (w.heap.size + 1) _ HK0.out hAB).mono ?_; rintro e w1 ⟨rfl, hb⟩
  have HB1 := Aside0.mk (below_then HB0.out HB0.out.size hb)
  have HA1 := Aside0.mk (blk_below HA0.out hb)
  have HK1 := Aside0.mk (blk_below HK0.out hb)
  clear hb HB0 HA0 HK0
  go_wp2_with (fail)
  generalize hw2 : w1.alloc (Obj.cells #[Value.int IntKind.u16 b0, Value.int IntKind.u16 65535] 35) = w2
  have HB2 : Aside0 (Below w.heap.size w w2) := ⟨by rw [← hw2]; exact below_alloc HB1.out _⟩
  have hA : w2.heap[w.heap.size]? = some (Obj.cells #[Value.int IntKind.u16 a0, Value.int IntKind.u16 a1] 35 (0, 0)) := by rw [← hw2]; exact blk_alloc HA1.out _
  have hK : w2.heap[w.heap.size + 1]? = some (Obj.cells #[Value.int IntKind.u16 b0, Value.int IntKind.u16 65535] 35 (0, 0)) := by rw [← hw2]; exact blk_alloc HK1.out _
  have hN : w2.heap[w1.heap.size]? = some (Obj.cells #[Value.int IntKind.u16 b0, Value.int IntKind.u16 65535] 35 (0, 0)) := by rw [← hw2]; exact blk_new _ _
  clear hw2
  refine region_quietB (by kernel_rfl) (by kernel_rfl) ?_
  intro X F _ HB HN
  have c0 : ∀ x, (F x).cell? ⟨w.heap.size, 0, none⟩ = some (.int .u16 a0) := fun x => (blk_cell (blk_below hA (HB.out x)) 0).trans rfl
  have c1 : ∀ x, (F x).cell? ⟨w.heap.size, 1, none⟩ = some (.int .u16 a1) := fun x => (blk_cell (blk_below hA (HB.out x)) 1).trans rfl
  have c2 : ∀ x, (F x).cell? ⟨w.heap.size + 1, 0, none⟩ = some (.int .u16 b0) := fun x => (blk_cell (blk_below hK (HB.out x)) 0).trans rfl
  have c3 : ∀ x, (F x).cell? ⟨w.heap.size + 1, 1, none⟩ = some (.int .u16 65535) := fun x => (blk_cell (blk_below hK (HB.out x)) 1).trans rfl
  have c4 : ∀ x, (F x).cell? ⟨w1.heap.size, 0, none⟩ = some (.int .u16 b0) := fun x => (blk_cell (blk_below hN (HB.out x)) 0).trans rfl
  have c5 : ∀ x, (F x).cell? ⟨w1.heap.size, 1, none⟩ = some (.int .u16 65535) := fun x => (blk_cell (blk_below hN (HB.out x)) 1).trans rfl
  repeat (go_big_quiet_step (((first
    | (with_reducible refine (feas_fin a0 a1 b0 65535 _ (w.heap.size + 1) _ (blk_below hK (HB.out _)) ha hAB).mono ?_)
    | (with_reducible refine (feas_inf b0 _ _).mono ?_)
    | (with_reducible refine (seqno_Better.calls a0 a1 b0 65535 _ _ hAB).mono ?_)
    | (with_reducible refine (seqno_Better.calls b0 65535 a0 a1 _ _ hBA).mono ?_)
    | (with_reducible refine (live_any _).mono ?_)); rintro e w3 ⟨rfl, hb2⟩; exact ⟨rfl, HN.out _ _ hb2⟩)))
  refine wpQuiet_nil ?_
  rintro w' ⟨x, rfl⟩
  have HB3 := Aside0.mk (below_then HB2.out HB2.out.size (HB.out x))
  clear c0 c1 c2 c3 c4 c5 HB HN
  generalize F x = w3 at *
  go_wp2
  go_ret
  exact ⟨rfl, HB3.out⟩

set_option maxHeartbeats 2000000 in
theorem takes_F (a0 a1 b0 b1 : Int) (w : World) (ha : (a1 == 65535) = false) (hAB : seqno_Better.f a0 a1 b0 b1 = some false) (hKK : seqno_Better.f b0 b1 b0 b1 = some false) (hkk : (b1 == 65535) = false) (hkn : (b1 != 65535) = true) (h1 : (a0 == b0) = false) (h2 : (b0 == a0) = false) :
    Calls Try.prog 7 #[.agg #[.int .u16 a0, .int .u16 a1], .agg #[.int .u16 b0, .int .u16 b1]] w fun e w' => e = .returned (.bool true) ∧ Below w.heap.size w w' := by
  go_enter Try.func7, Try.ntmps7
  go_wp2_with (fail)
  generalize hw0 : (w.alloc (Obj.cells #[Value.int IntKind.u16 a0, Value.int IntKind.u16 a1] 35)).alloc (Obj.cells #[Value.int IntKind.u16 b0, Value.int IntKind.u16 b1] 35) = w0
  have HB0 : Aside0 (Below w.heap.size w w0) := ⟨by rw [← hw0]; exact below_alloc (below_alloc (Below.refl _ _) _) _⟩
  have HA0 : Aside0 (w0.heap[w.heap.size]? = some (Obj.cells #[Value.int IntKind.u16 a0, Value.int IntKind.u16 a1] 35 (0, 0))) := ⟨by rw [← hw0]; exact blk_alloc (blk_new _ _) _⟩
  have HK0 : Aside0 (w0.heap[w.heap.size + 1]? = some (Obj.cells #[Value.int IntKind.u16 b0, Value.int IntKind.u16 b1] 35 (0, 0))) := ⟨by rw [← hw0]; have := blk_new (w.alloc (Obj.cells #[Value.int IntKind.u16 a0, Value.int IntKind.u16 a1] 35)) (Obj.cells #[Value.int IntKind.u16 b0, Value.int IntKind.u16 b1] 35); simpa using this⟩
  clear hw0
  refine (keep_no a0 a1 b0 b1 (w.heap.size + 1) _ HK0.out hAB).mono ?_; rintro e w1 ⟨rfl, hb⟩
  have HB1 := Aside0.mk (below_then HB0.out HB0.out.size hb)
  have HA1 := Aside0.mk (blk_below HA0.out hb)
  have HK1 := Aside0.mk (blk_below HK0.out hb)
  clear hb HB0 HA0 HK0
  go_wp2_with (fail)
  generalize hw2 : w1.alloc (Obj.cells #[Value.int IntKind.u16 b0, Value.int IntKind.u16 b1] 35) = w2
  have HB2 : Aside0 (Below w.heap.size w w2) := ⟨by rw [← hw2]; exact below_alloc HB1.out _⟩
  have hA : w2.heap[w.heap.size]? = some (Obj.cells #[Value.int IntKind.u16 a0, Value.int IntKind.u16 a1] 35 (0, 0)) := by rw [← hw2]; exact blk_alloc HA1.out _
  have hK : w2.heap[w.heap.size + 1]? = some (Obj.cells #[Value.int IntKind.u16 b0, Value.int IntKind.u16 b1] 35 (0, 0)) := by rw [← hw2]; exact blk_alloc HK1.out _
  have hN : w2.heap[w1.heap.size]? = some (Obj.cells #[Value.int IntKind.u16 b0, Value.int IntKind.u16 b1] 35 (0, 0)) := by rw [← hw2]; exact blk_new _ _
  clear hw2
  refine region_quietB (by kernel_rfl) (by kernel_rfl) ?_
  intro X F _ HB HN
  have c0 : ∀ x, (F x).cell? ⟨w.heap.size, 0, none⟩ = some (.int .u16 a0) := fun x => (blk_cell (blk_below hA (HB.out x)) 0).trans rfl
  have c1 : ∀ x, (F x).cell? ⟨w.heap.size, 1, none⟩ = some (.int .u16 a1) := fun x => (blk_cell (blk_below hA (HB.out x)) 1).trans rfl
  have c2 : ∀ x, (F x).cell? ⟨w.heap.size + 1, 0, none⟩ = some (.int .u16 b0) := fun x => (blk_cell (blk_below hK (HB.out x)) 0).trans rfl
  have c3 : ∀ x, (F x).cell? ⟨w.heap.size + 1, 1, none⟩ = some (.int .u16 b1) := fun x => (blk_cell (blk_below hK (HB.out x)) 1).trans rfl
  have c4 : ∀ x, (F x).cell? ⟨w1.heap.size, 0, none⟩ = some (.int .u16 b0) := fun x => (blk_cell (blk_below hN (HB.out x)) 0).trans rfl
  have c5 : ∀ x, (F x).cell? ⟨w1.heap.size, 1, none⟩ = some (.int .u16 b1) := fun x => (blk_cell (blk_below hN (HB.out x)) 1).trans rfl
  repeat (go_big_quiet_step (((first
    | (with_reducible refine (feas_fin a0 a1 b0 b1 _ (w.heap.size + 1) _ (blk_below hK (HB.out _)) ha hAB).mono ?_)
    | (with_reducible refine (feas_fin b0 b1 b0 b1 _ w1.heap.size _ (blk_below hN (HB.out _)) hkk hKK).mono ?_)
    | (with_reducible refine (seqno_Better.calls a0 a1 b0 b1 _ _ hAB).mono ?_)
    | (with_reducible refine (seqno_Better.calls b0 b1 a0 a1 _ _ hBA).mono ?_)
    | (with_reducible refine (live_any _).mono ?_)); rintro e w3 ⟨rfl, hb2⟩; exact ⟨rfl, HN.out _ _ hb2⟩)))
  refine wpQuiet_nil ?_
  rintro w' ⟨x, rfl⟩
  have HB3 := Aside0.mk (below_then HB2.out HB2.out.size (HB.out x))
  clear c0 c1 c2 c3 c4 c5 HB HN
  generalize F x = w3 at *
  go_wp2
  go_ret
  exact ⟨rfl, HB3.out⟩

end Go.Proofs.Ytphbomcemcipeaa.SqT
