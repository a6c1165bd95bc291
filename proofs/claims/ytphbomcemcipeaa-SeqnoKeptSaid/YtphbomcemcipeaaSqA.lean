/- Walks of seqno.Feasible and seqno.Keep at a pointer that is not nil. -/
import Derived.Test.YtphbomcemcipeaaMSqx1
import Derived.Deep.RegionWith
import Derived.BigQuiet
namespace Go.Proofs.Ytphbomcemcipeaa.Sq
open Go.RowKit Go.Proofs.Ytphbomcemcipeaa.MSq Go.Proofs.YtphbomcemcipeaaW.PrintWords Go.Proofs.YtphbomcemcipeaaW.PrintLast

theorem region_quietB {P : Program} {id : Nat} {Q : Exit → Act → World → Prop} {a : Act} {w : World} {l : List Oper} (hm : P.follows .mixedOrders = true) (hB : Region.lexB .any l.toArray = true)
    (h : ∀ (X : Type) (F : X → World) (_ : Nonempty X), Aside0 (∀ x, Below w.heap.size w (F x)) → Aside0 (∀ x w', Below (F x).heap.size (F x) w' → ∃ y, w' = F y) →
      wpQuiet P l.toArray (fun w' => ∃ x, w' = F x) (fun a' => ∀ w', (∃ x, w' = F x) → Q .normal a' w') l a) : (Code.region id l.toArray true).wp P Q a w := by
  have h1 := h {w' : World // Below w.heap.size w w'} (fun x => x.1) ⟨⟨w, Below.refl _ _⟩⟩ ⟨fun x => x.2⟩ ⟨fun x w' hb => ⟨⟨w', below_then x.2 x.2.size hb⟩, rfl⟩⟩
  exact wp_region_quiet (C := fun w' => ∃ x : {w' : World // Below w.heap.size w w'}, w' = x.1) hm hB ⟨⟨w.drew, (Below.refl _ _).drew⟩, rfl⟩ (by simpa using h1)

theorem feas_inf (d0 : Int) (p : Value) (w : World) :
    Calls Try.prog 16 #[.agg #[.int .u16 d0, .int .u16 65535], p] w fun e w' => e = .returned (.bool true) ∧ Below w.heap.size w w' := by
  go_enter Try.func16, Try.ntmps16
  go_wp2
  go_quiet (fail)
  go_wp2
  go_ret
  exact ⟨rfl, pw_below_drewN (below_alloc (Below.refl _ _) _) _⟩

theorem feas_fin (d0 d1 k0 k1 : Int) (r : Bool) (g : Nat) (w : World) (hg : w.heap[g]? = some (.cells #[.int .u16 k0, .int .u16 k1] 35 (0, 0))) (hd : (d1 == 65535) = false) (h : seqno_Better.f d0 d1 k0 k1 = some r) :
    Calls Try.prog 16 #[.agg #[.int .u16 d0, .int .u16 d1], .pointer (some ⟨g, 0, none⟩)] w fun e w' => e = .returned (.bool r) ∧ Below w.heap.size w w' := by
  go_enter Try.func16, Try.ntmps16
  go_wp2
  generalize hw0 : w.alloc (Obj.cells #[Value.int IntKind.u16 d0, Value.int IntKind.u16 d1] 35) = w0
  have HB0 : Aside0 (Below w.heap.size w w0) := ⟨by rw [← hw0]; exact below_alloc (Below.refl _ _) _⟩
  have ha : w0.heap[w.heap.size]? = some (Obj.cells #[Value.int IntKind.u16 d0, Value.int IntKind.u16 d1] 35 (0, 0)) := by rw [← hw0]; exact blk_new _ _
  have hb : w0.heap[g]? = some (.cells #[.int .u16 k0, .int .u16 k1] 35 (0, 0)) := by rw [← hw0]; exact blk_alloc hg _
  clear hw0
  refine region_quietB (by kernel_rfl) (by kernel_rfl) ?_
  intro X F _ HB HN
  have c0 : ∀ x, (F x).cell? ⟨w.heap.size, 0, none⟩ = some (.int .u16 d0) := fun x => (blk_cell (blk_below ha (HB.out x)) 0).trans rfl
  have c1 : ∀ x, (F x).cell? ⟨w.heap.size, 1, none⟩ = some (.int .u16 d1) := fun x => (blk_cell (blk_below ha (HB.out x)) 1).trans rfl
  have c2 : ∀ x, (F x).cell? ⟨g, 0, none⟩ = some (.int .u16 k0) := fun x => (blk_cell (blk_below hb (HB.out x)) 0).trans rfl
  have c3 : ∀ x, (F x).cell? ⟨g, 1, none⟩ = some (.int .u16 k1) := fun x => (blk_cell (blk_below hb (HB.out x)) 1).trans rfl
  repeat (go_big_quiet_step ((refine (seqno_Better.calls d0 d1 k0 k1 r _ h).mono ?_; rintro e w2 ⟨rfl, hb2⟩; exact ⟨rfl, HN.out _ _ hb2⟩)))
  refine wpQuiet_nil ?_
  rintro w' ⟨x, rfl⟩
  have HBx := HB.out x
  clear c0 c1 c2 c3 HB HN
  generalize F x = w3 at *
  have HB3 : Aside0 (Below w.heap.size w w3) := ⟨below_then HB0.out HB0.out.size HBx⟩
  clear HBx HB0 ha hb
  go_wp2
  go_ret
  exact ⟨rfl, HB3.out⟩
theorem keep_yes (d0 d1 k0 k1 : Int) (g : Nat) (w : World) (hg : w.heap[g]? = some (.cells #[.int .u16 k0, .int .u16 k1] 35 (0, 0))) (h : seqno_Better.f d0 d1 k0 k1 = some true) :
    Calls Try.prog 17 #[.pointer (some ⟨g, 0, none⟩), .agg #[.int .u16 d0, .int .u16 d1]] w fun e w' => e = .returned (.agg #[.int .u16 d0, .int .u16 d1]) ∧ Below w.heap.size w w' := by
  go_enter Try.func17, Try.ntmps17
  go_wp2
  generalize hw0 : (w.alloc (Obj.cells #[Value.int IntKind.u16 d0, Value.int IntKind.u16 d1] 35)).alloc (Obj.cells #[Value.int IntKind.u16 0, Value.int IntKind.u16 0] 35) = w0
  have HB0 : Aside0 (Below w.heap.size w w0) := ⟨by rw [← hw0]; exact below_alloc (below_alloc (Below.refl _ _) _) _⟩
  have ha : w0.heap[w.heap.size]? = some (Obj.cells #[Value.int IntKind.u16 d0, Value.int IntKind.u16 d1] 35 (0, 0)) := by rw [← hw0]; exact blk_alloc (blk_new _ _) _
  have hb : w0.heap[g]? = some (.cells #[.int .u16 k0, .int .u16 k1] 35 (0, 0)) := by rw [← hw0]; exact blk_alloc (blk_alloc hg _) _
  have hc : w0.heap[w.heap.size + 1]? = some (Obj.cells #[Value.int IntKind.u16 0, Value.int IntKind.u16 0] 35 (0, 0)) := by rw [← hw0]; have := blk_new (w.alloc (Obj.cells #[Value.int IntKind.u16 d0, Value.int IntKind.u16 d1] 35)) (Obj.cells #[Value.int IntKind.u16 0, Value.int IntKind.u16 0] 35); simpa using this
  clear hw0
  refine region_quietB (by kernel_rfl) (by kernel_rfl) ?_
  intro X F _ HB HN
  have c0 : ∀ x, (F x).cell? ⟨w.heap.size, 0, none⟩ = some (.int .u16 d0) := fun x => (blk_cell (blk_below ha (HB.out x)) 0).trans rfl
  have c1 : ∀ x, (F x).cell? ⟨w.heap.size, 1, none⟩ = some (.int .u16 d1) := fun x => (blk_cell (blk_below ha (HB.out x)) 1).trans rfl
  have c2 : ∀ x, (F x).cell? ⟨g, 0, none⟩ = some (.int .u16 k0) := fun x => (blk_cell (blk_below hb (HB.out x)) 0).trans rfl
  have c3 : ∀ x, (F x).cell? ⟨g, 1, none⟩ = some (.int .u16 k1) := fun x => (blk_cell (blk_below hb (HB.out x)) 1).trans rfl
  repeat (go_big_quiet_step ((refine (seqno_Better.calls d0 d1 k0 k1 _ _ h).mono ?_; rintro e w2 ⟨rfl, hb2⟩; exact ⟨rfl, HN.out _ _ hb2⟩)))
  refine wpQuiet_nil ?_
  rintro w' ⟨x, rfl⟩
  have HBx := HB.out x
  clear c0 c1 c2 c3 HB HN
  generalize F x = w3 at *
  have ha3 := Aside0.mk (blk_below ha HBx)
  have hb3 := Aside0.mk (blk_below hb HBx)
  have hc3 := Aside0.mk (blk_below hc HBx)
  have HB3 : Aside0 (Below w.heap.size w w3) := ⟨below_then HB0.out HB0.out.size HBx⟩
  clear HBx HB0 ha hb hc
  have c0 : w3.cell? ⟨w.heap.size, 0, none⟩ = some (.int .u16 d0) := (blk_cell ha3.out 0).trans rfl
  have c1 : w3.cell? ⟨w.heap.size, 1, none⟩ = some (.int .u16 d1) := (blk_cell ha3.out 1).trans rfl
  have c2 : w3.cell? ⟨g, 0, none⟩ = some (.int .u16 k0) := (blk_cell hb3.out 0).trans rfl
  have c3 : w3.cell? ⟨g, 1, none⟩ = some (.int .u16 k1) := (blk_cell hb3.out 1).trans rfl
  have c4 : w3.cell? ⟨w.heap.size + 1, 0, none⟩ = some (.int .u16 0) := (blk_cell hc3.out 0).trans rfl
  have c5 : w3.cell? ⟨w.heap.size + 1, 1, none⟩ = some (.int .u16 0) := (blk_cell hc3.out 1).trans rfl
  have f4 : ∀ j, w3.frozen? ⟨w.heap.size + 1, j, none⟩ = false := fun j => blk_frozen hc3.out j
  go_wp2
  refine bodyPost_ret (results_cell_row rfl _ _ (w.heap.size + 1) 35 #[.int .u16 d0, .int .u16 d1] (0, 0) _ rfl (blk_put (cs := #[.int .u16 d0, .int .u16 0]) (blk_put (cs := #[.int .u16 0, .int .u16 0]) hc3.out 0 _ rfl) 1 _ rfl) Try.underlying35 rfl (by kernel_rfl)) rfl ?_
  exact ⟨rfl, below_set (below_set HB3.out (Nat.le_succ _)) (Nat.le_succ _)⟩

theorem keep_no (d0 d1 k0 k1 : Int) (g : Nat) (w : World) (hg : w.heap[g]? = some (.cells #[.int .u16 k0, .int .u16 k1] 35 (0, 0))) (h : seqno_Better.f d0 d1 k0 k1 = some false) :
    Calls Try.prog 17 #[.pointer (some ⟨g, 0, none⟩), .agg #[.int .u16 d0, .int .u16 d1]] w fun e w' => e = .returned (.agg #[.int .u16 k0, .int .u16 k1]) ∧ Below w.heap.size w w' := by
  go_enter Try.func17, Try.ntmps17
  go_wp2
  generalize hw0 : (w.alloc (Obj.cells #[Value.int IntKind.u16 d0, Value.int IntKind.u16 d1] 35)).alloc (Obj.cells #[Value.int IntKind.u16 0, Value.int IntKind.u16 0] 35) = w0
  have HB0 : Aside0 (Below w.heap.size w w0) := ⟨by rw [← hw0]; exact below_alloc (below_alloc (Below.refl _ _) _) _⟩
  have ha : w0.heap[w.heap.size]? = some (Obj.cells #[Value.int IntKind.u16 d0, Value.int IntKind.u16 d1] 35 (0, 0)) := by rw [← hw0]; exact blk_alloc (blk_new _ _) _
  have hb : w0.heap[g]? = some (.cells #[.int .u16 k0, .int .u16 k1] 35 (0, 0)) := by rw [← hw0]; exact blk_alloc (blk_alloc hg _) _
  have hc : w0.heap[w.heap.size + 1]? = some (Obj.cells #[Value.int IntKind.u16 0, Value.int IntKind.u16 0] 35 (0, 0)) := by rw [← hw0]; have := blk_new (w.alloc (Obj.cells #[Value.int IntKind.u16 d0, Value.int IntKind.u16 d1] 35)) (Obj.cells #[Value.int IntKind.u16 0, Value.int IntKind.u16 0] 35); simpa using this
  clear hw0
  refine region_quietB (by kernel_rfl) (by kernel_rfl) ?_
  intro X F _ HB HN
  have c0 : ∀ x, (F x).cell? ⟨w.heap.size, 0, none⟩ = some (.int .u16 d0) := fun x => (blk_cell (blk_below ha (HB.out x)) 0).trans rfl
  have c1 : ∀ x, (F x).cell? ⟨w.heap.size, 1, none⟩ = some (.int .u16 d1) := fun x => (blk_cell (blk_below ha (HB.out x)) 1).trans rfl
  have c2 : ∀ x, (F x).cell? ⟨g, 0, none⟩ = some (.int .u16 k0) := fun x => (blk_cell (blk_below hb (HB.out x)) 0).trans rfl
  have c3 : ∀ x, (F x).cell? ⟨g, 1, none⟩ = some (.int .u16 k1) := fun x => (blk_cell (blk_below hb (HB.out x)) 1).trans rfl
  repeat (go_big_quiet_step ((refine (seqno_Better.calls d0 d1 k0 k1 _ _ h).mono ?_; rintro e w2 ⟨rfl, hb2⟩; exact ⟨rfl, HN.out _ _ hb2⟩)))
  refine wpQuiet_nil ?_
  rintro w' ⟨x, rfl⟩
  have HBx := HB.out x
  clear c0 c1 c2 c3 HB HN
  generalize F x = w3 at *
  have ha3 := Aside0.mk (blk_below ha HBx)
  have hb3 := Aside0.mk (blk_below hb HBx)
  have hc3 := Aside0.mk (blk_below hc HBx)
  have HB3 : Aside0 (Below w.heap.size w w3) := ⟨below_then HB0.out HB0.out.size HBx⟩
  clear HBx HB0 ha hb hc
  have c0 : w3.cell? ⟨w.heap.size, 0, none⟩ = some (.int .u16 d0) := (blk_cell ha3.out 0).trans rfl
  have c1 : w3.cell? ⟨w.heap.size, 1, none⟩ = some (.int .u16 d1) := (blk_cell ha3.out 1).trans rfl
  have c2 : w3.cell? ⟨g, 0, none⟩ = some (.int .u16 k0) := (blk_cell hb3.out 0).trans rfl
  have c3 : w3.cell? ⟨g, 1, none⟩ = some (.int .u16 k1) := (blk_cell hb3.out 1).trans rfl
  have c4 : w3.cell? ⟨w.heap.size + 1, 0, none⟩ = some (.int .u16 0) := (blk_cell hc3.out 0).trans rfl
  have c5 : w3.cell? ⟨w.heap.size + 1, 1, none⟩ = some (.int .u16 0) := (blk_cell hc3.out 1).trans rfl
  have f4 : ∀ j, w3.frozen? ⟨w.heap.size + 1, j, none⟩ = false := fun j => blk_frozen hc3.out j
  go_wp2
  refine bodyPost_ret (results_cell_row rfl _ _ (w.heap.size + 1) 35 #[.int .u16 k0, .int .u16 k1] (0, 0) _ rfl (blk_put (cs := #[.int .u16 k0, .int .u16 0]) (blk_put (cs := #[.int .u16 0, .int .u16 0]) hc3.out 0 _ rfl) 1 _ rfl) Try.underlying35 rfl (by kernel_rfl)) rfl ?_
  exact ⟨rfl, below_set (below_set HB3.out (Nat.le_succ _)) (Nat.le_succ _)⟩

end Go.Proofs.Ytphbomcemcipeaa.Sq
