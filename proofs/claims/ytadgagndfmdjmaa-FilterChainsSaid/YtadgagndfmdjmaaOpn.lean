/- How arguments read: a slice whose elements are structs of plain cells, opened; and that every argument reads behind the call as it read before, if nothing below the heap of the call's begin has changed. -/
import Derived.Test.YtadgagndfmdjmaaWWords
import Derived.WalkKit
import Derived.ProofKit
import Derived.OpenShut
import Derived.ShutString
import Derived.ChangeOld
import Derived.Below
import Derived.SizedLaws
import Derived.Deep.Slices
import Derived.Deep.Strs
namespace Go.Proofs.Ytadgagndfmdjmaa.Opn
open Go.ChangeShapes Go.WideShapes Go.ChangeAt Go.RowKit Go.Proofs.YtadgagndfmdjmaaW.PrintWords

theorem rows_stay {H : Type} {enc : TypeId × Value → H} {P : Program} (hl : laidOutB P = true) {W W' : World} (hb : Below W.heap.size W W') :
    ∀ (ts : List TypeId) (vs : List Value) (ds : List (DataW H)) (ps : List MemPlace), (ts.all fun t => P.readableRec t && decide (t < P.types.size)) = true →
      DataW.TrodAll enc P W 0 (fun _ => true) true ts vs ds ps → DataW.TrodAll enc P W' 0 (fun b => decide (b < W.heap.size)) true ts vs ds ps
  | [], [], [], ps, _, h => h
  | t :: ts, v :: vs, d :: ds, ps, hr, h => by
    obtain ⟨p, q, h1, h2, h3⟩ := h
    simp only [List.all_cons, Bool.and_eq_true, decide_eq_true_iff] at hr
    have lt : ∀ x ∈ p, x.block < W.heap.size := by obtain ⟨m, hm⟩ := h1; exact DataW.trod_lt m _ _ _ hm
    exact ⟨p, q, Below.trod hl hr.1.1 hr.1.2 h1 hb lt, rows_stay hl hb ts vs ds q hr.2 h2, h3⟩

theorem cells_at {w : World} {base n : Nat} {a : Addr} {cs : List Value} (h : w.cells? base a n = some cs) : cs.length = n ∧ ∀ i u, cs[i]? = some u → w.cell? (a.add i) = some u := by
  obtain ⟨_, hl, hc⟩ := World.cells?_some h
  refine ⟨hl, fun i u hu => ?_⟩
  have hi : i < n := by rw [← hl]; exact (List.getElem?_eq_some_iff.1 hu).1
  rw [hc i hi, hu]

/-- A slice that came in, its elements opened by 'hK'. -/
theorem slice_rows {H : Type} {enc : TypeId × Value → H} {P : Program} {w : World} {base : Nat} {spare : Nat → Bool} {held : Bool} {t e : TypeId} {A : Option Addr} {len cap sz : Nat} {d : DataW H} {ps : List MemPlace} {α : Type} {K : α → List Value → Prop}
    (ht : P.underlying t = some (.slice e)) (hsz : P.cellsOf e = sz) (hK : ∀ fuel cs x, cs.length = sz → DataW.trod enc P w base spare held fuel e cs = some x → ∃ y, K y cs)
    (h : DataW.Trod enc P w base spare held t (.slice A len cap) d ps) : ∃ xs : List α, ReadsRow K sz w A len xs ∧ len ≤ cap := by
  obtain ⟨fuel, hf⟩ := h
  rcases Deep.open_slice ht hf with ⟨hcs, _⟩ | ⟨a, l, c, m, n, D, Pl, hcs, hb, hl, hm, hmm, _, hel⟩
  · simp [Value.cells] at hcs
    obtain ⟨rfl, rfl, rfl⟩ := hcs
    exact ⟨[], ⟨rfl, by omega, fun hp => absurd hp (by omega)⟩, Nat.le_refl _⟩
  · simp [Value.cells] at hcs
    obtain ⟨rfl, rfl, rfl⟩ := hcs
    have hlm : len ≤ m := by rw [hmm]; split <;> omega
    have each : ∀ i, i < len → ∃ y, ∃ c, c.length = sz ∧ K y c ∧ ∀ j u, c[j]? = some u → w.cell? (a.add (i * sz + j)) = some u := by
      intro i hi
      obtain ⟨cs, h1, h2⟩ := hel i (by omega)
      obtain ⟨hl', hc'⟩ := cells_at h1
      rw [hsz] at hl' hc'
      obtain ⟨y, hy⟩ := hK _ _ _ hl' h2
      refine ⟨y, cs, hl', hy, fun j u hu => ?_⟩
      have := hc' j u hu
      rwa [show (a.add (i * sz)).add j = a.add (i * sz + j) by
        unfold Addr.add
        by_cases h1 : i * sz = 0 <;> by_cases h2 : j = 0 <;> simp [h1, h2, Nat.add_assoc]] at this
    refine ⟨List.ofFn (fun i : Fin len => Classical.choose (each i.1 i.2)), ⟨List.length_ofFn, by unfold maxLen at hm; omega, fun hp => ⟨a, rfl, fun j p hj => ?_⟩⟩, hl⟩
    obtain ⟨hj1, hj2⟩ := List.getElem?_eq_some_iff.1 hj
    have hj3 : j < len := by rw [List.length_ofFn] at hj1; exact hj1
    have h3 := Classical.choose_spec (each j hj3)
    have e : p = Classical.choose (each j hj3) := by rw [← hj2]; simp
    rw [e]
    exact h3

/-! ### Structs of plain cells -/
section
variable {H : Type} {enc : TypeId × Value → H} {P : Program} {w : World} {base : Nat} {spare : Nat → Bool} {held : Bool}
theorem two_cells {t tA tB : TypeId} {k1 k2 : IntKind} {f0 f1 : Field} {fuel : Nat} {cs : List Value} {x : DataW H × List MemPlace} (ht : P.underlying t = some (.struct #[f0, f1])) (h0 : f0.offset = 0) (h1 : f1.offset = 1) (h0' : f0.type = tA) (h1' : f1.type = tB)
    (hA : P.underlying tA = some (.int k1)) (hB : P.underlying tB = some (.int k2)) (cA : P.cellsOf tA = 1) (cB : P.cellsOf tB = 1) (hl : cs.length = 2) (h : DataW.trod enc P w base spare held fuel t cs = some x) :
    ∃ y : Int × Int, cs = [.int k1 y.1, .int k2 y.2] ∧ (Lit.int k1 y.1).wf = true ∧ (Lit.int k2 y.2).wf = true := by
  match cs, hl with
  | [c0, c1], _ =>
    obtain ⟨y0, y1, n, hx, _, g0, g1⟩ := trod_struct2 ht h
    rw [h0, h0', cA] at g0
    rw [h1, h1', cB] at g1
    obtain ⟨a, e0, _, wa⟩ := DataW.trod_int hA (by simpa using g0)
    obtain ⟨b, e1, _, wb⟩ := DataW.trod_int hB (by simpa using g1)
    simp at e0 e1
    exact ⟨(a, b), by rw [e0, e1], wa, wb⟩
end

theorem rows_mem {α : Type} {K : α → List Value → Prop} {sz n : Nat} {w : World} {A : Option Addr} {xs : List α} (h : ReadsRow K sz w A n xs) {x : α} (hx : x ∈ xs) : ∃ c, K x c := by
  obtain ⟨j, hj, rfl⟩ := List.getElem_of_mem hx
  obtain ⟨ad, _, hc⟩ := h.2.2 (by rw [← h.1]; omega)
  obtain ⟨c, _, hK, _⟩ := hc j _ (List.getElem?_eq_getElem hj)
  exact ⟨c, hK⟩
section
variable {H : Type} {enc : TypeId × Value → H} {P : Program} {w : World} {base : Nat} {spare : Nat → Bool} {held : Bool}
theorem three_cells {t tA tB tC : TypeId} {f0 f1 f2 : Field} {fuel : Nat} {cs : List Value} {x : DataW H × List MemPlace} (ht : P.underlying t = some (.struct #[f0, f1, f2])) (h0 : f0.offset = 0) (h1 : f1.offset = 1) (h2 : f2.offset = 2)
    (h0' : f0.type = tA) (h1' : f1.type = tB) (h2' : f2.type = tC) (cA : P.cellsOf tA = 1) (cB : P.cellsOf tB = 1) (cC : P.cellsOf tC = 1) (hl : cs.length = 3) (h : DataW.trod enc P w base spare held fuel t cs = some x) :
    ∃ c0 c1 c2 y0 y1 y2 n, cs = [c0, c1, c2] ∧ DataW.trod enc P w base spare held n tA [c0] = some y0 ∧ DataW.trod enc P w base spare held n tB [c1] = some y1 ∧ DataW.trod enc P w base spare held n tC [c2] = some y2 := by
  match cs, hl with
  | [c0, c1, c2], _ =>
    obtain ⟨y0, y1, y2, n, hx, _, g0, g1, g2⟩ := Deep.trod_struct3 ht h
    rw [h0, h0', cA] at g0
    rw [h1, h1', cB] at g1
    rw [h2, h2', cC] at g2
    exact ⟨c0, c1, c2, y0, y1, y2, n, rfl, by simpa using g0, by simpa using g1, by simpa using g2⟩
theorem cell_int {t : TypeId} {k : IntKind} {c : Value} {n : Nat} {y : DataW H × List MemPlace} (ht : P.underlying t = some (.int k)) (h : DataW.trod enc P w base spare held n t [c] = some y) : ∃ a, c = .int k a ∧ (Lit.int k a).wf = true := by
  obtain ⟨a, e, _, wa⟩ := DataW.trod_int ht h
  simp at e
  exact ⟨a, e, wa⟩
theorem cell_bool {t : TypeId} {c : Value} {n : Nat} {y : DataW H × List MemPlace} (ht : P.underlying t = some .bool) (h : DataW.trod enc P w base spare held n t [c] = some y) : ∃ a, c = .bool a := by
  obtain ⟨a, e, _⟩ := DataW.trod_bool ht h
  simp at e
  exact ⟨a, e⟩
end
end Go.Proofs.Ytadgagndfmdjmaa.Opn
