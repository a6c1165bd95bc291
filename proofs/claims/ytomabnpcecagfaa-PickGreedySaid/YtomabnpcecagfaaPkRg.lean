/- Ways, as they read: opened; the law's walk joined to its plain law. -/
import Derived.Test.YtomabnpcecagfaaOpn
import Derived.Test.YtomabnpcecagfaaPkG
import Derived.Test.YtomabnpcecagfaaMPgx3
import Derived.Test.YtomabnpcecagfaaRows
namespace Go.Proofs.Ytomabnpcecagfaa.PkRg
open Go.RowKit Go.Proofs.Ytomabnpcecagfaa.MPg Go.Proofs.Ytomabnpcecagfaa.PkCg Go.Proofs.Ytomabnpcecagfaa.Opn Go.Proofs.YtomabnpcecagfaaW.PrintWords Go.Proofs.YtomabnpcecagfaaW.PrintLast

def KC (x : S34) (cs : List Value) : Prop := cs = [.int .u16 x.f0, .bool x.f1, .bool x.f2] ∧ (Lit.int .u16 x.f0).wf = true
theorem of16 {m : Int} (h : (Lit.int .u16 m).wf = true) : 0 ≤ m ∧ m ≤ 65535 := by
  simpa [Lit.wf, IntKind.min, IntKind.max, IntKind.bits, IntKind.signed] using h
section
variable {H : Type} {enc : TypeId × Value → H} {w : World} {base : Nat} {spare : Nat → Bool} {held : Bool}
theorem way {fuel : Nat} {cs : List Value} {x : DataW H × List MemPlace} (hl : cs.length = 3) (h : DataW.trod enc Try.prog w base spare held fuel 34 cs = some x) : ∃ y, KC y cs := by
  obtain ⟨c0, c1, c2, y0, y1, y2, n, rfl, h0, h1, h2⟩ := three_cells (tA := 22) (tB := 4) (tC := 4) Try.underlying34 rfl rfl rfl rfl rfl rfl (by kernel_rfl) (by kernel_rfl) (by kernel_rfl) hl h
  obtain ⟨a, rfl, wa⟩ := cell_int Try.underlying22 h0
  obtain ⟨b, rfl⟩ := cell_bool Try.underlying4 h1
  obtain ⟨c, rfl⟩ := cell_bool Try.underlying4 h2
  exact ⟨⟨a, b, c⟩, rfl, wa⟩
end
theorem ways_C {w : World} {A : Option Addr} {n : Nat} {xs : List S34} (h : ReadsRow KC 3 w A n xs) : Kd.C k34 w A xs.length xs ∧ In16 xs := by
  refine ⟨?_, fun x hx => ?_⟩
  · rw [h.1]
    exact h.imp_ (Below.refl _ _) (fun x c hk => by rw [hk.1]; exact k34_mk w x)
  · obtain ⟨c, hk⟩ := rows_mem h hx
    exact of16 hk.2
theorem greedy_any (A : Option Addr) (n c : Nat) (xs : List S34) (w : World) (h : ReadsRow KC 3 w A n xs) (hc : n ≤ c) :
    Calls Try.prog 6 #[.slice A n c] w fun e w' => e = .returned (.bool true) ∧ Below w.heap.size w w' := by
  have hC := ways_C h
  have h1 := h.1
  subst h1
  exact PGreed.calls 4000 A c xs true w hC.1 hc (greedy_true hC.2)
end Go.Proofs.Ytomabnpcecagfaa.PkRg
