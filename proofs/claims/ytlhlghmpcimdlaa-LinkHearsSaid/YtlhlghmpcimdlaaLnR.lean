/- Histories and acts, as they read: opened. -/
import Derived.Test.YtlhlghmpcimdlaaOpn
import Derived.Test.YtlhlghmpcimdlaaLnC
import Derived.Test.YtlhlghmpcimdlaaRows
namespace Go.Proofs.Ytlhlghmpcimdlaa.LnR
open Go.RowKit Go.Proofs.Ytlhlghmpcimdlaa.MLn Go.Proofs.Ytlhlghmpcimdlaa.LnP Go.Proofs.Ytlhlghmpcimdlaa.Opn Go.Proofs.YtlhlghmpcimdlaaW.PrintWords Go.Proofs.YtlhlghmpcimdlaaW.PrintLast

def KH (x : S24) (cs : List Value) : Prop := cs = [.int .u16 x.f0, .int .u16 x.f1, .bool x.f2] ∧ (Lit.int .u16 x.f0).wf = true ∧ (Lit.int .u16 x.f1).wf = true
def KA (x : S28) (cs : List Value) : Prop := cs = [.bool x.f0, .int .i64 x.f1, .int .u16 x.f2] ∧ (Lit.int .i64 x.f1).wf = true ∧ (Lit.int .u16 x.f2).wf = true
section
variable {H : Type} {enc : TypeId × Value → H} {w : World} {base : Nat} {spare : Nat → Bool} {held : Bool}
theorem hist {fuel : Nat} {cs : List Value} {x : DataW H × List MemPlace} (hl : cs.length = 3) (h : DataW.trod enc Try.prog w base spare held fuel 24 cs = some x) : ∃ y, KH y cs := by
  obtain ⟨c0, c1, c2, y0, y1, y2, n, rfl, h0, h1, h2⟩ := three_cells (tA := 22) (tB := 22) (tC := 4) Try.underlying24 rfl rfl rfl rfl rfl rfl (by kernel_rfl) (by kernel_rfl) (by kernel_rfl) hl h
  obtain ⟨a, rfl, wa⟩ := cell_int Try.underlying22 h0
  obtain ⟨b, rfl, wb⟩ := cell_int Try.underlying22 h1
  obtain ⟨c, rfl⟩ := cell_bool Try.underlying4 h2
  exact ⟨⟨a, b, c⟩, rfl, wa, wb⟩
theorem act {fuel : Nat} {cs : List Value} {x : DataW H × List MemPlace} (hl : cs.length = 3) (h : DataW.trod enc Try.prog w base spare held fuel 28 cs = some x) : ∃ y, KA y cs := by
  obtain ⟨c0, c1, c2, y0, y1, y2, n, rfl, h0, h1, h2⟩ := three_cells (tA := 4) (tB := 3) (tC := 22) Try.underlying28 rfl rfl rfl rfl rfl rfl (by kernel_rfl) (by kernel_rfl) (by kernel_rfl) hl h
  obtain ⟨a, rfl⟩ := cell_bool Try.underlying4 h0
  obtain ⟨b, rfl, wb⟩ := cell_int Try.underlying3 h1
  obtain ⟨c, rfl, wc⟩ := cell_int Try.underlying22 h2
  exact ⟨⟨a, b, c⟩, rfl, wb, wc⟩
end
theorem hists_C {w : World} {A : Option Addr} {n : Nat} {xs : List S24} (h : ReadsRow KH 3 w A n xs) : Kd.C k24 w A xs.length xs ∧ InB xs := by
  refine ⟨?_, fun x hx => ?_⟩
  · rw [h.1]
    exact h.imp_ (Below.refl _ _) (fun x c hk => by rw [hk.1]; exact k24_mk w x)
  · obtain ⟨c, hk⟩ := rows_mem h hx
    exact of16 hk.2.1
theorem acts_C {w : World} {A : Option Addr} {n : Nat} {xs : List S28} (h : ReadsRow KA 3 w A n xs) : Kd.C k28 w A xs.length xs ∧ InA xs := by
  refine ⟨?_, fun x hx => ?_⟩
  · rw [h.1]
    exact h.imp_ (Below.refl _ _) (fun x c hk => by rw [hk.1]; exact k28_mk w x)
  · obtain ⟨c, hk⟩ := rows_mem h hx
    exact ⟨(of16 hk.2.2).1, (of16 hk.2.2).2, (of64 hk.2.1).1⟩
theorem bits_any (b n s m : Int) (q : Bool) (w : World) (wb : (Lit.int .u16 b).wf = true) (wn : (Lit.int .u16 n).wf = true) :
    Calls Try.prog 6 #[.agg #[.int .u16 b, .int .u16 n, .bool q], .int .u16 s, .int .i64 m] w fun e w' => e = .returned (.bool true) ∧ Below w.heap.size w w' :=
  culvertlaw11_LinkBits.calls 10 b n q s m true w (bits_true (of16 wb).1 (of16 wb).2 (of16 wn).1 (of16 wn).2)
theorem costs_any (kind cost rx tx : Int) (A : Option Addr) (n c : Nat) (xs : List S24) (w : World) (h : ReadsRow KH 3 w A n xs) (hc : n ≤ c) (wc : (Lit.int .u16 cost).wf = true) (wr : (Lit.int .u16 rx).wf = true) (wt : (Lit.int .u16 tx).wf = true) :
    Calls Try.prog 4 #[.int .i64 kind, .int .u16 cost, .slice A n c, .int .u16 rx, .int .u16 tx] w fun e w' => e = .returned (.bool true) ∧ Below w.heap.size w w' := by
  have hC := hists_C h
  have h1 := h.1
  subst h1
  exact culvertlaw11_LinkCosts.calls 700 kind cost A c xs rx tx true w hC.1 hc (costs_true (of16 wc).1 (of16 wc).2 hC.2 (of16 wr).1 (of16 wr).2 (of16 wt).1 (of16 wt).2)
theorem hears_any (b n0 : Int) (q : Bool) (A : Option Addr) (n c : Nat) (xs : List S28) (w : World) (h : ReadsRow KA 3 w A n xs) (hc : n ≤ c) (wb : (Lit.int .u16 b).wf = true) (wn : (Lit.int .u16 n0).wf = true) :
    Calls Try.prog 3 #[.agg #[.int .u16 b, .int .u16 n0, .bool q], .slice A n c] w fun e w' => e = .returned (.bool true) ∧ Below w.heap.size w w' := by
  have hC := acts_C h
  have h1 := h.1
  subst h1
  obtain ⟨k, hk⟩ : ∃ k : Nat, 300 * 310 + 60 ≤ k := ⟨_, Nat.le_refl _⟩
  exact culvertlaw11_LinkHears.calls k b n0 q A c xs true w hC.1 hc (hears_true (of16 wb).1 (of16 wb).2 (of16 wn).1 (of16 wn).2 hC.2 k hk)
end Go.Proofs.Ytlhlghmpcimdlaa.LnR
