/- culvertlaw03.SeqnoTakes returns true for every two distances, and leaves its arguments as they were; no condition. -/
import Derived.Test.YtphbomcemcipeaaRows
import Derived.Test.YtphbomcemcipeaaOpn
import Derived.Test.YtphbomcemcipeaaSqU
import Derived.WalkKit
import Derived.ProofKit
import Derived.OpenShut
import Derived.ShutString
import Derived.ChangeOld
import Derived.Below
import Derived.SizedLaws
namespace Go.Proofs.Ytphbomcemcipeaa.seqnoTakes
open Go.ChangeShapes Go.WideShapes Go.ChangeAt Go.RowKit Go.Proofs.Ytphbomcemcipeaa.Opn Go.Proofs.YtphbomcemcipeaaW.PrintWords
open Go.ChangeMaps (open_string shut_string)
set_option linter.unusedVariables false
theorem own : ownKnob Try.prog.godebug = none := by kernel_rfl
theorem laidOut : laidOutB Try.prog = true := by kernel_rfl
set_option maxRecDepth 100000 in
theorem lifted (os : Os) (started : os.Started) (H : Type) (enc : TypeId × Value → H) :
    ReturnsInHanded {} Try.checked os 7 .any (Rows.seqnoTakesSpec.pre6 enc Try.prog Try.f7 Rows.seqnoTakesRow.domain false) (Rows.seqnoTakesSpec.post enc Try.prog Try.f7 false true false false) := by
  refine returnsInHanded_of_change_sized (C := Try.checked) own started (by kernel_rfl) Try.func7
    (ChangeSpec.witness6 (enc := enc) (C := Try.checked) false ⟨#[], #[.agg #[.int .u16 0, .int .u16 0], .agg #[.int .u16 0, .int .u16 0]], []⟩ 8 (by kernel_rfl) (by kernel_rfl) (by kernel_rfl) (by kernel_rfl)) ?_
  intro W base args ds gs before hval0 hW hcnd hsz0 _
  have hval : ∀ (j : Nat) t v, Try.f7.params[j]? = some t → args[j]? = some v → Value.okWide Try.prog W .any base t v := hval0
  have hW' := hW
  obtain ⟨p, q, hA0, hV, rfl, hfz, hnd⟩ := hW
  have hA : DataW.TrodAll enc Try.prog W 0 (fun _ => true) true Try.f7.params.toList args.toList ds p := hA0
  rw [Try.params7] at hA hval
  have hAll := hA
  obtain ⟨v0, vs0, d0, ds0, p0, q0, hargs, rfl, rfl, h0, r0⟩ := trodAll_cons hA
  obtain ⟨v1, vs1, d1, ds1, p1, q1, rfl, rfl, rfl, h1, r1⟩ := trodAll_cons r0
  obtain ⟨rfl, rfl, rfl⟩ := trodAll_nil r1
  obtain rfl : args = #[v0, v1] := by cases args; simp_all
  obtain ⟨rfl, rfl⟩ := trodVars_none hV
  obtain ⟨cs0, rfl, z0⟩ := okWide_struct Try.underlying35 (hval 0 35 v0 rfl rfl)
  obtain ⟨⟨a0, a1⟩, e0, wa0, wa1⟩ : ∃ y : Int × Int, cs0.toList = [.int .u16 y.1, .int .u16 y.2] ∧ (Lit.int .u16 y.1).wf = true ∧ (Lit.int .u16 y.2).wf = true := by
    obtain ⟨fuel, hf⟩ := h0
    exact two_cells Try.underlying35 rfl rfl rfl rfl Try.underlying22 Try.underlying22 (by kernel_rfl) (by kernel_rfl) (by rw [Array.length_toList, z0]; kernel_rfl) hf
  obtain rfl : cs0 = #[.int .u16 a0, .int .u16 a1] := by cases cs0; simp_all
  obtain ⟨cs1, rfl, z1⟩ := okWide_struct Try.underlying35 (hval 1 35 v1 rfl rfl)
  obtain ⟨⟨b0, b1⟩, e1, wb0, wb1⟩ : ∃ y : Int × Int, cs1.toList = [.int .u16 y.1, .int .u16 y.2] ∧ (Lit.int .u16 y.1).wf = true ∧ (Lit.int .u16 y.2).wf = true := by
    obtain ⟨fuel, hf⟩ := h1
    exact two_cells Try.underlying35 rfl rfl rfl rfl Try.underlying22 Try.underlying22 (by kernel_rfl) (by kernel_rfl) (by rw [Array.length_toList, z1]; kernel_rfl) hf
  obtain rfl : cs1 = #[.int .u16 b0, .int .u16 b1] := by cases cs1; simp_all
  refine (SqT.takes_any a0 a1 b0 b1 W wa0 wa1 wb0 wb1).mono fun e W' ⟨he, bel⟩ => ?_
  subst he
  exact ⟨_, rfl, _, _, _, [], _, [], hW', trodAll_mk1 (shut_bool Try.underlying4 _), rows_stay laidOut bel _ _ _ _ (by kernel_rfl) hAll, rfl, bel.frame _, fun h => by cases h⟩
theorem over : Rows.seqnoTakesRow.holds Try.pinned (OpenSpec.ofChange Rows.seqnoTakesSpec) :=
  OpenClaim.holds_of_wide 7 Try.f7 rfl rfl rfl rfl rfl rfl rfl ⟨rfl, rfl, rfl, rfl, rfl⟩ rfl rfl rfl rfl rfl (by kernel_rfl) Try.func7 (by kernel_rfl)
    (of_decide_eq_true (by kernel_rfl)) (by unfold Func.isWrapper; first | (rw [if_pos (by decide +kernel)]; kernel_rfl) | (rw [if_neg (by decide +kernel)]; exact ⟨rfl, rfl⟩))
    (fun os started H enc _ => lifted os started H enc)
theorem proved : Rows.SeqnoTakesSaid := over
#print axioms proved
end Go.Proofs.Ytphbomcemcipeaa.seqnoTakes
namespace Go.Proofs.Ytphbomcemcipeaa
/-- The row, under a short name, for the claim. -/
theorem seqnoTakes_holds : Rows.SeqnoTakesSaid := seqnoTakes.proved
end Go.Proofs.Ytphbomcemcipeaa

