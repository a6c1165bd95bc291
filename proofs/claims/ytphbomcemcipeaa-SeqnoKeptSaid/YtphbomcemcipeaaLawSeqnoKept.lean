/- culvertlaw03.SeqnoKept returns true for every list of distances and every distance, and leaves its arguments as they were; no condition. -/
import Derived.Test.YtphbomcemcipeaaRows
import Derived.Test.YtphbomcemcipeaaOpn
import Derived.Test.YtphbomcemcipeaaSqV
import Derived.WalkKit
import Derived.ProofKit
import Derived.OpenShut
import Derived.ShutString
import Derived.ChangeOld
import Derived.Below
import Derived.SizedLaws
namespace Go.Proofs.Ytphbomcemcipeaa.seqnoKept
open Go.ChangeShapes Go.WideShapes Go.ChangeAt Go.RowKit Go.Proofs.Ytphbomcemcipeaa.Opn Go.Proofs.YtphbomcemcipeaaW.PrintWords
open Go.ChangeMaps (open_string shut_string)
set_option linter.unusedVariables false
theorem own : ownKnob Try.prog.godebug = none := by kernel_rfl
theorem laidOut : laidOutB Try.prog = true := by kernel_rfl
set_option maxRecDepth 100000 in
theorem lifted (os : Os) (started : os.Started) (H : Type) (enc : TypeId × Value → H) :
    ReturnsInHanded {} Try.checked os 6 .any (Rows.seqnoKeptSpec.pre6 enc Try.prog Try.f6 Rows.seqnoKeptRow.domain false) (Rows.seqnoKeptSpec.post enc Try.prog Try.f6 false true false false) := by
  refine returnsInHanded_of_change_sized (C := Try.checked) own started (by kernel_rfl) Try.func6
    (ChangeSpec.witness6 (enc := enc) (C := Try.checked) false ⟨#[], #[.slice none 0 0, .agg #[.int .u16 0, .int .u16 0]], []⟩ 8 (by kernel_rfl) (by kernel_rfl) (by kernel_rfl) (by kernel_rfl)) ?_
  intro W base args ds gs before hval0 hW hcnd hsz0 _
  have hval : ∀ (j : Nat) t v, Try.f6.params[j]? = some t → args[j]? = some v → Value.okWide Try.prog W .any base t v := hval0
  have hW' := hW
  obtain ⟨p, q, hA0, hV, rfl, hfz, hnd⟩ := hW
  have hA : DataW.TrodAll enc Try.prog W 0 (fun _ => true) true Try.f6.params.toList args.toList ds p := hA0
  rw [Try.params6] at hA hval
  have hAll := hA
  obtain ⟨v0, vs0, d0, ds0, p0, q0, hargs, rfl, rfl, h0, r0⟩ := trodAll_cons hA
  obtain ⟨v1, vs1, d1, ds1, p1, q1, rfl, rfl, rfl, h1, r1⟩ := trodAll_cons r0
  obtain ⟨rfl, rfl, rfl⟩ := trodAll_nil r1
  obtain rfl : args = #[v0, v1] := by cases args; simp_all
  obtain ⟨rfl, rfl⟩ := trodVars_none hV
  obtain ⟨A0, n0, c0, rfl⟩ := okWide_slice Try.underlying33 (hval 0 33 v0 rfl rfl)
  obtain ⟨xs, hxs, _⟩ := slice_rows (K := SqV.Two) (sz := 2) Try.underlying33 (by kernel_rfl) (fun fuel cs x hl hx => two_cells Try.underlying35 rfl rfl rfl rfl Try.underlying22 Try.underlying22 (by kernel_rfl) (by kernel_rfl) hl hx) h0
  obtain ⟨cs1, rfl, z1⟩ := okWide_struct Try.underlying35 (hval 1 35 v1 rfl rfl)
  obtain ⟨⟨d0, d1⟩, e1, wd0, wd1⟩ : ∃ y : Int × Int, cs1.toList = [.int .u16 y.1, .int .u16 y.2] ∧ (Lit.int .u16 y.1).wf = true ∧ (Lit.int .u16 y.2).wf = true := by
    obtain ⟨fuel, hf⟩ := h1
    exact two_cells Try.underlying35 rfl rfl rfl rfl Try.underlying22 Try.underlying22 (by kernel_rfl) (by kernel_rfl) (by rw [Array.length_toList, z1]; kernel_rfl) hf
  obtain rfl : cs1 = #[.int .u16 d0, .int .u16 d1] := by cases cs1; simp_all
  refine (SqV.kept_any A0 n0 c0 xs d0 d1 W hxs wd0 wd1).mono fun e W' ⟨he, bel⟩ => ?_
  subst he
  exact ⟨_, rfl, _, _, _, [], _, [], hW', trodAll_mk1 (shut_bool Try.underlying4 _), rows_stay laidOut bel _ _ _ _ (by kernel_rfl) hAll, rfl, bel.frame _, fun h => by cases h⟩
theorem over : Rows.seqnoKeptRow.holds Try.pinned (OpenSpec.ofChange Rows.seqnoKeptSpec) :=
  OpenClaim.holds_of_wide 6 Try.f6 rfl rfl rfl rfl rfl rfl rfl ⟨rfl, rfl, rfl, rfl, rfl⟩ rfl rfl rfl rfl rfl (by kernel_rfl) Try.func6 (by kernel_rfl)
    (of_decide_eq_true (by kernel_rfl)) (by unfold Func.isWrapper; first | (rw [if_pos (by decide +kernel)]; kernel_rfl) | (rw [if_neg (by decide +kernel)]; exact ⟨rfl, rfl⟩))
    (fun os started H enc _ => lifted os started H enc)
theorem proved : Rows.SeqnoKeptSaid := over
#print axioms proved
end Go.Proofs.Ytphbomcemcipeaa.seqnoKept
namespace Go.Proofs.Ytphbomcemcipeaa
/-- The row, under a short name, for the claim. -/
theorem seqnoKept_holds : Rows.SeqnoKeptSaid := seqnoKept.proved
end Go.Proofs.Ytphbomcemcipeaa

