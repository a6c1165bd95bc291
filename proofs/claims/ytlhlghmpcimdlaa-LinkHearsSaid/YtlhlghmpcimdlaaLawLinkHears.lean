/- culvertlaw11.LinkHears returns true for every history and every list of acts, and leaves its arguments as they were; no condition. -/
import Derived.Test.YtlhlghmpcimdlaaRows
import Derived.Test.YtlhlghmpcimdlaaOpn
import Derived.Test.YtlhlghmpcimdlaaLnR
import Derived.WalkKit
import Derived.ProofKit
import Derived.OpenShut
import Derived.ShutString
import Derived.ChangeOld
import Derived.Below
import Derived.SizedLaws
namespace Go.Proofs.Ytlhlghmpcimdlaa.linkHears
open Go.ChangeShapes Go.WideShapes Go.ChangeAt Go.RowKit Go.Proofs.Ytlhlghmpcimdlaa.Opn Go.Proofs.YtlhlghmpcimdlaaW.PrintWords
open Go.ChangeMaps (open_string shut_string)
set_option linter.unusedVariables false
theorem own : ownKnob Try.prog.godebug = none := by kernel_rfl
theorem laidOut : laidOutB Try.prog = true := by kernel_rfl
set_option maxRecDepth 100000 in
theorem lifted (os : Os) (started : os.Started) (H : Type) (enc : TypeId × Value → H) :
    ReturnsInHanded {} Try.checked os 3 .any (Rows.linkHearsSpec.pre6 enc Try.prog Try.f3 Rows.linkHearsRow.domain false) (Rows.linkHearsSpec.post enc Try.prog Try.f3 false true false false) := by
  refine returnsInHanded_of_change_sized (C := Try.checked) own started (by kernel_rfl) Try.func3
    (ChangeSpec.witness6 (enc := enc) (C := Try.checked) false ⟨#[], #[.agg #[.int .u16 0, .int .u16 0, .bool false], .slice none 0 0], []⟩ 8 (by kernel_rfl) (by kernel_rfl) (by kernel_rfl) (by kernel_rfl)) ?_
  intro W base args ds gs before hval0 hW hcnd hsz0 _
  have hval : ∀ (j : Nat) t v, Try.f3.params[j]? = some t → args[j]? = some v → Value.okWide Try.prog W .any base t v := hval0
  have hW' := hW
  obtain ⟨p, q, hA0, hV, rfl, hfz, hnd⟩ := hW
  have hA : DataW.TrodAll enc Try.prog W 0 (fun _ => true) true Try.f3.params.toList args.toList ds p := hA0
  rw [Try.params3] at hA hval
  have hAll := hA
  obtain ⟨v0, vs0, d0, ds0, p0, q0, hargs, rfl, rfl, h0, r0⟩ := trodAll_cons hA
  obtain ⟨v1, vs1, d1, ds1, p1, q1, rfl, rfl, rfl, h1, r1⟩ := trodAll_cons r0
  obtain ⟨rfl, rfl, rfl⟩ := trodAll_nil r1
  obtain rfl : args = #[v0, v1] := by cases args; simp_all
  obtain ⟨rfl, rfl⟩ := trodVars_none hV
  obtain ⟨cs0, rfl, z0⟩ := okWide_struct Try.underlying24 (hval 0 24 v0 rfl rfl)
  obtain ⟨⟨b, n, q⟩, e0, wb, wn⟩ : ∃ y, LnR.KH y cs0.toList := by
    obtain ⟨fuel, hf⟩ := h0
    exact LnR.hist (by rw [Array.length_toList, z0]; kernel_rfl) hf
  obtain rfl : cs0 = #[.int .u16 b, .int .u16 n, .bool q] := by cases cs0; simp_all
  obtain ⟨A1, n1, c1, rfl⟩ := okWide_slice Try.underlying25 (hval 1 25 v1 rfl rfl)
  obtain ⟨xs, hxs, hcap⟩ := slice_rows (K := LnR.KA) (sz := 3) Try.underlying25 (by kernel_rfl) (fun fuel cs x hl hx => LnR.act hl hx) h1
  refine (LnR.hears_any b n q A1 n1 c1 xs W hxs hcap wb wn).mono fun e W' ⟨he, bel⟩ => ?_
  subst he
  exact ⟨_, rfl, _, _, _, [], _, [], hW', trodAll_mk1 (shut_bool Try.underlying4 _), rows_stay laidOut bel _ _ _ _ (by kernel_rfl) hAll, rfl, bel.frame _, fun h => by cases h⟩
theorem over : Rows.linkHearsRow.holds Try.pinned (OpenSpec.ofChange Rows.linkHearsSpec) :=
  OpenClaim.holds_of_wide 3 Try.f3 rfl rfl rfl rfl rfl rfl rfl ⟨rfl, rfl, rfl, rfl, rfl⟩ rfl rfl rfl rfl rfl (by kernel_rfl) Try.func3 (by kernel_rfl)
    (of_decide_eq_true (by kernel_rfl)) (by unfold Func.isWrapper; first | (rw [if_pos (by decide +kernel)]; kernel_rfl) | (rw [if_neg (by decide +kernel)]; exact ⟨rfl, rfl⟩))
    (fun os started H enc _ => lifted os started H enc)
theorem proved : Rows.LinkHearsSaid := over
#print axioms proved
end Go.Proofs.Ytlhlghmpcimdlaa.linkHears
namespace Go.Proofs.Ytlhlghmpcimdlaa
/-- The row, under a short name, for the claim. -/
theorem linkHears_holds : Rows.LinkHearsSaid := linkHears.proved
end Go.Proofs.Ytlhlghmpcimdlaa

