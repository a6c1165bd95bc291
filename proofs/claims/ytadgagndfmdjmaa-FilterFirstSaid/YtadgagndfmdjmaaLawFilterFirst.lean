/- culvertlaw10.FilterFirst returns true for every two lists of rules and every route, and leaves its arguments as they were; no condition. -/
import Derived.Test.YtadgagndfmdjmaaRows
import Derived.Test.YtadgagndfmdjmaaOpn
import Derived.Test.YtadgagndfmdjmaaFlR
import Derived.Test.YtadgagndfmdjmaaFlT
import Derived.WalkKit
import Derived.ProofKit
import Derived.OpenShut
import Derived.ShutString
import Derived.ChangeOld
import Derived.Below
import Derived.SizedLaws
namespace Go.Proofs.Ytadgagndfmdjmaa.filterFirst
open Go.ChangeShapes Go.WideShapes Go.ChangeAt Go.RowKit Go.Proofs.Ytadgagndfmdjmaa.Opn Go.Proofs.YtadgagndfmdjmaaW.PrintWords
open Go.ChangeMaps (open_string shut_string)
set_option linter.unusedVariables false
theorem own : ownKnob Try.prog.godebug = none := by kernel_rfl
theorem laidOut : laidOutB Try.prog = true := by kernel_rfl
set_option maxRecDepth 100000 in
theorem lifted (os : Os) (started : os.Started) (H : Type) (enc : TypeId × Value → H) :
    ReturnsInHanded {} Try.checked os 4 .any (Rows.filterFirstSpec.pre6 enc Try.prog Try.f4 Rows.filterFirstRow.domain false) (Rows.filterFirstSpec.post enc Try.prog Try.f4 false true false false) := by
  refine returnsInHanded_of_change_sized (C := Try.checked) own started (by kernel_rfl) Try.func4
    (ChangeSpec.witness6 (enc := enc) (C := Try.checked) false ⟨#[], #[.slice none 0 0, .slice none 0 0, .int .i64 0, .string ⟨#[]⟩, .agg #[.int .u8 0, .int .u8 0, .int .u8 0, .int .u8 0, .int .u8 0, .int .u8 0, .int .u8 0, .int .u8 0, .int .u8 0, .int .u8 0, .int .u8 0, .int .u8 0, .int .u8 0, .int .u8 0, .int .u8 0, .int .u8 0, .int .i64 0, .int .u8 0, .int .u8 0, .int .u8 0, .int .u8 0, .int .u8 0, .int .u8 0, .int .u8 0, .int .u8 0, .int .u8 0, .int .u8 0, .int .u8 0, .int .u8 0, .int .u8 0, .int .u8 0, .int .u8 0, .int .u8 0, .int .i64 0], .agg #[.int .u8 0, .int .u8 0, .int .u8 0, .int .u8 0, .int .u8 0, .int .u8 0, .int .u8 0, .int .u8 0], .int .u16 0], []⟩ 8 (by kernel_rfl) (by kernel_rfl) (by kernel_rfl) (by kernel_rfl)) ?_
  intro W base args ds gs before hval0 hW hcnd hsz0 _
  have hval : ∀ (j : Nat) t v, Try.f4.params[j]? = some t → args[j]? = some v → Value.okWide Try.prog W .any base t v := hval0
  have hW' := hW
  obtain ⟨p, q, hA0, hV, rfl, hfz, hnd⟩ := hW
  have hA : DataW.TrodAll enc Try.prog W 0 (fun _ => true) true Try.f4.params.toList args.toList ds p := hA0
  rw [Try.params4] at hA hval
  have hAll := hA
  obtain ⟨v0, vs0, d0, ds0, p0, q0, hargs, rfl, rfl, h0, r0⟩ := trodAll_cons hA
  obtain ⟨v1, vs1, d1, ds1, p1, q1, rfl, rfl, rfl, h1, r1⟩ := trodAll_cons r0
  obtain ⟨v2, vs2, d2, ds2, p2, q2, rfl, rfl, rfl, h2, r2⟩ := trodAll_cons r1
  obtain ⟨v3, vs3, d3, ds3, p3, q3, rfl, rfl, rfl, h3, r3⟩ := trodAll_cons r2
  obtain ⟨v4, vs4, d4, ds4, p4, q4, rfl, rfl, rfl, h4, r4⟩ := trodAll_cons r3
  obtain ⟨v5, vs5, d5, ds5, p5, q5, rfl, rfl, rfl, h5, r5⟩ := trodAll_cons r4
  obtain ⟨v6, vs6, d6, ds6, p6, q6, rfl, rfl, rfl, h6, r6⟩ := trodAll_cons r5
  obtain ⟨rfl, rfl, rfl⟩ := trodAll_nil r6
  obtain rfl : args = #[v0, v1, v2, v3, v4, v5, v6] := by cases args; simp_all
  obtain ⟨rfl, rfl⟩ := trodVars_none hV
  obtain ⟨A0, n0, c0, rfl⟩ := okWide_slice Try.underlying22 (hval 0 22 v0 rfl rfl)
  obtain ⟨l, hl, capl⟩ := slice_rows (K := Fl.KR) (sz := 50) Try.underlying22 (by kernel_rfl) (fun fuel cs x hl hx => Fl.open_rul hl hx) h0
  have hn0 := hl.1
  subst hn0
  obtain ⟨A1, n1, c1, rfl⟩ := okWide_slice Try.underlying22 (hval 1 22 v1 rfl rfl)
  obtain ⟨more, hmore, capmore⟩ := slice_rows (K := Fl.KR) (sz := 50) Try.underlying22 (by kernel_rfl) (fun fuel cs x hl hx => Fl.open_rul hl hx) h1
  have hn1 := hmore.1
  subst hn1
  obtain ⟨chain, rfl, rfl, rfl, wchain⟩ := open_int Try.underlying3 (hval 2 3 v2 rfl rfl) h2
  obtain ⟨name, rfl, rfl, rfl, wname⟩ := open_string Try.underlying9 (hval 3 9 v3 rfl rfl) h3
  obtain ⟨cs4, rfl, z4⟩ := okWide_struct Try.underlying28 (hval 4 28 v4 rfl rfl)
  obtain ⟨q, eq, hq, hL⟩ : ∃ q : Fl.Par, cs4.toList = Fl.qc q ∧ q.Ok ∧ Fl.In64 q.D.L := by
    obtain ⟨fuel, hf⟩ := h4
    exact Fl.open_par (by rw [Array.length_toList, z4]; kernel_rfl) hf
  obtain rfl : cs4 = (Fl.qc q).toArray := by rw [← eq]
  obtain ⟨cs5, rfl, z5⟩ := Fl.okWide_array Try.underlying30 (hval 5 30 v5 rfl rfl)
  obtain ⟨id, hid, ei⟩ : ∃ a : List UInt8, a.length = 8 ∧ cs5.toList = Fl.bs a := by
    obtain ⟨fuel, hf⟩ := h5
    exact Fl.open_bytes Try.underlying30 (by rw [Array.length_toList, z5]; kernel_rfl) hf
  obtain rfl : cs5 = (Fl.bs id).toArray := by rw [← ei]
  obtain ⟨m, rfl, rfl, rfl, wm⟩ := open_int Try.underlying31 (hval 6 31 v6 rfl rfl) h6
  refine (Fl.law_first A0 c0 l A1 c1 more chain name q hq hL id hid m (Fl.of16 wm) W (Fl.rows_RD hl).1 (Fl.rows_RD hmore).1 capl).mono fun e W' ⟨he, bel⟩ => ?_
  subst he
  exact ⟨_, rfl, _, _, _, [], _, [], hW', trodAll_mk1 (shut_bool Try.underlying4 _), rows_stay laidOut bel _ _ _ _ (by kernel_rfl) hAll, rfl, bel.frame _, fun h => by cases h⟩
theorem over : Rows.filterFirstRow.holds Try.pinned (OpenSpec.ofChange Rows.filterFirstSpec) :=
  OpenClaim.holds_of_wide 4 Try.f4 rfl rfl rfl rfl rfl rfl rfl ⟨rfl, rfl, rfl, rfl, rfl⟩ rfl rfl rfl rfl rfl (by kernel_rfl) Try.func4 (by kernel_rfl)
    (of_decide_eq_true (by kernel_rfl)) (by unfold Func.isWrapper; first | (rw [if_pos (by decide +kernel)]; kernel_rfl) | (rw [if_neg (by decide +kernel)]; exact ⟨rfl, rfl⟩))
    (fun os started H enc _ => lifted os started H enc)
theorem proved : Rows.FilterFirstSaid := over
#print axioms proved
end Go.Proofs.Ytadgagndfmdjmaa.filterFirst
namespace Go.Proofs.Ytadgagndfmdjmaa
/-- The row, under a short name, for the claim. -/
theorem filterFirst_holds : Rows.FilterFirstSaid := filterFirst.proved
end Go.Proofs.Ytadgagndfmdjmaa

