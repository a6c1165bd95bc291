/- SeqnoTakes returns true for every two distances: the walks joined. -/
import Derived.Test.YtphbomcemcipeaaSqT
namespace Go.Proofs.Ytphbomcemcipeaa.SqT
open Go.RowKit Go.Proofs.Ytphbomcemcipeaa.MSq Go.Proofs.Ytphbomcemcipeaa.Sq Go.Proofs.YtphbomcemcipeaaW.PrintWords Go.Proofs.YtphbomcemcipeaaW.PrintLast

theorem better_is (a0 a1 b0 b1 : Int) : seqno_Better.f a0 a1 b0 b1 = some (if a0 = b0 then decide (a1 < b1) else decide (b0 ≠ a0 ∧ (a0 - b0) % 65536 < 32768)) := by
  unfold seqno_Better.f seqno_Less.f
  rw [SqP.wrap16]
  by_cases h : a0 = b0
  · rw [if_pos h, if_pos h]
  · rw [if_neg h, if_neg h, if_neg (fun e => h e.symm)]
    have h' : ¬ b0 = a0 := fun e => h e.symm
    simp [h']

theorem takes_any (a0 a1 b0 b1 : Int) (w : World) (g0 : (Lit.int .u16 a0).wf = true) (g1 : (Lit.int .u16 a1).wf = true) (g2 : (Lit.int .u16 b0).wf = true) (g3 : (Lit.int .u16 b1).wf = true) :
    Calls Try.prog 7 #[.agg #[.int .u16 a0, .int .u16 a1], .agg #[.int .u16 b0, .int .u16 b1]] w fun e w' => e = .returned (.bool true) ∧ Below w.heap.size w w' := by
  have r0 := SqP.of16 g0
  have r1 := SqP.of16 g1
  have r2 := SqP.of16 g2
  have r3 := SqP.of16 g3
  have ne : ∀ {x y : Int}, x ≠ y → (x == y) = false := fun h => beq_eq_false_iff_ne.2 h
  have nn : ∀ {x y : Int}, x ≠ y → (x != y) = true := fun h => bne_iff_ne.2 h
  by_cases ha : a1 = 65535
  · subst ha; exact takes_inf a0 b0 b1 w
  · by_cases h0 : a0 = b0
    · subst h0
      by_cases h1 : a1 = b1
      · subst h1
        exact takes_C a0 a1 w (ne ha) (by rw [better_is]; simp) (by rw [better_is]; simp) (ne ha) (nn ha)
      · by_cases h2 : a1 < b1
        · exact takes_A a0 a1 b1 w (ne ha) (by rw [better_is]; simp; omega) (by rw [better_is]; simp; omega) (by rw [better_is]; simp) (ne ha) (nn ha) (ne h1) (ne (Ne.symm h1))
        · have h3 : b1 ≠ 65535 := by omega
          exact takes_D a0 a1 b1 w (ne ha) (by rw [better_is]; simp; omega) (by rw [better_is]; simp) (ne h3) (nn h3) (ne h1) (ne (Ne.symm h1))
    · have h0' : ¬ b0 = a0 := fun e => h0 e.symm
      by_cases h2 : (a0 - b0) % 65536 < 32768
      · exact takes_B a0 a1 b0 b1 w (ne ha) (by rw [better_is, if_neg h0]; simp [h0', h2]) (by rw [better_is, if_neg h0']; simp [h0]; omega) (by rw [better_is]; simp) (ne ha) (nn ha) (ne h0) (ne h0')
      · by_cases h3 : b1 = 65535
        · subst h3
          exact takes_E a0 a1 b0 w (ne ha) (by rw [better_is, if_neg h0]; simp [h0', h2]) (ne h0) (ne h0')
        · exact takes_F a0 a1 b0 b1 w (ne ha) (by rw [better_is, if_neg h0]; simp [h0', h2]) (by rw [better_is]; simp) (ne h3) (nn h3) (ne h0) (ne h0')

end Go.Proofs.Ytphbomcemcipeaa.SqT
