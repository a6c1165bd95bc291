/- The plain statement of SeqnoOnce: of two unlike seqnos that are not half the way apart just one is less: for every two of 16 bits. -/
import Derived.Test.YtphbomcemcipeaaMSqLx1
import Derived.Test.YtphbomcemcipeaaSqP
namespace Go.Proofs.Ytphbomcemcipeaa.Pure
open Go.RowKit Go.Proofs.Ytphbomcemcipeaa.MSqL Go.Proofs.Ytphbomcemcipeaa.SqP Go.Proofs.YtphbomcemcipeaaW.PrintWords Go.Proofs.YtphbomcemcipeaaW.PrintLast

theorem SeqnoOnce : culvertlaw03_SeqnoOnce.Pure := by
  intro a0 a1 h0 h1
  have g0 := of16 h0
  have g1 := of16 h1
  refine ⟨1, ?_⟩
  unfold culvertlaw03_SeqnoOnce.f
  rw [wrap16]
  have yes : (a0 - a1) % 65536 = 0 ∨ (a0 - a1) % 65536 = 32768 → culvertlaw03_SeqnoOnce.j0 1 a0 a1 true = some true := by
    intro h
    simp only [culvertlaw03_SeqnoOnce.j0, less_is, if_true, Option.bind_some]
    rw [if_neg (by rw [decide_eq_true_iff]; omega), if_neg (by rw [decide_eq_true_iff]; omega)]
    rfl
  have no : ¬ (a0 - a1) % 65536 = 0 → ¬ (a0 - a1) % 65536 = 32768 → culvertlaw03_SeqnoOnce.j0 1 a0 a1 false = some true := by
    intro h h'
    simp only [culvertlaw03_SeqnoOnce.j0, less_is, Option.bind_some]
    rw [if_neg (by decide), if_pos (by
      rw [bne_iff_ne, ne_eq, decide_eq_decide]; omega)]
    unfold seqno_Plus.f
    rw [w64 (a := a0) (by omega) (by omega), w64 (a := a1) (by omega) (by omega), w64 (by omega) (by omega), wrap16, wrap16]
    simp only [Option.bind_some]
    rw [if_pos (by omega)]
    rfl
  by_cases h : (a0 - a1) % 65536 = 0
  · rw [if_pos h]; exact yes (.inl h)
  · rw [if_neg h]
    by_cases h' : (a0 - a1) % 65536 = 32768
    · rw [show ((a0 - a1) % 65536 == 32768) = true by rw [h']; rfl]; exact yes (.inr h')
    · rw [show ((a0 - a1) % 65536 == 32768) = false by rw [beq_eq_false_iff_ne]; exact h']; exact no h h'

end Go.Proofs.Ytphbomcemcipeaa.Pure
