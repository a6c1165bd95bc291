/- The plain statement of SeqnoCounts: the program's Less, Plus, Sum answer as the document's, and Since undone gives the clock: for every input. -/
import Derived.Test.YtphbomcemcipeaaMSqLx1
import Derived.Test.YtphbomcemcipeaaSqP
namespace Go.Proofs.Ytphbomcemcipeaa.Pure
open Go.RowKit Go.Proofs.Ytphbomcemcipeaa.MSqL Go.Proofs.Ytphbomcemcipeaa.SqP Go.Proofs.YtphbomcemcipeaaW.PrintWords Go.Proofs.YtphbomcemcipeaaW.PrintLast

theorem SeqnoCounts : culvertlaw03_SeqnoCounts.Pure := by
  intro a0 a1 a2 l3 a4 a5 h0 h1 h2 hm hs hl h4 h5
  have g0 := of16 h0
  have g1 := of16 h1
  have g2 := of64 h2
  have g4 := of32 h4
  have g5 := of32 h5
  have gl : In16 l3 := fun x hx => of16 (hl x hx)
  refine ⟨l3.length + 1, ?_⟩
  unfold culvertlaw03_SeqnoCounts.f
  split
  · rfl
  · rw [less_is, refless_is g0 g1, sum_is l3 gl (by omega) _ (by omega), refsum_is l3 gl (by omega) _ (by omega)]
    simp only [Option.bind_some, beq_self_eq_true, if_true]
    unfold seqno_Plus.f culvertref03_Plus.f seqno_Since.f culvertlaw03_live.f
    simp only [Option.bind_some]
    have e1 : Int.tmod a2 65536 = if 0 ≤ a2 then a2 % 65536 else -((-a2) % 65536) := by
      split
      · rw [Int.tmod_eq_emod_of_nonneg (by omega)]
      · have : a2 = -(-a2) := by omega
        rw [this, Int.neg_tmod, Int.tmod_eq_emod_of_nonneg (by omega)]; omega
    rw [wrap16, wrap16, wrap16, e1, w64 (a := a0) (by omega) (by omega)]
    have e2 : -65536 < (if 0 ≤ a2 then a2 % 65536 else -((-a2) % 65536)) ∧ (if 0 ≤ a2 then a2 % 65536 else -((-a2) % 65536)) < 65536 ∧ (a0 + a2 % 65536) % 65536 = (a0 + (if 0 ≤ a2 then a2 % 65536 else -((-a2) % 65536)) + 65536) % 65536 := by
      split <;> omega
    obtain ⟨p1, p2, p3⟩ := e2
    generalize (if 0 ≤ a2 then a2 % 65536 else -((-a2) % 65536)) = t at *
    rw [w64 (a := a0 + t) (by omega) (by omega), w64 (a := a0 + t + 65536) (by omega) (by omega), Int.tmod_eq_emod_of_nonneg (by omega), if_pos (by omega), if_pos (by omega)]

end Go.Proofs.Ytphbomcemcipeaa.Pure
