/- The plain statement of SeqnoSums: a sum of metrics is no less than each of them, is the same in any order, and ends at Infinity: for every two lists. -/
import Derived.Test.YtphbomcemcipeaaMSqLx2
import Derived.Test.YtphbomcemcipeaaSqP
namespace Go.Proofs.Ytphbomcemcipeaa.Pure
open Go.RowKit Go.Proofs.Ytphbomcemcipeaa.MSqL Go.Proofs.Ytphbomcemcipeaa.SqP Go.Proofs.YtphbomcemcipeaaW.PrintWords Go.Proofs.YtphbomcemcipeaaW.PrintLast

theorem sums_loop (x0 x1 x5 x6 : List Int) (h0 : In16 x0) (h1 : In16 x1) (h5 : In16 x5) (h6 : In16 x6) (n0 : x0.length ≤ 1000) (n1 : x1.length ≤ 1000) (n5 : x5.length ≤ 1000) (n6 : x6.length ≤ 1000)
    (e6 : tot x6 = tot x5) (e01 : tot x5 = tot x0 + tot x1) (d : Nat) : ∀ (k : Nat) (i : Int), 0 ≤ i → i ≤ x5.length → (x5.length : Int) - i = d → d + 2000 < k →
    culvertlaw03_SeqnoSums.l0 k x0 x1 x5 x6 (sat (tot x5)) i = some true := by
  induction d with
  | zero =>
    intro k i g0 g1 g2 g3
    obtain ⟨k, rfl⟩ : ∃ m, k = m + 1 := ⟨k - 1, by omega⟩
    have p0 := tot_pos h0
    have p1 := tot_pos h1
    simp only [culvertlaw03_SeqnoSums.l0]
    rw [if_neg (by omega), sum_is x6 h6 (by omega) _ (by omega), sum_is x0 h0 (by omega) _ (by omega), sum_is x1 h1 (by omega) _ (by omega)]
    have hs : In16 [sat (tot x0), sat (tot x1)] := by
      intro x hx
      simp only [List.mem_cons, List.not_mem_nil, or_false] at hx
      unfold sat at hx
      rcases hx with rfl | rfl <;> split <;> omega
    simp only [Option.bind_some]
    rw [e6, if_pos rfl, sum_is _ hs (by simp) _ (by simp; omega)]
    simp only [Option.bind_some]
    rw [if_pos (by simp only [tot_cons, tot_nil, sat, e01]; split <;> split <;> split <;> split <;> omega), if_pos (by omega)]
    have hi : In16 (x5 ++ [65535]) := h5.append (by intro x hx; simp at hx; omega)
    rw [sum_is _ hi (by simp; omega) _ (by simp; omega)]
    simp only [Option.bind_some]
    rw [if_pos (by rw [tot_append, tot_cons, tot_nil]; have := tot_pos h5; unfold sat; split <;> omega)]
    rfl
  | succ d ih =>
    intro k i g0 g1 g2 g3
    obtain ⟨k, rfl⟩ : ∃ m, k = m + 1 := ⟨k - 1, by omega⟩
    have hlt : i < (x5.length : Int) := by omega
    have hm := rd_mem g0 hlt
    have ht := tot_mem h5 hm
    have hx := h5 _ hm
    simp only [culvertlaw03_SeqnoSums.l0]
    rw [if_pos hlt, if_pos g0, if_neg (by unfold sat; split <;> omega), w64 (by omega) (by omega)]
    exact ih k (i + 1) (by omega) (by omega) (by omega) (by omega)

theorem SeqnoSums : culvertlaw03_SeqnoSums.Pure := by
  intro l0 l1 hm0 hs0 hl0 hm1 hs1 hl1
  have h0 : In16 l0 := fun x hx => of16 (hl0 x hx)
  have h1 : In16 l1 := fun x hx => of16 (hl1 x hx)
  refine ⟨4000, ?_⟩
  unfold culvertlaw03_SeqnoSums.f
  by_cases c0 : (l0.length : Int) > 200
  · rw [if_pos c0]; rfl
  · rw [if_neg c0]
    by_cases c1 : (l1.length : Int) > 200
    · rw [decide_eq_true c1]; rfl
    · rw [decide_eq_false c1]
      simp only [culvertlaw03_SeqnoSums.j0, Option.bind_some, List.nil_append, List.length_nil, List.length_append]
      rw [if_neg (by decide), if_pos (by omega), if_pos (by omega), if_pos (by omega), if_pos (by omega), sum_is _ (h0.append h1) (by rw [List.length_append]; omega) _ (by rw [List.length_append]; omega)]
      simp only [Option.bind_some]
      exact sums_loop l0 l1 (l0 ++ l1) (l1 ++ l0) h0 h1 (h0.append h1) (h1.append h0) (by omega) (by omega) (by rw [List.length_append]; omega) (by rw [List.length_append]; omega)
        (by rw [tot_append, tot_append]; omega) (tot_append _ _) (l0 ++ l1).length _ 0 (by omega) (by omega) (by omega) (by rw [List.length_append]; omega)

end Go.Proofs.Ytphbomcemcipeaa.Pure
