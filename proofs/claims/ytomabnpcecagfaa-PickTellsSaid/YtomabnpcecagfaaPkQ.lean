/- What PickNone, PickStays and PickGreedy say, over plain lists. -/
import Derived.Test.YtomabnpcecagfaaPkP
namespace Go.Proofs.Ytomabnpcecagfaa.Pk
open Go.RowKit Go.Proofs.Ytomabnpcecagfaa.MPk Go.Proofs.YtomabnpcecagfaaW.PrintWords Go.Proofs.YtomabnpcecagfaaW.PrintLast

theorem usab_none {l : List S34} (h : bestO (usab l) 0 none = none) : usab l = [] := by
  cases hu : usab l with
  | nil => rfl
  | cons x t =>
    have hx : x ∈ usab l := by rw [hu]; exact List.mem_cons_self
    have h1 := best_none (usab l) 0 h x hx
    have h2 : usable x = true := (List.mem_filter.1 hx).2
    rw [h1] at h2; cases h2
theorem pick_none_law (m : Int) (l : List S34) :
    (pickV m l).2 = (pickV m (usab l)).2 ∧ (fstO (bestO l 0 none)).2 = (fstO (bestO (usab l) 0 none)).2 ∧ (pickV m l).2 = decide (0 < (usab l).length) ∧ (fstO (bestO l 0 none)).2 = (pickV m l).2 ∧ starvedV (usab l) = false ∧
    ((pickV m l).2 = true → (0 ≤ (pickV m (usab l)).1 ∧ (pickV m (usab l)).1 < (usab l).length ∧ (pickV m l).1 = rdI (idxs l 0) (pickV m (usab l)).1) ∧
      (0 ≤ (fstO (bestO (usab l) 0 none)).1 ∧ (fstO (bestO (usab l) 0 none)).1 < (usab l).length ∧ (fstO (bestO l 0 none)).1 = rdI (idxs l 0) (fstO (bestO (usab l) 0 none)).1)) := by
  have hA : ∀ t : Int, 0 ≤ t → t < (usab l).length → rdI (idxs l 0) (0 + t) = rdI (idxs l 0) t := fun t _ _ => by rw [Int.zero_add]
  have hr := best_rel (idxs l 0) l 0 0 none none (by omega) hA trivial
  have hi := idx_rel (idxs l 0) l 0 0 (by omega) (by omega) hA
  rw [Int.zero_add] at hr
  unfold pickV starvedV
  cases h1 : bestO l 0 none with
  | none =>
    cases h2 : bestO (usab l) 0 none with
    | none =>
      have hu := usab_none h2
      rw [hu]
      exact ⟨rfl, rfl, rfl, rfl, by decide, fun h => by cases h⟩
    | some q => rw [h1, h2] at hr; exact hr.elim
  | some q =>
    obtain ⟨b, mb⟩ := q
    cases h2 : bestO (usab l) 0 none with
    | none => rw [h1, h2] at hr; exact hr.elim
    | some q' =>
      obtain ⟨b', mb'⟩ := q'
      rw [h1, h2] at hr
      obtain ⟨e, hb0, hb1, hb2⟩ := hr
      refine ⟨rfl, rfl, ?_, rfl, rfl, fun _ => ⟨?_, hb0, hb1, hb2.symm⟩⟩
      · symm; rw [decide_eq_true_iff]; omega
      · have hl := idxs_rd l 0 b' hb0 hb1
        rw [hb2, Int.sub_zero] at hl
        simp only [take]
        rcases hi with ⟨h3, h4⟩ | ⟨h3, h4, h5, h6⟩
        · rw [h3, h4, if_neg (by omega), if_neg (by omega)]
          exact ⟨hb0, hb1, hb2.symm⟩
        · have hm := idxs_rd l 0 (idx sel (usab l) 0) h3 (by omega)
          rw [← h5, Int.sub_zero] at hm
          rw [hl.2.2, hm.2.2]
          by_cases hc : (rd_T34 (usab l) (idx sel (usab l) 0)).f0 - (rd_T34 (usab l) b').f0 ≤ m
          · rw [if_pos ⟨h3, hc⟩, if_pos ⟨h6, hc⟩]
            exact ⟨h3, by omega, h5⟩
          · rw [if_neg (fun h => hc h.2), if_neg (fun h => hc h.2)]
            exact ⟨hb0, hb1, hb2.symm⟩

/-- What is known of what is taken. -/
theorem pick_known {m : Int} {l : List S34} (m0 : 0 ≤ m) (h : (pickV m l).2 = true) : 0 ≤ (pickV m l).1 ∧ (pickV m l).1 < l.length ∧ usable (rd_T34 l (pickV m l).1) = true ∧
    ∃ b mb, bestO l 0 none = some (b, mb) ∧ 0 ≤ b ∧ b < l.length ∧ mb = (rd_T34 l b).f0 ∧ usable (rd_T34 l b) = true ∧ (rd_T34 l (pickV m l).1).f0 ≤ mb + m ∧ (pickV m l).1 = take m b (idx sel l 0) l := by
  unfold pickV at h ⊢
  cases h1 : bestO l 0 none with
  | none => rw [h1] at h; cases h
  | some q =>
    obtain ⟨b, mb⟩ := q
    have hb := best_inv l b mb h1
    simp only
    unfold take
    by_cases hc : 0 ≤ idx sel l 0 ∧ (rd_T34 l (idx sel l 0)).f0 - (rd_T34 l b).f0 ≤ m
    · rw [if_pos hc]
      have h2 := idx_at sel l 0 (by omega) hc.1
      rw [Int.sub_zero] at h2
      have h3 := idx_range sel l 0
      exact ⟨hc.1, by omega, sel_usable h2, b, mb, rfl, hb.1, hb.2.1, hb.2.2.1, hb.2.2.2, by rw [hb.2.2.1]; omega, (if_pos hc).symm⟩
    · rw [if_neg hc]
      exact ⟨hb.1, hb.2.1, hb.2.2.2, b, mb, rfl, hb.1, hb.2.1, hb.2.2.1, hb.2.2.2, by rw [hb.2.2.1]; omega, (if_neg hc).symm⟩

/-! ### Only what was taken is selected -/
def mark : List S34 → Int → Int → List S34
  | [], _, _ => []
  | x :: l, i, k => ⟨x.f0, x.f1, i == k⟩ :: mark l (i + 1) k
theorem mark_length (l : List S34) (k : Int) : ∀ i, (mark l i k).length = l.length := by
  induction l with
  | nil => intro i; rfl
  | cons x l ih => intro i; rw [mark, List.length_cons, List.length_cons, ih]
theorem mark_rd (l : List S34) (k : Int) : ∀ (i t : Int), 0 ≤ t → t < l.length → rd_T34 (mark l i k) t = ⟨(rd_T34 l t).f0, (rd_T34 l t).f1, i + t == k⟩ := by
  induction l with
  | nil => intro i t h0 h; simp at h; omega
  | cons x l ih =>
    intro i t h0 h
    rw [mark]
    by_cases ht : t = 0
    · subst ht; rw [rd_zero, rd_zero, Int.add_zero]
    · obtain ⟨q, rfl⟩ : ∃ q, t = q + 1 := ⟨t - 1, by omega⟩
      rw [rd_succ _ _ (by omega), rd_succ _ _ (by omega), ih (i + 1) q (by omega) (by rw [List.length_cons] at h; omega)]
      rw [show i + 1 + q = i + (q + 1) by omega]
theorem mark_best (l : List S34) (k : Int) : ∀ (i j : Int) (st : Option (Int × Int)), bestO (mark l i k) j st = bestO l j st := by
  induction l with
  | nil => intro i j st; rfl
  | cons x l ih =>
    intro i j st
    rw [mark, bestO, bestO, ih]
    rfl
theorem mark_in {l : List S34} {k : Int} (h : In16 l) : ∀ i, In16 (mark l i k) := by
  induction l with
  | nil => intro i x hx; cases hx
  | cons y l ih =>
    intro i x hx
    rw [mark] at hx
    rcases List.mem_cons.1 hx with rfl | hx
    · exact h y List.mem_cons_self
    · exact ih (fun z hz => h z (List.mem_cons_of_mem _ hz)) (i + 1) x hx
theorem pick_stays_law {m : Int} {l : List S34} (m0 : 0 ≤ m) (h : (pickV m l).2 = true) : pickV m (mark l 0 (pickV m l).1) = ((pickV m l).1, true) := by
  obtain ⟨h0, h1, hu, b, mb, hb, b0, b1, bm, bu, hle, _⟩ := pick_known m0 h
  generalize (pickV m l).1 = k at *
  have hs : sel (rd_T34 (mark l 0 k) k) = true := by
    rw [mark_rd l k 0 k h0 h1, Int.zero_add]
    unfold sel
    rw [show usable ⟨(rd_T34 l k).f0, (rd_T34 l k).f1, k == k⟩ = usable (rd_T34 l k) from rfl, hu]
    simp
  have hn : ∀ t : Int, 0 ≤ t → t < k → sel (rd_T34 (mark l 0 k) t) = false := by
    intro t t0 t1
    rw [mark_rd l k 0 t t0 (by omega), Int.zero_add]
    unfold sel
    rw [show (t == k) = false by rw [beq_eq_false_iff_ne]; omega]
    rfl
  have hi := idx_first sel (mark l 0 k) 0 k (by omega) h0 (by rw [mark_length]; exact h1) hs hn
  unfold pickV
  rw [mark_best, hb]
  simp only [take]
  rw [hi, Int.zero_add, mark_rd l k 0 k h0 h1, mark_rd l k 0 b b0 b1]
  rw [if_pos (show 0 ≤ k ∧ (rd_T34 l k).f0 - (rd_T34 l b).f0 ≤ m from ⟨h0, by omega⟩)]
end Go.Proofs.Ytomabnpcecagfaa.Pk
