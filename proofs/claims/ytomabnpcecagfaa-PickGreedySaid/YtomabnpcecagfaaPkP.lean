/- Plain laws of pick over lists: what is taken stays, ways that are not usable have no part, what a margin does. -/
import Derived.Test.YtomabnpcecagfaaPkB
namespace Go.Proofs.Ytomabnpcecagfaa.Pk
open Go.RowKit Go.Proofs.Ytomabnpcecagfaa.MPk Go.Proofs.YtomabnpcecagfaaW.PrintWords Go.Proofs.YtomabnpcecagfaaW.PrintLast

theorem of16 {a : Int} (h : (Lit.int .u16 a).wf = true) : 0 ≤ a ∧ a ≤ 65535 := by
  simpa [Lit.wf, IntKind.min, IntKind.max, IntKind.bits, IntKind.signed] using h
def rdI (l : List Int) (i : Int) : Int := l.getD i.toNat 0
theorem rd_zero (x : S34) (l : List S34) : rd_T34 (x :: l) 0 = x := rfl
theorem rd_succ (x : S34) (l : List S34) {i : Int} (h : 0 ≤ i) : rd_T34 (x :: l) (i + 1) = rd_T34 l i := by
  unfold rd_T34
  rw [show (i + 1).toNat = i.toNat + 1 by omega]; rfl
theorem rdI_zero (x : Int) (l : List Int) : rdI (x :: l) 0 = x := rfl
theorem rdI_succ (x : Int) (l : List Int) {i : Int} (h : 0 ≤ i) : rdI (x :: l) (i + 1) = rdI l i := by
  unfold rdI
  rw [show (i + 1).toNat = i.toNat + 1 by omega]; rfl

/-! ### The best way is the best -/
theorem best_some (l : List S34) : ∀ (i : Int) (q : Int × Int), ∃ q', bestO l i (some q) = some q' ∧ q'.2 ≤ q.2 := by
  induction l with
  | nil => exact fun i q => ⟨q, rfl, Int.le_refl _⟩
  | cons x l ih =>
    intro i q
    obtain ⟨b, m⟩ := q
    simp only [bestO, step]
    split
    · split
      · rename_i h
        obtain ⟨q', h1, h2⟩ := ih (i + 1) (i, x.f0)
        exact ⟨q', h1, by simp at h2 ⊢; omega⟩
      · exact ih (i + 1) (b, m)
    · exact ih (i + 1) (b, m)
/-- No usable way is better than the best. -/
theorem best_least (l : List S34) : ∀ (i : Int) (st : Option (Int × Int)) (b m : Int), bestO l i st = some (b, m) → ∀ x ∈ l, usable x = true → m ≤ x.f0 := by
  induction l with
  | nil => intro i st b m _ x hx; cases hx
  | cons y l ih =>
    intro i st b m h x hx hu
    rcases List.mem_cons.1 hx with rfl | hx
    · simp only [bestO, step] at h
      rw [if_pos hu] at h
      cases st with
      | none =>
        obtain ⟨q', h1, h2⟩ := best_some l (i + 1) (i, x.f0)
        simp only at h
        rw [h1] at h
        injection h with h
        rw [h] at h2
        exact h2
      | some q =>
        obtain ⟨b', m'⟩ := q
        simp only at h
        split at h
        · obtain ⟨q', h1, h2⟩ := best_some l (i + 1) (i, x.f0)
          rw [h1] at h
          injection h with h
          rw [h] at h2
          exact h2
        · rename_i hlt
          obtain ⟨q', h1, h2⟩ := best_some l (i + 1) (b', m')
          rw [h1] at h
          injection h with h
          rw [h] at h2
          simp at h2
          omega
    · exact ih (i + 1) _ b m h x hx hu
theorem best_none (l : List S34) : ∀ (i : Int), bestO l i none = none → ∀ x ∈ l, usable x = false := by
  induction l with
  | nil => intro i _ x hx; cases hx
  | cons y l ih =>
    intro i h x hx
    simp only [bestO, step] at h
    cases hu : usable y with
    | true =>
      rw [hu, if_pos rfl] at h
      obtain ⟨q', h1, _⟩ := best_some l (i + 1) (i, y.f0)
      rw [h1] at h; cases h
    | false =>
      rw [hu, if_neg (by decide)] at h
      rcases List.mem_cons.1 hx with rfl | hx
      · exact hu
      · exact ih (i + 1) h x hx
theorem rd_mem {l : List S34} {i : Int} (h0 : 0 ≤ i) (h : i < l.length) : rd_T34 l i ∈ l := by
  have hi : i.toNat < l.length := by omega
  simp [rd_T34, List.getD_eq_getElem?_getD, List.getElem?_eq_getElem hi]

/-! ### The first that is selected and usable -/
theorem idx_at (p : S34 → Bool) : ∀ (l : List S34) (i : Int), 0 ≤ i → 0 ≤ idx p l i → p (rd_T34 l (idx p l i - i)) = true
  | [], _, _, h => by simp [idx] at h
  | x :: l, i, h0, h => by
    rw [idx] at h ⊢
    split
    · rename_i hp; rw [Int.sub_self]; exact hp
    · rename_i hp
      rw [if_neg hp] at h
      have h1 := idx_at p l (i + 1) (by omega) h
      have h2 := idx_range p l (i + 1)
      rw [show idx p l (i + 1) - i = (idx p l (i + 1) - (i + 1)) + 1 by omega, rd_succ x l (by omega)]
      exact h1
theorem idx_none (p : S34 → Bool) : ∀ (l : List S34) (i : Int), 0 ≤ i → idx p l i < 0 → ∀ x ∈ l, p x = false
  | [], _, _, _, x, hx => by cases hx
  | y :: l, i, h0, h, x, hx => by
    rw [idx] at h
    split at h
    · omega
    · rename_i hp
      rcases List.mem_cons.1 hx with rfl | hx
      · simpa using hp
      · exact idx_none p l (i + 1) (by omega) h x hx
/-- The first one is the first one. -/
theorem idx_first (p : S34 → Bool) : ∀ (l : List S34) (i j : Int), 0 ≤ i → 0 ≤ j → j < l.length → p (rd_T34 l j) = true → (∀ t : Int, 0 ≤ t → t < j → p (rd_T34 l t) = false) → idx p l i = i + j
  | [], _, j, _, h0, h1, _, _ => by simp at h1; omega
  | x :: l, i, j, hi, h0, h1, h2, h3 => by
    rw [idx]
    by_cases hj : j = 0
    · subst hj; rw [rd_zero] at h2; rw [if_pos h2, Int.add_zero]
    · obtain ⟨q, rfl⟩ : ∃ q, j = q + 1 := ⟨j - 1, by omega⟩
      have hx := h3 0 (by omega) (by omega)
      rw [rd_zero] at hx
      rw [if_neg (by rw [hx]; decide), idx_first p l (i + 1) q (by omega) (by omega) (by rw [List.length_cons] at h1; omega) (by rwa [rd_succ x l (by omega)] at h2) (fun t ht1 ht2 => by have := h3 (t + 1) (by omega) (by omega); rwa [rd_succ x l (by omega)] at this)]
      omega

/-! ### Ways that are not usable have no part -/
def usab (l : List S34) : List S34 := l.filter usable
def idxs : List S34 → Int → List Int
  | [], _ => []
  | x :: l, i => if usable x = true then i :: idxs l (i + 1) else idxs l (i + 1)
theorem usab_cons (x : S34) (l : List S34) : usab (x :: l) = if usable x = true then x :: usab l else usab l := by
  unfold usab
  rw [List.filter_cons]
theorem idxs_length (l : List S34) : ∀ i, (idxs l i).length = (usab l).length := by
  induction l with
  | nil => intro i; rfl
  | cons x l ih =>
    intro i
    rw [usab_cons, idxs]
    split
    · rw [List.length_cons, List.length_cons, ih]
    · exact ih _
theorem idxs_rd (l : List S34) : ∀ (i t : Int), 0 ≤ t → t < (usab l).length → i ≤ rdI (idxs l i) t ∧ rdI (idxs l i) t < i + l.length ∧ rd_T34 l (rdI (idxs l i) t - i) = rd_T34 (usab l) t := by
  induction l with
  | nil => intro i t h0 h; simp [usab] at h; omega
  | cons x l ih =>
    intro i t h0 h
    rw [usab_cons] at h ⊢
    rw [idxs]
    by_cases hu : usable x = true
    · rw [if_pos hu] at h ⊢
      rw [if_pos hu]
      by_cases ht : t = 0
      · subst ht
        rw [rdI_zero, Int.sub_self]
        exact ⟨Int.le_refl _, by rw [List.length_cons]; omega, rfl⟩
      · obtain ⟨q, rfl⟩ : ∃ q, t = q + 1 := ⟨t - 1, by omega⟩
        have := ih (i + 1) q (by omega) (by rw [List.length_cons] at h; omega)
        rw [rdI_succ _ _ (by omega), rd_succ x (usab l) (by omega), List.length_cons, ← this.2.2]
        refine ⟨by omega, by omega, ?_⟩
        rw [show rdI (idxs l (i + 1)) q - i = (rdI (idxs l (i + 1)) q - (i + 1)) + 1 by omega, rd_succ x l (by omega)]
    · rw [if_neg hu] at h ⊢
      rw [if_neg hu]
      have := ih (i + 1) t h0 h
      rw [List.length_cons, ← this.2.2]
      refine ⟨by omega, by omega, ?_⟩
      rw [show rdI (idxs l (i + 1)) t - i = (rdI (idxs l (i + 1)) t - (i + 1)) + 1 by omega, rd_succ x l (by omega)]
def Rel (A : List Int) (j : Int) : Option (Int × Int) → Option (Int × Int) → Prop
  | none, none => True
  | some (b, m), some (b', m') => m = m' ∧ 0 ≤ b' ∧ b' < j ∧ rdI A b' = b
  | _, _ => False
theorem Rel.more {A : List Int} {j : Int} {st st' : Option (Int × Int)} (h : Rel A j st st') : Rel A (j + 1) st st' := by
  cases st with
  | none => cases st' with
    | none => trivial
    | some q => exact h.elim
  | some q => cases st' with
    | none => obtain ⟨_, _⟩ := q; exact h.elim
    | some q' => obtain ⟨b, m⟩ := q; obtain ⟨b', m'⟩ := q'; exact ⟨h.1, h.2.1, by have := h.2.2.1; omega, h.2.2.2⟩
theorem best_rel (A : List Int) (l : List S34) : ∀ (i j : Int) (st st' : Option (Int × Int)), 0 ≤ j → (∀ t : Int, 0 ≤ t → t < (usab l).length → rdI A (j + t) = rdI (idxs l i) t) → Rel A j st st' → Rel A (j + (usab l).length) (bestO l i st) (bestO (usab l) j st') := by
  induction l with
  | nil => intro i j st st' _ _ h; simpa [usab, bestO] using h
  | cons x l ih =>
    intro i j st st' hj hA h
    rw [usab_cons] at hA ⊢
    by_cases hu : usable x = true
    · rw [if_pos hu] at hA ⊢
      have h0 := hA 0 (by omega) (by rw [List.length_cons]; omega)
      rw [idxs, if_pos hu, rdI_zero, Int.add_zero] at h0
      have hstep : Rel A (j + 1) (step st i x) (step st' j x) := by
        unfold step
        rw [if_pos hu, if_pos hu]
        cases st with
        | none => cases st' with
          | none => exact ⟨rfl, hj, by omega, h0⟩
          | some q => exact h.elim
        | some q => cases st' with
          | none => obtain ⟨_, _⟩ := q; exact h.elim
          | some q' =>
            obtain ⟨b, m⟩ := q
            obtain ⟨b', m'⟩ := q'
            obtain ⟨e, h1, h2, h3⟩ := h
            subst e
            simp only
            split
            · exact ⟨rfl, hj, by omega, h0⟩
            · exact ⟨rfl, h1, by omega, h3⟩
      have := ih (i + 1) (j + 1) (step st i x) (step st' j x) (by omega) (fun t h1 h2 => by
        have := hA (t + 1) (by omega) (by rw [List.length_cons]; omega)
        rw [idxs, if_pos hu, rdI_succ _ _ h1] at this
        rw [← this]
        congr 1; omega) hstep
      rw [List.length_cons, show j + ((usab l).length + 1 : Nat) = j + 1 + (usab l).length by omega]
      exact this
    · rw [if_neg hu] at hA ⊢
      have hs : step st i x = st := by unfold step; rw [if_neg hu]
      show Rel A _ (bestO l (i + 1) (step st i x)) _
      rw [hs]
      refine ih (i + 1) j st st' hj (fun t h1 h2 => ?_) h
      have := hA t h1 h2
      rw [idxs, if_neg hu] at this
      exact this
theorem sel_usable {x : S34} (h : sel x = true) : usable x = true := by
  unfold sel at h
  simp at h
  exact h.2
theorem idx_rel (A : List Int) (l : List S34) : ∀ (i j : Int), 0 ≤ j → 0 ≤ i → (∀ t : Int, 0 ≤ t → t < (usab l).length → rdI A (j + t) = rdI (idxs l i) t) → (idx sel l i = -1 ∧ idx sel (usab l) j = -1) ∨ (j ≤ idx sel (usab l) j ∧ idx sel (usab l) j < j + (usab l).length ∧ idx sel l i = rdI A (idx sel (usab l) j) ∧ 0 ≤ idx sel l i) := by
  induction l with
  | nil => intro i j _ _ _; exact .inl ⟨rfl, rfl⟩
  | cons x l ih =>
    intro i j hj hi hA
    rw [usab_cons] at hA ⊢
    rw [idx]
    by_cases hu : usable x = true
    · rw [if_pos hu] at hA ⊢
      rw [idx]
      by_cases hs : sel x = true
      · rw [if_pos hs, if_pos hs]
        have h0 := hA 0 (by omega) (by rw [List.length_cons]; omega)
        rw [idxs, if_pos hu, rdI_zero, Int.add_zero] at h0
        exact .inr ⟨Int.le_refl _, by rw [List.length_cons]; omega, h0.symm, hi⟩
      · rw [if_neg hs, if_neg hs]
        rcases ih (i + 1) (j + 1) (by omega) (by omega) (fun t h1 h2 => by
          have := hA (t + 1) (by omega) (by rw [List.length_cons]; omega)
          rw [idxs, if_pos hu, rdI_succ _ _ h1] at this
          rw [← this]
          congr 1; omega) with h | h
        · exact .inl h
        · exact .inr ⟨by omega, by rw [List.length_cons]; omega, h.2.2⟩
    · rw [if_neg hu] at hA ⊢
      have hs : ¬ sel x = true := fun h => hu (sel_usable h)
      rw [if_neg hs]
      exact ih (i + 1) j hj (by omega) (fun t h1 h2 => by
        have := hA t h1 h2
        rw [idxs, if_neg hu] at this
        exact this)
end Go.Proofs.Ytomabnpcecagfaa.Pk
