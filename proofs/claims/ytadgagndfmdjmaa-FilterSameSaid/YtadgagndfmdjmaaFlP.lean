/- The two masks are one; the program's answers are the document's. -/
import Derived.Test.YtadgagndfmdjmaaFlL
namespace Go.Proofs.Ytadgagndfmdjmaa.Fl

theorem mb_8 : ∀ x : Fin 256, mb (UInt8.ofNat x.val) 8 = UInt8.ofNat x.val := by decide +kernel
theorem mb_cb : ∀ x : Fin 256, ∀ t : Fin 8, mb (cb (UInt8.ofNat x.val) t.val) (t.val + 1) = mb (UInt8.ofNat x.val) t.val := by decide +kernel
theorem mb_fix : ∀ x : Fin 256, ∀ k : Fin 9, (mb (UInt8.ofNat x.val) k.val = UInt8.ofNat x.val) ↔ ∀ t : Fin 8, k.val ≤ t.val → bitv (x.val : Int) t.val ≠ 1 := by decide +kernel
theorem u8_of (x : UInt8) : UInt8.ofNat x.toNat = x := by simp
theorem mb_8' (x : UInt8) : mb x 8 = x := by have := mb_8 ⟨x.toNat, x.toNat_lt⟩; rwa [u8_of] at this
theorem mb_cb' (x : UInt8) (t : Nat) (h : t < 8) : mb (cb x t) (t + 1) = mb x t := by have := mb_cb ⟨x.toNat, x.toNat_lt⟩ ⟨t, h⟩; rwa [u8_of] at this
theorem mb_fix' (x : UInt8) (k : Nat) (h : k ≤ 8) : mb x k = x ↔ ∀ t : Nat, t < 8 → k ≤ t → bitv (x.toNat : Int) t ≠ 1 := by
  have := mb_fix ⟨x.toNat, x.toNat_lt⟩ ⟨k, by omega⟩
  rw [u8_of] at this
  rw [this]
  exact ⟨fun h t ht hk => h ⟨t, ht⟩ hk, fun h t hk => h t.val t.isLt hk⟩
theorem getD_set_of {a : List UInt8} {i j : Nat} {u : UInt8} (hi : i < a.length) : (a.set i u).getD j 0 = if i = j then u else a.getD j 0 := by
  rw [List.getD_eq_getElem?_getD, List.getElem?_set, List.getD_eq_getElem?_getD]
  split
  · rfl
  · rfl
theorem keep_range (n i : Int) : 0 ≤ keep n i ∧ keep n i ≤ 8 := by unfold keep; split <;> (try split) <;> omega
theorem clear_byte (d : Nat) : ∀ (a : List UInt8) (i : Int), a.length = 16 → 0 ≤ i → i + d = 128 → ∀ j : Nat, j < 16 → (clearFrom a d i).getD j 0 = mb (a.getD j 0) (keep i j).toNat := by
  induction d with
  | zero =>
    intro a i ha h0 hd j hj
    have : keep i j = 8 := by unfold keep; rw [if_neg (by omega)]; split <;> omega
    rw [this]
    exact (mb_8' _).symm
  | succ d ih =>
    intro a i ha h0 hd j hj
    rw [clearFrom, ih (clearBit a i) (i + 1) (by simp [clearBit, ha]) (by omega) (by omega) j hj]
    unfold clearBit
    rw [getD_set_of (by omega)]
    by_cases hji : (i / 8).toNat = j
    · rw [if_pos hji, ← hji]
      have e1 : keep (i + 1) ((i / 8).toNat : Nat) = (i % 8) + 1 := by unfold keep; rw [if_neg (by omega)]; split <;> omega
      have e2 : keep i ((i / 8).toNat : Nat) = i % 8 := by unfold keep; rw [if_neg (by omega)]; split <;> omega
      rw [e1, e2, show (i % 8 + 1).toNat = (i % 8).toNat + 1 by omega]
      exact mb_cb' _ _ (by omega)
    · rw [if_neg hji]
      have e : keep (i + 1) j = keep i j := by unfold keep; split <;> split <;> (try split) <;> (try split) <;> omega
      rw [e]
theorem mask_byte (n : Int) (d : Nat) : ∀ (a : List UInt8) (i : Int), a.length = 16 → 0 ≤ i → i + d = 16 → ∀ j : Nat, j < 16 → (maskFrom a n d i).getD j 0 = if i ≤ j then mb (a.getD j 0) (keep n j).toNat else a.getD j 0 := by
  induction d with
  | zero =>
    intro a i ha h0 hd j hj
    rw [if_neg (by omega)]; rfl
  | succ d ih =>
    intro a i ha h0 hd j hj
    rw [maskFrom, ih _ (i + 1) (by simp [ha]) (by omega) (by omega) j hj, getD_set_of (by omega)]
    by_cases hji : i.toNat = j
    · rw [if_neg (by omega), if_pos hji, if_pos (by omega), ← hji, show ((i.toNat : Nat) : Int) = i by omega]
    · rw [if_neg hji]
      by_cases h : i ≤ j
      · rw [if_pos (by omega), if_pos h]
      · rw [if_neg (by omega), if_neg h]
theorem amask_byte {a : List UInt8} (ha : a.length = 16) (n : Int) (j : Nat) (hj : j < 16) : (amask a n).getD j 0 = mb (a.getD j 0) (keep n j).toNat := by
  unfold amask
  rw [mask_byte n 16 a 0 ha (by omega) (by omega) j hj, if_pos (by omega)]
theorem eq_of_bytes {a b : List UInt8} (ha : a.length = 16) (hb : b.length = 16) (h : ∀ j : Nat, j < 16 → a.getD j 0 = b.getD j 0) : a = b := by
  apply List.ext_getElem (by omega)
  intro j h1 h2
  have := h j (by omega)
  simpa [List.getD_eq_getElem?_getD, List.getElem?_eq_getElem h1, List.getElem?_eq_getElem h2] using this
theorem masks {a : List UInt8} (ha : a.length = 16) (n : Int) (h0 : 0 ≤ n) (h1 : n ≤ 128) : amask a n = rmask a n := by
  refine eq_of_bytes (amask_len ha n) (rmask_len ha n) fun j hj => ?_
  rw [amask_byte ha n j hj]
  unfold rmask
  rw [clear_byte (128 - n).toNat a n ha h0 (by omega) j hj]
theorem chks {p : Pfx} (hp : p.Ok) : achk p = chk p := by
  unfold achk chk
  by_cases hL : 0 ≤ p.L ∧ p.L ≤ 128
  · rw [decide_eq_true hL, Bool.true_and, Bool.true_and, Bool.eq_iff_iff, beq_iff_eq, List.all_eq_true]
    constructor
    · intro h i hi
      have hi := List.mem_range.1 hi
      by_cases hlt : (i : Int) < p.L
      · rw [decide_eq_true hlt]; rfl
      · rw [decide_eq_false hlt, Bool.false_or, Bool.not_eq_true', beq_eq_false_iff_ne]
        have hb := amask_byte hp p.L (i / 8) (by omega)
        rw [h] at hb
        have kr := keep_range p.L ((i / 8 : Nat) : Int)
        have := (mb_fix' _ _ (by omega)).1 hb.symm (i % 8) (by omega) (by unfold keep; split <;> (try split) <;> omega)
        unfold bitAt byte
        rw [show ((i : Int) / 8).toNat = i / 8 by omega, show ((i : Int) % 8).toNat = i % 8 by omega]
        exact this
    · intro h
      refine eq_of_bytes (amask_len hp _) hp fun j hj => ?_
      rw [amask_byte hp p.L j hj]
      have kr := keep_range p.L (j : Int)
      refine (mb_fix' _ _ (by omega)).2 fun t ht hk => ?_
      have := h (8 * j + t) (List.mem_range.2 (by omega))
      have hge : ¬ ((8 * j + t : Nat) : Int) < p.L := by
        unfold keep at hk
        split at hk
        · omega
        · split at hk <;> omega
      rw [decide_eq_false hge, Bool.false_or, Bool.not_eq_true', beq_eq_false_iff_ne] at this
      unfold bitAt byte at this
      rw [show (((8 * j + t : Nat) : Int) / 8).toNat = j by omega, show (((8 * j + t : Nat) : Int) % 8).toNat = t by omega] at this
      exact this
  · rw [decide_eq_false hL]; rfl
theorem covs {p q : Pfx} (hp : p.Ok) (hq : q.Ok) : acov p q = cov p q := by
  unfold acov cov acon con
  rw [chks hp, chks hq]
  cases h : chk p with
  | false => rfl
  | true =>
    have hL := chk_L h
    rw [masks hq p.L hL.1 hL.2]
theorem mats {r : Rul} (hr : r.Ok) (chain : Int) (name : ByteArray) {q : Par} (hq : q.Ok) (id : List UInt8) : matB r chain name q id = rmatB r chain name q id := by
  unfold matB rmatB badB dstB srcB toB
  rw [covs hr.1 hq.1, covs hr.2.1 hq.2]
  by_cases hC : r.C = chain
  · rw [if_pos hC, decide_eq_true hC]
    cases ifB r name <;> cases idB r id <;> cases r.HS <;> cases cov r.S q.S <;> cases r.HD <;> cases cov r.D q.D <;> cases (pfam r.D == pfam q.D) <;> simp <;> (try (by_cases h1 : r.G ≤ nbits q.D <;> by_cases h2 : nbits q.D ≤ r.E <;> simp [h1, h2] <;> omega))
  · rw [if_neg hC, decide_eq_false hC]; rfl
theorem idxs {l : List Rul} (hl : ∀ r ∈ l, r.Ok) (chain : Int) (name : ByteArray) {q : Par} (hq : q.Ok) (id : List UInt8) (i : Int) : idx (fun r => matB r chain name q id) l i = idx (fun r => rmatB r chain name q id) l i := by
  induction l generalizing i with
  | nil => rfl
  | cons x l ih => rw [idx, idx, mats (hl x List.mem_cons_self) chain name hq id, ih (fun r hr => hl r (List.mem_cons_of_mem _ hr))]
theorem mets {l : List Rul} (hl : ∀ r ∈ l, r.Ok) (chain : Int) (name : ByteArray) {q : Par} (hq : q.Ok) (id : List UInt8) (m : Int) : metV (fun r => matB r chain name q id) l m = metV (fun r => rmatB r chain name q id) l m := by
  induction l with
  | nil => rfl
  | cons x l ih => rw [metV, metV, mats (hl x List.mem_cons_self) chain name hq id, ih (fun r hr => hl r (List.mem_cons_of_mem _ hr))]
end Go.Proofs.Ytadgagndfmdjmaa.Fl
