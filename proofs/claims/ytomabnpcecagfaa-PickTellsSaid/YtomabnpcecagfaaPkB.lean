/- pick.Best, pick.Pick and pick.Starved as plain functions of the list, and that the Go code comes to them. -/
import Derived.Test.YtomabnpcecagfaaPkA
namespace Go.Proofs.Ytomabnpcecagfaa.Pk
open Go.RowKit Go.Proofs.Ytomabnpcecagfaa.MPk Go.Proofs.YtomabnpcecagfaaW.PrintWords Go.Proofs.YtomabnpcecagfaaW.PrintLast

theorem w64 {a : Int} (h0 : -9223372036854775808 ≤ a) (h1 : a ≤ 9223372036854775807) : wrap64 a = a := by unfold wrap64; omega
/-- The best so far: where, and its metric. -/
def step (st : Option (Int × Int)) (i : Int) (x : S34) : Option (Int × Int) :=
  if usable x = true then (match st with | none => some (i, x.f0) | some (b, m) => if x.f0 < m then some (i, x.f0) else some (b, m)) else st
def bestO : List S34 → Int → Option (Int × Int) → Option (Int × Int)
  | [], _, st => st
  | x :: l, i, st => bestO l (i + 1) (step st i x)
def fstO : Option (Int × Int) → Int × Bool
  | none => (0, false)
  | some (b, _) => (b, true)
theorem drop_rd {l : List S34} {i : Int} (h0 : 0 ≤ i) (h : i < l.length) : l.drop i.toNat = rd_T34 l i :: l.drop (i + 1).toNat := by
  have hi : i.toNat < l.length := by omega
  rw [List.drop_eq_getElem_cons hi, show (i + 1).toNat = i.toNat + 1 by omega]
  simp [rd_T34, List.getD_eq_getElem?_getD, List.getElem?_eq_getElem hi]
/-- What is known of the best so far, i elements having been looked at. -/
def Inv (l : List S34) (i : Int) (st : Option (Int × Int)) : Prop := ∀ b m, st = some (b, m) → 0 ≤ b ∧ b < i ∧ m = (rd_T34 l b).f0 ∧ usable (rd_T34 l b) = true
theorem Inv.step {l : List S34} {i : Int} {st : Option (Int × Int)} (h : Inv l i st) (h0 : 0 ≤ i) : Inv l (i + 1) (step st i (rd_T34 l i)) := by
  intro b m e
  unfold Pk.step at e
  split at e
  · rename_i hu
    cases st with
    | none => simp at e; obtain ⟨rfl, rfl⟩ := e; exact ⟨h0, by omega, rfl, hu⟩
    | some q =>
      obtain ⟨b', m'⟩ := q
      simp only at e
      split at e
      · simp at e; obtain ⟨rfl, rfl⟩ := e; exact ⟨h0, by omega, rfl, hu⟩
      · simp at e; obtain ⟨rfl, rfl⟩ := e; have := h _ _ rfl; exact ⟨this.1, by omega, this.2.2⟩
  · have := h _ _ e; exact ⟨this.1, by omega, this.2.2⟩
theorem Inv.all {l : List S34} (d : Nat) : ∀ (i : Int) (st : Option (Int × Int)), 0 ≤ i → (l.length : Int) - i = d → Inv l i st → Inv l l.length (bestO (l.drop i.toNat) i st) := by
  induction d with
  | zero =>
    intro i st h0 hd h
    rw [List.drop_eq_nil_of_le (by omega)]
    rw [show ((l.length : Nat) : Int) = i by omega]; exact h
  | succ d ih =>
    intro i st h0 hd h
    rw [drop_rd h0 (by omega)]
    exact ih (i + 1) _ (by omega) (by omega) (h.step h0)
theorem best_inv (l : List S34) : Inv l l.length (bestO l 0 none) := by
  have := Inv.all (l := l) l.length 0 none (by omega) (by omega) (fun b m h => by cases h)
  simpa using this
theorem best_loop (l : List S34) (hn : l.length ≤ 4611686018427387904) (d : Nat) : ∀ (k : Nat) (i : Int) (st : Option (Int × Int)), Inv l i st → 0 ≤ i → i ≤ l.length → (l.length : Int) - i = d → d < k →
    pick_Best.l0 k l (fstO st).1 (fstO st).2 l (l.length : Int) i = some (fstO (bestO (l.drop i.toNat) i st)) := by
  induction d with
  | zero =>
    intro k i st hI h2 h3 h4 h5
    obtain ⟨k, rfl⟩ : ∃ m, k = m + 1 := ⟨k - 1, by omega⟩
    simp only [pick_Best.l0]
    rw [if_neg (by omega), List.drop_eq_nil_of_le (by omega)]; rfl
  | succ d ih =>
    intro k i st hI h2 h3 h4 h5
    obtain ⟨k, rfl⟩ : ∃ m, k = m + 1 := ⟨k - 1, by omega⟩
    have hlt : i < (l.length : Int) := by omega
    have h := ih k (i + 1) (step st i (rd_T34 l i)) (hI.step h2) (by omega) (by omega) (by omega) (by omega)
    rw [drop_rd h2 hlt]
    rw [show bestO (rd_T34 l i :: l.drop (i + 1).toNat) i st = bestO (l.drop (i + 1).toNat) (i + 1) (step st i (rd_T34 l i)) from rfl, ← h]
    by_cases hu : usable (rd_T34 l i) = true
    · cases st with
      | none =>
        rw [show step none i (rd_T34 l i) = some (i, (rd_T34 l i).f0) by unfold step; rw [if_pos hu]]
        show pick_Best.l0 (k + 1) l 0 false l (l.length : Int) i = pick_Best.l0 k l i true l (l.length : Int) (i + 1)
        simp only [pick_Best.l0]
        rw [if_pos hlt, if_pos h2, if_pos hlt, usable_is, w64 (by omega) (by omega)]
        simp only [Option.bind_some, hu, Bool.false_eq_true, if_true, if_false]
      | some q =>
        obtain ⟨b, m⟩ := q
        have hb := hI _ _ rfl
        have hbl : b < (l.length : Int) := by omega
        rw [show step (some (b, m)) i (rd_T34 l i) = if (rd_T34 l i).f0 < m then some (i, (rd_T34 l i).f0) else some (b, m) by unfold step; rw [if_pos hu]]
        show pick_Best.l0 (k + 1) l b true l (l.length : Int) i = _
        simp only [pick_Best.l0]
        rw [if_pos hlt, if_pos h2, if_pos hlt, usable_is, w64 (by omega) (by omega)]
        simp only [Option.bind_some, hu, if_true]
        rw [if_pos hb.1, if_pos hbl, hb.2.2.1]
        split <;> rfl
    · rw [show step st i (rd_T34 l i) = st by unfold step; rw [if_neg hu]]
      simp only [pick_Best.l0]
      rw [if_pos hlt, if_pos h2, if_pos hlt, usable_is, w64 (by omega) (by omega)]
      simp only [Option.bind_some]
      rw [if_neg hu]
theorem best_is (l : List S34) (hn : l.length ≤ 4611686018427387904) (k : Nat) (hk : l.length < k) : pick_Best.f k l = some (fstO (bestO l 0 none)) := by
  have := best_loop l hn l.length k 0 none (fun b m h => by cases h) (by omega) (by omega) (by omega) hk
  rw [show l.drop (0 : Int).toNat = l from List.drop_zero] at this
  exact this

def good (l : List S34) : Bool := l.all (fun x => decide (0 ≤ x.f0) && decide (x.f0 ≤ 65535)) && decide (l.length ≤ 4611686018427387904)
theorem good_is {l : List S34} (h : good l = true) : In16 l ∧ l.length ≤ 4611686018427387904 := by
  unfold good at h
  simp only [Bool.and_eq_true, List.all_eq_true, decide_eq_true_iff] at h
  exact ⟨fun x hx => h.1 x hx, h.2⟩
theorem good_of {l : List S34} (h : In16 l) (hn : l.length ≤ 4611686018427387904) : good l = true := by
  unfold good
  simp only [Bool.and_eq_true, List.all_eq_true, decide_eq_true_iff]
  exact ⟨fun x hx => h x hx, hn⟩
/-- The way to take, where there is one. -/
def pickV (m : Int) (l : List S34) : Int × Bool :=
  match bestO l 0 none with
  | none => (0, false)
  | some (b, _) => (take m b (idx sel l 0) l, true)
def pickO (m : Int) (l : List S34) : Option (Int × Bool) := if (decide (0 ≤ m) && decide (m ≤ 65535) && good l) = true then some (pickV m l) else none
def starvedV (l : List S34) : Bool := (bestO l 0 none).isNone && decide (0 ≤ idx fin l 0)
def starvedO (l : List S34) : Option Bool := if good l = true then some (starvedV l) else none
theorem pick_calls (m : Int) (A : Option Addr) (c : Nat) (l : List S34) (r1 : Int) (r2 : Bool) (w : World) (hr : Kd.C k34 w A l.length l) (hc : l.length ≤ c) (h : pickO m l = some (r1, r2)) :
    Calls Try.prog 9 #[.int .u16 m, .slice A l.length c] w fun e w' => e = .returned (.tuple #[.int .i64 r1, .bool r2]) ∧ Below w.heap.size w w' := by
  unfold pickO at h
  split at h
  · rename_i hg
    simp only [Bool.and_eq_true, decide_eq_true_iff] at hg
    have hl := good_is hg.2
    have hb := best_is l hl.2 (l.length + 1) (Nat.lt_succ_self _)
    have hi := best_inv l
    unfold pickV at h
    cases ho : bestO l 0 none with
    | none =>
      rw [ho] at h hb
      simp at h
      obtain ⟨rfl, rfl⟩ := h
      exact pick_none m A c l w hr hc _ _ hb
    | some q =>
      obtain ⟨b, mb⟩ := q
      rw [ho] at h hb
      simp at h
      obtain ⟨rfl, rfl⟩ := h
      have h2 := hi b mb ho
      exact pick_some m A c l w hr hc hl.1 hg.1.1 hg.1.2 _ b hb h2.1 h2.2.1
  · cases h
theorem starved_calls (A : Option Addr) (c : Nat) (l : List S34) (r : Bool) (w : World) (hr : Kd.C k34 w A l.length l) (hc : l.length ≤ c) (h : starvedO l = some r) :
    Calls Try.prog 12 #[.slice A l.length c] w fun e w' => e = .returned (.bool r) ∧ Below w.heap.size w w' := by
  unfold starvedO at h
  split at h
  · rename_i hg
    have hl := good_is hg
    have hb := best_is l hl.2 (l.length + 1) (Nat.lt_succ_self _)
    obtain rfl := Option.some.inj h
    unfold starvedV
    cases ho : bestO l 0 none with
    | none =>
      rw [ho] at hb
      exact starved_any A c l w hr hc _ _ false hb
    | some q =>
      rw [ho] at hb
      exact starved_any A c l w hr hc _ _ true hb
  · cases h
end Go.Proofs.Ytomabnpcecagfaa.Pk
