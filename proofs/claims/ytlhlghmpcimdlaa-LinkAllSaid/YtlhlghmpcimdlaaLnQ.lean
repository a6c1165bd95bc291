/- Plain lemmas on hellos that are heard and missed. -/
import Derived.Test.YtlhlghmpcimdlaaLnP
namespace Go.Proofs.Ytlhlghmpcimdlaa.LnP
open Go.RowKit Go.Proofs.Ytlhlghmpcimdlaa.MLn Go.Proofs.YtlhlghmpcimdlaaW.PrintWords Go.Proofs.YtlhlghmpcimdlaaW.PrintLast Go.Proofs.YtlhlghmpcimdlaaW.PrintMore

/-- How far ahead, as 16 bits with a sign tell it. -/
def ahead (n s : Int) : Int := if (s - n) % 65536 ≥ 32768 then (s - n) % 65536 - 65536 else (s - n) % 65536
def hearB (b n : Int) (q : Bool) (s : Int) : Int :=
  if q = false ∨ ahead n s > 16 ∨ ahead n s < -16 then 32768
  else if 0 ≤ ahead n s then b / 2 ^ (ahead n s).toNat / 2 + 32768
  else b * 2 ^ (-ahead n s).toNat % 65536 / 2 + 32768
theorem or_top {y : Int} (h0 : 0 ≤ y) (h1 : y < 32768) : Go.bits .or .u16 y 32768 = y + 32768 := by
  rw [u16_or y 32768 h0 (by omega) (by omega) (by omega)]
  have h := Nat.two_pow_add_eq_or_of_lt (b := y.toNat) (i := 15) (by omega) 1
  have e : y.toNat ||| 32768 = 32768 + y.toNat := by rw [Nat.or_comm]; exact h.symm
  show ((y.toNat ||| 32768 : Nat) : Int) = _
  rw [e]; omega
theorem wrapi16 (a : Int) : IntKind.i16.wrap (a % 65536) = if a % 65536 ≥ 32768 then a % 65536 - 65536 else a % 65536 := by
  simp [IntKind.wrap, IntKind.bits, IntKind.signed]
theorem div_pow_le {b : Int} (h0 : 0 ≤ b) (n : Nat) : 0 ≤ b / 2 ^ n ∧ b / 2 ^ n ≤ b := ⟨Int.ediv_nonneg h0 (Int.le_of_lt (Int.pow_pos (by omega))), Int.ediv_le_self _ h0⟩
theorem ahead_range (n s : Int) : -32768 ≤ ahead n s ∧ ahead n s ≤ 32767 := by unfold ahead; split <;> omega
theorem Hear_jt (k : Nat) (s a b n : Int) (q : Bool) : link_Hear.j0 (k + 1) s a true b n q = some (32768, (s + 1) % 65536, true) := by
  have hz : Go.bits .or .u16 (0 / 2) 32768 = 32768 := or_top (y := 0 / 2) (by decide) (by decide)
  simp only [link_Hear.j0, hz, wrap16, if_true]
theorem Hear_jf (k : Nat) (s a b n : Int) (q : Bool) (h0 : 0 ≤ b) (h1 : b ≤ 65535) (c1 : ¬ a > 16) (c2 : ¬ a < -16) :
    link_Hear.j0 (k + 1) s a false b n q = some (if 0 ≤ a then b / 2 ^ a.toNat / 2 + 32768 else b * 2 ^ (-a).toNat % 65536 / 2 + 32768, (s + 1) % 65536, true) := by
  have hd := div_pow_le h0 a.toNat
  simp only [link_Hear.j0, wrap16, Bool.false_eq_true, if_false]
  by_cases c3 : 0 ≤ a
  · rw [if_pos (show a ≥ 0 from c3), if_pos c3, if_pos c3]
    unfold shr
    rw [Nat.min_eq_left (by simp [IntKind.bits]; omega), or_top (by omega) (by omega)]
  · rw [if_neg (show ¬ a ≥ 0 from c3), if_neg c3, w64 (a := -a) (by omega) (by omega), if_pos (by omega)]
    unfold shl
    rw [Nat.min_eq_left (by simp [IntKind.bits]; omega), wrap16, or_top (by omega) (by omega)]
theorem Hear_is {b n : Int} {q : Bool} {s : Int} (k : Nat) (h0 : 0 ≤ b) (h1 : b ≤ 65535) : link_Hear.f (k + 1) b n q s = some (hearB b n q s, (s + 1) % 65536, true) := by
  have hr := ahead_range n s
  have ew : wrap64 (IntKind.i16.wrap (IntKind.u16.wrap (s - n))) = ahead n s := by
    rw [wrap16, wrapi16]
    have : (if (s - n) % 65536 ≥ 32768 then (s - n) % 65536 - 65536 else (s - n) % 65536) = ahead n s := rfl
    rw [this]
    unfold wrap64; omega
  unfold link_Hear.f hearB
  rw [ew]
  generalize ahead n s = a at *
  cases q with
  | false => rw [if_neg (by decide), Hear_jt, if_pos (.inl rfl)]
  | true =>
    rw [if_pos rfl]
    by_cases c1 : a > 16
    · rw [if_pos c1, Hear_jt, if_pos (.inr (.inl c1))]
    · rw [if_neg c1]
      by_cases c2 : a < -16
      · rw [decide_eq_true c2, Hear_jt, if_pos (.inr (.inr c2))]
      · rw [decide_eq_false c2, Hear_jf k s a b n true h0 h1 c1 c2, if_neg (show ¬ (true = false ∨ a > 16 ∨ a < -16) by simp; omega)]
theorem Miss_is {b n : Int} {q : Bool} {m : Int} (h0 : 0 ≤ b) (h1 : b ≤ 65535) (hm : m ≤ 300) : link_Miss.f b n q m = some (if q = true ∧ 1 ≤ m then (b / 2 ^ m.toNat, (n + m) % 65536, q) else (b, n, q)) := by
  unfold link_Miss.f
  cases q with
  | false => rw [if_neg (by decide), if_neg (by simp)]
  | true =>
    rw [if_pos rfl]
    by_cases c : m < 1
    · rw [if_pos c, if_neg (by omega)]
    · rw [if_neg c, if_pos (by rw [mn_is]; omega), if_pos ⟨rfl, by omega⟩, wrap16, wrap16, mn_is]
      have e1 : (n + m % 65536) % 65536 = (n + m) % 65536 := by omega
      rw [e1]
      by_cases c2 : m ≤ 16
      · rw [show min m 16 = m by omega]
      · have e : ∀ j : Nat, 16 ≤ j → b / 2 ^ j = 0 := fun j hj => by
          refine Int.ediv_eq_zero_of_lt h0 ?_
          have : (2 : Int) ^ 16 ≤ 2 ^ j := by
            have := Nat.pow_le_pow_right (n := 2) (by omega) hj
            exact_mod_cast this
          omega
        rw [e _ (by omega), e _ (by omega)]
/-- One hello that is missed, as the document tells it. -/
theorem refMiss_is {b n : Int} {q : Bool} (h0 : 0 ≤ b) (h1 : b ≤ 65535) : culvertref11_Miss.f b n q = some (if q = true then (b / 2, (n + 1) % 65536, q) else (b, n, q)) := by
  unfold culvertref11_Miss.f
  split
  · rw [wrap16, wrap16, Int.tdiv_eq_ediv_of_nonneg h0, Int.emod_eq_of_lt (a := b / 2) (by omega) (by omega)]
  · rfl
theorem pow_succ_toNat {i : Int} (h : 0 ≤ i) : (2 : Int) ^ (i + 1).toNat = 2 ^ i.toNat * 2 := by
  rw [show (i + 1).toNat = i.toNat + 1 by omega, Int.pow_succ]
theorem refHear_l1 (s a n : Int) (q : Bool) (ha : -16 ≤ a) (d : Nat) : ∀ (k : Nat) (i b : Int), 0 ≤ b → b ≤ 65535 → a ≤ i → i ≤ 0 → i - a = d → d < k →
    culvertref11_Hear.l1 k s a i b n q = some (b * 2 ^ (i - a).toNat % 65536 / 2 + 32768, (s + 1) % 65536, true) := by
  induction d with
  | zero =>
    intro k i b h0 h1 h2 h3 h4 h5
    obtain ⟨k, rfl⟩ : ∃ m, k = m + 1 := ⟨k - 1, by omega⟩
    simp only [culvertref11_Hear.l1]
    rw [if_neg (by omega), wrap16, wrap16, wrap16, Int.tdiv_eq_ediv_of_nonneg h0, show (i - a).toNat = 0 by omega]
    rw [show b * 2 ^ 0 % 65536 / 2 + 32768 = b / 2 + 32768 by simp; omega, show (b / 2 % 65536 + 32768) % 65536 = b / 2 + 32768 by omega]
  | succ d ih =>
    intro k i b h0 h1 h2 h3 h4 h5
    obtain ⟨k, rfl⟩ : ∃ m, k = m + 1 := ⟨k - 1, by omega⟩
    simp only [culvertref11_Hear.l1]
    rw [if_pos (by omega), w64 (by omega) (by omega), wrap16, ih k (i - 1) (b * 2 % 65536) (by omega) (by omega) (by omega) (by omega) (by omega) (by omega)]
    have e : (i - a) = (i - 1 - a) + 1 := by omega
    rw [e, pow_succ_toNat (by omega)]
    have e2 : b * 2 % 65536 * 2 ^ (i - 1 - a).toNat % 65536 = b * (2 ^ (i - 1 - a).toNat * 2) % 65536 := by
      rw [Int.mul_emod, Int.emod_emod_of_dvd _ (Int.dvd_refl _), ← Int.mul_emod, Int.mul_assoc, Int.mul_comm 2]
    rw [e2]
theorem refHear_l0 (s a n : Int) (q : Bool) (h16 : a ≤ 16) (hm : -16 ≤ a) (d : Nat) : ∀ (k : Nat) (i b : Int), 0 ≤ b → b ≤ 65535 → 0 ≤ i → (i ≤ a ∨ a < 0 ∧ i = 0) → (a - i).toNat = d → d + 20 < k →
    culvertref11_Hear.l0 k s a i b n q = some (if 0 ≤ a then b / 2 ^ (a - i).toNat / 2 + 32768 else b * 2 ^ (-a).toNat % 65536 / 2 + 32768, (s + 1) % 65536, true) := by
  induction d with
  | zero =>
    intro k i b h0 h1 h2 h3 h4 h5
    obtain ⟨k, rfl⟩ : ∃ m, k = m + 1 := ⟨k - 1, by omega⟩
    simp only [culvertref11_Hear.l0]
    rw [if_neg (by omega)]
    by_cases c : 0 ≤ a
    · rw [if_pos c, h4]
      obtain rfl : i = a := by omega
      obtain ⟨k, rfl⟩ : ∃ m, k = m + 1 := ⟨k - 1, by omega⟩
      simp only [culvertref11_Hear.l1]
      rw [if_neg (by omega), wrap16, wrap16, wrap16, Int.tdiv_eq_ediv_of_nonneg h0]
      rw [show b / 2 ^ 0 / 2 + 32768 = b / 2 + 32768 by simp, show (b / 2 % 65536 + 32768) % 65536 = b / 2 + 32768 by omega]
    · rw [if_neg c, refHear_l1 s a n q hm (0 - a).toNat k 0 b h0 h1 (by omega) (by omega) (by omega) (by omega), show (0 - a) = -a by omega]
  | succ d ih =>
    intro k i b h0 h1 h2 h3 h4 h5
    obtain ⟨k, rfl⟩ : ∃ m, k = m + 1 := ⟨k - 1, by omega⟩
    simp only [culvertref11_Hear.l0]
    have c : 0 ≤ a := by omega
    rw [if_pos (by omega), w64 (by omega) (by omega), wrap16, Int.tdiv_eq_ediv_of_nonneg h0, Int.emod_eq_of_lt (a := b / 2) (by omega) (by omega), ih k (i + 1) (b / 2) (by omega) (by omega) (by omega) (by omega) (by omega) (by omega), if_pos c, if_pos c]
    have e : (a - i) = (a - (i + 1)) + 1 := by omega
    rw [e, pow_succ_toNat (by omega), Int.mul_comm, ← Int.ediv_ediv_of_nonneg (by omega)]
theorem refHear_is {b n : Int} {q : Bool} {s : Int} (k : Nat) (hk : 50 < k) (h0 : 0 ≤ b) (h1 : b ≤ 65535) : culvertref11_Hear.f k b n q s = some (hearB b n q s, (s + 1) % 65536, true) := by
  unfold culvertref11_Hear.f
  rw [wrap16, wrap16, show (s - n) % 65536 % 65536 = (s - n) % 65536 by omega, w64 (a := (s - n) % 65536) (by omega) (by omega), Int.tmod_eq_emod_of_nonneg (by omega), show (s - n) % 65536 % 65536 = (s - n) % 65536 by omega]
  have key : ∀ a, (a = ahead n s ∨ (a = 32768 ∧ ahead n s = -32768)) → culvertref11_Hear.j0 k s a b n q = some (hearB b n q s, (s + 1) % 65536, true) := by
    intro a ha
    obtain ⟨k, rfl⟩ : ∃ m, k = m + 2 := ⟨k - 2, by omega⟩
    have hr := ahead_range n s
    unfold hearB
    have j1t : culvertref11_Hear.j1 (k + 1) s a true b n q = some (32768, (s + 1) % 65536, true) := by simp only [culvertref11_Hear.j1, wrap16, if_true]
    have j1f : culvertref11_Hear.j1 (k + 1) s a false b n q = culvertref11_Hear.l0 k s a 0 b n q := by simp only [culvertref11_Hear.j1, Bool.false_eq_true, if_false]
    cases q with
    | false =>
      rw [if_pos (.inl rfl)]
      simp only [culvertref11_Hear.j0, Bool.false_eq_true, if_false]
      exact j1t
    | true =>
      simp only [culvertref11_Hear.j0, if_true]
      by_cases c1 : a > 16
      · rw [if_pos c1, j1t, if_pos (show true = false ∨ ahead n s > 16 ∨ ahead n s < -16 by omega)]
      · rw [if_neg c1]
        by_cases c2 : a < -16
        · rw [decide_eq_true c2, j1t, if_pos (show true = false ∨ ahead n s > 16 ∨ ahead n s < -16 by omega)]
        · obtain rfl : a = ahead n s := by omega
          rw [decide_eq_false c2, j1f, if_neg (show ¬ (true = false ∨ ahead n s > 16 ∨ ahead n s < -16) by simp; omega),
            refHear_l0 s (ahead n s) n true (by omega) (by omega) (ahead n s - 0).toNat k 0 b h0 h1 (by omega) (by omega) rfl (by omega), show ahead n s - 0 = ahead n s by omega]
  by_cases c : (s - n) % 65536 > 32768
  · rw [if_pos c, w64 (by omega) (by omega)]
    exact key _ (.inl (by unfold ahead; rw [if_pos (by omega)]))
  · rw [if_neg c]
    refine key _ ?_
    unfold ahead
    split <;> omega
theorem hearB_range {b n : Int} {q : Bool} {s : Int} (h0 : 0 ≤ b) (h1 : b ≤ 65535) : 32768 ≤ hearB b n q s ∧ hearB b n q s ≤ 65535 := by
  have hd := div_pow_le h0 (ahead n s).toNat
  unfold hearB
  split
  · omega
  · split <;> omega
end Go.Proofs.Ytlhlghmpcimdlaa.LnP
