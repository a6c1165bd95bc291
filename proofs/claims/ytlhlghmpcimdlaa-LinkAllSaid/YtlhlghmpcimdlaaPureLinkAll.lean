/- The plain statement of LinkAll: hellos that are all heard cost what is said, silence costs everything: for every input. -/
import Derived.Test.YtlhlghmpcimdlaaMLnx3
import Derived.Test.YtlhlghmpcimdlaaLnQ
namespace Go.Proofs.Ytlhlghmpcimdlaa.Pure
open Go.RowKit Go.Proofs.Ytlhlghmpcimdlaa.MLn Go.Proofs.Ytlhlghmpcimdlaa.LnP Go.Proofs.YtlhlghmpcimdlaaW.PrintWords Go.Proofs.YtlhlghmpcimdlaaW.PrintLast Go.Proofs.YtlhlghmpcimdlaaW.PrintMore

/-- The bits behind so many hellos, all heard. -/
def T : Nat → Int
  | 0 => 0
  | n + 1 => T n / 2 + 32768
theorem T_range : ∀ n, 0 ≤ T n ∧ T n ≤ 65535
  | 0 => by simp [T]
  | n + 1 => by have := T_range n; simp only [T]; omega
theorem T_16 : T 16 = 65535 := by decide
theorem T_big : ∀ n, T (n + 16) = 65535
  | 0 => T_16
  | n + 1 => by
    show T (n + 16) / 2 + 32768 = 65535
    rw [T_big n]; decide
theorem T_top {n : Nat} (h : 3 ≤ n) : 2 ≤ top (T n) := by
  by_cases h2 : n < 16
  · have : ∀ i : Fin 16, 3 ≤ i.1 → 2 ≤ top (T i.1) := by decide +kernel
    exact this ⟨n, h2⟩ h
  · obtain ⟨m, rfl⟩ : ∃ m, n = m + 16 := ⟨n - 16, by omega⟩
    rw [T_big]; decide +kernel
theorem small_top_ (x : Nat) (h : x < 16384) : pc (x &&& 57344) ≤ 1 := by
  have h1 : (x &&& 57344) % 2 ^ 13 = 0 := by
    rw [Nat.and_mod_two_pow, show 57344 % 2 ^ 13 = 0 by decide, Nat.and_zero]
  have h2 : (x &&& 57344) ≤ x := Nat.and_le_left
  unfold pc
  rw [pcN_split 13 3, h1, show pcN 13 0 = 0 by decide]
  have h3 : (x &&& 57344) / 2 ^ 13 = 0 ∨ (x &&& 57344) / 2 ^ 13 = 1 := by omega
  rcases h3 with h3 | h3
  · rw [h3]; decide
  · rw [h3]; decide
theorem small_top {b : Int} (h0 : 0 ≤ b) (h1 : b < 16384) : top b ≤ 1 := small_top_ b.toNat (by omega)
theorem div_shift {b : Int} (h0 : 0 ≤ b) (h1 : b ≤ 65535) {m : Int} (hm : 2 ≤ m) : 0 ≤ b / 2 ^ m.toNat ∧ b / 2 ^ m.toNat < 16384 := by
  obtain ⟨j, hj⟩ : ∃ j, m.toNat = 2 + j := ⟨m.toNat - 2, by omega⟩
  rw [hj, Int.pow_add, ← Int.ediv_ediv_of_nonneg (by decide)]
  have := div_pow_le (b := b / 2 ^ 2) (by omega) j
  omega
theorem div_gone {b : Int} (h0 : 0 ≤ b) (h1 : b ≤ 65535) {m : Int} (hm : 16 ≤ m) : b / 2 ^ m.toNat = 0 := by
  obtain ⟨j, hj⟩ : ∃ j, m.toNat = 16 + j := ⟨m.toNat - 16, by omega⟩
  rw [hj, Int.pow_add, ← Int.ediv_ediv_of_nonneg (by decide), show b / 2 ^ 16 = 0 by omega]
  simp

theorem one_is {kind cost b n : Int} {q : Bool} (c0 : 0 ≤ cost) (c1 : cost ≤ 65535) (h0 : 0 ≤ b) (h1 : b ≤ 65535) (k : Nat) (hk : 2 < k) : link_Rx.f k kind cost [⟨b, n, q⟩] = some (rxv kind cost b) := by
  have hi : InB [⟨b, n, q⟩] := fun x hx => by
    simp only [List.mem_singleton] at hx
    rw [hx]; exact ⟨h0, h1⟩
  rw [Rx_is c0 c1 _ hi (by simp) k (by simpa using hk)]
  have := rxv_range (kind := kind) b c0 c1
  simp only [rxAll]
  rw [show min 65535 (rxv kind cost b) = rxv kind cost b by omega]

section
variable {cost first n missed : Int} (c0 : 0 ≤ cost) (c1 : cost < 65535) (n0 : 0 ≤ n) (n1 : n ≤ 300) (m0 : 0 ≤ missed) (m1 : missed ≤ 300)
include c0 c1 n0 n1 m0 m1
theorem all_j3 (k : Nat) (hk : 10 < k) (b x : Int) (q : Bool) (hx : n ≠ 0 → x = (first + n + missed) % 65536) : culvertlaw11_LinkAll.j3 k cost first n missed false b x q = some true := by
  obtain ⟨k, rfl⟩ : ∃ m, k = m + 1 := ⟨k - 1, by omega⟩
  simp only [culvertlaw11_LinkAll.j3, Bool.false_eq_true, if_false]
  rw [Rx_is c0 (by omega) [] (fun x h => by cases h) (by simp) k (by simp; omega)]
  simp only [Option.bind_some, rxAll, if_true]
  by_cases h : n = 0
  · rw [if_pos h]; rfl
  · rw [if_neg h, w64 (by omega) (by omega), wrap16, wrap16, if_pos (by rw [hx h]; omega)]; rfl
theorem all_j2 (k : Nat) (hk : 20 < k) (b x : Int) (q : Bool) (h0 : 0 ≤ b) (h1 : b ≤ 65535) (hq : n ≠ 0 → q = true ∧ x = (first + n) % 65536) (hz : q = false → b = 0) : culvertlaw11_LinkAll.j2 k cost first n missed false b x q = some true := by
  obtain ⟨k, rfl⟩ : ∃ m, k = m + 1 := ⟨k - 1, by omega⟩
  simp only [culvertlaw11_LinkAll.j2, Bool.false_eq_true, if_false]
  obtain ⟨b', x', hM, hb', hx', h2, h16⟩ : ∃ b' x', link_Miss.f b x q missed = some (b', x', q) ∧ (0 ≤ b' ∧ b' ≤ 65535) ∧ (n ≠ 0 → x' = (first + n + missed) % 65536) ∧ (2 ≤ missed → b' < 16384) ∧ (16 ≤ missed → b' = 0) := by
    rw [Miss_is h0 h1 m1]
    by_cases h : q = true ∧ 1 ≤ missed
    · rw [if_pos h]
      have hd := div_pow_le h0 missed.toNat
      exact ⟨_, _, rfl, ⟨hd.1, by omega⟩, fun hn => by rw [(hq hn).2]; omega, fun hm => (div_shift h0 h1 hm).2, fun hm => div_gone h0 h1 hm⟩
    · rw [if_neg h]
      refine ⟨_, _, rfl, ⟨h0, h1⟩, fun hn => ?_, fun hm => ?_, fun hm => ?_⟩
      · have : ¬ 1 ≤ missed := fun h' => h ⟨(hq hn).1, h'⟩
        rw [(hq hn).2, show missed = 0 by omega, Int.add_zero]
      · have : q = false := by
          cases q with
          | true => exact absurd ⟨rfl, by omega⟩ h
          | false => rfl
        rw [hz this]; omega
      · have : q = false := by
          cases q with
          | true => exact absurd ⟨rfl, by omega⟩ h
          | false => rfl
        exact hz this
  rw [hM]
  simp only [Option.bind_some]
  have j3 := all_j3 c0 c1 n0 n1 m0 m1 (first := first) k (by omega) b' x' q hx'
  rw [one_is c0 (by omega) hb'.1 hb'.2 k (by omega), one_is c0 (by omega) hb'.1 hb'.2 k (by omega)]
  simp only [Option.bind_some]
  have wired : 2 ≤ missed → rxv 0 cost b' = 65535 := fun h => by
    have := small_top hb'.1 (h2 h)
    unfold rxv
    rw [if_pos rfl, if_neg (by omega)]
  by_cases c16 : missed ≥ 16
  · rw [if_pos c16, if_pos (show rxv 1 cost b' = 65535 by
      rw [h16 c16]; unfold rxv
      rw [if_neg (show ¬ (1 : Int) = 0 by decide), if_pos (show (1 : Int) = 1 from rfl), if_neg (by decide)]), if_pos (h16 c16), if_pos (by omega), wired (by omega)]
    exact j3
  · rw [if_neg c16]
    by_cases c2 : missed ≥ 2
    · rw [if_pos c2, wired c2]; exact j3
    · rw [if_neg c2]; exact j3
theorem all_l0 (d : Nat) : ∀ (k i : Nat), (i : Int) + d = n → d + 30 < k →
    culvertlaw11_LinkAll.l0 k cost first n missed i (T i) (if i = 0 then 0 else (first + i) % 65536) (decide (i ≠ 0)) = some true := by
  induction d with
  | zero =>
    intro k i hi hk
    obtain ⟨k, rfl⟩ : ∃ m, k = m + 1 := ⟨k - 1, by omega⟩
    have ht := T_range i
    have hni : n = i := by omega
    simp only [culvertlaw11_LinkAll.l0]
    rw [if_neg (by omega)]
    have j2 := all_j2 c0 c1 n0 n1 m0 m1 (first := first) k (by omega) (T i) (if i = 0 then 0 else (first + i) % 65536) (decide (i ≠ 0)) ht.1 ht.2
      (fun h => ⟨by rw [decide_eq_true_iff]; omega, by rw [if_neg (by omega), hni]⟩) (fun h => by
        rw [decide_eq_false_iff_not] at h
        rw [show i = 0 by omega]; rfl)
    rw [one_is c0 (by omega) ht.1 ht.2 k (by omega), one_is c0 (by omega) ht.1 ht.2 k (by omega)]
    simp only [Option.bind_some]
    have wireless : n ≥ 16 → rxv 1 cost (T i) = cost := fun h => by
      obtain ⟨m, rfl⟩ : ∃ m, i = m + 16 := ⟨i - 16, by omega⟩
      rw [T_big]
      unfold rxv
      rw [if_neg (show ¬ (1 : Int) = 0 by decide), if_pos (show (1 : Int) = 1 from rfl), show pc (65535 : Int).toNat = 16 by decide +kernel, if_pos (by decide)]
      show min (cost * 16 / 16) 65534 = cost
      omega
    by_cases c3 : n ≥ 3
    · rw [if_pos c3, if_pos (show rxv 0 cost (T i) = cost by
        unfold rxv
        rw [if_pos rfl, if_pos (T_top (by omega))])]
      by_cases c16 : n ≥ 16
      · rw [if_pos c16, wireless c16, show (cost != cost) = false by simp]; exact j2
      · rw [if_neg c16]; exact j2
    · rw [if_neg c3, if_neg (by omega)]; exact j2
  | succ d ih =>
    intro k i hi hk
    obtain ⟨k, rfl⟩ : ∃ m, k = m + 2 := ⟨k - 2, by omega⟩
    have ht := T_range i
    have h := ih (k + 1) (i + 1) (by omega) (by omega)
    rw [show k + 2 = (k + 1) + 1 by omega]
    simp only [culvertlaw11_LinkAll.l0] at h ⊢
    rw [if_pos (by omega), Hear_is k ht.1 ht.2]
    simp only [Option.bind_some]
    rw [w64 (by omega) (by omega), wrap16, wrap16]
    have e1 : hearB (T i) (if i = 0 then 0 else (first + i) % 65536) (decide (i ≠ 0)) ((first + (i : Int) % 65536) % 65536) = T (i + 1) := by
      unfold hearB
      by_cases hi0 : i = 0
      · subst hi0
        rw [if_pos (.inl (by decide))]; decide
      · rw [if_neg hi0, decide_eq_true hi0]
        have a0 : LnP.ahead ((first + (i : Int)) % 65536) ((first + (i : Int) % 65536) % 65536) = 0 := by unfold LnP.ahead; split <;> omega
        rw [a0, if_neg (by decide), if_pos (by decide), show (0 : Int).toNat = 0 from rfl]
        simp only [T]
        simp
    have e2 : ((first + (i : Int) % 65536) % 65536 + 1) % 65536 = (if i + 1 = 0 then 0 else (first + ((i + 1 : Nat) : Int)) % 65536) := by
      rw [if_neg (by omega)]; omega
    rw [e1, e2, show ((i : Int) + 1) = ((i + 1 : Nat) : Int) by omega]
    have e3 : decide (i + 1 ≠ 0) = true := by simp
    rw [e3] at h
    exact h
end

theorem LinkAll : culvertlaw11_LinkAll.Pure := by
  intro a0 a1 a2 a3 w0 w1 w2 w3
  have g0 := of16 w0
  have g1 := of16 w1
  refine ⟨400, ?_⟩
  have out : culvertlaw11_LinkAll.j0 400 a0 a1 a2 a3 true = some true := by simp only [culvertlaw11_LinkAll.j0, if_true]; rfl
  unfold culvertlaw11_LinkAll.f
  by_cases c1 : a2 < 0
  · rw [if_pos c1]; exact out
  · rw [if_neg c1]
    by_cases c2 : a2 > 300
    · rw [if_pos c2]; exact out
    · rw [if_neg c2]
      by_cases c3 : a3 < 0
      · rw [if_pos c3]; exact out
      · rw [if_neg c3]
        by_cases c4 : a3 > 300
        · rw [if_pos c4]; exact out
        · rw [if_neg c4]
          by_cases c5 : a0 = 65535
          · rw [show (a0 == 65535) = true by rw [c5]; rfl]; exact out
          · rw [show (a0 == 65535) = false by rw [beq_eq_false_iff_ne]; exact c5]
            simp only [culvertlaw11_LinkAll.j0, Bool.false_eq_true, if_false]
            exact all_l0 g0.1 (by omega) (by omega) (by omega) (by omega) (by omega) a2.toNat 399 0 (by omega) (by omega)

end Go.Proofs.Ytlhlghmpcimdlaa.Pure
