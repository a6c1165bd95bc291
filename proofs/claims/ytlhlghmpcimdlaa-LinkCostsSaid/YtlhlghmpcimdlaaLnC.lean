/- The plain laws of LinkCosts, LinkBits and LinkHears. -/
import Derived.Test.YtlhlghmpcimdlaaLnQ
import Derived.Test.YtlhlghmpcimdlaaMLnx6
import Derived.Test.YtlhlghmpcimdlaaMLnx8
namespace Go.Proofs.Ytlhlghmpcimdlaa.LnP
open Go.RowKit Go.Proofs.Ytlhlghmpcimdlaa.MLn Go.Proofs.YtlhlghmpcimdlaaW.PrintWords Go.Proofs.YtlhlghmpcimdlaaW.PrintLast Go.Proofs.YtlhlghmpcimdlaaW.PrintMore

theorem costs_true {kind cost rx tx : Int} {l : List S24} (c0 : 0 ≤ cost) (c1 : cost ≤ 65535) (hl : InB l) (r0 : 0 ≤ rx) (r1 : rx ≤ 65535) (t0 : 0 ≤ tx) (t1 : tx ≤ 65535) : culvertlaw11_LinkCosts.f 700 kind cost l rx tx = some true := by
  unfold culvertlaw11_LinkCosts.f
  split
  · rfl
  · rw [Rx_is c0 c1 l hl (by omega) 700 (by omega), refRx_is c0 c1 l hl (by omega) 700 (by omega), refCost_is, Cost_is r0 r1 t0 t1 699]
    simp only [Option.bind_some, if_true]
    rfl

theorem missN {b n : Int} {q : Bool} {m : Int} (h0 : 0 ≤ b) (h1 : b ≤ 65535) (n0 : 0 ≤ n) (n1 : n ≤ 65535) (hm : m ≤ 300) : link_Miss.f b n q m = some (if q = true then (b / 2 ^ m.toNat, (n + m.toNat) % 65536, q) else (b, n, q)) := by
  rw [Miss_is h0 h1 hm]
  by_cases hq : q = true
  · rw [if_pos hq]
    by_cases h : 1 ≤ m
    · rw [if_pos ⟨hq, h⟩, show ((m.toNat : Nat) : Int) = m by omega]
    · rw [if_neg (by omega), show m.toNat = 0 by omega]
      rw [show b / 2 ^ 0 = b by simp, show (n + ((0 : Nat) : Int)) % 65536 = n by omega]
  · rw [if_neg hq, if_neg (fun h => hq h.1)]

theorem bits_true {b n s m : Int} {q : Bool} (h0 : 0 ≤ b) (h1 : b ≤ 65535) (n0 : 0 ≤ n) (n1 : n ≤ 65535) : culvertlaw11_LinkBits.f 10 b n q s m = some true := by
  unfold culvertlaw11_LinkBits.f
  have out : culvertlaw11_LinkBits.j0 10 s m true b n q = some true := by simp only [culvertlaw11_LinkBits.j0, if_true]; rfl
  by_cases c1 : m < 0
  · rw [if_pos c1]; exact out
  · rw [if_neg c1]
    by_cases c2 : m > 300
    · rw [decide_eq_true c2]; exact out
    · rw [decide_eq_false c2]
      have hB := hearB_range (n := n) (q := q) (s := s) h0 h1
      have hd := div_pow_le (b := hearB b n q s) (by omega) m.toNat
      simp only [culvertlaw11_LinkBits.j0, Bool.false_eq_true, if_false]
      rw [Hear_is 8 h0 h1]
      simp only [Option.bind_some]
      rw [missN (by omega) (by omega) (by omega) (by omega) (by omega)]
      simp only [Option.bind_some, if_true, wrap16]
      generalize hearB b n q s = B at *
      rw [if_neg (by omega), if_pos (by omega), decide_eq_false (by omega)]
      simp only [culvertlaw11_LinkBits.j1, Bool.false_eq_true, if_false]
      rw [missN (by omega) (by omega) (by omega) (by omega) (by omega)]
      simp only [Option.bind_some, if_true, wrap16]
      rw [show (1 : Int).toNat = 1 from rfl, Hear_is (b := B / 2 ^ 1) 7 (by omega) (by omega), Hear_is (b := B) 7 (by omega) (by omega)]
      simp only [Option.bind_some]
      have a1 : ahead (((s + 1) % 65536 + ((1 : Nat) : Int)) % 65536) ((s + 1) % 65536) = -1 := by unfold ahead; split <;> omega
      have a0 : ahead ((s + 1) % 65536) ((s + 1) % 65536) = 0 := by unfold ahead; split <;> omega
      have e1 : hearB (B / 2 ^ 1) (((s + 1) % 65536 + ((1 : Nat) : Int)) % 65536) true ((s + 1) % 65536) = B / 2 + 32768 := by
        unfold hearB
        rw [a1, if_neg (by decide), if_neg (by decide), show (-(-1 : Int)).toNat = 1 from rfl]; omega
      have e0 : hearB B ((s + 1) % 65536) true ((s + 1) % 65536) = B / 2 + 32768 := by
        unfold hearB
        rw [a0, if_neg (by decide), if_pos (by decide), show (0 : Int).toNat = 0 from rfl]; omega
      rw [e1, e0, if_pos rfl, missN (b := 0) (n := 0) (by omega) (by omega) (by omega) (by omega) (by omega), missN h0 h1 n0 n1 (m := 0) (by omega)]
      have e2 : (if q = true then (b / 2 ^ (0 : Int).toNat, (n + ((0 : Int).toNat : Int)) % 65536, q) else (b, n, q)) = (b, n, q) := by
        split
        · rw [show (0 : Int).toNat = 0 from rfl, show b / 2 ^ 0 = b by simp, show (n + ((0 : Nat) : Int)) % 65536 = n by omega]
        · rfl
      rw [e2]
      simp
      rfl

def InA (l : List S28) : Prop := ∀ x ∈ l, 0 ≤ x.f2 ∧ x.f2 ≤ 65535 ∧ -9223372036854775808 ≤ x.f1
theorem rd28_mem {l : List S28} {i : Int} (h0 : 0 ≤ i) (h : i < l.length) : rd_T28 l i ∈ l := by
  have hi : i.toNat < l.length := by omega
  simp [rd_T28, List.getD_eq_getElem?_getD, List.getElem?_eq_getElem hi]
theorem same_no (b n : Int) (q : Bool) : ¬ ((!(b == b) || (!(n == n) || (!(q == q)))) = true) := by simp
theorem hears_inner {l : List S28} {i b n : Int} {q : Bool} (h0 : 0 ≤ b) (h1 : b ≤ 65535) (n0 : 0 ≤ n) (n1 : n ≤ 65535) (i0 : 0 ≤ i) (i1 : i < l.length) (hn : l.length ≤ 300) (K : Nat) (hN : (rd_T28 l i).f1 ≤ 300)
    (ih : ∀ (k : Nat) (b n : Int) (q : Bool), 0 ≤ b → b ≤ 65535 → 0 ≤ n → n ≤ 65535 → K ≤ k → culvertlaw11_LinkHears.l0 k l (i + 1) b n q b n q = some true) (e : Nat) : ∀ (k : Nat) (j : Nat), j + e = (rd_T28 l i).f1.toNat → e + 1 + K ≤ k →
    culvertlaw11_LinkHears.l1 k l i j (if q = true then (b / 2 ^ (rd_T28 l i).f1.toNat, (n + (rd_T28 l i).f1.toNat) % 65536, q) else (b, n, q)).1 (if q = true then (b / 2 ^ (rd_T28 l i).f1.toNat, (n + (rd_T28 l i).f1.toNat) % 65536, q) else (b, n, q)).2.1 (if q = true then (b / 2 ^ (rd_T28 l i).f1.toNat, (n + (rd_T28 l i).f1.toNat) % 65536, q) else (b, n, q)).2.2
      (if q = true then (b / 2 ^ j, (n + j) % 65536, q) else (b, n, q)).1 (if q = true then (b / 2 ^ j, (n + j) % 65536, q) else (b, n, q)).2.1 (if q = true then (b / 2 ^ j, (n + j) % 65536, q) else (b, n, q)).2.2 = some true := by
  induction e with
  | zero =>
    intro k j hj hk
    obtain ⟨k, rfl⟩ : ∃ m, k = m + 1 := ⟨k - 1, by omega⟩
    obtain rfl : j = (rd_T28 l i).f1.toNat := by omega
    have hd := div_pow_le h0 (rd_T28 l i).f1.toNat
    simp only [culvertlaw11_LinkHears.l1]
    rw [if_pos i0, if_pos i1, if_neg (by omega), if_neg (same_no _ _ _), w64 (by omega) (by omega)]
    cases q with
    | true => simp only [if_true]; exact ih k _ _ _ (by omega) (by omega) (by omega) (by omega) (by omega)
    | false => simp only [Bool.false_eq_true, if_false]; exact ih k _ _ _ h0 h1 n0 n1 (by omega)
  | succ e ih2 =>
    intro k j hj hk
    obtain ⟨k, rfl⟩ : ∃ m, k = m + 1 := ⟨k - 1, by omega⟩
    have hd := div_pow_le h0 j
    have h3 := ih2 k (j + 1) (by omega) (by omega)
    simp only [culvertlaw11_LinkHears.l1]
    rw [if_pos i0, if_pos i1, if_pos (by omega), w64 (by omega) (by omega)]
    cases q with
    | true =>
      simp only [if_true] at h3 ⊢
      rw [refMiss_is (by omega) (by omega), if_pos rfl]
      simp only [Option.bind_some]
      have e1 : b / 2 ^ j / 2 = b / 2 ^ (j + 1) := by rw [Int.pow_succ, ← Int.ediv_ediv_of_nonneg (Int.le_of_lt (Int.pow_pos (by omega)))]
      have e2 : ((n + (j : Int)) % 65536 + 1) % 65536 = (n + ((j + 1 : Nat) : Int)) % 65536 := by omega
      rw [e1, e2, show ((j : Int) + 1) = ((j + 1 : Nat) : Int) by omega]
      exact h3
    | false =>
      simp only [Bool.false_eq_true, if_false] at h3 ⊢
      rw [refMiss_is h0 h1, if_neg (by decide)]
      simp only [Option.bind_some]
      rw [show ((j : Int) + 1) = ((j + 1 : Nat) : Int) by omega]
      exact h3
theorem hears_loop {l : List S28} (hl : InA l) (hn : l.length ≤ 300) (d : Nat) : ∀ (k : Nat) (i b n : Int) (q : Bool), 0 ≤ b → b ≤ 65535 → 0 ≤ n → n ≤ 65535 → 0 ≤ i → i ≤ l.length → (l.length : Int) - i = d → d * 310 + 60 ≤ k →
    culvertlaw11_LinkHears.l0 k l i b n q b n q = some true := by
  induction d with
  | zero =>
    intro k i b n q h0 h1 n0 n1 i0 i1 hd hk
    obtain ⟨k, rfl⟩ : ∃ m, k = m + 1 := ⟨k - 1, by omega⟩
    simp only [culvertlaw11_LinkHears.l0]
    rw [if_neg (by omega)]; rfl
  | succ d ih =>
    intro k i b n q h0 h1 n0 n1 i0 i1 hd hk
    obtain ⟨k, rfl⟩ : ∃ m, k = m + 1 := ⟨k - 1, by omega⟩
    have hlt : i < (l.length : Int) := by omega
    have hx := hl _ (rd28_mem i0 hlt)
    simp only [culvertlaw11_LinkHears.l0]
    rw [if_pos hlt, if_pos i0]
    split
    · split
      · rfl
      · rename_i hN
        rw [missN h0 h1 n0 n1 (by omega)]
        simp only [Option.bind_some]
        have h := hears_inner h0 h1 n0 n1 i0 hlt hn (d * 310 + 60) (by omega) (q := q) (fun k b n q a1 a2 a3 a4 a5 => ih k (i + 1) b n q a1 a2 a3 a4 (by omega) (by omega) (by omega) a5) (rd_T28 l i).f1.toNat k 0 (by omega) (by omega)
        have e : (if q = true then (b / 2 ^ 0, (n + ((0 : Nat) : Int)) % 65536, q) else (b, n, q)) = (b, n, q) := by
          split
          · rw [show b / 2 ^ 0 = b by simp, show (n + ((0 : Nat) : Int)) % 65536 = n by omega]
          · rfl
        rw [e] at h
        exact h
    · obtain ⟨k, rfl⟩ : ∃ m, k = m + 1 := ⟨k - 1, by omega⟩
      have hk3 : d * 310 + 60 ≤ k + 1 := by
        rw [Nat.succ_mul] at hk
        generalize d * 310 = x at *
        omega
      have hB := hearB_range (n := n) (q := q) (s := (rd_T28 l i).f2) h0 h1
      rw [Hear_is k h0 h1, refHear_is (k + 1) (by omega) h0 h1]
      simp only [Option.bind_some]
      rw [if_neg (same_no _ _ _), w64 (by omega) (by omega)]
      exact ih (k + 1) (i + 1) _ _ _ (by omega) (by omega) (by omega) (by omega) (by omega) (by omega) (by omega) hk3
theorem hears_true {b n : Int} {q : Bool} {l : List S28} (h0 : 0 ≤ b) (h1 : b ≤ 65535) (n0 : 0 ≤ n) (n1 : n ≤ 65535) (hl : InA l) (k : Nat) (hk : 300 * 310 + 60 ≤ k) : culvertlaw11_LinkHears.f k b n q l = some true := by
  unfold culvertlaw11_LinkHears.f
  split
  · rfl
  · rename_i hlen
    have hn : l.length ≤ 300 := by omega
    have hk2 : l.length * 310 + 60 ≤ k := Nat.le_trans (Nat.add_le_add_right (Nat.mul_le_mul_right 310 hn) 60) hk
    exact hears_loop hl hn l.length k 0 b n q h0 h1 n0 n1 (by omega) (by omega) (by omega) hk2
end Go.Proofs.Ytlhlghmpcimdlaa.LnP
