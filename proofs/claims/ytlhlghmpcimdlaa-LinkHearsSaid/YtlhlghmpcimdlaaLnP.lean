/- Plain lemmas on the link's functions: how many bits are set; what hears, misses and costs come to. -/
import Derived.Test.YtlhlghmpcimdlaaMLnx2
import Derived.Test.YtlhlghmpcimdlaaMLnx5
import Derived.Test.YtlhlghmpcimdlaaMLnx7
namespace Go.Proofs.Ytlhlghmpcimdlaa.LnP
open Go.RowKit Go.Proofs.Ytlhlghmpcimdlaa.MLn Go.Proofs.YtlhlghmpcimdlaaW.PrintWords Go.Proofs.YtlhlghmpcimdlaaW.PrintLast Go.Proofs.YtlhlghmpcimdlaaW.PrintMore

def tb : ByteArray := ⟨#[0, 1, 1, 2, 1, 2, 2, 3, 1, 2, 2, 3, 2, 3, 3, 4, 1, 2, 2, 3, 2, 3, 3, 4, 2, 3, 3, 4, 3, 4, 4, 5, 1, 2, 2, 3, 2, 3, 3, 4, 2, 3, 3, 4, 3, 4, 4, 5, 2, 3, 3, 4, 3, 4, 4, 5, 3, 4, 4, 5, 4, 5, 5, 6, 1, 2, 2, 3, 2, 3, 3, 4, 2, 3, 3, 4, 3, 4, 4, 5, 2, 3, 3, 4, 3, 4, 4, 5, 3, 4, 4, 5, 4, 5, 5, 6, 2, 3, 3, 4, 3, 4, 4, 5, 3, 4, 4, 5, 4, 5, 5, 6, 3, 4, 4, 5, 4, 5, 5, 6, 4, 5, 5, 6, 5, 6, 6, 7, 1, 2, 2, 3, 2, 3, 3, 4, 2, 3, 3, 4, 3, 4, 4, 5, 2, 3, 3, 4, 3, 4, 4, 5, 3, 4, 4, 5, 4, 5, 5, 6, 2, 3, 3, 4, 3, 4, 4, 5, 3, 4, 4, 5, 4, 5, 5, 6, 3, 4, 4, 5, 4, 5, 5, 6, 4, 5, 5, 6, 5, 6, 6, 7, 2, 3, 3, 4, 3, 4, 4, 5, 3, 4, 4, 5, 4, 5, 5, 6, 3, 4, 4, 5, 4, 5, 5, 6, 4, 5, 5, 6, 5, 6, 6, 7, 3, 4, 4, 5, 4, 5, 5, 6, 4, 5, 5, 6, 5, 6, 6, 7, 4, 5, 5, 6, 5, 6, 6, 7, 5, 6, 6, 7, 6, 7, 7, 8]⟩
theorem of16 {a : Int} (h : (Lit.int .u16 a).wf = true) : 0 ≤ a ∧ a ≤ 65535 := by
  simpa [Lit.wf, IntKind.min, IntKind.max, IntKind.bits, IntKind.signed] using h
theorem of64 {a : Int} (h : (Lit.int .i64 a).wf = true) : -9223372036854775808 ≤ a ∧ a ≤ 9223372036854775807 := by
  simpa [Lit.wf, IntKind.min, IntKind.max, IntKind.bits, IntKind.signed] using h
theorem wrap16 (a : Int) : IntKind.u16.wrap a = a % 65536 := by simp [IntKind.wrap, IntKind.bits, IntKind.signed]
theorem w64 {a : Int} (h0 : -9223372036854775808 ≤ a) (h1 : a ≤ 9223372036854775807) : wrap64 a = a := by unfold wrap64; omega
theorem mn_is (a b : Int) : mn a b = min a b := by unfold mn; omega
theorem mx_is (a b : Int) : mx a b = max a b := by unfold mx; omega

/-- How many of the lowest bits are set. -/
def pcN : Nat → Nat → Nat
  | 0, _ => 0
  | n + 1, b => b % 2 + pcN n (b / 2)
theorem pcN_le : ∀ n b, pcN n b ≤ n
  | 0, _ => Nat.le_refl _
  | n + 1, b => by have := pcN_le n (b / 2); simp only [pcN]; omega
theorem pcN_more : ∀ n b, b < 2 ^ n → pcN (n + 1) b = pcN n b
  | 0, b, h => by simp only [pcN]; simp at h; omega
  | n + 1, b, h => by
    have := pcN_more n (b / 2) (by rw [Nat.pow_succ] at h; omega)
    rw [show pcN (n + 1 + 1) b = b % 2 + pcN (n + 1) (b / 2) from rfl, this]; rfl
theorem pcN_split : ∀ m n b, pcN (m + n) b = pcN m (b % 2 ^ m) + pcN n (b / 2 ^ m)
  | 0, n, b => by simp [pcN]
  | m + 1, n, b => by
    rw [show m + 1 + n = (m + n) + 1 by omega]
    simp only [pcN]
    rw [pcN_split m n (b / 2), Nat.div_div_eq_div_mul, show 2 * 2 ^ m = 2 ^ (m + 1) by rw [Nat.pow_succ]; omega]
    have h1 : b % 2 ^ (m + 1) % 2 = b % 2 := Nat.mod_mod_of_dvd b ⟨2 ^ m, by rw [Nat.pow_succ]; omega⟩
    have h2 : b % 2 ^ (m + 1) / 2 = b / 2 % 2 ^ m := by rw [Nat.pow_succ, Nat.mul_comm, Nat.mod_mul_right_div_self]
    rw [h1, h2]; omega
theorem pcN_or : ∀ n a b, pcN n a ≤ pcN n (a ||| b)
  | 0, _, _ => Nat.le_refl _
  | n + 1, a, b => by
    simp only [pcN]
    have h := pcN_or n (a / 2) (b / 2)
    have e : (a ||| b) / 2 = a / 2 ||| b / 2 := Nat.or_div_two
    rw [e]
    have h2 : a % 2 ≤ (a ||| b) % 2 := by
      rcases Nat.mod_two_eq_zero_or_one a with h0 | h1
      · omega
      · rw [h1, Nat.or_mod_two_eq_one.2 (.inl h1)]; omega
    omega
/-- How many of the sixteen bits are set. -/
def pc (b : Nat) : Nat := pcN 16 b
theorem pc_le (b : Nat) : pc b ≤ 16 := pcN_le 16 b
theorem pc_step {b : Nat} (h : b < 65536) : pc b = b % 2 + pc (b / 2) := by
  unfold pc
  rw [pcN_more 15 (b / 2) (by omega)]; rfl
theorem pc_zero : pc 0 = 0 := by decide
theorem tab_ : ∀ i : Fin 256, bt tb (i.1 : Int) = (pc i.1 : Int) := by decide +kernel
theorem tab {i : Int} (h0 : 0 ≤ i) (h1 : i < 256) : bt tb i = (pc i.toNat : Int) := by
  have := tab_ ⟨i.toNat, by omega⟩
  simpa [Int.toNat_of_nonneg h0] using this
theorem pc_small {b : Nat} (h : b < 256) : pc b = pcN 8 b := by
  unfold pc
  rw [pcN_split 8 8 b, Nat.mod_eq_of_lt h, Nat.div_eq_of_lt h]; rfl
theorem pc_split {b : Nat} (h : b < 65536) : pc (b / 256) + pc (b % 256) = pc b := by
  rw [pc_small (b := b / 256) (by omega), pc_small (b := b % 256) (by omega)]
  unfold pc
  rw [pcN_split 8 8 b, show (2 : Nat) ^ 8 = 256 from rfl, Nat.add_comm]
theorem and255 {b : Int} (h0 : 0 ≤ b) (h1 : b ≤ 65535) : Go.bits .and .u16 b 255 = b % 256 := by
  rw [u16_and b 255 h0 (by omega) (by omega) (by omega)]
  have : b.toNat &&& 255 = b.toNat % 256 := Nat.and_two_pow_sub_one_eq_mod b.toNat 8
  show ((b.toNat &&& 255 : Nat) : Int) = _
  rw [this]; omega
theorem count_def (b : Int) : bits_OnesCount16.f b = (if 0 ≤ (b / 256) then (if (b / 256) < 256 then (if 0 ≤ (Go.bits .and .u16 b 255) then (if (Go.bits .and .u16 b 255) < 256 then (some (((bt tb (b / 256)) + (bt tb (Go.bits .and .u16 b 255))) % 256)) else (none)) else (none)) else (none)) else (none)) := by
  delta bits_OnesCount16.f tb
  exact rfl
theorem count_is {b : Int} (h0 : 0 ≤ b) (h1 : b ≤ 65535) : bits_OnesCount16.f b = some (pc b.toNat : Int) := by
  rw [count_def, and255 h0 h1, if_pos (by omega), if_pos (by omega), if_pos (by omega), if_pos (by omega), tab (by omega) (by omega), tab (by omega) (by omega)]
  have h := pc_split (b := b.toNat) (by omega)
  have hl := pc_le b.toNat
  rw [show (b / 256).toNat = b.toNat / 256 by omega, show (b % 256).toNat = b.toNat % 256 by omega]
  generalize pc (b.toNat / 256) = x at *
  generalize pc (b.toNat % 256) = y at *
  generalize pc b.toNat = z at *
  rw [show ((x : Int) + (y : Int)) % 256 = (z : Int) by omega]
theorem ones_loop (d : Nat) : ∀ (k : Nat) (b acc i : Int), 0 ≤ b → b ≤ 65535 → 0 ≤ acc → acc ≤ 16 * i → 0 ≤ i → i + d = 16 → d < k → culvertref11_ones.l0 k b acc i = some (acc + (pc (b.toNat / 2 ^ i.toNat) : Int)) := by
  induction d with
  | zero =>
    intro k b acc i h0 h1 h2 h3 h4 h5 h6
    obtain ⟨k, rfl⟩ : ∃ m, k = m + 1 := ⟨k - 1, by omega⟩
    obtain rfl : i = 16 := by omega
    simp only [culvertref11_ones.l0]
    rw [if_neg (by omega), show b.toNat / 2 ^ (16 : Int).toNat = 0 from Nat.div_eq_of_lt (by simp; omega), pc_zero]
    simp
  | succ d ih =>
    intro k b acc i h0 h1 h2 h3 h4 h5 h6
    obtain ⟨k, rfl⟩ : ∃ m, k = m + 1 := ⟨k - 1, by omega⟩
    simp only [culvertref11_ones.l0]
    have hw : IntKind.u64.wrap i = i := by simp [IntKind.wrap, IntKind.bits, IntKind.signed]; omega
    have hs : shr .u16 b i = ((b.toNat / 2 ^ i.toNat : Nat) : Int) := by
      unfold shr
      rw [Nat.min_eq_left (by simp [IntKind.bits]; omega)]
      have hb : b = (b.toNat : Int) := by omega
      rw [hb]
      simp
    have hx : b.toNat / 2 ^ i.toNat < 65536 := Nat.lt_of_le_of_lt (Nat.div_le_self _ _) (by omega)
    have ha : Go.bits .and .u16 ((b.toNat / 2 ^ i.toNat : Nat) : Int) 1 = ((b.toNat / 2 ^ i.toNat % 2 : Nat) : Int) := by
      have := u16_and_nat (b.toNat / 2 ^ i.toNat) 1 hx (by omega)
      rw [show ((1 : Int)) = ((1 : Nat) : Int) from rfl, this, Nat.and_one_is_mod]
    rw [if_pos (by omega), hw, if_pos h4, hs, ha, w64 (a := ((b.toNat / 2 ^ i.toNat % 2 : Nat) : Int)) (by omega) (by omega), w64 (by omega) (by omega), w64 (by omega) (by omega), ih k b _ (i + 1) h0 h1 (by omega) (by omega) (by omega) (by omega) (by omega)]
    rw [pc_step hx, show (i + 1).toNat = i.toNat + 1 by omega, Nat.pow_succ, ← Nat.div_div_eq_div_mul]
    generalize pc (b.toNat / 2 ^ i.toNat / 2) = y
    generalize b.toNat / 2 ^ i.toNat % 2 = z
    rw [show acc + (z : Int) + (y : Int) = acc + ((z + y : Nat) : Int) by omega]
theorem ones_is {b : Int} (h0 : 0 ≤ b) (h1 : b ≤ 65535) {k : Nat} (hk : 16 < k) : culvertref11_ones.f k b = some (pc b.toNat : Int) := by
  unfold culvertref11_ones.f
  rw [ones_loop 16 k b 0 0 h0 h1 (by omega) (by omega) (by omega) (by omega) hk]
  simp

/-! ### What it costs to hear -/
def top (b : Int) : Nat := pc (b.toNat &&& 57344)
def rxv (kind cost b : Int) : Int :=
  if kind = 0 then (if 2 ≤ top b then cost else 65535)
  else if kind = 1 then (if 0 < pc b.toNat then min (cost * 16 / (pc b.toNat : Int)) 65534 else 65535)
  else 65535
theorem and57344 {b : Int} (h0 : 0 ≤ b) (h1 : b ≤ 65535) : Go.bits .and .u16 b 57344 = ((b.toNat &&& 57344 : Nat) : Int) := by
  rw [u16_and b 57344 h0 (by omega) (by omega) (by omega)]; rfl
theorem and_lt (b : Nat) : b &&& 57344 ≤ 57344 := Nat.and_le_right
theorem quo_bound {cost : Int} {n : Nat} (h0 : 0 ≤ cost) (hn : 0 < n) : 0 ≤ cost * 16 / (n : Int) ∧ cost * 16 / (n : Int) ≤ cost * 16 := by
  refine ⟨Int.ediv_nonneg (by omega) (by omega), ?_⟩
  exact Int.ediv_le_self _ (by omega)
theorem rxv_range {kind cost : Int} (b : Int) (c0 : 0 ≤ cost) (c1 : cost ≤ 65535) : 0 ≤ rxv kind cost b ∧ rxv kind cost b ≤ 65535 := by
  unfold rxv
  split
  · split <;> omega
  · split
    · split
      · rename_i h
        have := quo_bound c0 h
        generalize cost * 16 / (pc b.toNat : Int) = q at *
        omega
      · omega
    · omega
theorem rx_j {kind cost : Int} {n : Nat} (k : Nat) (q : Bool) (c0 : 0 ≤ cost) (c1 : cost ≤ 65535) (hn : n ≤ 16) :
    link_rx.j0 (k + 1) kind cost n q = some (if q = true then cost else if kind = 1 then (if 0 < n then min (cost * 16 / (n : Int)) 65534 else 65535) else 65535) := by
  simp only [link_rx.j0]
  split
  · rfl
  · split
    · by_cases h : 0 < n
      · have := quo_bound c0 h
        rw [if_pos (show (n : Int) > 0 by omega), if_neg (show ¬ (n : Int) = 0 by omega), if_pos h, w64 (a := cost) (by omega) (by omega), w64 (a := cost * 16) (by omega) (by omega), Int.tdiv_eq_ediv_of_nonneg (by omega), w64 (by omega) (by omega), mn_is, wrap16]
        generalize cost * 16 / (n : Int) = z at *
        rw [show min z 65534 % 65536 = min z 65534 by omega]
      · rw [if_neg (show ¬ (n : Int) > 0 by omega), if_neg h]
    · rfl
theorem rx_is {kind cost b : Int} (k : Nat) (c0 : 0 ≤ cost) (c1 : cost ≤ 65535) (h0 : 0 ≤ b) (h1 : b ≤ 65535) : link_rx.f (k + 1) kind cost b = some (rxv kind cost b) := by
  unfold link_rx.f
  rw [count_is h0 h1, and57344 h0 h1]
  have ha := and_lt b.toNat
  rw [count_is (b := ((b.toNat &&& 57344 : Nat) : Int)) (by omega) (by omega)]
  simp only [Option.bind_some, Int.toNat_natCast]
  rw [rx_j k _ c0 c1 (pc_le _), rx_j k _ c0 c1 (pc_le _)]
  unfold rxv top
  by_cases hk : kind = 0
  · rw [if_pos hk, if_pos hk]
    by_cases ht : 2 ≤ pc (b.toNat &&& 57344)
    · rw [if_pos ht, if_pos (by rw [decide_eq_true_iff]; omega)]
    · rw [if_neg ht, if_neg (by rw [decide_eq_true_iff]; omega), if_neg (by omega)]
  · rw [if_neg hk, if_neg hk, if_neg (by decide)]

def InB (l : List S24) : Prop := ∀ x ∈ l, 0 ≤ x.f0 ∧ x.f0 ≤ 65535
def rxAll (kind cost : Int) : List S24 → Int → Int
  | [], m => m
  | x :: l, m => rxAll kind cost l (min m (rxv kind cost x.f0))
theorem drop_rd {l : List S24} {i : Int} (h0 : 0 ≤ i) (h : i < l.length) : l.drop i.toNat = rd_T24 l i :: l.drop (i + 1).toNat := by
  have hi : i.toNat < l.length := by omega
  rw [List.drop_eq_getElem_cons hi, show (i + 1).toNat = i.toNat + 1 by omega]
  simp [rd_T24, List.getD_eq_getElem?_getD, List.getElem?_eq_getElem hi]
theorem rd_mem {l : List S24} {i : Int} (h0 : 0 ≤ i) (h : i < l.length) : rd_T24 l i ∈ l := by
  have hi : i.toNat < l.length := by omega
  simp [rd_T24, List.getD_eq_getElem?_getD, List.getElem?_eq_getElem hi]
theorem Rx_loop {kind cost : Int} (c0 : 0 ≤ cost) (c1 : cost ≤ 65535) (l : List S24) (hl : InB l) (hn : l.length ≤ 4611686018427387904) (d : Nat) : ∀ (k : Nat) (m i : Int), 0 ≤ i → i ≤ l.length → (l.length : Int) - i = d → d + 1 < k →
    link_Rx.l0 k kind cost m l (l.length : Int) i = some (rxAll kind cost (l.drop i.toNat) m) := by
  induction d with
  | zero =>
    intro k m i h2 h3 h4 h5
    obtain ⟨k, rfl⟩ : ∃ m, k = m + 1 := ⟨k - 1, by omega⟩
    simp only [link_Rx.l0]
    rw [if_neg (by omega), List.drop_eq_nil_of_le (by omega), rxAll]
  | succ d ih =>
    intro k m i h2 h3 h4 h5
    obtain ⟨k, rfl⟩ : ∃ m, k = m + 1 := ⟨k - 1, by omega⟩
    have hlt : i < (l.length : Int) := by omega
    have hx := hl _ (rd_mem h2 hlt)
    simp only [link_Rx.l0]
    obtain ⟨k, rfl⟩ : ∃ m, k = m + 1 := ⟨k - 1, by omega⟩
    rw [if_pos hlt, if_pos h2, if_pos hlt, rx_is k c0 c1 hx.1 hx.2, drop_rd h2 hlt]
    simp only [Option.bind_some]
    rw [w64 (by omega) (by omega), mn_is, ih (k + 1) _ (i + 1) (by omega) (by omega) (by omega) (by omega)]
    rfl
theorem Rx_is {kind cost : Int} (c0 : 0 ≤ cost) (c1 : cost ≤ 65535) (l : List S24) (hl : InB l) (hn : l.length ≤ 4611686018427387904) (k : Nat) (hk : l.length + 1 < k) : link_Rx.f k kind cost l = some (rxAll kind cost l 65535) := by
  unfold link_Rx.f
  rw [Rx_loop c0 c1 l hl hn l.length k 65535 0 (by omega) (by omega) (by omega) hk]
  simp
theorem refRx_loop {kind cost : Int} (c0 : 0 ≤ cost) (c1 : cost ≤ 65535) (l : List S24) (hl : InB l) (hn : l.length ≤ 4611686018427387904) (d : Nat) : ∀ (k : Nat) (m i : Int), 0 ≤ i → i ≤ l.length → (l.length : Int) - i = d → 2 * d + 40 < k →
    culvertref11_Rx.l0 k kind cost l m i = some (rxAll kind cost (l.drop i.toNat) m) := by
  induction d with
  | zero =>
    intro k m i h2 h3 h4 h5
    obtain ⟨k, rfl⟩ : ∃ m, k = m + 1 := ⟨k - 1, by omega⟩
    simp only [culvertref11_Rx.l0]
    rw [if_neg (by omega), List.drop_eq_nil_of_le (by omega), rxAll]
  | succ d ih =>
    intro k m i h2 h3 h4 h5
    obtain ⟨k, rfl⟩ : ∃ m, k = m + 2 := ⟨k - 2, by omega⟩
    have hlt : i < (l.length : Int) := by omega
    have hx := hl _ (rd_mem h2 hlt)
    have ha := and_lt (rd_T24 l i).f0.toNat
    have hp := pc_le (rd_T24 l i).f0.toNat
    simp only [culvertref11_Rx.l0]
    rw [if_pos hlt, if_pos h2, ones_is hx.1 hx.2 (by omega), and57344 hx.1 hx.2, ones_is (b := (((rd_T24 l i).f0.toNat &&& 57344 : Nat) : Int)) (by omega) (by omega) (by omega), drop_rd h2 hlt]
    simp only [Option.bind_some, Int.toNat_natCast, culvertref11_Rx.j1]
    rw [w64 (a := i + 1) (by omega) (by omega)]
    have go : ∀ v, culvertref11_Rx.l0 k kind cost l (mn m v) (i + 1) = some (rxAll kind cost (l.drop (i + 1).toNat) (min m v)) := fun v => by
      rw [mn_is, ih k _ (i + 1) (by omega) (by omega) (by omega) (by omega)]
    simp only [go]
    rw [show rxAll kind cost (rd_T24 l i :: l.drop (i + 1).toNat) m = rxAll kind cost (l.drop (i + 1).toNat) (min m (rxv kind cost (rd_T24 l i).f0)) from rfl]
    unfold rxv top
    generalize (rd_T24 l i).f0 = b at *
    by_cases hk : kind = 0
    · rw [if_pos hk, if_pos hk]
      by_cases ht : 2 ≤ pc (b.toNat &&& 57344)
      · rw [if_pos ht, if_pos (by rw [decide_eq_true_iff]; omega)]
      · rw [if_neg ht, if_neg (by rw [decide_eq_true_iff]; omega), if_neg (by omega)]
    · rw [if_neg hk, if_neg hk, if_neg (by decide)]
      by_cases hk1 : kind = 1
      · rw [if_pos hk1, if_pos hk1]
        by_cases h : 0 < pc b.toNat
        · have := quo_bound c0 h
          rw [if_pos (show (pc b.toNat : Int) > 0 by omega), if_neg (show ¬ (pc b.toNat : Int) = 0 by omega), if_pos h, w64 (a := cost) (by omega) (by omega), w64 (a := cost * 16) (by omega) (by omega), Int.tdiv_eq_ediv_of_nonneg (by omega), w64 (by omega) (by omega), mn_is, wrap16]
          generalize cost * 16 / (pc b.toNat : Int) = z at *
          rw [show min z 65534 % 65536 = min z 65534 by omega]
        · rw [if_neg (show ¬ (pc b.toNat : Int) > 0 by omega), if_neg h]
      · rw [if_neg hk1, if_neg hk1]
theorem refRx_is {kind cost : Int} (c0 : 0 ≤ cost) (c1 : cost ≤ 65535) (l : List S24) (hl : InB l) (hn : l.length ≤ 4611686018427387904) (k : Nat) (hk : 2 * l.length + 40 < k) : culvertref11_Rx.f k kind cost l = some (rxAll kind cost l 65535) := by
  unfold culvertref11_Rx.f
  rw [refRx_loop c0 c1 l hl hn l.length k 65535 0 (by omega) (by omega) (by omega) hk]
  simp

/-! ### What a link costs -/
def costv (kind rx tx : Int) : Int := if rx = 65535 ∨ tx = 65535 then 65535 else if kind = 0 then tx else if kind = 1 then min (max tx 256 * rx / 256) 65534 else 65535
theorem Cost_is {kind rx tx : Int} (r0 : 0 ≤ rx) (r1 : rx ≤ 65535) (t0 : 0 ≤ tx) (t1 : tx ≤ 65535) (k : Nat) : link_Cost.f (k + 1) kind rx tx = some (costv kind rx tx) := by
  have hm : 0 ≤ max tx 256 * rx ∧ max tx 256 * rx ≤ 65535 * 65535 := ⟨Int.mul_nonneg (by omega) r0, Int.mul_le_mul (by omega) r1 r0 (by omega)⟩
  have hj : ∀ q : Bool, link_Cost.j0 (k + 1) kind rx tx q = some (if q = true then 65535 else if kind = 0 then tx else if kind = 1 then min (max tx 256 * rx / 256) 65534 else 65535) := by
    intro q
    simp only [link_Cost.j0]
    split
    · rfl
    · split
      · rfl
      · split
        · rw [w64 (a := tx) (by omega) (by omega), w64 (a := rx) (by omega) (by omega), mx_is]
          generalize max tx 256 * rx = z at *
          rw [w64 (a := z) (by omega) (by omega), Int.tdiv_eq_ediv_of_nonneg (by omega), w64 (by omega) (by omega), mn_is, wrap16]
          rw [show min (z / 256) 65534 % 65536 = min (z / 256) 65534 by omega]
        · rfl
  unfold link_Cost.f costv
  rw [hj, hj]
  by_cases h1 : rx = 65535
  · rw [if_pos h1, if_pos (show rx = 65535 ∨ tx = 65535 from .inl h1), if_pos rfl]
  · rw [if_neg h1]
    by_cases h2 : tx = 65535
    · rw [if_pos (Or.inr h2), if_pos (by rw [h2]; rfl)]
    · rw [if_neg (show ¬ (rx = 65535 ∨ tx = 65535) by omega), if_neg (by rw [beq_iff_eq]; exact h2)]
theorem refCost_is (kind rx tx : Int) (k : Nat) : culvertref11_Cost.f k kind rx tx = link_Cost.f k kind rx tx := by
  unfold culvertref11_Cost.f link_Cost.f
  cases k with
  | zero => rfl
  | succ k => simp only [culvertref11_Cost.j0, link_Cost.j0]
end Go.Proofs.Ytlhlghmpcimdlaa.LnP
