/- The plain statement of LinkWired: a wired link costs what is said, or everything; more that is heard costs no more: for every four numbers of 16 bits. -/
import Derived.Test.YtlhlghmpcimdlaaMLnx4
import Derived.Test.YtlhlghmpcimdlaaLnQ
namespace Go.Proofs.Ytlhlghmpcimdlaa.Pure
open Go.RowKit Go.Proofs.Ytlhlghmpcimdlaa.MLn Go.Proofs.Ytlhlghmpcimdlaa.LnP Go.Proofs.YtlhlghmpcimdlaaW.PrintWords Go.Proofs.YtlhlghmpcimdlaaW.PrintLast Go.Proofs.YtlhlghmpcimdlaaW.PrintMore

theorem top_or (a b : Nat) : pc (a &&& 57344) ≤ pc ((a ||| b) &&& 57344) := by
  rw [Nat.and_or_distrib_right]
  exact pcN_or 16 _ _
theorem pc_or (a b : Nat) : pc a ≤ pc (a ||| b) := pcN_or 16 _ _
theorem quo_anti {c : Int} {m n : Nat} (h0 : 0 ≤ c) (hm : 0 < m) (h : m ≤ n) : c / (n : Int) ≤ c / (m : Int) := by
  obtain ⟨c, rfl⟩ := Int.eq_ofNat_of_zero_le h0
  have := Nat.div_le_div_left h hm (a := c)
  exact_mod_cast this
/-- More that is heard costs no more. -/
theorem wireless_more {cost b more : Int} (c0 : 0 ≤ cost) (h0 : 0 ≤ b) (h1 : b ≤ 65535) (m0 : 0 ≤ more) (m1 : more ≤ 65535) : rxv 1 cost (Go.bits .or .u16 b more) ≤ rxv 1 cost b := by
  rw [u16_or b more h0 (by omega) m0 (by omega)]
  have h := pc_or b.toNat more.toNat
  unfold rxv
  rw [if_neg (show ¬ (1 : Int) = 0 by decide), if_pos (show (1 : Int) = 1 from rfl), if_neg (show ¬ (1 : Int) = 0 by decide), if_pos (show (1 : Int) = 1 from rfl), Int.toNat_natCast]
  by_cases hp : 0 < pc b.toNat
  · rw [if_pos hp, if_pos (by omega)]
    have := quo_anti (c := cost * 16) (by omega) hp h
    generalize cost * 16 / (pc b.toNat : Int) = x at *
    generalize cost * 16 / (pc (b.toNat ||| more.toNat) : Int) = y at *
    omega
  · rw [if_neg hp]
    split
    · generalize cost * 16 / (pc (b.toNat ||| more.toNat) : Int) = y at *
      omega
    · omega
theorem wired_more {cost b more : Int} (h0 : 0 ≤ b) (h1 : b ≤ 65535) (m0 : 0 ≤ more) (m1 : more ≤ 65535) :
    (rxv 0 cost b = cost ∨ rxv 0 cost b = 65535) ∧ (rxv 0 cost b = cost → rxv 0 cost (Go.bits .or .u16 b more) = cost) := by
  rw [u16_or b more h0 (by omega) m0 (by omega)]
  have h := top_or b.toNat more.toNat
  unfold rxv top
  rw [if_pos rfl, if_pos rfl, Int.toNat_natCast]
  split
  · rw [if_pos (by omega)]; exact ⟨.inl rfl, fun _ => rfl⟩
  · refine ⟨.inr rfl, fun e => ?_⟩
    split
    · rfl
    · exact e
theorem cost_more {d e tx : Int} (he : 0 ≤ e) (h : e ≤ d) (hd : d ≤ 65535) (t0 : 0 ≤ tx) (t1 : tx ≤ 65535) : costv 1 e tx ≤ costv 1 d tx := by
  have h2 : max tx 256 * e ≤ max tx 256 * d := Int.mul_le_mul_of_nonneg_left h (by omega)
  have h3 : 0 ≤ max tx 256 * e := Int.mul_nonneg (by omega) he
  unfold costv
  rw [if_neg (show ¬ (1 : Int) = 0 by decide), if_pos (show (1 : Int) = 1 from rfl), if_neg (show ¬ (1 : Int) = 0 by decide), if_pos (show (1 : Int) = 1 from rfl)]
  generalize max tx 256 * e = x at *
  generalize max tx 256 * d = y at *
  split <;> split <;> omega

theorem LinkWired : culvertlaw11_LinkWired.Pure := by
  intro a0 a1 a2 a3 w0 w1 w2 w3
  have g0 := of16 w0
  have g1 := of16 w1
  have g2 := of16 w2
  have g3 := of16 w3
  refine ⟨100, ?_⟩
  have hor : 0 ≤ Go.bits .or .u16 a1 a2 ∧ Go.bits .or .u16 a1 a2 ≤ 65535 := by
    rw [u16_or a1 a2 g1.1 (by omega) g2.1 (by omega)]
    have : a1.toNat ||| a2.toNat < 2 ^ 16 := Nat.or_lt_two_pow (by omega) (by omega)
    omega
  have hw := wired_more (cost := a0) g1.1 g1.2 g2.1 g2.2
  have hl := wireless_more (cost := a0) g0.1 g1.1 g1.2 g2.1 g2.2
  unfold culvertlaw11_LinkWired.f
  generalize Go.bits .or .u16 a1 a2 = y at *
  have in1 : ∀ b : Int, 0 ≤ b → b ≤ 65535 → InB [⟨b, 0, true⟩] := fun b h0 h1 x hx => by
    simp only [List.mem_singleton] at hx
    rw [hx]; exact ⟨h0, h1⟩
  have one : ∀ (k : Nat) (kind b : Int), 0 ≤ b → b ≤ 65535 → 2 < k → link_Rx.f k kind a0 [⟨b, 0, true⟩] = some (rxv kind a0 b) := fun k kind b h0 h1 hk => by
    rw [Rx_is g0.1 g0.2 _ (in1 b h0 h1) (by simp) k (by simpa using hk)]
    have := rxv_range (kind := kind) b g0.1 g0.2
    simp only [rxAll]
    rw [show min 65535 (rxv kind a0 b) = rxv kind a0 b by omega]
  rw [one _ 0 a1 g1.1 g1.2 (by omega), one _ 0 y hor.1 hor.2 (by omega), one _ 1 a1 g1.1 g1.2 (by omega), one _ 1 y hor.1 hor.2 (by omega)]
  simp only [Option.bind_some]
  have r1 := rxv_range (kind := 0) a1 g0.1 g0.2
  have r2 := rxv_range (kind := 0) y g0.1 g0.2
  have r3 := rxv_range (kind := 1) a1 g0.1 g0.2
  have r4 := rxv_range (kind := 1) y g0.1 g0.2
  have htwo : ∀ k, 3 < k → link_Rx.f k 0 a0 [⟨a1, 0, true⟩, ⟨y, 0, true⟩] = some (mn (rxv 0 a0 a1) (rxv 0 a0 y)) := fun k hk => by
    rw [Rx_is g0.1 g0.2 _ (by
      intro x hx
      simp only [List.mem_cons, List.not_mem_nil, or_false] at hx
      rcases hx with rfl | rfl
      · exact g1
      · exact hor) (by simp) k (by simpa using hk), mn_is]
    simp only [rxAll]
    rw [show min (min 65535 (rxv 0 a0 a1)) (rxv 0 a0 y) = min (rxv 0 a0 a1) (rxv 0 a0 y) by omega]
  have j : culvertlaw11_LinkWired.j0 100 a0 a3 (rxv 0 a0 a1) (rxv 0 a0 y) (rxv 1 a0 a1) (rxv 1 a0 y) false a1 0 true y 0 true = some true := by
    simp only [culvertlaw11_LinkWired.j0, Bool.false_eq_true, if_false]
    rw [htwo _ (by omega)]
    simp only [Option.bind_some, if_true]
    rw [Cost_is r1.1 r1.2 g3.1 g3.2 98, Cost_is r3.1 r3.2 g3.1 g3.2 98, Cost_is r4.1 r4.2 g3.1 g3.2 98]
    simp only [Option.bind_some]
    have hc := cost_more r4.1 hl r3.2 g3.1 g3.2
    rw [if_pos (show costv 1 (rxv 1 a0 a1) a3 ≥ costv 1 (rxv 1 a0 y) a3 from hc)]
    by_cases h : costv 0 (rxv 0 a0 a1) a3 = a3
    · rw [if_pos h]; rfl
    · rw [if_neg h, if_pos (show costv 0 (rxv 0 a0 a1) a3 = 65535 by
        unfold costv at h ⊢
        split
        · rfl
        · rename_i h2; rw [if_neg h2, if_pos rfl] at h; exact absurd rfl h)]
      rfl
  rw [show decide (rxv 1 a0 y > rxv 1 a0 a1) = false by rw [decide_eq_false_iff_not]; omega]
  by_cases c1 : rxv 0 a0 a1 = a0
  · rw [if_pos c1, if_pos (hw.2 c1)]; exact j
  · rw [if_neg c1, if_pos (hw.1.resolve_left c1)]; exact j

end Go.Proofs.Ytlhlghmpcimdlaa.Pure
