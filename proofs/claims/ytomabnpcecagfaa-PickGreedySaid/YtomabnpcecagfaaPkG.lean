/- The plain law of PickGreedy: without a margin the least Metric is taken, with the greatest one whatever is selected: for every list of ways. -/
import Derived.Test.YtomabnpcecagfaaPkCg
namespace Go.Proofs.Ytomabnpcecagfaa.PkCg
open Go.RowKit Go.Proofs.Ytomabnpcecagfaa.MPg Go.Proofs.YtomabnpcecagfaaW.PrintWords Go.Proofs.YtomabnpcecagfaaW.PrintLast

theorem live_true : law17_live.f = some true := by decide +kernel
theorem greedy_out (k : Nat) (hk : 0 < k) (l : List S34) (a b c i : Int) (ok : Bool) (h1 : a = b) (h2 : c = b) : PGreed.j1 k l a ok b c i false = some true := by
  obtain ⟨k, rfl⟩ : ∃ q, k = q + 1 := ⟨k - 1, by omega⟩
  simp only [PGreed.j1, Bool.false_eq_true, if_false]
  rw [if_pos h1, if_pos h2, live_true]; rfl
theorem greedy_loop {l : List S34} (hl : In16 l) (hn : l.length ≤ 1000) {b mb : Int} (hb : Pk.bestO (l.map conv_) 0 none = some (b, mb)) (d : Nat) : ∀ (k : Nat) (i : Int), 0 ≤ i → (l.length : Int) - i = d → 2 * d + 10 < k →
    (∀ t : Int, 0 ≤ t → t < i → Pk.sel (MPk.rd_T34 (l.map conv_) t) = false) →
    PGreed.l0 k l (Pk.take 0 b (Pk.idx Pk.sel (l.map conv_) 0) (l.map conv_)) true b (Pk.take 65535 b (Pk.idx Pk.sel (l.map conv_) 0) (l.map conv_)) i = some true := by
  have hI := Pk.best_inv (l.map conv_) b mb hb
  rw [List.length_map] at hI
  obtain ⟨b0, b1, bm, bu⟩ := hI
  induction d with
  | zero =>
    intro k i i0 hd hk hs
    obtain ⟨k, rfl⟩ : ∃ q, k = q + 1 := ⟨k - 1, by omega⟩
    have hi : ¬ 0 ≤ Pk.idx Pk.sel (l.map conv_) 0 := by
      intro h
      have h1 := Pk.idx_at Pk.sel (l.map conv_) 0 (by omega) h
      have h2 := Pk.idx_range Pk.sel (l.map conv_) 0
      rw [List.length_map] at h2
      rw [Int.sub_zero, hs _ h (by omega)] at h1
      cases h1
    simp only [PGreed.l0]
    rw [if_neg (by omega)]
    unfold Pk.take
    rw [if_neg (fun h => hi h.1), if_neg (fun h => hi h.1)]
    exact greedy_out k (by omega) l b b b i true rfl rfl
  | succ d ih =>
    intro k i i0 hd hk hs
    obtain ⟨k, rfl⟩ : ∃ q, k = q + 2 := ⟨k - 2, by omega⟩
    have hlt : i < (l.length : Int) := by omega
    have hx := hl _ (rd_mem i0 hlt)
    have hrb := hl _ (rd_mem b0 b1)
    have go : Pk.sel (MPk.rd_T34 (l.map conv_) i) = false → PGreed.l0 k l (Pk.take 0 b (Pk.idx Pk.sel (l.map conv_) 0) (l.map conv_)) true b (Pk.take 65535 b (Pk.idx Pk.sel (l.map conv_) 0) (l.map conv_)) (i + 1) = some true := fun h =>
      ih k (i + 1) (by omega) (by omega) (by omega) (fun t t0 t1 => by
        by_cases ht : t = i
        · rw [ht]; exact h
        · exact hs t t0 (by omega))
    have hsel : Pk.sel (MPk.rd_T34 (l.map conv_) i) = ((rd_T34 l i).f2 && ((rd_T34 l i).f1 && decide ((rd_T34 l i).f0 < 65535))) := by rw [rd_conv]; rfl
    simp only [PGreed.l0]
    rw [if_pos hlt]
    simp only [PGreed.j1, if_true]
    rw [if_pos i0, if_pos hlt, Pk.w64 (a := i + 1) (by omega) (by omega)]
    by_cases h2 : (rd_T34 l i).f2 = true
    · rw [if_pos h2]
      by_cases h1 : (rd_T34 l i).f1 = true
      · rw [if_pos h1]
        by_cases h0 : (rd_T34 l i).f0 = 65535
        · rw [if_pos h0]; exact go (by rw [hsel, h0]; simp)
        · rw [if_neg h0]
          have hsi : Pk.sel (MPk.rd_T34 (l.map conv_) i) = true := by
            rw [hsel, h2, h1]; simp; omega
          have hidx := Pk.idx_first Pk.sel (l.map conv_) 0 i (by omega) i0 (by rw [List.length_map]; exact hlt) hsi hs
          rw [Int.zero_add] at hidx
          have hleast := Pk.best_least (l.map conv_) 0 none b mb hb _ (Pk.rd_mem i0 (by rw [List.length_map]; exact hlt)) (Pk.sel_usable hsi)
          rw [bm, rd_conv, rd_conv] at hleast
          have hle : (rd_T34 l b).f0 ≤ (rd_T34 l i).f0 := hleast
          rw [hidx]
          unfold Pk.take
          rw [rd_conv, rd_conv]
          have c1 : (0 ≤ i ∧ (conv_ (rd_T34 l i)).f0 - (conv_ (rd_T34 l b)).f0 ≤ 65535) := ⟨i0, show (rd_T34 l i).f0 - (rd_T34 l b).f0 ≤ 65535 by omega⟩
          rw [if_pos c1]
          by_cases c0 : (0 ≤ i ∧ (conv_ (rd_T34 l i)).f0 - (conv_ (rd_T34 l b)).f0 ≤ 0)
          · have c0' : (rd_T34 l i).f0 - (rd_T34 l b).f0 ≤ 0 := c0.2
            rw [if_pos c0, if_pos i0, if_pos hlt, if_pos b0, if_pos b1, if_pos i0, if_pos b0, if_pos (by omega), if_pos rfl, live_true]; rfl
          · rw [if_neg c0, if_pos b0, if_pos b1, if_pos b0, if_pos b1, if_pos b0, if_pos b0, if_pos rfl, if_pos rfl, live_true]; rfl
      · rw [if_neg h1]; exact go (by rw [hsel]; simp [h1])
    · rw [if_neg h2]; exact go (by rw [hsel]; simp [h2])
theorem greedy_true {l : List S34} (hl : In16 l) : PGreed.f 4000 l = some true := by
  unfold PGreed.f
  split
  · rw [live_true]; rfl
  · rw [pick_conv (m := 0) (by omega) (by omega) hl (by omega), best_conv l (by omega) 4000 (by omega), pick_conv (m := 65535) (by omega) (by omega) hl (by omega)]
    simp only [Option.bind_some]
    unfold Pk.pickV
    cases hb : Pk.bestO (l.map conv_) 0 none with
    | none =>
      simp only [Pk.fstO]
      simp only [PGreed.l0]
      split
      · exact greedy_out 3999 (by omega) l 0 0 0 0 false rfl rfl
      · exact greedy_out 3999 (by omega) l 0 0 0 0 false rfl rfl
    | some q =>
      obtain ⟨b, mb⟩ := q
      exact greedy_loop hl (by omega) hb l.length 4000 0 (by omega) (by omega) (by omega) (fun t t0 t1 => by omega)
end Go.Proofs.Ytomabnpcecagfaa.PkCg
