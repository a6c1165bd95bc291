/- The plain law of PickNone: ways that are not usable have no part: for every margin of 16 bits and every list of ways. -/
import Derived.Test.YtomabnpcecagfaaPkCl
namespace Go.Proofs.Ytomabnpcecagfaa.PkCl
open Go.RowKit Go.Proofs.Ytomabnpcecagfaa.MPl Go.Proofs.YtomabnpcecagfaaW.PrintWords Go.Proofs.YtomabnpcecagfaaW.PrintLast

theorem live_true : culvertlaw17_live.f = some true := by decide +kernel
theorem none_end {m : Int} {l pre : List S34} {preI : List Int} (m0 : 0 ≤ m) (m1 : m ≤ 65535) (hl : In16 l) (hn : l.length ≤ 1000) (hpl : pre.length ≤ l.length) (hpi : In16 pre) (hp : pre.map conv_ = Pk.usab (l.map conv_)) (hi : preI = Pk.idxs (l.map conv_) 0) (k : Nat) (hk : 2000 < k) (i : Int) (hie : i = l.length) :
    culvertlaw17_PickNone.l0 k m l pre preI i = some true := by
  obtain ⟨k, rfl⟩ : ∃ q, k = q + 1 := ⟨k - 1, by omega⟩
  simp only [culvertlaw17_PickNone.l0]
  rw [if_neg (by omega), pick_conv m0 m1 hl (by omega), pick_conv m0 m1 hpi (by omega), best_conv l (by omega) k (by omega), best_conv pre (by omega) k (by omega), starved_conv hpi (by omega), hp]
  simp only [Option.bind_some]
  have h := Pk.pick_none_law m (l.map conv_)
  have hlen : (Pk.usab (l.map conv_)).length = pre.length := by rw [← hp, List.length_map]
  have hlenI : preI.length = pre.length := by rw [hi, Pk.idxs_length, hlen]
  have hrd : ∀ t : Int, rd preI t = Pk.rdI (Pk.idxs (l.map conv_) 0) t := fun t => by rw [hi]; rfl
  rw [hlen] at h
  simp only [hlenI, hrd]
  generalize Pk.pickV m (l.map conv_) = p at *
  generalize Pk.pickV m (Pk.usab (l.map conv_)) = p' at *
  generalize Pk.fstO (Pk.bestO (l.map conv_) 0 none) = q at *
  generalize Pk.fstO (Pk.bestO (Pk.usab (l.map conv_)) 0 none) = q' at *
  obtain ⟨h1, h2, h3, h4, h5, h6⟩ := h
  rw [if_neg (by rw [h1]; simp), if_neg (by rw [h2]; simp)]
  rw [if_neg (by
    rw [h3]
    simp), if_neg (by rw [h4]; simp), h5]
  simp only [Bool.false_eq_true, if_false]
  by_cases hc : p.2 = true
  · obtain ⟨⟨a0, a1, a2⟩, ⟨b0, b1, b2⟩⟩ := h6 hc
    rw [if_pos hc, if_pos a0, if_pos a1, if_pos a0, if_pos a2, if_pos b0, if_pos b1, if_pos b0, if_pos b2, live_true]; rfl
  · rw [if_neg hc, live_true]; rfl
theorem none_loop {m : Int} {l : List S34} (m0 : 0 ≤ m) (m1 : m ≤ 65535) (hl : In16 l) (hn : l.length ≤ 1000) (d : Nat) : ∀ (k : Nat) (i : Int) (pre : List S34) (preI : List Int), 0 ≤ i → (l.length : Int) - i = d → d + 2000 < k → pre.length ≤ i → preI.length ≤ i → In16 pre →
    pre.map conv_ ++ Pk.usab ((l.map conv_).drop i.toNat) = Pk.usab (l.map conv_) → preI ++ Pk.idxs ((l.map conv_).drop i.toNat) i = Pk.idxs (l.map conv_) 0 → culvertlaw17_PickNone.l0 k m l pre preI i = some true := by
  induction d with
  | zero =>
    intro k i pre preI i0 hd hk hpl hpil hpi hp hi
    rw [List.drop_eq_nil_of_le (by rw [List.length_map]; omega)] at hp hi
    exact none_end m0 m1 hl hn (by omega) hpi (by simpa [Pk.usab] using hp) (by simpa [Pk.idxs] using hi) k (by omega) i (by omega)
  | succ d ih =>
    intro k i pre preI i0 hd hk hpl hpil hpi hp hi
    obtain ⟨k, rfl⟩ : ∃ q, k = q + 1 := ⟨k - 1, by omega⟩
    have hlt : i < (l.length : Int) := by omega
    have hdr : (l.map conv_).drop i.toNat = conv_ (rd_T34 l i) :: (l.map conv_).drop (i + 1).toNat := by
      rw [← List.map_drop, drop_rd i0 hlt, List.map_cons, List.map_drop]
    have hx := hl _ (rd_mem i0 hlt)
    rw [hdr, Pk.usab_cons] at hp
    rw [hdr, Pk.idxs] at hi
    simp only [culvertlaw17_PickNone.l0]
    rw [if_pos hlt, if_pos i0, Pk.w64 (a := i + 1) (by omega) (by omega)]
    by_cases hu : Pk.usable (conv_ (rd_T34 l i)) = true
    · rw [if_pos hu] at hp hi
      have hu' : (rd_T34 l i).f1 = true ∧ (rd_T34 l i).f0 < 65535 := by
        unfold Pk.usable conv_ at hu
        simpa using hu
      rw [if_pos hu'.1, if_neg (by omega), if_pos (by omega), if_pos (by omega)]
      refine ih k (i + 1) _ _ (by omega) (by omega) (by omega) (by rw [List.length_append]; simp; omega) (by rw [List.length_append]; simp; omega) ?_ ?_ ?_
      · intro x hx'
        rcases List.mem_append.1 hx' with h | h
        · exact hpi x h
        · rw [List.mem_singleton.1 h]; exact hx
      · rw [List.map_append, List.append_assoc]; exact hp
      · rw [List.append_assoc]; exact hi
    · rw [if_neg hu] at hp hi
      have go := ih k (i + 1) pre preI (by omega) (by omega) (by omega) (by omega) (by omega) hpi hp hi
      by_cases hf : (rd_T34 l i).f1 = true
      · have h0 : (rd_T34 l i).f0 = 65535 := by
          unfold Pk.usable conv_ at hu
          simp [hf] at hu
          omega
        rw [if_pos hf, if_pos h0]; exact go
      · rw [if_neg hf]; exact go
theorem none_true {m : Int} {l : List S34} (m0 : 0 ≤ m) (m1 : m ≤ 65535) (hl : In16 l) : culvertlaw17_PickNone.f 4000 m l = some true := by
  unfold culvertlaw17_PickNone.f
  split
  · rw [live_true]; rfl
  · exact none_loop m0 m1 hl (by omega) l.length 4000 0 [] [] (by omega) (by omega) (by omega) (by simp) (by simp) (fun x h => by cases h) (by simp) (by simp)
end Go.Proofs.Ytomabnpcecagfaa.PkCl
