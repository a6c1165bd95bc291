/- The plain law of PickStays: what was taken is taken again: for every margin of 16 bits and every list of ways. -/
import Derived.Test.YtomabnpcecagfaaPkCs
namespace Go.Proofs.Ytomabnpcecagfaa.PkCs
open Go.RowKit Go.Proofs.Ytomabnpcecagfaa.MPs Go.Proofs.YtomabnpcecagfaaW.PrintWords Go.Proofs.YtomabnpcecagfaaW.PrintLast

theorem live_true : law17_live.f = some true := by decide +kernel
theorem stays_end {m : Int} {l x7 : List S34} (m0 : 0 ≤ m) (m1 : m ≤ 65535) (hl : In16 l) (hn : l.length ≤ 1000) (h7 : In16 x7) (h7n : x7.length = l.length) (hok : (Pk.pickV m (l.map conv_)).2 = true) (hm : x7.map conv_ = Pk.mark (l.map conv_) 0 (Pk.pickV m (l.map conv_)).1) (k : Nat) (hk : 2000 < k) (i : Int) (hie : i = l.length) :
    PStay.l0 k m l (Pk.pickV m (l.map conv_)).1 x7 i = some true := by
  obtain ⟨k, rfl⟩ : ∃ q, k = q + 1 := ⟨k - 1, by omega⟩
  simp only [PStay.l0]
  rw [if_neg (by omega), pick_conv m0 m1 h7 (by omega), best_conv l (by omega) k (by omega), hm, Pk.pick_stays_law m0 hok]
  obtain ⟨h0, h1, hu, b, mb, hb, b0, b1, bm, bu, hle, _⟩ := Pk.pick_known m0 hok
  rw [hb]
  simp only [Option.bind_some, Pk.fstO, if_true]
  rw [List.length_map] at h1 b1
  rw [bm, rd_conv, rd_conv] at hle
  rw [rd_conv] at hu
  have rk := hl _ (rd_mem h0 h1)
  have rb := hl _ (rd_mem b0 b1)
  generalize (Pk.pickV m (l.map conv_)).1 = K at *
  have hu' : (rd_T34 l K).f1 = true ∧ (rd_T34 l K).f0 < 65535 := by
    unfold Pk.usable conv_ at hu
    simpa using hu
  have hle' : (rd_T34 l K).f0 ≤ (rd_T34 l b).f0 + m := hle
  rw [if_neg (by omega), if_neg (by omega), if_neg (by omega), if_neg (by omega), if_pos h0, if_pos h1, if_pos hu'.1, if_neg (by omega), if_pos b0, if_pos b1, Pk.w64 (a := (rd_T34 l K).f0) (by omega) (by omega), Pk.w64 (a := (rd_T34 l b).f0) (by omega) (by omega), Pk.w64 (a := m) (by omega) (by omega), Pk.w64 (by omega) (by omega), if_pos hle', live_true]
  rfl
theorem stays_loop {m : Int} {l : List S34} (m0 : 0 ≤ m) (m1 : m ≤ 65535) (hl : In16 l) (hn : l.length ≤ 1000) (hok : (Pk.pickV m (l.map conv_)).2 = true) (d : Nat) : ∀ (k : Nat) (i : Int) (pre : List S34), 0 ≤ i → (l.length : Int) - i = d → d + 2000 < k → (pre.length : Int) = i → In16 pre →
    pre.map conv_ ++ Pk.mark ((l.map conv_).drop i.toNat) i (Pk.pickV m (l.map conv_)).1 = Pk.mark (l.map conv_) 0 (Pk.pickV m (l.map conv_)).1 → PStay.l0 k m l (Pk.pickV m (l.map conv_)).1 (pre ++ l.drop i.toNat) i = some true := by
  induction d with
  | zero =>
    intro k i pre i0 hd hk hpl hpi hp
    rw [List.drop_eq_nil_of_le (by rw [List.length_map]; omega)] at hp
    rw [List.drop_eq_nil_of_le (by omega), List.append_nil]
    exact stays_end m0 m1 hl hn hpi (by omega) hok (by simpa [Pk.mark] using hp) k (by omega) i (by omega)
  | succ d ih =>
    intro k i pre i0 hd hk hpl hpi hp
    obtain ⟨k, rfl⟩ : ∃ q, k = q + 1 := ⟨k - 1, by omega⟩
    have hlt : i < (l.length : Int) := by omega
    have hdr : (l.map conv_).drop i.toNat = conv_ (rd_T34 l i) :: (l.map conv_).drop (i + 1).toNat := by
      rw [← List.map_drop, drop_rd i0 hlt, List.map_cons, List.map_drop]
    have hx := hl _ (rd_mem i0 hlt)
    rw [hdr, Pk.mark] at hp
    have hlen : (pre ++ l.drop i.toNat).length = l.length := by rw [List.length_append, List.length_drop]; omega
    have hrd : rd_T34 (pre ++ l.drop i.toNat) i = rd_T34 l i := by
      rw [drop_rd i0 hlt]
      conv => lhs; unfold rd_T34
      rw [List.getD_eq_getElem?_getD, List.getElem?_append_right (by omega), show i.toNat - pre.length = 0 by omega]
      rfl
    simp only [PStay.l0]
    rw [hlen, if_pos hlt, if_pos i0, hrd, Pk.w64 (a := i + 1) (by omega) (by omega)]
    have hset : (pre ++ l.drop i.toNat).set i.toNat ⟨(rd_T34 l i).f0, (rd_T34 l i).f1, i == (Pk.pickV m (l.map conv_)).1⟩ = (pre ++ [⟨(rd_T34 l i).f0, (rd_T34 l i).f1, i == (Pk.pickV m (l.map conv_)).1⟩]) ++ l.drop (i + 1).toNat := by
      rw [drop_rd i0 hlt, List.set_append_right _ _ (by omega), show i.toNat - pre.length = 0 by omega, List.set_cons_zero, List.append_assoc]
      rfl
    rw [hset]
    refine ih k (i + 1) _ (by omega) (by omega) (by omega) (by rw [List.length_append]; simp; omega) ?_ ?_
    · intro x hx'
      rcases List.mem_append.1 hx' with h | h
      · exact hpi x h
      · rw [List.mem_singleton.1 h]; exact hx
    · rw [List.map_append, List.append_assoc]; exact hp
theorem stays_true {m : Int} {l : List S34} (m0 : 0 ≤ m) (m1 : m ≤ 65535) (hl : In16 l) : PStay.f 4000 m l = some true := by
  unfold PStay.f
  split
  · rw [live_true]; rfl
  · rw [pick_conv m0 m1 hl (by omega)]
    simp only [Option.bind_some]
    by_cases h : (Pk.pickV m (l.map conv_)).2 = true
    · rw [if_pos h, if_pos (by simp; omega)]
      exact stays_loop m0 m1 hl (by omega) h l.length 4000 0 [] (by omega) (by omega) (by omega) (by simp) (fun x h => by cases h) (by simp)
    · rw [if_neg h, live_true]; rfl
end Go.Proofs.Ytomabnpcecagfaa.PkCs
