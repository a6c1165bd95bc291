/- The plain law of PickTells: which way is the best, which is taken, whether there is none that may be: as the document says, for every margin of 16 bits and every list of ways. -/
import Derived.Test.YtomabnpcecagfaaPkN
import Derived.Test.YtomabnpcecagfaaMPlx4
namespace Go.Proofs.Ytomabnpcecagfaa.PkCl
open Go.RowKit Go.Proofs.Ytomabnpcecagfaa.MPl Go.Proofs.YtomabnpcecagfaaW.PrintWords Go.Proofs.YtomabnpcecagfaaW.PrintLast Go.Proofs.YtomabnpcecagfaaW.PrintMore

/-- The document's way to tell it: -1 for none. -/
def ref1 : Option (Int × Int) → Int
  | none => -1
  | some (b, _) => b
theorem refUsable_is {x : S34} (h : x.f0 ≤ 65535) : culvertref17_Usable.f x.f0 x.f1 x.f2 = some (Pk.usable (conv_ x)) := by
  unfold culvertref17_Usable.f Pk.usable conv_
  cases x.f1 with
  | false => rfl
  | true =>
    rw [if_pos rfl, Bool.true_and]
    congr 1
    rw [Bool.eq_iff_iff, bne_iff_ne, decide_eq_true_iff]
    show x.f0 ≠ 65535 ↔ x.f0 < 65535
    omega
theorem refBest_loop {l : List S34} (hl : In16 l) (hn : l.length ≤ 1000) (d : Nat) : ∀ (k : Nat) (i : Int) (st : Option (Int × Int)), Pk.Inv (l.map conv_) i st → 0 ≤ i → i ≤ l.length → (l.length : Int) - i = d → d < k →
    culvertref17_Best.l0 k l (ref1 st) i = some (ref1 (Pk.bestO ((l.map conv_).drop i.toNat) i st)) := by
  induction d with
  | zero =>
    intro k i st hI h2 h3 h4 h5
    obtain ⟨k, rfl⟩ : ∃ m, k = m + 1 := ⟨k - 1, by omega⟩
    simp only [culvertref17_Best.l0]
    rw [if_neg (by omega), List.drop_eq_nil_of_le (by rw [List.length_map]; omega)]; rfl
  | succ d ih =>
    intro k i st hI h2 h3 h4 h5
    obtain ⟨k, rfl⟩ : ∃ m, k = m + 1 := ⟨k - 1, by omega⟩
    have hlt : i < (l.length : Int) := by omega
    have hx := hl _ (rd_mem h2 hlt)
    have hst := hI.step h2
    rw [rd_conv] at hst
    have h := ih k (i + 1) (Pk.step st i (conv_ (rd_T34 l i))) hst (by omega) (by omega) (by omega) (by omega)
    have hdr : (l.map conv_).drop i.toNat = conv_ (rd_T34 l i) :: (l.map conv_).drop (i + 1).toNat := by
      rw [← List.map_drop, drop_rd h2 hlt, List.map_cons, List.map_drop]
    rw [hdr]
    rw [show Pk.bestO (conv_ (rd_T34 l i) :: (l.map conv_).drop (i + 1).toNat) i st = Pk.bestO ((l.map conv_).drop (i + 1).toNat) (i + 1) (Pk.step st i (conv_ (rd_T34 l i))) from rfl, ← h]
    by_cases hu : Pk.usable (conv_ (rd_T34 l i)) = true
    · cases st with
      | none =>
        rw [show Pk.step none i (conv_ (rd_T34 l i)) = some (i, (rd_T34 l i).f0) by unfold Pk.step; rw [if_pos hu]; rfl]
        show culvertref17_Best.l0 (k + 1) l (-1) i = culvertref17_Best.l0 k l i (i + 1)
        simp only [culvertref17_Best.l0]
        rw [if_pos hlt, if_pos h2, refUsable_is hx.2, Pk.w64 (by omega) (by omega)]
        simp only [Option.bind_some, hu, if_true]
        rw [if_pos (by omega)]
      | some q =>
        obtain ⟨b, m⟩ := q
        have hb := hI _ _ rfl
        rw [rd_conv] at hb
        have hbl : b < (l.length : Int) := by omega
        have hbm : m = (rd_T34 l b).f0 := hb.2.2.1
        rw [show Pk.step (some (b, m)) i (conv_ (rd_T34 l i)) = if (rd_T34 l i).f0 < m then some (i, (rd_T34 l i).f0) else some (b, m) by unfold Pk.step; rw [if_pos hu]; rfl]
        show culvertref17_Best.l0 (k + 1) l b i = _
        simp only [culvertref17_Best.l0]
        rw [if_pos hlt, if_pos h2, refUsable_is hx.2, Pk.w64 (by omega) (by omega)]
        simp only [Option.bind_some, hu, if_true]
        rw [if_neg (by omega), if_pos hb.1, if_pos hbl, hbm]
        split <;> rfl
    · rw [show Pk.step st i (conv_ (rd_T34 l i)) = st by unfold Pk.step; rw [if_neg hu]]
      simp only [culvertref17_Best.l0]
      rw [if_pos hlt, if_pos h2, refUsable_is hx.2, Pk.w64 (by omega) (by omega)]
      simp only [Option.bind_some]
      rw [if_neg hu]
theorem refBest_is {l : List S34} (hl : In16 l) (hn : l.length ≤ 1000) (k : Nat) (hk : l.length < k) : culvertref17_Best.f k l = some (ref1 (Pk.bestO (l.map conv_) 0 none)) := by
  unfold culvertref17_Best.f
  have := refBest_loop hl hn l.length k 0 none (fun b m h => by cases h) (by omega) (by omega) (by omega) hk
  rw [show (l.map conv_).drop (0 : Int).toNat = l.map conv_ from List.drop_zero] at this
  exact this

theorem sel_is (l : List S34) (i : Int) : Pk.sel (MPk.rd_T34 (l.map conv_) i) = ((rd_T34 l i).f2 && Pk.usable (conv_ (rd_T34 l i))) := by rw [rd_conv]; rfl
/-- What the document's Pick comes to, the best being b. -/
theorem refPick_loop {m : Int} {l : List S34} (m0 : 0 ≤ m) (m1 : m ≤ 65535) (hl : In16 l) (hn : l.length ≤ 1000) (b : Int) (hb : (0 ≤ b ∧ b < l.length) ∨ (∀ x ∈ l.map conv_, Pk.usable x = false)) (d : Nat) : ∀ (k : Nat) (i : Int), 0 ≤ i → (l.length : Int) - i = d → 2 * d + 4 < k →
    (∀ t : Int, 0 ≤ t → t < i → Pk.sel (MPk.rd_T34 (l.map conv_) t) = false) →
    culvertref17_Pick.l0 k m l b i = some (Pk.take m b (Pk.idx Pk.sel (l.map conv_) 0) (l.map conv_)) := by
  induction d with
  | zero =>
    intro k i i0 hd hk hs
    obtain ⟨k, rfl⟩ : ∃ q, k = q + 1 := ⟨k - 1, by omega⟩
    have hi : ¬ 0 ≤ Pk.idx Pk.sel (l.map conv_) 0 := by
      intro h
      have h1 := Pk.idx_at Pk.sel (l.map conv_) 0 (by omega) h
      have h2 := Pk.idx_range Pk.sel (l.map conv_) 0
      rw [List.length_map] at h2
      rw [Int.sub_zero, hs _ h (by omega)] at h1
      cases h1
    simp only [culvertref17_Pick.l0]
    rw [if_neg (by omega)]
    unfold Pk.take
    rw [if_neg (fun h => hi h.1)]
  | succ d ih =>
    intro k i i0 hd hk hs
    obtain ⟨k, rfl⟩ : ∃ q, k = q + 2 := ⟨k - 2, by omega⟩
    have hlt : i < (l.length : Int) := by omega
    have hx := hl _ (rd_mem i0 hlt)
    have go : Pk.sel (MPk.rd_T34 (l.map conv_) i) = false → culvertref17_Pick.l0 k m l b (i + 1) = some (Pk.take m b (Pk.idx Pk.sel (l.map conv_) 0) (l.map conv_)) := fun h =>
      ih k (i + 1) (by omega) (by omega) (by omega) (fun t t0 t1 => by
        by_cases ht : t = i
        · rw [ht]; exact h
        · exact hs t t0 (by omega))
    have hsel := sel_is l i
    have jf : Pk.sel (MPk.rd_T34 (l.map conv_) i) = false → culvertref17_Pick.j1 (k + 1) m l b i false = some (Pk.take m b (Pk.idx Pk.sel (l.map conv_) 0) (l.map conv_)) := fun h => by
      simp only [culvertref17_Pick.j1, Bool.false_eq_true, if_false]
      rw [Pk.w64 (a := i + 1) (by omega) (by omega)]
      exact go h
    simp only [culvertref17_Pick.l0]
    rw [if_pos hlt, if_pos i0]
    by_cases h2 : (rd_T34 l i).f2 = true
    · rw [if_pos h2, refUsable_is hx.2]
      simp only [Option.bind_some]
      cases hu : Pk.usable (conv_ (rd_T34 l i)) with
      | false => exact jf (by rw [hsel, hu]; simp)
      | true =>
        have hsi : Pk.sel (MPk.rd_T34 (l.map conv_) i) = true := by rw [hsel, h2, hu]; rfl
        have hidx := Pk.idx_first Pk.sel (l.map conv_) 0 i (by omega) i0 (by rw [List.length_map]; exact hlt) hsi hs
        rw [Int.zero_add] at hidx
        rcases hb with ⟨b0, b1⟩ | hb
        · have hrb := hl _ (rd_mem b0 b1)
          simp only [culvertref17_Pick.j1, if_true]
          rw [if_pos i0, if_pos hlt, if_pos b0, if_pos b1, Pk.w64 (a := (rd_T34 l i).f0) (by omega) (by omega), Pk.w64 (a := (rd_T34 l b).f0) (by omega) (by omega), Pk.w64 (a := m) (by omega) (by omega), Pk.w64 (by omega) (by omega), hidx]
          unfold Pk.take
          rw [rd_conv, rd_conv]
          show (if (rd_T34 l i).f0 ≤ (rd_T34 l b).f0 + m then some i else some b) = some (if 0 ≤ i ∧ (rd_T34 l i).f0 - (rd_T34 l b).f0 ≤ m then i else b)
          by_cases hc : (rd_T34 l i).f0 ≤ (rd_T34 l b).f0 + m
          · rw [if_pos hc, if_pos ⟨i0, by omega⟩]
          · rw [if_neg hc, if_neg (by omega)]
        · have := hb (conv_ (rd_T34 l i)) (List.mem_map.2 ⟨_, rd_mem i0 hlt, rfl⟩)
          rw [hu] at this; cases this
    · rw [if_neg h2]
      exact jf (by rw [hsel]; simp [h2])
theorem refPick_is {m : Int} {l : List S34} (m0 : 0 ≤ m) (m1 : m ≤ 65535) (hl : In16 l) (hn : l.length ≤ 1000) (k : Nat) (hk : 2 * l.length + 10 < k) : culvertref17_Pick.f k m l = some (if (Pk.pickV m (l.map conv_)).2 = true then (Pk.pickV m (l.map conv_)).1 else -1) := by
  unfold culvertref17_Pick.f
  rw [refBest_is hl hn k (by omega)]
  simp only [Option.bind_some]
  unfold Pk.pickV
  cases hb : Pk.bestO (l.map conv_) 0 none with
  | none =>
    have hno := Pk.best_none (l.map conv_) 0 hb
    rw [refPick_loop m0 m1 hl hn _ (.inr hno) l.length k 0 (by omega) (by omega) (by omega) (fun t t0 t1 => by omega)]
    have hi : ¬ 0 ≤ Pk.idx Pk.sel (l.map conv_) 0 := by
      intro h
      have h1 := Pk.idx_at Pk.sel (l.map conv_) 0 (by omega) h
      have h2 := Pk.idx_range Pk.sel (l.map conv_) 0
      rw [Int.sub_zero] at h1
      have h3 := hno _ (Pk.rd_mem h (by omega))
      rw [Pk.sel_usable h1] at h3
      cases h3
    unfold Pk.take
    rw [if_neg (fun h => hi h.1)]
    rfl
  | some q =>
    obtain ⟨b, mb⟩ := q
    have hI := Pk.best_inv (l.map conv_) b mb hb
    rw [List.length_map] at hI
    rw [show ref1 (some (b, mb)) = b from rfl, refPick_loop m0 m1 hl hn _ (.inl ⟨hI.1, hI.2.1⟩) l.length k 0 (by omega) (by omega) (by omega) (fun t t0 t1 => by omega)]
    rfl

theorem refStarved_true {l : List S34} (hl : In16 l) (hn : l.length ≤ 1000) (d : Nat) : ∀ (k : Nat) (i : Int), 0 ≤ i → (l.length : Int) - i = d → d + 1100 < k → culvertref17_Starved.l0 k l true i = some (decide (ref1 (Pk.bestO (l.map conv_) 0 none) < 0)) := by
  induction d with
  | zero =>
    intro k i i0 hd hk
    obtain ⟨k, rfl⟩ : ∃ q, k = q + 1 := ⟨k - 1, by omega⟩
    simp only [culvertref17_Starved.l0, if_true]
    rw [if_neg (by omega), refBest_is hl hn k (by omega)]; rfl
  | succ d ih =>
    intro k i i0 hd hk
    obtain ⟨k, rfl⟩ : ∃ q, k = q + 1 := ⟨k - 1, by omega⟩
    simp only [culvertref17_Starved.l0, if_true]
    rw [if_pos (by omega), Pk.w64 (by omega) (by omega)]
    exact ih k (i + 1) (by omega) (by omega) (by omega)
theorem idx_fin_cons (x : S34) (l : List S34) (i : Int) : Pk.idx Pk.fin (conv_ x :: l.map conv_) i = if x.f0 < 65535 then i else Pk.idx Pk.fin (l.map conv_) (i + 1) := by
  rw [Pk.idx]
  unfold Pk.fin
  by_cases h : x.f0 < 65535
  · rw [if_pos h, if_pos (decide_eq_true (show (conv_ x).f0 < 65535 from h))]
  · rw [if_neg h, if_neg (by rw [decide_eq_true_iff]; exact h)]
theorem refStarved_false {l : List S34} (hl : In16 l) (hn : l.length ≤ 1000) (d : Nat) : ∀ (k : Nat) (i : Int), 0 ≤ i → (l.length : Int) - i = d → d + 1200 < k →
    culvertref17_Starved.l0 k l false i = some (decide (0 ≤ Pk.idx Pk.fin ((l.map conv_).drop i.toNat) i) && decide (ref1 (Pk.bestO (l.map conv_) 0 none) < 0)) := by
  induction d with
  | zero =>
    intro k i i0 hd hk
    obtain ⟨k, rfl⟩ : ∃ q, k = q + 1 := ⟨k - 1, by omega⟩
    simp only [culvertref17_Starved.l0, Bool.false_eq_true, if_false]
    rw [if_neg (by omega), List.drop_eq_nil_of_le (by rw [List.length_map]; omega)]; rfl
  | succ d ih =>
    intro k i i0 hd hk
    obtain ⟨k, rfl⟩ : ∃ q, k = q + 1 := ⟨k - 1, by omega⟩
    have hlt : i < (l.length : Int) := by omega
    have hx := hl _ (rd_mem i0 hlt)
    have hdr : (l.map conv_).drop i.toNat = conv_ (rd_T34 l i) :: (l.drop (i + 1).toNat).map conv_ := by
      rw [← List.map_drop, drop_rd i0 hlt, List.map_cons]
    simp only [culvertref17_Starved.l0, Bool.false_eq_true, if_false]
    rw [if_pos hlt, if_pos i0, Pk.w64 (a := i + 1) (by omega) (by omega), hdr, idx_fin_cons]
    by_cases h : (rd_T34 l i).f0 < 65535
    · rw [show ((rd_T34 l i).f0 != 65535) = true by rw [bne_iff_ne]; omega, refStarved_true hl hn d k (i + 1) (by omega) (by omega) (by omega), if_pos h, decide_eq_true i0, Bool.true_and]
    · rw [show ((rd_T34 l i).f0 != 65535) = false by rw [bne_eq_false_iff_eq]; omega, ih k (i + 1) (by omega) (by omega) (by omega), if_neg h, List.map_drop]
theorem tells_true {m : Int} {l : List S34} (m0 : 0 ≤ m) (m1 : m ≤ 65535) (hl : In16 l) : culvertlaw17_PickTells.f 4000 m l = some true := by
  unfold culvertlaw17_PickTells.f
  split
  · rw [live_true]; rfl
  · rw [best_conv l (by omega) 4000 (by omega), pick_conv m0 m1 hl (by omega), refBest_is hl (by omega) 4000 (by omega), refPick_is m0 m1 hl (by omega) 4000 (by omega), starved_conv hl (by omega)]
    have hS : culvertref17_Starved.f 4000 l = some (decide (0 ≤ Pk.idx Pk.fin (l.map conv_) 0) && decide (ref1 (Pk.bestO (l.map conv_) 0 none) < 0)) := by
      unfold culvertref17_Starved.f
      rw [refStarved_false hl (by omega) l.length 4000 0 (by omega) (by omega) (by omega), show (l.map conv_).drop (0 : Int).toNat = l.map conv_ from List.drop_zero]
    rw [hS]
    simp only [Option.bind_some]
    have hk := @Pk.pick_known m (l.map conv_) m0
    unfold Pk.starvedV
    have h2 : (Pk.pickV m (l.map conv_)).2 = (Pk.bestO (l.map conv_) 0 none).isSome := by
      unfold Pk.pickV
      cases Pk.bestO (l.map conv_) 0 none <;> rfl
    have h1 : (Pk.pickV m (l.map conv_)).2 = false → (Pk.pickV m (l.map conv_)).1 = 0 := by
      unfold Pk.pickV
      cases Pk.bestO (l.map conv_) 0 none with
      | none => intro _; rfl
      | some q => intro h; cases h
    have hI := Pk.best_inv (l.map conv_)
    generalize Pk.pickV m (l.map conv_) = p at *
    cases hb : Pk.bestO (l.map conv_) 0 none with
    | none =>
      rw [hb] at h2
      simp only [Pk.fstO, ref1]
      rw [show p.2 = false from h2, h1 h2]
      simp [mx, live_true]
    | some q =>
      obtain ⟨b, mb⟩ := q
      have hbb := (hI b mb hb).1
      rw [hb] at h2
      have hp := (hk h2).1
      rw [show Pk.fstO (some (b, mb)) = (b, true) from rfl, show ref1 (some (b, mb)) = b from rfl, show p.2 = true from h2, if_pos (rfl : true = true)]
      have e1 : decide (b ≥ 0) = true := decide_eq_true hbb
      have e2 : decide (p.fst ≥ 0) = true := decide_eq_true hp
      have e3 : decide (b < 0) = false := decide_eq_false (by omega)
      have mx0 : ∀ x : Int, 0 ≤ x → mx x 0 = x := fun x hx => by unfold mx; split <;> omega
      rw [e1, e2, e3, mx0 b hbb, mx0 p.1 hp, live_true]
      simp
end Go.Proofs.Ytomabnpcecagfaa.PkCl
