/- The lists of the text MPl, told as the lists of the first text: what pick.Best comes to there. -/
import Derived.Test.YtomabnpcecagfaaMPlx5
import Derived.Test.YtomabnpcecagfaaPkQ
namespace Go.Proofs.Ytomabnpcecagfaa.PkCl
open Go.RowKit Go.Proofs.Ytomabnpcecagfaa.MPl Go.Proofs.YtomabnpcecagfaaW.PrintWords Go.Proofs.YtomabnpcecagfaaW.PrintLast

theorem rd_conv (l : List S34) (i : Int) : MPk.rd_T34 (l.map conv_) i = conv_ (rd_T34 l i) := by
  unfold MPk.rd_T34 rd_T34
  rw [List.getD_eq_getElem?_getD, List.getD_eq_getElem?_getD, List.getElem?_map]
  cases l[i.toNat]? <;> rfl
theorem usable_conv (x : S34) : pick_usable.f x.f0 x.f1 x.f2 = some (Pk.usable (conv_ x)) := by
  have := Pk.usable_is (conv_ x)
  unfold MPk.pick_usable.f at this
  unfold pick_usable.f
  exact this
theorem best_conv_l (l : List S34) (n : Int) (k : Nat) : ∀ (b : Int) (ok : Bool) (i : Int), pick_Best.l0 k l b ok l n i = MPk.pick_Best.l0 k (l.map conv_) b ok (l.map conv_) n i := by
  induction k with
  | zero => intro b ok i; rfl
  | succ k ih =>
    intro b ok i
    simp only [pick_Best.l0, MPk.pick_Best.l0, List.length_map, ih, rd_conv]
    rw [usable_conv, Pk.usable_is]
    rfl
theorem best_conv (l : List S34) (hn : l.length ≤ 4611686018427387904) (k : Nat) (hk : l.length < k) : pick_Best.f k l = some (Pk.fstO (Pk.bestO (l.map conv_) 0 none)) := by
  unfold pick_Best.f
  rw [best_conv_l]
  have := Pk.best_is (l.map conv_) (by rw [List.length_map]; exact hn) k (by rw [List.length_map]; exact hk)
  unfold MPk.pick_Best.f at this
  rw [List.length_map] at this
  exact this
def In16 (l : List S34) : Prop := ∀ x ∈ l, 0 ≤ x.f0 ∧ x.f0 ≤ 65535
theorem In16.conv {l : List S34} (h : In16 l) : Pk.In16 (l.map conv_) := by
  intro y hy
  obtain ⟨x, hx, rfl⟩ := List.mem_map.1 hy
  exact h x hx
theorem pick_conv {m : Int} {l : List S34} (m0 : 0 ≤ m) (m1 : m ≤ 65535) (h : In16 l) (hn : l.length ≤ 4611686018427387904) : pick_Pick.f m l = some (Pk.pickV m (l.map conv_)) := by
  unfold pick_Pick.f Pk.pickO
  rw [if_pos]
  rw [Pk.good_of h.conv (by rw [List.length_map]; exact hn)]
  simp [m0, m1]
theorem starved_conv {l : List S34} (h : In16 l) (hn : l.length ≤ 4611686018427387904) : pick_Starved.f l = some (Pk.starvedV (l.map conv_)) := by
  unfold pick_Starved.f Pk.starvedO
  rw [if_pos (Pk.good_of h.conv (by rw [List.length_map]; exact hn))]
theorem rd_mem {l : List S34} {i : Int} (h0 : 0 ≤ i) (h : i < l.length) : rd_T34 l i ∈ l := by
  have hi : i.toNat < l.length := by omega
  simp [rd_T34, List.getD_eq_getElem?_getD, List.getElem?_eq_getElem hi]
theorem drop_rd {l : List S34} {i : Int} (h0 : 0 ≤ i) (h : i < l.length) : l.drop i.toNat = rd_T34 l i :: l.drop (i + 1).toNat := by
  have hi : i.toNat < l.length := by omega
  rw [List.drop_eq_getElem_cons hi, show (i + 1).toNat = i.toNat + 1 by omega]
  simp [rd_T34, List.getD_eq_getElem?_getD, List.getElem?_eq_getElem hi]
end Go.Proofs.Ytomabnpcecagfaa.PkCl
