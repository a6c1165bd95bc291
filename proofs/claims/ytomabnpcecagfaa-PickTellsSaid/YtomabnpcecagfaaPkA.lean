/- Walks of slices.IndexFunc at the two closures of pick, of pick.Pick and of pick.Starved. -/
import Derived.Test.YtomabnpcecagfaaMPkx3
import Derived.BigQuiet
namespace Go.Proofs.Ytomabnpcecagfaa.Pk
open Go.RowKit Go.Proofs.Ytomabnpcecagfaa.MPk Go.Proofs.YtomabnpcecagfaaW.PrintWords Go.Proofs.YtomabnpcecagfaaW.PrintLast

theorem below_of {P : Program} {f : FuncId} {args : Array Value} {w : World} {v : Value} (h : Calls P f args w fun e w' => e = .returned v ∧ Drawn0 w w') : Calls P f args w fun e w' => e = .returned v ∧ Below w.heap.size w w' :=
  h.mono fun _ _ ⟨he, hd⟩ => ⟨he, hd.below⟩
def usable (x : S34) : Bool := x.f1 && decide (x.f0 < 65535)
def sel (x : S34) : Bool := x.f2 && usable x
def fin (x : S34) : Bool := decide (x.f0 < 65535)
theorem usable_is (x : S34) : pick_usable.f x.f0 x.f1 x.f2 = some (usable x) := by
  unfold pick_usable.f usable
  cases x.f1 <;> simp

theorem sel_any (x : S34) (w : World) : Calls Try.prog 16 #[.agg #[.int .u16 x.f0, .bool x.f1, .bool x.f2]] w fun e w' => e = .returned (.bool (sel x)) ∧ Below w.heap.size w w' := by
  have hu := usable_is x
  unfold sel
  generalize usable x = u at *
  obtain ⟨m, q, s⟩ := x
  have H := Aside0.mk hu
  clear hu
  cases s with
  | true =>
    go_enter Try.func16, Try.ntmps16
    go_wp2_with (fail)
    refine (pick_usable.calls m q true _ _ H.out).mono ?_; rintro e w1 ⟨rfl, hb⟩
    have HB := Aside0.mk (below_then (below_alloc (Below.refl _ _) _) (by simp) hb)
    clear hb
    go_wp2_with (fail)
    go_ret
    exact ⟨rfl, HB.out⟩
  | false =>
    go_enter Try.func16, Try.ntmps16
    go_wp2_with (fail)
    go_ret
    exact ⟨rfl, below_alloc (Below.refl _ _) _⟩
theorem fin_any (x : S34) (w : World) : Calls Try.prog 19 #[.agg #[.int .u16 x.f0, .bool x.f1, .bool x.f2]] w fun e w' => e = .returned (.bool (fin x)) ∧ Below w.heap.size w w' := by
  unfold fin
  obtain ⟨m, q, s⟩ := x
  go_enter Try.func19, Try.ntmps19
  go_wp2_with (fail)
  go_ret
  exact ⟨rfl, below_alloc (Below.refl _ _) _⟩

def idx (p : S34 → Bool) : List S34 → Int → Int
  | [], _ => -1
  | x :: l, i => if p x = true then i else idx p l (i + 1)

set_option maxHeartbeats 1000000 in
theorem index_sel (A : Option Addr) (c : Nat) (l : List S34) (w : World) (hr : Kd.C k34 w A l.length l) :
   Calls Try.prog 15 #[.slice A l.length c, .func (.func 16) #[] #[]] w fun e w' => e = .returned (.int .i64 (idx sel l 0)) ∧ Below w.heap.size w w' := by
  have hm := hr.2.1
  have HR := Aside0.mk hr
  clear hr
  have hd0 : l.drop 0 = l := List.drop_zero
  have H0 := Aside0.mk (show idx sel (l.drop 0) (((0 : Nat) : Nat) : Int) = idx sel l 0 by rw [hd0]; rfl)
  clear hd0
  generalize idx sel l 0 = R at *
  go_enter Try.func15, Try.ntmps15
  go_wp2_with (fail)
  go_loopw [8] (fun i wr => ∃ k : Nat, k ≤ l.length ∧ i = .int .i64 k ∧ Aside0 (idx sel (l.drop k) (k : Int) = R) ∧ Aside0 (Below w.heap.size w wr)) (fun i _ => l.length - (intOf i).toNat)
  case atStart => exact ⟨0, Nat.zero_le _, rfl, H0, ⟨Below.refl _ _⟩⟩
  case round =>
    clear H0
    obtain ⟨k, hk, rfl, HI, HB⟩ := hrel
    by_cases hlt : k < l.length
    · obtain ⟨ad, rfl, c0, c1, c2⟩ := at_T34 (Kd.C_below HR.out HB.out) (k : Int) (by omega) (by omega)
      simp only [Int.toNat_natCast] at c0 c1 c2
      have HX := Aside0.mk (show idx sel (l.drop k) (k : Int) = if sel (rd_T34 l k) = true then (k : Int) else idx sel (l.drop (k + 1)) ((k : Int) + 1) by
        rw [List.drop_eq_getElem_cons hlt, show l[k] = rd_T34 l k by simp [rd_T34, List.getD_eq_getElem?_getD, List.getElem?_eq_getElem hlt]]; rfl)
      go_wp2_with (fail)
      refine (sel_any (rd_T34 l k) _).mono ?_; rintro e w1 ⟨rfl, hb⟩
      have HB1 := Aside0.mk (below_then HB.out HB.out.size hb)
      clear hb c0 c1 c2
      cases hs : sel (rd_T34 l k) with
      | true =>
        have HS := Aside0.mk hs
        clear hs
        go_wp2_with (fail)
        go_ret
        exact ⟨by rw [← HI.out, HX.out, if_pos HS.out]; rfl, HB1.out⟩
      | false =>
        have HS := Aside0.mk hs
        clear hs
        go_wp2_with (fail)
        go_roundw
        case rel => exact ⟨k + 1, by omega, by go_num, ⟨by rw [← HI.out, HX.out, if_neg (by rw [HS.out]; decide), show ((k + 1 : Nat) : Int) = (k : Int) + 1 by omega]⟩, HB1⟩
        case measure => simp [intOf]; omega
    · obtain rfl : k = l.length := by omega
      go_wp2_with (fail)
      go_ret
      exact ⟨by rw [← HI.out, List.drop_eq_nil_of_le (Nat.le_refl _)]; rfl, HB.out⟩

set_option maxHeartbeats 1000000 in
theorem index_fin (A : Option Addr) (c : Nat) (l : List S34) (w : World) (hr : Kd.C k34 w A l.length l) :
   Calls Try.prog 15 #[.slice A l.length c, .func (.func 19) #[] #[]] w fun e w' => e = .returned (.int .i64 (idx fin l 0)) ∧ Below w.heap.size w w' := by
  have hm := hr.2.1
  have HR := Aside0.mk hr
  clear hr
  have hd0 : l.drop 0 = l := List.drop_zero
  have H0 := Aside0.mk (show idx fin (l.drop 0) (((0 : Nat) : Nat) : Int) = idx fin l 0 by rw [hd0]; rfl)
  clear hd0
  generalize idx fin l 0 = R at *
  go_enter Try.func15, Try.ntmps15
  go_wp2_with (fail)
  go_loopw [8] (fun i wr => ∃ k : Nat, k ≤ l.length ∧ i = .int .i64 k ∧ Aside0 (idx fin (l.drop k) (k : Int) = R) ∧ Aside0 (Below w.heap.size w wr)) (fun i _ => l.length - (intOf i).toNat)
  case atStart => exact ⟨0, Nat.zero_le _, rfl, H0, ⟨Below.refl _ _⟩⟩
  case round =>
    clear H0
    obtain ⟨k, hk, rfl, HI, HB⟩ := hrel
    by_cases hlt : k < l.length
    · obtain ⟨ad, rfl, c0, c1, c2⟩ := at_T34 (Kd.C_below HR.out HB.out) (k : Int) (by omega) (by omega)
      simp only [Int.toNat_natCast] at c0 c1 c2
      have HX := Aside0.mk (show idx fin (l.drop k) (k : Int) = if fin (rd_T34 l k) = true then (k : Int) else idx fin (l.drop (k + 1)) ((k : Int) + 1) by
        rw [List.drop_eq_getElem_cons hlt, show l[k] = rd_T34 l k by simp [rd_T34, List.getD_eq_getElem?_getD, List.getElem?_eq_getElem hlt]]; rfl)
      go_wp2_with (fail)
      refine (fin_any (rd_T34 l k) _).mono ?_; rintro e w1 ⟨rfl, hb⟩
      have HB1 := Aside0.mk (below_then HB.out HB.out.size hb)
      clear hb c0 c1 c2
      cases hs : fin (rd_T34 l k) with
      | true =>
        have HS := Aside0.mk hs
        clear hs
        go_wp2_with (fail)
        go_ret
        exact ⟨by rw [← HI.out, HX.out, if_pos HS.out]; rfl, HB1.out⟩
      | false =>
        have HS := Aside0.mk hs
        clear hs
        go_wp2_with (fail)
        go_roundw
        case rel => exact ⟨k + 1, by omega, by go_num, ⟨by rw [← HI.out, HX.out, if_neg (by rw [HS.out]; decide), show ((k + 1 : Nat) : Int) = (k : Int) + 1 by omega]⟩, HB1⟩
        case measure => simp [intOf]; omega
    · obtain rfl : k = l.length := by omega
      go_wp2_with (fail)
      go_ret
      exact ⟨by rw [← HI.out, List.drop_eq_nil_of_le (Nat.le_refl _)]; rfl, HB.out⟩

theorem idx_range (p : S34 → Bool) : ∀ (l : List S34) (i : Int), idx p l i = -1 ∨ i ≤ idx p l i ∧ idx p l i < i + l.length
  | [], _ => .inl rfl
  | x :: l, i => by
    rw [idx]
    split
    · exact .inr ⟨Int.le_refl _, by rw [List.length_cons]; omega⟩
    · rcases idx_range p l (i + 1) with h | h
      · exact .inl h
      · exact .inr ⟨by omega, by rw [List.length_cons]; omega⟩

set_option maxHeartbeats 1000000 in
theorem pick_none (m : Int) (A : Option Addr) (c : Nat) (l : List S34) (w : World) (hr : Kd.C k34 w A l.length l) (hc : l.length ≤ c) (k : Nat) (b : Int) (h : pick_Best.f k l = some (b, false)) :
   Calls Try.prog 9 #[.int .u16 m, .slice A l.length c] w fun e w' => e = .returned (.tuple #[.int .i64 0, .bool false]) ∧ Below w.heap.size w w' := by
  go_enter Try.func9, Try.ntmps9
  go_wp2_with (fail)
  refine (pick_Best.calls k A c l b false w hr hc h).mono ?_; rintro e w1 ⟨rfl, hb⟩
  have HB := Aside0.mk hb
  clear hb
  go_wp2_with (fail)
  go_ret2
  exact ⟨rfl, HB.out⟩

/-- What is taken behind the best way b, the first that is selected and usable being i. -/
def take (m b i : Int) (l : List S34) : Int := if 0 ≤ i ∧ (rd_T34 l i).f0 - (rd_T34 l b).f0 ≤ m then i else b
def In16 (l : List S34) : Prop := ∀ x ∈ l, 0 ≤ x.f0 ∧ x.f0 ≤ 65535
theorem rd_in {l : List S34} (h : In16 l) {i : Int} (h0 : 0 ≤ i) (h1 : i < l.length) : 0 ≤ (rd_T34 l i).f0 ∧ (rd_T34 l i).f0 ≤ 65535 := by
  have hi : i.toNat < l.length := by omega
  have e : rd_T34 l i = l[i.toNat] := by simp [rd_T34, List.getD_eq_getElem?_getD, List.getElem?_eq_getElem hi]
  rw [e]
  exact h _ (List.getElem_mem hi)

set_option maxHeartbeats 1000000 in
theorem pick_some (m : Int) (A : Option Addr) (c : Nat) (l : List S34) (w : World) (hr : Kd.C k34 w A l.length l) (hc : l.length ≤ c) (hl : In16 l) (m0 : 0 ≤ m) (m1 : m ≤ 65535) (k : Nat) (b : Int) (h : pick_Best.f k l = some (b, true)) (b0 : 0 ≤ b) (b1 : b < l.length) :
   Calls Try.prog 9 #[.int .u16 m, .slice A l.length c] w fun e w' => e = .returned (.tuple #[.int .i64 (take m b (idx sel l 0) l), .bool true]) ∧ Below w.heap.size w w' := by
  have hi := idx_range sel l 0
  go_enter Try.func9, Try.ntmps9
  go_wp2_with (fail)
  refine (pick_Best.calls k A c l b true w hr hc h).mono ?_; rintro e w1 ⟨rfl, hb⟩
  have HB := Aside0.mk hb
  have HR := Aside0.mk (Kd.C_below hr hb)
  clear hb hr h
  go_wp2_with (fail)
  refine (index_sel A c l w1 HR.out).mono ?_; rintro e w2 ⟨rfl, hb⟩
  have HB2 := Aside0.mk (below_then HB.out HB.out.size hb)
  have HR2 := Aside0.mk (Kd.C_below HR.out hb)
  clear hb HB HR
  generalize hI : idx sel l 0 = i at hi ⊢
  have HI := Aside0.mk hI
  clear hI
  obtain ⟨ad, rfl, c0, _, _⟩ := at_T34 HR2.out b b0 b1
  have rb := rd_in hl b0 b1
  by_cases h0 : 0 ≤ i
  · have h1 : i < l.length := by omega
    obtain ⟨ad', hAd, d0, _, _⟩ := at_T34 HR2.out i h0 h1
    obtain rfl : ad = ad' := by injection hAd
    clear hAd
    have ri := rd_in hl h0 h1
    by_cases hv : (rd_T34 l i).f0 - (rd_T34 l b).f0 ≤ m
    · have HR3 := Aside0.mk (show take m b (idx sel l 0) l = i by unfold take; rw [HI.out]; exact if_pos ⟨h0, hv⟩)
      clear HI HR2
      generalize (rd_T34 l i).f0 = vi at *
      generalize (rd_T34 l b).f0 = vb at *
      have t0 : decide (0 ≤ i) = true := decide_eq_true h0
      have t1 : decide (vi - vb ≤ m) = true := decide_eq_true hv
      clear hi
      go_wp2_with (fail)
      go_quiet (fail)
      go_wp2_with (fail)
      go_ret2
      exact ⟨by rw [HR3.out]; rfl, pw_below_drewN HB2.out _⟩
    · have HR3 := Aside0.mk (show take m b (idx sel l 0) l = b by unfold take; rw [HI.out]; exact if_neg (fun h => hv h.2))
      clear HI HR2
      generalize (rd_T34 l i).f0 = vi at *
      generalize (rd_T34 l b).f0 = vb at *
      have t0 : decide (0 ≤ i) = true := decide_eq_true h0
      have t1 : decide (vi - vb ≤ m) = false := decide_eq_false hv
      clear hi
      go_wp2_with (fail)
      go_quiet (fail)
      go_wp2_with (fail)
      go_ret2
      exact ⟨by rw [HR3.out]; rfl, pw_below_drewN HB2.out _⟩
  · have HR3 := Aside0.mk (show take m b (idx sel l 0) l = b by unfold take; rw [HI.out]; exact if_neg (fun h => h0 h.1))
    have t0 : decide (0 ≤ i) = false := decide_eq_false h0
    clear HI HR2 hi
    go_wp2_with (fail)
    go_quiet (fail)
    go_wp2_with (fail)
    go_ret2
    exact ⟨by rw [HR3.out]; rfl, pw_below_drewN HB2.out _⟩

set_option maxHeartbeats 1000000 in
theorem contains_fin (A : Option Addr) (c : Nat) (l : List S34) (w : World) (hr : Kd.C k34 w A l.length l) :
   Calls Try.prog 18 #[.slice A l.length c, .func (.func 19) #[] #[]] w fun e w' => e = .returned (.bool (decide (0 ≤ idx fin l 0))) ∧ Below w.heap.size w w' := by
  go_enter Try.func18, Try.ntmps18
  go_wp2_with (fail)
  refine (index_fin A c l _ hr).mono ?_; rintro e w1 ⟨rfl, hb⟩
  have HB := Aside0.mk hb
  clear hb
  go_wp2_with (fail)
  go_ret
  exact ⟨rfl, HB.out⟩

set_option maxHeartbeats 1000000 in
theorem starved_any (A : Option Addr) (c : Nat) (l : List S34) (w : World) (hr : Kd.C k34 w A l.length l) (hc : l.length ≤ c) (k : Nat) (b : Int) (ok : Bool) (h : pick_Best.f k l = some (b, ok)) :
   Calls Try.prog 12 #[.slice A l.length c] w fun e w' => e = .returned (.bool (!ok && decide (0 ≤ idx fin l 0))) ∧ Below w.heap.size w w' := by
  cases ok with
  | true =>
    go_enter Try.func12, Try.ntmps12
    go_wp2_with (fail)
    refine (pick_Best.calls k A c l b true w hr hc h).mono ?_; rintro e w1 ⟨rfl, hb⟩
    have HB := Aside0.mk hb
    clear hb hr h
    go_wp2_with (fail)
    go_ret
    exact ⟨rfl, HB.out⟩
  | false =>
    go_enter Try.func12, Try.ntmps12
    go_wp2_with (fail)
    refine (pick_Best.calls k A c l b false w hr hc h).mono ?_; rintro e w1 ⟨rfl, hb⟩
    have HB := Aside0.mk hb
    have HR := Aside0.mk (Kd.C_below hr hb)
    clear hb hr h
    go_wp2_with (fail)
    refine (contains_fin A c l _ HR.out).mono ?_; rintro e w2 ⟨rfl, hb⟩
    have HB2 := Aside0.mk (below_then HB.out HB.out.size hb)
    clear hb HB HR
    go_wp2_with (fail)
    go_ret
    exact ⟨rfl, HB2.out⟩
end Go.Proofs.Ytomabnpcecagfaa.Pk
