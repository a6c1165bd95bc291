/- The walk of culvertlaw03.SeqnoKept: it returns true, for every list of distances and every distance. -/
import Derived.Test.YtphbomcemcipeaaSqB
import Derived.Test.YtphbomcemcipeaaSqP
namespace Go.Proofs.Ytphbomcemcipeaa.SqV
open Go.RowKit Go.Proofs.Ytphbomcemcipeaa.MSq Go.Proofs.Ytphbomcemcipeaa.Sq Go.Proofs.YtphbomcemcipeaaW.PrintWords Go.Proofs.YtphbomcemcipeaaW.PrintLast

def Two (y : Int × Int) (cs : List Value) : Prop := cs = [.int .u16 y.1, .int .u16 y.2] ∧ (Lit.int .u16 y.1).wf = true ∧ (Lit.int .u16 y.2).wf = true

theorem at2 {w : World} {A : Option Addr} {n : Nat} {xs : List (Int × Int)} (h : ReadsRow Two 2 w A n xs) (k : Nat) (hk : k < n) : ∃ ad, A = some ad ∧
    w.cell? (ad.add (k * 2)) = some (.int .u16 (xs.getD k (0, 0)).1) ∧ w.cell? ⟨(ad.add (k * 2)).block, (ad.add (k * 2)).off + 1, none⟩ = some (.int .u16 (xs.getD k (0, 0)).2) := by
  obtain ⟨ad, c, e, hcl, hK, hc⟩ := ReadsRow.get_ h (0, 0) (k : Int) (by omega) (by omega)
  simp only [Int.toNat_natCast] at hK hc
  obtain ⟨rfl, _, _⟩ := hK
  exact ⟨ad, e, by have := hc 0 _ rfl; simpa using this, by have := hc 1 _ rfl; rwa [add_field _ _ 1 (by omega)] at this⟩

set_option maxHeartbeats 1000000 in
theorem kept_small (A : Option Addr) (n c : Nat) (d0 d1 : Int) (w : World) (h : 200 < n ∨ n = 0) (hm : n ≤ 9223372036854775807) :
    Calls Try.prog 6 #[.slice A n c, .agg #[.int .u16 d0, .int .u16 d1]] w fun e w' => e = .returned (.bool true) ∧ Below w.heap.size w w' := by
  rcases h with h | rfl
  · go_enter Try.func6, Try.ntmps6
    go_wp2_with (fail)
    refine (live_any _).mono ?_; rintro e w1 ⟨rfl, hb⟩
    have HB := Aside0.mk (below_then (below_alloc (Below.refl _ _) _) (by simp) hb)
    clear hb
    go_wp2_with (fail)
    go_ret
    exact ⟨rfl, HB.out⟩
  · go_enter Try.func6, Try.ntmps6
    go_wp2_with (fail)
    refine (live_any _).mono ?_; rintro e w1 ⟨rfl, hb⟩
    have HB := Aside0.mk (below_then (below_alloc (Below.refl _ _) _) (by simp) hb)
    clear hb
    go_wp2_with (fail)
    go_ret
    exact ⟨rfl, HB.out⟩

def Near (xs : List (Int × Int)) (d0 d1 : Int) (k : Nat) : Prop := (∀ j, j < k → (xs.getD j (0, 0)).1 ≤ 16000 ∧ (xs.getD j (0, 0)).2 ≠ 65535) ∧ (0 < k → d0 ≤ 16000 ∧ d1 ≠ 65535)
theorem near_next {xs : List (Int × Int)} {d0 d1 : Int} {k : Nat} (h : Near xs d0 d1 k) (h1 : (xs.getD k (0, 0)).1 ≤ 16000) (h2 : (xs.getD k (0, 0)).2 ≠ 65535) (h3 : d0 ≤ 16000) (h4 : d1 ≠ 65535) : Near xs d0 d1 (k + 1) := by
  refine ⟨fun j hj => ?_, fun _ => ⟨h3, h4⟩⟩
  rcases Nat.lt_or_ge j k with h' | h'
  · exact h.1 j h'
  · obtain rfl : j = k := by omega
    exact ⟨h1, h2⟩

def betB (a0 a1 b0 b1 : Int) : Bool := if a0 = b0 then decide (a1 < b1) else decide (b0 ≠ a0 ∧ (a0 - b0) % 65536 < 32768)
theorem better_b (a0 a1 b0 b1 : Int) : seqno_Better.f a0 a1 b0 b1 = some (betB a0 a1 b0 b1) := by
  unfold seqno_Better.f seqno_Less.f betB
  rw [SqP.wrap16]
  by_cases h : a0 = b0
  · rw [if_pos h, if_pos h]
  · rw [if_neg h, if_neg h, if_neg (fun e => h e.symm)]
    have h' : ¬ b0 = a0 := fun e => h e.symm
    simp [h']
/-- Near seqnos, metrics that don't end. -/
def Ok2 (k0 k1 : Int) : Prop := 0 ≤ k0 ∧ k0 ≤ 16000 ∧ 0 ≤ k1 ∧ k1 < 65535
theorem bet_is {a0 a1 b0 b1 : Int} (ha : Ok2 a0 a1) (hb : Ok2 b0 b1) : betB a0 a1 b0 b1 = decide (b0 < a0 ∨ a0 = b0 ∧ a1 < b1) := by
  unfold Ok2 at ha hb
  unfold betB
  split <;> (rw [decide_eq_decide]; omega)
theorem bet_not {x0 x1 k0 k1 : Int} (hx : Ok2 x0 x1) (hk : Ok2 k0 k1) (h : betB x0 x1 k0 k1 = true) : betB k0 k1 x0 x1 = false := by
  rw [bet_is hx hk, decide_eq_true_iff] at h
  rw [bet_is hk hx, decide_eq_false_iff_not]
  omega
theorem bet_self {x0 x1 : Int} (hx : Ok2 x0 x1) : betB x0 x1 x0 x1 = false := by
  rw [bet_is hx hx, decide_eq_false_iff_not]
  omega
/-- What is feasible against the better of two was feasible against each. -/
theorem bet_mono {d0 d1 x0 x1 k0 k1 : Int} (hd : Ok2 d0 d1) (hx : Ok2 x0 x1) (hk : Ok2 k0 k1) (h : betB x0 x1 k0 k1 = true) (h2 : betB d0 d1 x0 x1 = true) : betB d0 d1 k0 k1 = true := by
  rw [bet_is hx hk, decide_eq_true_iff] at h
  rw [bet_is hd hx, decide_eq_true_iff] at h2
  rw [bet_is hd hk, decide_eq_true_iff]
  omega

theorem ok_at {w : World} {A : Option Addr} {n : Nat} {xs : List (Int × Int)} {d0 d1 : Int} (h : ReadsRow Two 2 w A n xs) (hn : Near xs d0 d1 n) {j : Nat} (hj : j < n) : Ok2 (xs.getD j (0, 0)).1 (xs.getD j (0, 0)).2 := by
  obtain ⟨ad, c, e, hcl, hK, hc⟩ := ReadsRow.get_ h (0, 0) (j : Int) (by omega) (by omega)
  simp only [Int.toNat_natCast] at hK
  obtain ⟨_, g0, g1⟩ := hK
  have r0 := SqP.of16 g0
  have r1 := SqP.of16 g1
  have := hn.1 j hj
  unfold Ok2
  omega

set_option maxHeartbeats 8000000 in
theorem kept_walk (A : Option Addr) (n c : Nat) (xs : List (Int × Int)) (d0 d1 : Int) (w : World) (hr : ReadsRow Two 2 w A n xs) (h1 : n ≤ 200) (h0 : 0 < n) (g0 : (Lit.int .u16 d0).wf = true) (g1 : (Lit.int .u16 d1).wf = true) :
    Calls Try.prog 6 #[.slice A n c, .agg #[.int .u16 d0, .int .u16 d1]] w fun e w' => e = .returned (.bool true) ∧ Below w.heap.size w w' := by
  have hd1 : decide ((200 : Int) < (n : Int)) = false := by rw [decide_eq_false_iff_not]; omega
  have hd2 : ((n : Int) == 0) = false := by rw [beq_eq_false_iff_ne]; omega
  have HW := Aside0.mk (And.intro (SqP.of16 g0) (SqP.of16 g1))
  have HR := Aside0.mk hr
  clear hr g0 g1
  obtain ⟨ad, rfl, _, _⟩ := at2 HR.out 0 h0
  go_enter Try.func6, Try.ntmps6
  go_wp2_with (fail)
  generalize hw0 : w.alloc (Obj.cells #[Value.int IntKind.u16 d0, Value.int IntKind.u16 d1] 35) = w0
  have HB0 : Aside0 (Below w.heap.size w w0) := ⟨by rw [← hw0]; exact below_alloc (Below.refl _ _) _⟩
  have HD0 : Aside0 (w0.heap[w.heap.size]? = some (Obj.cells #[Value.int IntKind.u16 d0, Value.int IntKind.u16 d1] 35 (0, 0))) := ⟨by rw [← hw0]; exact blk_new _ _⟩
  have HR0 : Aside0 (ReadsRow Two 2 w0 (some ad) n xs) := ⟨HR.out.imp_ (by rw [← hw0]; exact below_alloc (Below.refl _ _) _) (fun _ _ h => h)⟩
  clear hw0
  clear hd1 hd2
  go_loop [5] (fun i => ∃ k : Nat, k ≤ n ∧ i = .int .i64 k ∧ Aside0 (Near xs d0 d1 k)) (fun i => n - (intOf i).toNat)
  case atStart => exact ⟨0, Nat.zero_le _, rfl, ⟨fun j hj => absurd hj (by omega), fun h => absurd h (by omega)⟩⟩
  case round =>
    obtain ⟨k, hk, rfl, HN⟩ := hrel
    by_cases hlt : k < n
    · obtain ⟨ad', hAd, c0, c1⟩ := at2 HR0.out k hlt
      obtain rfl : ad = ad' := by injection hAd
      clear hAd
      have e0 : w0.cell? ⟨w.heap.size, 0, none⟩ = some (.int .u16 d0) := (blk_cell HD0.out 0).trans rfl
      have e1 : w0.cell? ⟨w.heap.size, 1, none⟩ = some (.int .u16 d1) := (blk_cell HD0.out 1).trans rfl
      have HX : Aside0 ((xs.getD k (0, 0)).1 ≤ 16000 → (xs.getD k (0, 0)).2 ≠ 65535 → d0 ≤ 16000 → d1 ≠ 65535 → Near xs d0 d1 (k + 1)) := ⟨fun a b c d => near_next HN.out a b c d⟩
      generalize (xs.getD k (0, 0)).1 = x0 at *
      generalize (xs.getD k (0, 0)).2 = x1 at *
      by_cases q : x0 ≤ 16000
      · have t : decide (16000 < x0) = false := by first | (rw [decide_eq_false_iff_not]; omega) | (rw [beq_eq_false_iff_ne]; exact q)
        by_cases q : d0 ≤ 16000
        · have t : decide (16000 < d0) = false := by first | (rw [decide_eq_false_iff_not]; omega) | (rw [beq_eq_false_iff_ne]; exact q)
          by_cases q : x1 ≠ 65535
          · have t : (x1 == 65535) = false := by first | (rw [decide_eq_false_iff_not]; omega) | (rw [beq_eq_false_iff_ne]; exact q)
            by_cases q : d1 ≠ 65535
            · have t : (d1 == 65535) = false := by first | (rw [decide_eq_false_iff_not]; omega) | (rw [beq_eq_false_iff_ne]; exact q)
              go_wp2_with (fail)
              go_round
              case rel => exact ⟨k + 1, by omega, by go_num, ⟨HX.out (by assumption) (by assumption) (by assumption) (by assumption)⟩⟩
              case measure => simp [intOf]; omega
            · have t : (d1 == 65535) = true := by first | (rw [decide_eq_true_iff]; omega) | (rw [beq_iff_eq]; omega)
              go_wp2_with (fail)
              refine (live_any _).mono ?_; rintro e w9 ⟨rfl, hb⟩
              have HB9 := Aside0.mk (below_then HB0.out HB0.out.size hb)
              clear hb
              go_wp2_with (fail)
              go_ret
              exact ⟨rfl, HB9.out⟩
          · have t : (x1 == 65535) = true := by first | (rw [decide_eq_true_iff]; omega) | (rw [beq_iff_eq]; omega)
            go_wp2_with (fail)
            refine (live_any _).mono ?_; rintro e w9 ⟨rfl, hb⟩
            have HB9 := Aside0.mk (below_then HB0.out HB0.out.size hb)
            clear hb
            go_wp2_with (fail)
            go_ret
            exact ⟨rfl, HB9.out⟩
        · have t : decide (16000 < d0) = true := by first | (rw [decide_eq_true_iff]; omega) | (rw [beq_iff_eq]; omega)
          go_wp2_with (fail)
          refine (live_any _).mono ?_; rintro e w9 ⟨rfl, hb⟩
          have HB9 := Aside0.mk (below_then HB0.out HB0.out.size hb)
          clear hb
          go_wp2_with (fail)
          go_ret
          exact ⟨rfl, HB9.out⟩
      · have t : decide (16000 < x0) = true := by first | (rw [decide_eq_true_iff]; omega) | (rw [beq_iff_eq]; omega)
        go_wp2_with (fail)
        refine (live_any _).mono ?_; rintro e w9 ⟨rfl, hb⟩
        have HB9 := Aside0.mk (below_then HB0.out HB0.out.size hb)
        clear hb
        go_wp2_with (fail)
        go_ret
        exact ⟨rfl, HB9.out⟩
    · obtain rfl : k = n := by omega
      have HD := Aside0.mk ((show Ok2 d0 d1 from by have := HW.out; have := HN.out.2 h0; unfold Ok2; omega))
      obtain ⟨ad', hAd, c0, c1⟩ := at2 HR0.out 0 h0
      obtain rfl : ad = ad' := by injection hAd
      clear hAd
      rw [show ad.add (0 * 2) = ad from rfl] at c0 c1
      have e0 : ∀ o, (w0.alloc o).cell? ⟨w.heap.size, 0, none⟩ = some (.int .u16 d0) := fun o => (blk_cell (blk_alloc HD0.out o) 0).trans rfl
      have e1 : ∀ o, (w0.alloc o).cell? ⟨w.heap.size, 1, none⟩ = some (.int .u16 d1) := fun o => (blk_cell (blk_alloc HD0.out o) 1).trans rfl
      have HK : Aside0 (Ok2 (xs.getD 0 (0, 0)).1 (xs.getD 0 (0, 0)).2) := ⟨ok_at HR0.out HN.out h0⟩
      generalize (xs.getD 0 (0, 0)).1 = k0 at *
      generalize (xs.getD 0 (0, 0)).2 = k1 at *
      have hdf : (d1 == 65535) = false := by rw [beq_eq_false_iff_ne]; have := HD.out.2.2.2; omega
      go_wp2_with (fail)
      clear c0 c1 e0 e1
      generalize hw1 : w0.alloc (Obj.cells #[Value.int IntKind.u16 k0, Value.int IntKind.u16 k1] 35) = w1
      have HB1 : Aside0 (Below w.heap.size w w1) := ⟨by rw [← hw1]; exact below_alloc HB0.out _⟩
      have HD1 : Aside0 (w1.heap[w.heap.size]? = some (Obj.cells #[Value.int IntKind.u16 d0, Value.int IntKind.u16 d1] 35 (0, 0))) := ⟨by rw [← hw1]; exact blk_alloc HD0.out _⟩
      have HG1 : Aside0 (w1.heap[w0.heap.size]? = some (Obj.cells #[Value.int IntKind.u16 k0, Value.int IntKind.u16 k1] 35 (0, 0))) := ⟨by rw [← hw1]; exact blk_new _ _⟩
      have HL : Aside0 (w.heap.size < w0.heap.size) := ⟨blk_lt HD0.out⟩
      clear hw1 HR0
      generalize w0.heap.size = g at *
      refine (feas_fin d0 d1 k0 k1 _ g _ HG1.out hdf (better_b _ _ _ _)).mono ?_; rintro e w2 ⟨rfl, hb⟩
      have HB2 := Aside0.mk (below_then HB1.out HB1.out.size hb)
      have HD2 := Aside0.mk (blk_below HD1.out hb)
      have HG2 := Aside0.mk (blk_below HG1.out hb)
      clear hb HB1 HD1 HG1 HB0 HD0
      go_wp2_with (fail)
      go_loopw [7, 8] (fun was i wr => ∃ (j : Nat) (k0 k1 : Int), 1 ≤ j ∧ j ≤ k ∧ i = .int .i64 j ∧ was = .bool (betB d0 d1 k0 k1) ∧ Aside0 (Ok2 k0 k1) ∧ Aside0 (wr.heap[g]? = some (Obj.cells #[Value.int IntKind.u16 k0, Value.int IntKind.u16 k1] 35 (0, 0))) ∧
          Aside0 (wr.heap[w.heap.size]? = some (Obj.cells #[Value.int IntKind.u16 d0, Value.int IntKind.u16 d1] 35 (0, 0))) ∧ Aside0 (Below w.heap.size w wr)) (fun _ i _ => k - (intOf i).toNat)
      case atStart => exact ⟨1, k0, k1, by omega, by omega, rfl, rfl, HK, HG2, HD2, HB2⟩
      case round =>
        clear HK HG2 HD2 HB2
        obtain ⟨j, y0, y1, hj1, hjk, rfl, rfl, HK, HG, HDw, HBw⟩ := hrel
        by_cases hlt : j < k
        · obtain ⟨ad', hAd, c0, c1⟩ := at2 (HR.out.imp_ HBw.out (fun _ _ h => h)) j hlt
          obtain rfl : ad = ad' := by injection hAd
          clear hAd
          have HXo : Aside0 (Ok2 (xs.getD j (0, 0)).1 (xs.getD j (0, 0)).2) := ⟨ok_at HR.out HN.out hlt⟩
          generalize hx0 : (xs.getD j (0, 0)).1 = x0 at *
          generalize hx1 : (xs.getD j (0, 0)).2 = x1 at *
          have HX0 := Aside0.mk hx0
          have HX1 := Aside0.mk hx1
          clear hx0 hx1
          cases hbet0 : betB x0 x1 y0 y1 with
          | true =>
            have hbet := Aside0.mk hbet0
            clear hbet0
            have keep := (keep_yes x0 x1 y0 y1 g)
            have HX2 := Aside0.mk (show betB x0 x1 x0 x1 = false from bet_self HXo.out)
            have HM := Aside0.mk (show betB d0 d1 x0 x1 = true → betB d0 d1 y0 y1 = true from bet_mono HD.out HXo.out HK.out hbet.out)
            generalize hbw : betB d0 d1 y0 y1 = bw at *
            have HBW := Aside0.mk hbw
            clear hbw
            go_wp2_with (fail)
            refine (keep_yes x0 x1 y0 y1 g _ HG.out ((better_b _ _ _ _).trans (congrArg some hbet.out))).mono ?_; rintro e w3 ⟨rfl, hb⟩
            have HB3 := Aside0.mk (below_then HBw.out HBw.out.size hb)
            have HD3 := Aside0.mk (blk_below HDw.out hb)
            have HG3 := Aside0.mk (blk_below HG.out hb)
            clear hb c0 c1 keep
            have c0 : w3.cell? ⟨g, 0, none⟩ = some (.int .u16 y0) := (blk_cell HG3.out 0).trans rfl
            have c1 : w3.cell? ⟨g, 1, none⟩ = some (.int .u16 y1) := (blk_cell HG3.out 1).trans rfl
            have f0 : ∀ j, w3.frozen? ⟨g, j, none⟩ = false := fun j => blk_frozen HG3.out j
            have e0 : ∀ u v, ((w3.setCell ⟨g, 0, none⟩ u).setCell ⟨g, 1, none⟩ v).cell? ⟨w.heap.size, 0, none⟩ = some (.int .u16 d0) := fun u v => (blk_cell (blk_far (blk_far HD3.out (Nat.ne_of_lt HL.out) _) (Nat.ne_of_lt HL.out) _) 0).trans rfl
            have e1 : ∀ u v, ((w3.setCell ⟨g, 0, none⟩ u).setCell ⟨g, 1, none⟩ v).cell? ⟨w.heap.size, 1, none⟩ = some (.int .u16 d1) := fun u v => (blk_cell (blk_far (blk_far HD3.out (Nat.ne_of_lt HL.out) _) (Nat.ne_of_lt HL.out) _) 1).trans rfl
            go_wp2_with (fail)
            clear c0 c1 f0 e0 e1
            generalize hw4 : (w3.setCell ⟨g, 0, none⟩ (.int .u16 x0)).setCell ⟨g, 1, none⟩ (.int .u16 x1) = w4
            have HB4 : Aside0 (Below w.heap.size w w4) := ⟨by rw [← hw4]; exact below_set (below_set HB3.out (Nat.le_of_lt HL.out)) (Nat.le_of_lt HL.out)⟩
            have HD4 : Aside0 (w4.heap[w.heap.size]? = some (Obj.cells #[Value.int IntKind.u16 d0, Value.int IntKind.u16 d1] 35 (0, 0))) := ⟨by rw [← hw4]; exact blk_far (blk_far HD3.out (Nat.ne_of_lt HL.out) _) (Nat.ne_of_lt HL.out) _⟩
            have HG4 : Aside0 (w4.heap[g]? = some (Obj.cells #[Value.int IntKind.u16 x0, Value.int IntKind.u16 x1] 35 (0, 0))) := ⟨by rw [← hw4]; exact blk_put (cs := #[.int .u16 x0, .int .u16 y1]) (blk_put (cs := #[.int .u16 y0, .int .u16 y1]) HG3.out 0 _ rfl) 1 _ rfl⟩
            clear hw4 HB3 HD3 HG3
            refine (feas_fin d0 d1 x0 x1 _ g _ HG4.out hdf (better_b _ _ _ _)).mono ?_; rintro e w5 ⟨rfl, hb⟩
            have HB5 := Aside0.mk (below_then HB4.out HB4.out.size hb)
            have HD5 := Aside0.mk (blk_below HD4.out hb)
            have HG5 := Aside0.mk (blk_below HG4.out hb)
            clear hb HB4 HD4 HG4
            have HRd := Aside0.mk (at2 (HR.out.imp_ HB5.out (fun _ _ h => h)) j hlt)
            go_wp2_with (fail)
            clear HRd
            generalize hbi : betB d0 d1 x0 x1 = bi at *
            have HBI := Aside0.mk hbi
            clear hbi
            cases bi with
            | true =>
              obtain rfl : bw = true := HM.out rfl
              refine region_quietB (by kernel_rfl) (by kernel_rfl) ?_
              intro X F _ HB HN2
              have c0 : ∀ x, (F x).cell? (ad.add (j * 2)) = some (.int .u16 x0) := fun x => by
                obtain ⟨ad', h1, h2, h3⟩ := at2 (HR.out.imp_ (below_then HB5.out HB5.out.size (HB.out x)) (fun _ _ h => h)) j hlt
                injection h1 with h1
                subst h1
                rw [h2, HX0.out]
              have c1 : ∀ x, (F x).cell? ⟨(ad.add (j * 2)).block, (ad.add (j * 2)).off + 1, none⟩ = some (.int .u16 x1) := fun x => by
                obtain ⟨ad', h1, h2, h3⟩ := at2 (HR.out.imp_ (below_then HB5.out HB5.out.size (HB.out x)) (fun _ _ h => h)) j hlt
                injection h1 with h1
                subst h1
                rw [h3, HX1.out]
              have c2 : ∀ x, (F x).cell? ⟨g, 0, none⟩ = some (.int .u16 x0) := fun x => (blk_cell (blk_below HG5.out (HB.out x)) 0).trans rfl
              have c3 : ∀ x, (F x).cell? ⟨g, 1, none⟩ = some (.int .u16 x1) := fun x => (blk_cell (blk_below HG5.out (HB.out x)) 1).trans rfl
              repeat (go_big_quiet_step (((with_reducible refine (seqno_Better.calls x0 x1 x0 x1 _ _ ((better_b _ _ _ _).trans (congrArg some HX2.out))).mono ?_); rintro e w6 ⟨rfl, hb2⟩; exact ⟨rfl, HN2.out _ _ hb2⟩)))
              refine wpQuiet_nil ?_
              rintro w' ⟨x, rfl⟩
              have HB6 := Aside0.mk (below_then HB5.out HB5.out.size (HB.out x))
              have HD6 := Aside0.mk (blk_below HD5.out (HB.out x))
              have HG6 := Aside0.mk (blk_below HG5.out (HB.out x))
              clear c0 c1 c2 c3 HB HN2 HB5 HD5 HG5
              generalize F x = w6 at *
              go_wp2_with (fail)
              go_roundw
              case rel => exact ⟨j + 1, x0, x1, by omega, by omega, by go_num, by rw [HBI.out], HXo, HG6, HD6, HB6⟩
              case measure => simp [intOf]; omega
            | false =>
              cases bw with
              | true =>
                refine region_quietB (by kernel_rfl) (by kernel_rfl) ?_
                intro X F _ HB HN2
                have c0 : ∀ x, (F x).cell? (ad.add (j * 2)) = some (.int .u16 x0) := fun x => by
                  obtain ⟨ad', h1, h2, h3⟩ := at2 (HR.out.imp_ (below_then HB5.out HB5.out.size (HB.out x)) (fun _ _ h => h)) j hlt
                  injection h1 with h1
                  subst h1
                  rw [h2, HX0.out]
                have c1 : ∀ x, (F x).cell? ⟨(ad.add (j * 2)).block, (ad.add (j * 2)).off + 1, none⟩ = some (.int .u16 x1) := fun x => by
                  obtain ⟨ad', h1, h2, h3⟩ := at2 (HR.out.imp_ (below_then HB5.out HB5.out.size (HB.out x)) (fun _ _ h => h)) j hlt
                  injection h1 with h1
                  subst h1
                  rw [h3, HX1.out]
                have c2 : ∀ x, (F x).cell? ⟨g, 0, none⟩ = some (.int .u16 x0) := fun x => (blk_cell (blk_below HG5.out (HB.out x)) 0).trans rfl
                have c3 : ∀ x, (F x).cell? ⟨g, 1, none⟩ = some (.int .u16 x1) := fun x => (blk_cell (blk_below HG5.out (HB.out x)) 1).trans rfl
                repeat (go_big_quiet_step (((with_reducible refine (seqno_Better.calls x0 x1 x0 x1 _ _ ((better_b _ _ _ _).trans (congrArg some HX2.out))).mono ?_); rintro e w6 ⟨rfl, hb2⟩; exact ⟨rfl, HN2.out _ _ hb2⟩)))
                refine wpQuiet_nil ?_
                rintro w' ⟨x, rfl⟩
                have HB6 := Aside0.mk (below_then HB5.out HB5.out.size (HB.out x))
                have HD6 := Aside0.mk (blk_below HD5.out (HB.out x))
                have HG6 := Aside0.mk (blk_below HG5.out (HB.out x))
                clear c0 c1 c2 c3 HB HN2 HB5 HD5 HG5
                generalize F x = w6 at *
                go_wp2_with (fail)
                go_roundw
                case rel => exact ⟨j + 1, x0, x1, by omega, by omega, by go_num, by rw [HBI.out], HXo, HG6, HD6, HB6⟩
                case measure => simp [intOf]; omega
              | false =>
                refine region_quietB (by kernel_rfl) (by kernel_rfl) ?_
                intro X F _ HB HN2
                have c0 : ∀ x, (F x).cell? (ad.add (j * 2)) = some (.int .u16 x0) := fun x => by
                  obtain ⟨ad', h1, h2, h3⟩ := at2 (HR.out.imp_ (below_then HB5.out HB5.out.size (HB.out x)) (fun _ _ h => h)) j hlt
                  injection h1 with h1
                  subst h1
                  rw [h2, HX0.out]
                have c1 : ∀ x, (F x).cell? ⟨(ad.add (j * 2)).block, (ad.add (j * 2)).off + 1, none⟩ = some (.int .u16 x1) := fun x => by
                  obtain ⟨ad', h1, h2, h3⟩ := at2 (HR.out.imp_ (below_then HB5.out HB5.out.size (HB.out x)) (fun _ _ h => h)) j hlt
                  injection h1 with h1
                  subst h1
                  rw [h3, HX1.out]
                have c2 : ∀ x, (F x).cell? ⟨g, 0, none⟩ = some (.int .u16 x0) := fun x => (blk_cell (blk_below HG5.out (HB.out x)) 0).trans rfl
                have c3 : ∀ x, (F x).cell? ⟨g, 1, none⟩ = some (.int .u16 x1) := fun x => (blk_cell (blk_below HG5.out (HB.out x)) 1).trans rfl
                repeat (go_big_quiet_step (((with_reducible refine (seqno_Better.calls x0 x1 x0 x1 _ _ ((better_b _ _ _ _).trans (congrArg some HX2.out))).mono ?_); rintro e w6 ⟨rfl, hb2⟩; exact ⟨rfl, HN2.out _ _ hb2⟩)))
                refine wpQuiet_nil ?_
                rintro w' ⟨x, rfl⟩
                have HB6 := Aside0.mk (below_then HB5.out HB5.out.size (HB.out x))
                have HD6 := Aside0.mk (blk_below HD5.out (HB.out x))
                have HG6 := Aside0.mk (blk_below HG5.out (HB.out x))
                clear c0 c1 c2 c3 HB HN2 HB5 HD5 HG5
                generalize F x = w6 at *
                go_wp2_with (fail)
                go_roundw
                case rel => exact ⟨j + 1, x0, x1, by omega, by omega, by go_num, by rw [HBI.out], HXo, HG6, HD6, HB6⟩
                case measure => simp [intOf]; omega
          | false =>
            have hbet := Aside0.mk hbet0
            clear hbet0
            have keep := (keep_no x0 x1 y0 y1 g)
            have HX2 := Aside0.mk (show betB x0 x1 y0 y1 = false from hbet.out)
            have HM := Aside0.mk (show betB d0 d1 y0 y1 = true → betB d0 d1 y0 y1 = true from id)
            generalize hbw : betB d0 d1 y0 y1 = bw at *
            have HBW := Aside0.mk hbw
            clear hbw
            go_wp2_with (fail)
            refine (keep_no x0 x1 y0 y1 g _ HG.out ((better_b _ _ _ _).trans (congrArg some hbet.out))).mono ?_; rintro e w3 ⟨rfl, hb⟩
            have HB3 := Aside0.mk (below_then HBw.out HBw.out.size hb)
            have HD3 := Aside0.mk (blk_below HDw.out hb)
            have HG3 := Aside0.mk (blk_below HG.out hb)
            clear hb c0 c1 keep
            have c0 : w3.cell? ⟨g, 0, none⟩ = some (.int .u16 y0) := (blk_cell HG3.out 0).trans rfl
            have c1 : w3.cell? ⟨g, 1, none⟩ = some (.int .u16 y1) := (blk_cell HG3.out 1).trans rfl
            have f0 : ∀ j, w3.frozen? ⟨g, j, none⟩ = false := fun j => blk_frozen HG3.out j
            have e0 : ∀ u v, ((w3.setCell ⟨g, 0, none⟩ u).setCell ⟨g, 1, none⟩ v).cell? ⟨w.heap.size, 0, none⟩ = some (.int .u16 d0) := fun u v => (blk_cell (blk_far (blk_far HD3.out (Nat.ne_of_lt HL.out) _) (Nat.ne_of_lt HL.out) _) 0).trans rfl
            have e1 : ∀ u v, ((w3.setCell ⟨g, 0, none⟩ u).setCell ⟨g, 1, none⟩ v).cell? ⟨w.heap.size, 1, none⟩ = some (.int .u16 d1) := fun u v => (blk_cell (blk_far (blk_far HD3.out (Nat.ne_of_lt HL.out) _) (Nat.ne_of_lt HL.out) _) 1).trans rfl
            go_wp2_with (fail)
            clear c0 c1 f0 e0 e1
            generalize hw4 : (w3.setCell ⟨g, 0, none⟩ (.int .u16 y0)).setCell ⟨g, 1, none⟩ (.int .u16 y1) = w4
            have HB4 : Aside0 (Below w.heap.size w w4) := ⟨by rw [← hw4]; exact below_set (below_set HB3.out (Nat.le_of_lt HL.out)) (Nat.le_of_lt HL.out)⟩
            have HD4 : Aside0 (w4.heap[w.heap.size]? = some (Obj.cells #[Value.int IntKind.u16 d0, Value.int IntKind.u16 d1] 35 (0, 0))) := ⟨by rw [← hw4]; exact blk_far (blk_far HD3.out (Nat.ne_of_lt HL.out) _) (Nat.ne_of_lt HL.out) _⟩
            have HG4 : Aside0 (w4.heap[g]? = some (Obj.cells #[Value.int IntKind.u16 y0, Value.int IntKind.u16 y1] 35 (0, 0))) := ⟨by rw [← hw4]; exact blk_put (cs := #[.int .u16 y0, .int .u16 y1]) (blk_put (cs := #[.int .u16 y0, .int .u16 y1]) HG3.out 0 _ rfl) 1 _ rfl⟩
            clear hw4 HB3 HD3 HG3
            refine (feas_fin d0 d1 y0 y1 _ g _ HG4.out hdf ((better_b _ _ _ _).trans (congrArg some HBW.out))).mono ?_; rintro e w5 ⟨rfl, hb⟩
            have HB5 := Aside0.mk (below_then HB4.out HB4.out.size hb)
            have HD5 := Aside0.mk (blk_below HD4.out hb)
            have HG5 := Aside0.mk (blk_below HG4.out hb)
            clear hb HB4 HD4 HG4
            have HRd := Aside0.mk (at2 (HR.out.imp_ HB5.out (fun _ _ h => h)) j hlt)
            go_wp2_with (fail)
            clear HRd
            cases bw with
            | true =>
              refine region_quietB (by kernel_rfl) (by kernel_rfl) ?_
              intro X F _ HB HN2
              have c0 : ∀ x, (F x).cell? (ad.add (j * 2)) = some (.int .u16 x0) := fun x => by
                obtain ⟨ad', h1, h2, h3⟩ := at2 (HR.out.imp_ (below_then HB5.out HB5.out.size (HB.out x)) (fun _ _ h => h)) j hlt
                injection h1 with h1
                subst h1
                rw [h2, HX0.out]
              have c1 : ∀ x, (F x).cell? ⟨(ad.add (j * 2)).block, (ad.add (j * 2)).off + 1, none⟩ = some (.int .u16 x1) := fun x => by
                obtain ⟨ad', h1, h2, h3⟩ := at2 (HR.out.imp_ (below_then HB5.out HB5.out.size (HB.out x)) (fun _ _ h => h)) j hlt
                injection h1 with h1
                subst h1
                rw [h3, HX1.out]
              have c2 : ∀ x, (F x).cell? ⟨g, 0, none⟩ = some (.int .u16 y0) := fun x => (blk_cell (blk_below HG5.out (HB.out x)) 0).trans rfl
              have c3 : ∀ x, (F x).cell? ⟨g, 1, none⟩ = some (.int .u16 y1) := fun x => (blk_cell (blk_below HG5.out (HB.out x)) 1).trans rfl
              repeat (go_big_quiet_step (((with_reducible refine (seqno_Better.calls x0 x1 y0 y1 _ _ ((better_b _ _ _ _).trans (congrArg some HX2.out))).mono ?_); rintro e w6 ⟨rfl, hb2⟩; exact ⟨rfl, HN2.out _ _ hb2⟩)))
              refine wpQuiet_nil ?_
              rintro w' ⟨x, rfl⟩
              have HB6 := Aside0.mk (below_then HB5.out HB5.out.size (HB.out x))
              have HD6 := Aside0.mk (blk_below HD5.out (HB.out x))
              have HG6 := Aside0.mk (blk_below HG5.out (HB.out x))
              clear c0 c1 c2 c3 HB HN2 HB5 HD5 HG5
              generalize F x = w6 at *
              go_wp2_with (fail)
              go_roundw
              case rel => exact ⟨j + 1, y0, y1, by omega, by omega, by go_num, by rw [HBW.out], HK, HG6, HD6, HB6⟩
              case measure => simp [intOf]; omega
            | false =>
              refine region_quietB (by kernel_rfl) (by kernel_rfl) ?_
              intro X F _ HB HN2
              have c0 : ∀ x, (F x).cell? (ad.add (j * 2)) = some (.int .u16 x0) := fun x => by
                obtain ⟨ad', h1, h2, h3⟩ := at2 (HR.out.imp_ (below_then HB5.out HB5.out.size (HB.out x)) (fun _ _ h => h)) j hlt
                injection h1 with h1
                subst h1
                rw [h2, HX0.out]
              have c1 : ∀ x, (F x).cell? ⟨(ad.add (j * 2)).block, (ad.add (j * 2)).off + 1, none⟩ = some (.int .u16 x1) := fun x => by
                obtain ⟨ad', h1, h2, h3⟩ := at2 (HR.out.imp_ (below_then HB5.out HB5.out.size (HB.out x)) (fun _ _ h => h)) j hlt
                injection h1 with h1
                subst h1
                rw [h3, HX1.out]
              have c2 : ∀ x, (F x).cell? ⟨g, 0, none⟩ = some (.int .u16 y0) := fun x => (blk_cell (blk_below HG5.out (HB.out x)) 0).trans rfl
              have c3 : ∀ x, (F x).cell? ⟨g, 1, none⟩ = some (.int .u16 y1) := fun x => (blk_cell (blk_below HG5.out (HB.out x)) 1).trans rfl
              repeat (go_big_quiet_step (((with_reducible refine (seqno_Better.calls x0 x1 y0 y1 _ _ ((better_b _ _ _ _).trans (congrArg some HX2.out))).mono ?_); rintro e w6 ⟨rfl, hb2⟩; exact ⟨rfl, HN2.out _ _ hb2⟩)))
              refine wpQuiet_nil ?_
              rintro w' ⟨x, rfl⟩
              have HB6 := Aside0.mk (below_then HB5.out HB5.out.size (HB.out x))
              have HD6 := Aside0.mk (blk_below HD5.out (HB.out x))
              have HG6 := Aside0.mk (blk_below HG5.out (HB.out x))
              clear c0 c1 c2 c3 HB HN2 HB5 HD5 HG5
              generalize F x = w6 at *
              go_wp2_with (fail)
              go_roundw
              case rel => exact ⟨j + 1, y0, y1, by omega, by omega, by go_num, by rw [HBW.out], HK, HG6, HD6, HB6⟩
              case measure => simp [intOf]; omega
        · obtain rfl : j = k := by omega
          go_wp2_with (fail)
          refine (live_any _).mono ?_; rintro e w9 ⟨rfl, hb⟩
          have HB9 := Aside0.mk (below_then HBw.out HBw.out.size hb)
          clear hb
          go_wp2_with (fail)
          go_ret
          exact ⟨rfl, HB9.out⟩

theorem kept_any (A : Option Addr) (n c : Nat) (xs : List (Int × Int)) (d0 d1 : Int) (w : World) (hr : ReadsRow Two 2 w A n xs) (g0 : (Lit.int .u16 d0).wf = true) (g1 : (Lit.int .u16 d1).wf = true) :
    Calls Try.prog 6 #[.slice A n c, .agg #[.int .u16 d0, .int .u16 d1]] w fun e w' => e = .returned (.bool true) ∧ Below w.heap.size w w' := by
  by_cases h : 200 < n ∨ n = 0
  · exact kept_small A n c d0 d1 w h hr.2.1
  · exact kept_walk A n c xs d0 d1 w hr (by omega) (by omega) g0 g1
end Go.Proofs.Ytphbomcemcipeaa.SqV
