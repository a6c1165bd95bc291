/- Laid by a program of this repo (wip/myprint.py) out of the print of the loaded program: for each Go function a function with the same answers, and the proof that the Go code comes to these; in a row: the law holds for every input. -/
import Derived.Test.YtlhlghmpcimdlaaMLnx0
import Derived.Test.YtlhlghmpcimdlaaMLnx1
import Derived.Test.YtlhlghmpcimdlaaMLnx2
import Derived.Test.YtlhlghmpcimdlaaMLnx5
namespace Go.Proofs.Ytlhlghmpcimdlaa.MLn
attribute [local go_sem] Go.Proofs.Ytlhlghmpcimdlaa.Ln.field24_0 Go.Proofs.Ytlhlghmpcimdlaa.Ln.field24_1 Go.Proofs.Ytlhlghmpcimdlaa.Ln.field24_2
open Go.RowKit Go.Proofs.YtlhlghmpcimdlaaW.PrintWords Go.Proofs.YtlhlghmpcimdlaaW.PrintLast Go.Proofs.YtlhlghmpcimdlaaW.PrintMore
attribute [local go_sem] max2_int min2_int max_two min_two max_three min_three max_four min_four   -- for this text's walks alone
set_option linter.unusedVariables false
set_option linter.unusedSimpArgs false

attribute [local go_sem high] eqA24
/-! ### culvertlaw11_LinkHears: function 3 -/
mutual
def culvertlaw11_LinkHears.l0 : Nat → List (S28) → Int → Int → Int → Bool → Int → Int → Bool → Option (Bool)
  | 0, _, _, _, _, _, _, _, _ => none
  | k + 1, x1, x6, x181000, x181001, x181002, x183000, x183001, x183002 => if x6 < (x1.length : Int) then (if 0 ≤ x6 then (if (rd_T28 x1 x6).f0 = true then (if ((rd_T28 x1 x6).f1) > 300 then ((culvertlaw11_live.f).bind fun t186 => (some t186)) else ((link_Miss.f x181000 x181001 x181002 ((rd_T28 x1 x6).f1)).bind fun bt188 => (culvertlaw11_LinkHears.l1 k x1 x6 0 bt188.1 bt188.2.1 bt188.2.2 x183000 x183001 x183002))) else ((link_Hear.f k x181000 x181001 x181002 ((rd_T28 x1 x6).f2)).bind fun bt196 => ((culvertref11_Hear.f k x183000 x183001 x183002 ((rd_T28 x1 x6).f2)).bind fun bt200 => (if (!(bt196.1 == bt200.1) || (!(bt196.2.1 == bt200.2.1) || (!(bt196.2.2 == bt200.2.2)))) = true then (some false) else (culvertlaw11_LinkHears.l0 k x1 (wrap64 (x6 + 1)) bt196.1 bt196.2.1 bt196.2.2 bt200.1 bt200.2.1 bt200.2.2))))) else (none)) else ((culvertlaw11_live.f).bind fun t183 => (some t183))
def culvertlaw11_LinkHears.l1 : Nat → List (S28) → Int → Int → Int → Int → Bool → Int → Int → Bool → Option (Bool)
  | 0, _, _, _, _, _, _, _, _, _ => none
  | k + 1, x1, x6, x7, x181000, x181001, x181002, x183000, x183001, x183002 => if 0 ≤ x6 then (if x6 < (x1.length : Int) then (if x7 < ((rd_T28 x1 x6).f1) then ((culvertref11_Miss.f x183000 x183001 x183002).bind fun bt192 => (culvertlaw11_LinkHears.l1 k x1 x6 (wrap64 (x7 + 1)) x181000 x181001 x181002 bt192.1 bt192.2.1 bt192.2.2)) else (if (!(x181000 == x183000) || (!(x181001 == x183001) || (!(x181002 == x183002)))) = true then (some false) else (culvertlaw11_LinkHears.l0 k x1 (wrap64 (x6 + 1)) x181000 x181001 x181002 x183000 x183001 x183002))) else (none)) else (none)
end
def culvertlaw11_LinkHears.f (k : Nat) (a0_0 : Int) (a0_1 : Int) (a0_2 : Bool) (l1 : List (S28)) : Option (Bool) := if (l1.length : Int) > 300 then ((culvertlaw11_live.f).bind fun t181 => (some t181)) else (culvertlaw11_LinkHears.l0 k l1 0 a0_0 a0_1 a0_2 a0_0 a0_1 a0_2)
theorem culvertlaw11_LinkHears.mono_l : ∀ k, (∀ y0 y1 y2 y3 y4 y5 y6 y7, LeO (culvertlaw11_LinkHears.l0 k y0 y1 y2 y3 y4 y5 y6 y7) (culvertlaw11_LinkHears.l0 (k + 1) y0 y1 y2 y3 y4 y5 y6 y7)) ∧ (∀ y0 y1 y2 y3 y4 y5 y6 y7 y8, LeO (culvertlaw11_LinkHears.l1 k y0 y1 y2 y3 y4 y5 y6 y7 y8) (culvertlaw11_LinkHears.l1 (k + 1) y0 y1 y2 y3 y4 y5 y6 y7 y8))
  | 0 => ⟨fun _ _ _ _ _ _ _ _ r h => by simp [culvertlaw11_LinkHears.l0] at h, fun _ _ _ _ _ _ _ _ _ r h => by simp [culvertlaw11_LinkHears.l1] at h⟩
  | k + 1 => by
    obtain ⟨ih0, ih1⟩ := culvertlaw11_LinkHears.mono_l k
    refine ⟨?_, ?_⟩
    · intro y0 y1 y2 y3 y4 y5 y6 y7
      unfold culvertlaw11_LinkHears.l0
      repeat' first
      | (with_reducible exact ih0 _ _ _ _ _ _ _ _)
      | (with_reducible exact ih1 _ _ _ _ _ _ _ _ _)
      | (with_reducible exact culvertref11_Hear.mono _ _ _ _ _)
      | (with_reducible exact link_Hear.mono _ _ _ _ _)
      | (with_reducible exact LeO.refl _)
      | (with_reducible exact LeO.none _)
      | (with_reducible refine LeO.ite ?_ ?_)
      | (with_reducible refine LeO.bind ?_ (fun _ => ?_))
      | exact ih0 _ _ _ _ _ _ _ _
      | exact ih1 _ _ _ _ _ _ _ _ _
      | exact culvertref11_Hear.mono _ _ _ _ _
      | exact link_Hear.mono _ _ _ _ _
      | exact LeO.none _
      | refine LeO.ite ?_ ?_
      | refine LeO.bind ?_ (fun _ => ?_)
    · intro y0 y1 y2 y3 y4 y5 y6 y7 y8
      unfold culvertlaw11_LinkHears.l1
      repeat' first
      | (with_reducible exact ih0 _ _ _ _ _ _ _ _)
      | (with_reducible exact ih1 _ _ _ _ _ _ _ _ _)
      | (with_reducible exact culvertref11_Hear.mono _ _ _ _ _)
      | (with_reducible exact link_Hear.mono _ _ _ _ _)
      | (with_reducible exact LeO.refl _)
      | (with_reducible exact LeO.none _)
      | (with_reducible refine LeO.ite ?_ ?_)
      | (with_reducible refine LeO.bind ?_ (fun _ => ?_))
      | exact ih0 _ _ _ _ _ _ _ _
      | exact ih1 _ _ _ _ _ _ _ _ _
      | exact culvertref11_Hear.mono _ _ _ _ _
      | exact link_Hear.mono _ _ _ _ _
      | exact LeO.none _
      | refine LeO.ite ?_ ?_
      | refine LeO.bind ?_ (fun _ => ?_)
theorem culvertlaw11_LinkHears.mono : ∀ a0 a1 a2 a3 k, LeO (culvertlaw11_LinkHears.f k a0 a1 a2 a3) (culvertlaw11_LinkHears.f (k + 1) a0 a1 a2 a3) := by
  intro a0 a1 a2 a3 k
  obtain ⟨ih0, ih1⟩ := culvertlaw11_LinkHears.mono_l k
  unfold culvertlaw11_LinkHears.f
  repeat' first
      | (with_reducible exact ih0 _ _ _ _ _ _ _ _)
      | (with_reducible exact ih1 _ _ _ _ _ _ _ _ _)
      | (with_reducible exact culvertref11_Hear.mono _ _ _ _ _)
      | (with_reducible exact link_Hear.mono _ _ _ _ _)
      | (with_reducible exact LeO.refl _)
      | (with_reducible exact LeO.none _)
      | (with_reducible refine LeO.ite ?_ ?_)
      | (with_reducible refine LeO.bind ?_ (fun _ => ?_))
      | exact ih0 _ _ _ _ _ _ _ _
      | exact ih1 _ _ _ _ _ _ _ _ _
      | exact culvertref11_Hear.mono _ _ _ _ _
      | exact link_Hear.mono _ _ _ _ _
      | exact LeO.none _
      | refine LeO.ite ?_ ?_
      | refine LeO.bind ?_ (fun _ => ?_)
def culvertlaw11_LinkHears.T10 : Bool × List (List Nat × List Nat) := (true, [([], []), ([], []), ([], []), ([1, 2], [1, 2]), ([3], [3]), ([4], [4]), ([0, 5], [0, 5]), ([6, 6, 0, 1, 2, 3, 4, 5, 6], [6])])
def culvertlaw11_LinkHears.B10 : List Nat := [0, 0, 0, 6, 14, 30, 63, 127]
theorem culvertlaw11_LinkHears.tab10 : rtab .any (opsOf Try.f3 10) = culvertlaw11_LinkHears.T10 := by kernel_rfl
theorem culvertlaw11_LinkHears.bits10 : waitsOk culvertlaw11_LinkHears.T10.2 culvertlaw11_LinkHears.B10 = true := by kernel_rfl
def culvertlaw11_LinkHears.T15 : Bool × List (List Nat × List Nat) := (true, [([], []), ([], []), ([], []), ([1, 2], [1, 2]), ([3], [3]), ([4], [4]), ([0, 5], [0, 5]), ([6, 6, 0, 1, 2, 3, 4, 5, 6], [6])])
def culvertlaw11_LinkHears.B15 : List Nat := [0, 0, 0, 6, 14, 30, 63, 127]
theorem culvertlaw11_LinkHears.tab15 : rtab .any (opsOf Try.f3 15) = culvertlaw11_LinkHears.T15 := by kernel_rfl
theorem culvertlaw11_LinkHears.bits15 : waitsOk culvertlaw11_LinkHears.T15.2 culvertlaw11_LinkHears.B15 = true := by kernel_rfl
def culvertlaw11_LinkHears.T16 : Bool × List (List Nat × List Nat) := (true, [([], []), ([], []), ([], []), ([1, 2], [1, 2]), ([3], [3]), ([4], [4]), ([0, 5], [0, 5]), ([6, 6, 0, 1, 2, 3, 4, 5, 6], [6])])
def culvertlaw11_LinkHears.B16 : List Nat := [0, 0, 0, 6, 14, 30, 63, 127]
theorem culvertlaw11_LinkHears.tab16 : rtab .any (opsOf Try.f3 16) = culvertlaw11_LinkHears.T16 := by kernel_rfl
theorem culvertlaw11_LinkHears.bits16 : waitsOk culvertlaw11_LinkHears.T16.2 culvertlaw11_LinkHears.B16 = true := by kernel_rfl
set_option maxHeartbeats 8000000 in
set_option maxRecDepth 100000 in
theorem culvertlaw11_LinkHears.calls (k : Nat) (a0_0 : Int) (a0_1 : Int) (a0_2 : Bool) (A1 : Option Addr) (c1 : Nat) (l1 : List (S28)) (r : Bool) (w : World) (hr1 : Kd.C k28 w A1 l1.length l1) (hc1 : l1.length ≤ c1) (h : culvertlaw11_LinkHears.f k a0_0 a0_1 a0_2 l1 = some r) :
    Calls Try.prog 3 #[.agg #[.int .u16 a0_0, .int .u16 a0_1, .bool a0_2], .slice A1 l1.length c1] w fun e w' => e = .returned (.bool r) ∧ Below w.heap.size w w' := by
  have hu24 := Try.underlying24
  have HR1 := Aside0.mk hr1
  have HC1 := Aside0.mk hc1
  clear hr1 hc1
  have HB := Aside0.mk (Below.refl w.heap.size w)
  have H : (if (l1.length : Int) > 300 then ((culvertlaw11_live.f).bind fun t181 => (some t181)) else (culvertlaw11_LinkHears.l0 k l1 0 a0_0 a0_1 a0_2 a0_0 a0_1 a0_2)) = some r := h
  clear h
  by_cases c3 : (l1.length : Int) > 300
  · rw [if_pos c3] at H
    have c3b0 : decide (300 < (l1.length : Int)) = true := decide_eq_true c3
    have c3b1 : decide (300 < l1.length) = true := decide_eq_true (by omega)
    clear c3
    replace H := Option.bind_eq_some_iff.mp H
    obtain ⟨t181, A40, H⟩ := H
    replace H : (some t181) = some r := H
    have A4 := Aside0.mk A40
    clear A40
    obtain rfl := Option.some.inj H
    go_enter Try.func3, Try.ntmps3
    go_wp2_with (first | ((with_reducible refine gate_dst (N := 2) rfl ?_); refine box_event ?hg (N := 2) ?hd (cs := #[.int .u16 a0_0, .int .u16 a0_1, .bool a0_2]) (t := 24) ?hr ?_; (case hd => rfl); (case hg => rfl); (case hr => first | (go_simp; done) | (go_simp; rfl)); intro gb180 hg w5 hbox hb; have n0_ := Aside0.mk (below_step (by repeat (first | (with_reducible first | exact HB.out | apply below_alloc | apply pw_below_drewN | apply below_drew1) | exact HB.out)) hb); have n1_ := Aside0.mk (hbox); have n2_ := Aside0.mk ((by rw [hg]; exact (below_size (by repeat (first | (with_reducible first | exact HB.out | apply below_alloc | apply pw_below_drewN | apply below_drew1) | exact HB.out))) : w.heap.size ≤ gb180)); have n3_ := Aside0.mk ((by rw [hg]; exact (below_size (by repeat (first | (with_reducible first | exact HB.out | apply below_alloc | apply pw_below_drewN | apply below_drew1) | exact HB.out))) : w.heap.size ≤ gb180)); clear HB; have HB := n0_; have BK180 := n1_; have GW180 := n2_; have GE180 := n3_; clear n0_ n1_ n2_ n3_; clear hb hbox hg) | ((with_reducible refine gate_callee (f := 8) rfl ?_); refine goesL_ (some 11) rfl rfl Try.func8 (by kernel_rfl) rfl #[] rfl (by (try simp only [List.map_toArray, List.map_cons, List.map_nil]); first | done | rfl | (simp only [List.length_drop, List.length_take]; rfl)) ?_; (with_reducible refine (culvertlaw11_live.calls  t181 _ A4.out).mono ?_); rintro e w6 ⟨rfl, hb⟩; refine ⟨_, rfl, ?_⟩; have n0_ := Aside0.mk (blk_below (g := gb180) (o := .cells #[.int .u16 a0_0, .int .u16 a0_1, .bool a0_2] 24 (0, 0)) (by (with_reducible repeat (first | refine blk_drewN ?_ _ | refine blk_drew ?_ | refine blk_alloc ?_ _)); exact BK180.out) hb); have n1_ := Aside0.mk (below_step (by repeat (first | (with_reducible first | exact HB.out | apply below_alloc | apply pw_below_drewN | apply below_drew1 | refine below_set ?_ GE180.out) | exact HB.out)) hb); clear BK180; clear HB; have BK180 := n0_; have HB := n1_; clear n0_ n1_; (try clear hb); (try clear hb2); (try clear hk); (try clear hi)))
    go_ret
    exact ⟨by first | rfl | (simp [errW_none, errW_some] <;> rfl) | (simp [*, errW_none, errW_some] <;> rfl), by repeat (first | (with_reducible first | exact HB.out | apply below_alloc | apply pw_below_drewN | apply below_drew1 | refine below_set ?_ GE180.out) | exact HB.out)⟩
  · rw [if_neg c3] at H
    have c3b0 : decide (300 < (l1.length : Int)) = false := decide_eq_false c3
    have c3b1 : decide (300 < l1.length) = false := decide_eq_false (by omega)
    clear c3
    have H' := Aside0.mk H
    clear H
    go_enter Try.func3, Try.ntmps3
    go_wp2_with (first | ((with_reducible refine gate_dst (N := 2) rfl ?_); refine box_event ?hg (N := 2) ?hd (cs := #[.int .u16 a0_0, .int .u16 a0_1, .bool a0_2]) (t := 24) ?hr ?_; (case hd => rfl); (case hg => rfl); (case hr => first | (go_simp; done) | (go_simp; rfl)); intro gb180 hg w7 hbox hb; have n0_ := Aside0.mk (below_step (by repeat (first | (with_reducible first | exact HB.out | apply below_alloc | apply pw_below_drewN | apply below_drew1) | exact HB.out)) hb); have n1_ := Aside0.mk (hbox); have n2_ := Aside0.mk ((by rw [hg]; exact (below_size (by repeat (first | (with_reducible first | exact HB.out | apply below_alloc | apply pw_below_drewN | apply below_drew1) | exact HB.out))) : w.heap.size ≤ gb180)); have n3_ := Aside0.mk ((by rw [hg]; exact (below_size (by repeat (first | (with_reducible first | exact HB.out | apply below_alloc | apply pw_below_drewN | apply below_drew1) | exact HB.out))) : w.heap.size ≤ gb180)); clear HB; have HB := n0_; have BK180 := n1_; have GW180 := n2_; have GE180 := n3_; clear n0_ n1_ n2_ n3_; clear hb hbox hg; have hcz8_0 : w7.cell? ⟨gb180, 0, none⟩ = some (.int .u16 a0_0) := (blk_cell BK180.out 0).trans rfl; have hcz8_1 : w7.cell? ⟨gb180, 1, none⟩ = some (.int .u16 a0_1) := (blk_cell BK180.out 1).trans rfl; have hcz8_2 : w7.cell? ⟨gb180, 2, none⟩ = some (.bool a0_2) := (blk_cell BK180.out 2).trans rfl; have hfz8_0 := blk_frozen BK180.out 0; have hfz8_1 := blk_frozen BK180.out 1; have hfz8_2 := blk_frozen BK180.out 2) | ((with_reducible refine gate_dst (N := 5) rfl ?_); refine box_event ?hg (N := 5) ?hd (cs := #[.int .u16 0, .int .u16 0, .bool false]) (t := 24) ?hr ?_; (case hd => rfl); (case hg => rfl); (case hr => first | (go_simp; done) | (go_simp; rfl)); intro gb182 hg w9 hbox hb; have n0_ := Aside0.mk (blk_below (g := gb180) (o := .cells #[.int .u16 a0_0, .int .u16 a0_1, .bool a0_2] 24 (0, 0)) (by (with_reducible repeat (first | refine blk_drewN ?_ _ | refine blk_drew ?_ | refine blk_alloc ?_ _)); exact BK180.out) hb); have n1_ := Aside0.mk (below_step (by repeat (first | (with_reducible first | exact HB.out | apply below_alloc | apply pw_below_drewN | apply below_drew1 | refine below_set ?_ GE180.out) | exact HB.out)) hb); have n2_ := Aside0.mk (hbox); have n3_ := Aside0.mk ((by rw [hg]; exact (below_size (by repeat (first | (with_reducible first | exact HB.out | apply below_alloc | apply pw_below_drewN | apply below_drew1 | refine below_set ?_ GE180.out) | exact HB.out))) : w.heap.size ≤ gb182)); have n4_ := Aside0.mk ((by rw [hg]; exact (below_size (by repeat (first | (with_reducible first | exact HB.out | apply below_alloc | apply pw_below_drewN | apply below_drew1 | refine below_set ?_ GE180.out) | exact HB.out))) : w.heap.size ≤ gb182)); have n5_ := Aside0.mk ((by rw [hg]; exact Nat.ne_of_lt (blk_lt (g := gb180) (o := .cells #[.int .u16 a0_0, .int .u16 a0_1, .bool a0_2] 24 (0, 0)) (by (with_reducible repeat (first | refine blk_drewN ?_ _ | refine blk_drew ?_ | refine blk_alloc ?_ _)); exact BK180.out)) : gb180 ≠ gb182)); have n6_ := Aside0.mk ((by rw [hg]; exact Nat.ne_of_gt (blk_lt (g := gb180) (o := .cells #[.int .u16 a0_0, .int .u16 a0_1, .bool a0_2] 24 (0, 0)) (by (with_reducible repeat (first | refine blk_drewN ?_ _ | refine blk_drew ?_ | refine blk_alloc ?_ _)); exact BK180.out)) : gb182 ≠ gb180)); clear BK180; clear HB; have BK180 := n0_; have HB := n1_; have BK182 := n2_; have GW182 := n3_; have GE182 := n4_; have NB180_182 := n5_; have NB182_180 := n6_; clear n0_ n1_ n2_ n3_ n4_ n5_ n6_; clear hb hbox hg; have hnb10 := NB182_180.out; have hnc10 := NB180_182.out; have hcz11_0 : w9.cell? ⟨gb182, 0, none⟩ = some (.int .u16 0) := (blk_cell BK182.out 0).trans rfl; have hcz11_1 : w9.cell? ⟨gb182, 1, none⟩ = some (.int .u16 0) := (blk_cell BK182.out 1).trans rfl; have hcz11_2 : w9.cell? ⟨gb182, 2, none⟩ = some (.bool false) := (blk_cell BK182.out 2).trans rfl; have hfz11_0 := blk_frozen BK182.out 0; have hfz11_1 := blk_frozen BK182.out 1; have hfz11_2 := blk_frozen BK182.out 2))
    go_loopg [6] k (fun kq v6 w' => ∃ (x6_1 : Int) (x181000_1 : Int) (x181001_1 : Int) (x181002_1 : Bool) (x183000_1 : Int) (x183001_1 : Int) (x183002_1 : Bool), v6 = .int .i64 x6_1 ∧ Aside0 (culvertlaw11_LinkHears.l0 kq l1 x6_1 x181000_1 x181001_1 x181002_1 x183000_1 x183001_1 x183002_1 = some r) ∧ Aside0 (kq ≤ k) ∧ Aside0 (w'.heap[gb180]? = some (.cells #[.int .u16 x181000_1, .int .u16 x181001_1, .bool x181002_1] 24 (0, 0))) ∧ Aside0 (w'.heap[gb182]? = some (.cells #[.int .u16 x183000_1, .int .u16 x183001_1, .bool x183002_1] 24 (0, 0))) ∧ Aside0 (Below w.heap.size w w'))
    case atStart => exact ⟨(0), (a0_0), (a0_1), (a0_2), (a0_0), (a0_1), (a0_2), (by first | rfl | (simp; done) | (simp [*]; done)), H', ⟨Nat.le_refl _⟩, ⟨by (with_reducible repeat (first | refine blk_drewN ?_ _ | refine blk_drew ?_ | refine blk_alloc ?_ _)); refine blk_far ?_ NB180_182.out _; (with_reducible repeat (first | refine blk_drewN ?_ _ | refine blk_drew ?_ | refine blk_alloc ?_ _)); refine blk_far ?_ NB180_182.out _; (with_reducible repeat (first | refine blk_drewN ?_ _ | refine blk_drew ?_ | refine blk_alloc ?_ _)); refine blk_far ?_ NB180_182.out _; (with_reducible repeat (first | refine blk_drewN ?_ _ | refine blk_drew ?_ | refine blk_alloc ?_ _)); exact BK180.out⟩, ⟨by (with_reducible repeat (first | refine blk_drewN ?_ _ | refine blk_drew ?_ | refine blk_alloc ?_ _)); refine blk_put (cs := #[.int .u16 a0_0, .int .u16 a0_1, .bool false]) ?_ 2 _ rfl; (with_reducible repeat (first | refine blk_drewN ?_ _ | refine blk_drew ?_ | refine blk_alloc ?_ _)); refine blk_put (cs := #[.int .u16 a0_0, .int .u16 0, .bool false]) ?_ 1 _ rfl; (with_reducible repeat (first | refine blk_drewN ?_ _ | refine blk_drew ?_ | refine blk_alloc ?_ _)); refine blk_put (cs := #[.int .u16 0, .int .u16 0, .bool false]) ?_ 0 _ rfl; (with_reducible repeat (first | refine blk_drewN ?_ _ | refine blk_drew ?_ | refine blk_alloc ?_ _)); exact BK182.out⟩, ⟨by repeat (first | (with_reducible first | exact HB.out | apply below_alloc | apply pw_below_drewN | apply below_drew1 | refine below_set ?_ GE180.out | refine below_set ?_ GE182.out) | exact HB.out)⟩⟩
    case round =>
      clear H'
      try clear c1
      try clear p2
      try clear c3
      try clear c3b0
      try clear c3b1
      try clear c8
      try clear c10
      try clear hcz11_0
      try clear hcz11_1
      try clear hcz11_2
      try clear hcz8_0
      try clear hcz8_1
      try clear hcz8_2
      try clear hfz11_0
      try clear hfz11_1
      try clear hfz11_2
      try clear hfz8_0
      try clear hfz8_1
      try clear hfz8_2
      obtain ⟨x6_1, x181000_1, x181001_1, x181002_1, x183000_1, x183001_1, x183002_1, rfl, HA, HK1, BK180, BK182, HB⟩ := hrel
      cases gk with
      | zero => exact absurd HA.out (by simp [culvertlaw11_LinkHears.l0])
      | succ k1 =>
        have H := HA.out
        clear HA
        simp only [culvertlaw11_LinkHears.l0] at H
        by_cases c12 : x6_1 < (l1.length : Int)
        · rw [if_pos c12] at H
          have c12b0 : decide (x6_1 < (l1.length : Int)) = true := decide_eq_true c12
          clear c12
          by_cases c13 : 0 ≤ x6_1
          · rw [if_pos c13] at H
            have c13b0 : decide (0 ≤ x6_1) = true := decide_eq_true c13
            clear c13
            obtain ⟨bq14, hbq14⟩ : ∃ b_ : Bool, b_ = ((rd_T28 l1 x6_1).f0) := ⟨_, rfl⟩
            replace H : (if bq14 = true then (if ((rd_T28 l1 x6_1).f1) > 300 then ((culvertlaw11_live.f).bind fun t186 => (some t186)) else ((link_Miss.f x181000_1 x181001_1 x181002_1 ((rd_T28 l1 x6_1).f1)).bind fun bt188 => (culvertlaw11_LinkHears.l1 k1 l1 x6_1 0 bt188.1 bt188.2.1 bt188.2.2 x183000_1 x183001_1 x183002_1))) else ((link_Hear.f k1 x181000_1 x181001_1 x181002_1 ((rd_T28 l1 x6_1).f2)).bind fun bt196 => ((culvertref11_Hear.f k1 x183000_1 x183001_1 x183002_1 ((rd_T28 l1 x6_1).f2)).bind fun bt200 => (if (!(bt196.1 == bt200.1) || (!(bt196.2.1 == bt200.2.1) || (!(bt196.2.2 == bt200.2.2)))) = true then (some false) else (culvertlaw11_LinkHears.l0 k1 l1 (wrap64 (x6_1 + 1)) bt196.1 bt196.2.1 bt196.2.2 bt200.1 bt200.2.1 bt200.2.2))))) = some r := by rw [← hbq14] at H; exact H
            have Nbq14 := Aside0.mk hbq14
            clear hbq14
            by_cases c15 : bq14 = true
            · subst c15
              have H1 : (if ((rd_T28 l1 x6_1).f1) > 300 then ((culvertlaw11_live.f).bind fun t186 => (some t186)) else ((link_Miss.f x181000_1 x181001_1 x181002_1 ((rd_T28 l1 x6_1).f1)).bind fun bt188 => (culvertlaw11_LinkHears.l1 k1 l1 x6_1 0 bt188.1 bt188.2.1 bt188.2.2 x183000_1 x183001_1 x183002_1))) = some r := by rw [if_pos rfl] at H; exact H
              clear H
              have H := H1
              clear H1
              by_cases c16 : ((rd_T28 l1 x6_1).f1) > 300
              · rw [if_pos c16] at H
                have c16b0 : decide (300 < ((rd_T28 l1 x6_1).f1)) = true := decide_eq_true c16
                clear c16
                replace H := Option.bind_eq_some_iff.mp H
                obtain ⟨t186, A170, H⟩ := H
                replace H : (some t186) = some r := H
                have A17 := Aside0.mk A170
                clear A170
                obtain rfl := Option.some.inj H
                have p184 : 0 ≤ (x6_1 : Int) := of_decide_eq_true (by first | (with_reducible assumption) | assumption)
                have q184 : x6_1 < (l1.length : Int) := of_decide_eq_true (by first | (with_reducible assumption) | assumption)
                obtain ⟨ad184, e184, hx184_0, hx184_1, hx184_2⟩ := at_T28 HR1.out x6_1 p184 q184
                (try rw [← Nbq14.out] at hx184_0); (try rw [← Nbq14.out] at hw184_0)
                cases e184
                replace hx184_0 := (HB.out.cell (World.block_lt_of_cell? w _ hx184_0)).trans hx184_0
                replace hx184_1 := (HB.out.cell (World.block_lt_of_cell? w _ hx184_1)).trans hx184_1
                replace hx184_2 := (HB.out.cell (World.block_lt_of_cell? w _ hx184_2)).trans hx184_2
                replace p184 := eq_true p184
                replace q184 := eq_true q184
                have p185 : 0 ≤ (x6_1 : Int) := of_decide_eq_true (by first | (with_reducible assumption) | assumption)
                have q185 : x6_1 < (l1.length : Int) := of_decide_eq_true (by first | (with_reducible assumption) | assumption)
                obtain ⟨ad185, e185, hx185_0, hx185_1, hx185_2⟩ := at_T28 HR1.out x6_1 p185 q185
                (try rw [← Nbq14.out] at hx185_0); (try rw [← Nbq14.out] at hw185_0)
                obtain rfl : ad184 = ad185 := (by injection e185)
                replace hx185_0 := (HB.out.cell (World.block_lt_of_cell? w _ hx185_0)).trans hx185_0
                replace hx185_1 := (HB.out.cell (World.block_lt_of_cell? w _ hx185_1)).trans hx185_1
                replace hx185_2 := (HB.out.cell (World.block_lt_of_cell? w _ hx185_2)).trans hx185_2
                replace p185 := eq_true p185
                replace q185 := eq_true q185
                go_wp2_with (first | ((with_reducible refine gate_callee (f := 8) rfl ?_); refine goesL_ (some 30) rfl rfl Try.func8 (by kernel_rfl) rfl #[] rfl (by (try simp only [List.map_toArray, List.map_cons, List.map_nil]); first | done | rfl | (simp only [List.length_drop, List.length_take]; rfl)) ?_; (with_reducible refine (culvertlaw11_live.calls  t186 _ A17.out).mono ?_); rintro e w18 ⟨rfl, hb⟩; refine ⟨_, rfl, ?_⟩; have n0_ := Aside0.mk (blk_below (g := gb180) (o := .cells #[.int .u16 x181000_1, .int .u16 x181001_1, .bool x181002_1] 24 (0, 0)) (by (with_reducible repeat (first | refine blk_drewN ?_ _ | refine blk_drew ?_ | refine blk_alloc ?_ _)); exact BK180.out) hb); have n1_ := Aside0.mk (blk_below (g := gb182) (o := .cells #[.int .u16 x183000_1, .int .u16 x183001_1, .bool x183002_1] 24 (0, 0)) (by (with_reducible repeat (first | refine blk_drewN ?_ _ | refine blk_drew ?_ | refine blk_alloc ?_ _)); exact BK182.out) hb); have n2_ := Aside0.mk (below_step (by repeat (first | (with_reducible first | exact HB.out | apply below_alloc | apply pw_below_drewN | apply below_drew1 | refine below_set ?_ GE180.out | refine below_set ?_ GE182.out) | exact HB.out)) hb); clear BK180; clear BK182; clear HB; have BK180 := n0_; have BK182 := n1_; have HB := n2_; clear n0_ n1_ n2_; (try clear hb); (try clear hb2); (try clear hk); (try clear hi)))
                go_ret
                exact ⟨by first | rfl | (simp [errW_none, errW_some] <;> rfl) | (simp [*, errW_none, errW_some] <;> rfl), by repeat (first | (with_reducible first | exact HB.out | apply below_alloc | apply pw_below_drewN | apply below_drew1 | refine below_set ?_ GE180.out | refine below_set ?_ GE182.out) | exact HB.out)⟩
              · rw [if_neg c16] at H
                have c16b0 : decide (300 < ((rd_T28 l1 x6_1).f1)) = false := decide_eq_false c16
                clear c16
                replace H := Option.bind_eq_some_iff.mp H
                obtain ⟨⟨t188, t189, t190⟩, A190, H⟩ := H
                replace H : (culvertlaw11_LinkHears.l1 k1 l1 x6_1 0 t188 t189 t190 x183000_1 x183001_1 x183002_1) = some r := H
                have A19 := Aside0.mk A190
                clear A190
                have H' := Aside0.mk H
                clear H
                have p184 : 0 ≤ (x6_1 : Int) := of_decide_eq_true (by first | (with_reducible assumption) | assumption)
                have q184 : x6_1 < (l1.length : Int) := of_decide_eq_true (by first | (with_reducible assumption) | assumption)
                obtain ⟨ad184, e184, hx184_0, hx184_1, hx184_2⟩ := at_T28 HR1.out x6_1 p184 q184
                (try rw [← Nbq14.out] at hx184_0); (try rw [← Nbq14.out] at hw184_0)
                cases e184
                replace hx184_0 := (HB.out.cell (World.block_lt_of_cell? w _ hx184_0)).trans hx184_0
                replace hx184_1 := (HB.out.cell (World.block_lt_of_cell? w _ hx184_1)).trans hx184_1
                replace hx184_2 := (HB.out.cell (World.block_lt_of_cell? w _ hx184_2)).trans hx184_2
                replace p184 := eq_true p184
                replace q184 := eq_true q184
                have p185 : 0 ≤ (x6_1 : Int) := of_decide_eq_true (by first | (with_reducible assumption) | assumption)
                have q185 : x6_1 < (l1.length : Int) := of_decide_eq_true (by first | (with_reducible assumption) | assumption)
                obtain ⟨ad185, e185, hx185_0, hx185_1, hx185_2⟩ := at_T28 HR1.out x6_1 p185 q185
                (try rw [← Nbq14.out] at hx185_0); (try rw [← Nbq14.out] at hw185_0)
                obtain rfl : ad184 = ad185 := (by injection e185)
                replace hx185_0 := (HB.out.cell (World.block_lt_of_cell? w _ hx185_0)).trans hx185_0
                replace hx185_1 := (HB.out.cell (World.block_lt_of_cell? w _ hx185_1)).trans hx185_1
                replace hx185_2 := (HB.out.cell (World.block_lt_of_cell? w _ hx185_2)).trans hx185_2
                replace p185 := eq_true p185
                replace q185 := eq_true q185
                try go_wp2
                have n0_ := Aside0.mk (blk_drew BK180.out)
                have n1_ := Aside0.mk (blk_drew BK182.out)
                have n2_ := Aside0.mk (below_drew1 HB.out)
                clear BK180
                clear BK182
                clear HB
                have BK180 := n0_
                have BK182 := n1_
                have HB := n2_
                clear n0_ n1_ n2_
                have p187 : 0 ≤ (x6_1 : Int) := of_decide_eq_true (by first | (with_reducible assumption) | assumption)
                have q187 : x6_1 < (l1.length : Int) := of_decide_eq_true (by first | (with_reducible assumption) | assumption)
                obtain ⟨ad187, e187, hx187_0, hx187_1, hx187_2⟩ := at_T28 HR1.out x6_1 p187 q187
                have hw187_2 := hx187_2
                have hw187_1 := hx187_1
                have hw187_0 := hx187_0
                (try rw [← Nbq14.out] at hx187_0); (try rw [← Nbq14.out] at hw187_0)
                obtain rfl : ad184 = ad187 := (by injection e187)
                replace hx187_0 := (HB.out.cell (World.block_lt_of_cell? w _ hx187_0)).trans hx187_0
                replace hx187_1 := (HB.out.cell (World.block_lt_of_cell? w _ hx187_1)).trans hx187_1
                replace hx187_2 := (HB.out.cell (World.block_lt_of_cell? w _ hx187_2)).trans hx187_2
                replace p187 := eq_true p187
                replace q187 := eq_true q187
                refine start_ (n := 8) (S := fun w' => w'.cell? ⟨gb180, 0, none⟩ = some (.int .u16 x181000_1) ∧ w'.cell? ⟨gb180, 1, none⟩ = some (.int .u16 x181001_1) ∧ w'.cell? ⟨gb180, 2, none⟩ = some (.bool x181002_1) ∧ w'.cell? (ad184.add ((x6_1).toNat * 3)) = some (.bool (true)) ∧ w'.cell? ⟨(ad184.add ((x6_1).toNat * 3)).block, (ad184.add ((x6_1).toNat * 3)).off + 1, none⟩ = some (.int .i64 ((rd_T28 l1 x6_1).f1)) ∧ w'.cell? ⟨(ad184.add ((x6_1).toNat * 3)).block, (ad184.add ((x6_1).toNat * 3)).off + 2, none⟩ = some (.int .u16 ((rd_T28 l1 x6_1).f2))) (ds := [7]) #[false, false, false, false, false, false, false, false] (by kernel_rfl) rfl rfl ⟨(blk_cell BK180.out 0).trans rfl, (blk_cell BK180.out 1).trans rfl, (blk_cell BK180.out 2).trans rfl, ((HB.out.cell (World.block_lt_of_cell? w _ hw187_0)).trans hw187_0), ((HB.out.cell (World.block_lt_of_cell? w _ hw187_1)).trans hw187_1), ((HB.out.cell (World.block_lt_of_cell? w _ hw187_2)).trans hw187_2)⟩ (fun hHeld => ?_); refine with_tabW culvertlaw11_LinkHears.tab10 culvertlaw11_LinkHears.bits10 (fun HT_ HW_ => ?_)
                generalize wr.drew = w20 at BK180 BK182 HB hx187_0 hx187_1 hx187_2 hHeld ⊢
                refine pure_ (i := 1) (N := some 32) (v := ?_) (a' := ?_) #[false, true, false, false, false, false, false, false] rfl rfl (any_of HT_.out (by kernel_rfl)) (fun _ _ _ h => h) (Or.inl ⟨by rfl, ?_⟩) ?_ ?_
                rotate_left
                · intro w'
                  go_simp
                  with_reducible rfl
                rotate_left
                · simp only [Act.put, List.setIfInBounds_toArray, List.set_cons_zero, List.set_cons_succ, i64_w, i32_w]
                  rfl
                refine pure_ (i := 2) (N := some 33) (v := ?_) (a' := ?_) #[false, true, true, false, false, false, false, false] rfl rfl (any_of HT_.out (by kernel_rfl)) (fun _ _ _ h => h) (Or.inl ⟨by rfl, ?_⟩) ?_ ?_
                rotate_left
                · intro w'
                  go_simp
                  with_reducible rfl
                rotate_left
                · simp only [Act.put, List.setIfInBounds_toArray, List.set_cons_zero, List.set_cons_succ, i64_w, i32_w]
                  rfl
                refine pure_ (i := 3) (N := some 34) (v := ?_) (a' := ?_) #[false, true, true, true, false, false, false, false] rfl rfl (any_of HT_.out (by kernel_rfl)) (fun _ _ _ h => h) (Or.inl ⟨by rfl, ?_⟩) ?_ ?_
                rotate_left
                · intro w'
                  go_simp
                  with_reducible rfl
                rotate_left
                · simp only [Act.put, List.setIfInBounds_toArray, List.set_cons_zero, List.set_cons_succ, i64_w, i32_w]
                  rfl
                refine pure_ (i := 4) (N := some 35) (v := ?_) (a' := ?_) #[false, true, true, true, true, false, false, false] rfl rfl (any_of HT_.out (by kernel_rfl)) (fun _ _ _ h => h) (Or.inl ⟨by rfl, ?_⟩) ?_ ?_
                rotate_left
                · intro w'
                  go_simp
                  with_reducible rfl
                rotate_left
                · simp only [Act.put, List.setIfInBounds_toArray, List.set_cons_zero, List.set_cons_succ, i64_w, i32_w]
                  rfl
                refine take_ (i := 0) (N := some 31) (v := ?_) (a' := ?_) #[true, true, true, true, true, false, false, false] rfl rfl (take_ofW HT_.out HW_.out (by kernel_rfl)) (fun _ _ _ h => h) (Or.inl ⟨by rfl, ?_⟩) hHeld ?_ ?_
                rotate_left
                · rintro w' ⟨s0, s1, s2, s3, s4, s5⟩
                  go_simp
                  with_reducible rfl
                rotate_left
                · simp only [Act.put, List.setIfInBounds_toArray, List.set_cons_zero, List.set_cons_succ, i64_w, i32_w]
                  rfl
                refine take_ (i := 5) (N := some 36) (v := ?_) (a' := ?_) #[true, true, true, true, true, true, false, false] rfl rfl (take_ofW HT_.out HW_.out (by kernel_rfl)) (fun _ _ _ h => h) (Or.inl ⟨by rfl, ?_⟩) hHeld ?_ ?_
                rotate_left
                · rintro w' ⟨s0, s1, s2, s3, s4, s5⟩
                  go_simp
                  with_reducible rfl
                rotate_left
                · simp only [Act.put, List.setIfInBounds_toArray, List.set_cons_zero, List.set_cons_succ, i64_w, i32_w]
                  rfl
                refine one_ (i := 6) (N := some 37) #[true, true, true, true, true, true, true, false] rfl rfl (one_of HT_.out (by kernel_rfl)) (by decide) (fun K hK => ?_)
                refine goes_ Try.func9 (by kernel_rfl) rfl #[.agg #[.int .u16 x181000_1, .int .u16 x181001_1, .bool x181002_1], .int .i64 ((rd_T28 l1 x6_1).f1)] (by rfl) rfl rfl (by (try simp only [List.map_toArray, List.map_cons, List.map_nil]); first | done | rfl | (simp only [List.length_drop, List.length_take]; rfl)) ?_
                with_reducible refine (link_Miss.calls x181000_1 x181001_1 x181002_1 ((rd_T28 l1 x6_1).f1) t188 t189 t190 _ A19.out).mono ?_
                rintro e w21 ⟨rfl, hb⟩
                refine ⟨_, rfl, ?_⟩
                have n0_ := Aside0.mk (blk_below (g := gb180) (o := .cells #[.int .u16 x181000_1, .int .u16 x181001_1, .bool x181002_1] 24 (0, 0)) (by (with_reducible repeat (first | refine blk_drewN ?_ _ | refine blk_drew ?_ | refine blk_alloc ?_ _)); exact BK180.out) hb)
                have n1_ := Aside0.mk (blk_below (g := gb182) (o := .cells #[.int .u16 x183000_1, .int .u16 x183001_1, .bool x183002_1] 24 (0, 0)) (by (with_reducible repeat (first | refine blk_drewN ?_ _ | refine blk_drew ?_ | refine blk_alloc ?_ _)); exact BK182.out) hb)
                have n2_ := Aside0.mk (below_step (by repeat (first | (with_reducible first | exact HB.out | apply below_alloc | apply pw_below_drewN | apply below_drew1 | refine below_set ?_ GE180.out | refine below_set ?_ GE182.out) | exact HB.out)) hb)
                clear BK180
                clear BK182
                clear HB
                have BK180 := n0_
                have BK182 := n1_
                have HB := n2_
                clear n0_ n1_ n2_
                (try clear hb)
                (try clear hb2)
                (try clear hk)
                (try clear hi)
                refine hK.out _ _ ⟨(blk_cell BK180.out 0).trans rfl, (blk_cell BK180.out 1).trans rfl, (blk_cell BK180.out 2).trans rfl, ((HB.out.cell (World.block_lt_of_cell? w _ hw187_0)).trans hw187_0), ((HB.out.cell (World.block_lt_of_cell? w _ hw187_1)).trans hw187_1), ((HB.out.cell (World.block_lt_of_cell? w _ hw187_2)).trans hw187_2)⟩ (fun hHeld => ?_)
                clear hK K
                refine norm_ (a' := ?_) ?_ ?_
                rotate_left
                · show Act.put _ (some 37) _ = _
                  simp only [Act.put, List.setIfInBounds_toArray, List.set_cons_zero, List.set_cons_succ, i64_w, i32_w]
                  rfl
                refine last_ (i := 7) (N := none) #[true, true, true, true, true, true, true, true] rfl rfl (one_of HT_.out (by kernel_rfl)) (by decide) (fun K hK => ?_)
                have hs22 : w21.cell? ⟨gb180, 0, none⟩ = some (.int .u16 x181000_1) := (blk_cell BK180.out 0).trans rfl
                have hfs22 := blk_frozen BK180.out 0
                have hns22_1 := NB182_180.out
                have hms22_1 := NB180_182.out
                have hs23 : w21.cell? ⟨gb180, 1, none⟩ = some (.int .u16 x181001_1) := (blk_cell BK180.out 1).trans rfl
                have hfs23 := blk_frozen BK180.out 1
                have hns23_1 := NB182_180.out
                have hms23_1 := NB180_182.out
                have hs24 : w21.cell? ⟨gb180, 2, none⟩ = some (.bool x181002_1) := (blk_cell BK180.out 2).trans rfl
                have hfs24 := blk_frozen BK180.out 2
                have hns24_1 := NB182_180.out
                have hms24_1 := NB180_182.out
                refine skip_ (w1 := ?_) (by rfl) rfl ?_ ?_
                rotate_left
                · go_simp
                  rfl
                refine hK.out _ _ ?_
                clear hK K
                refine done_ (done_of HT_.out (by kernel_rfl)) ?_
                try go_wp2
                go_loopg [7] k1 (fun kq v7 w' => ∃ (x7_2 : Int) (x183000_2 : Int) (x183001_2 : Int) (x183002_2 : Bool), v7 = .int .i64 x7_2 ∧ Aside0 (culvertlaw11_LinkHears.l1 kq l1 x6_1 x7_2 t188 t189 t190 x183000_2 x183001_2 x183002_2 = some r) ∧ Aside0 (kq ≤ k1) ∧ Aside0 (w'.heap[gb180]? = some (.cells #[.int .u16 t188, .int .u16 t189, .bool t190] 24 (0, 0))) ∧ Aside0 (w'.heap[gb182]? = some (.cells #[.int .u16 x183000_2, .int .u16 x183001_2, .bool x183002_2] 24 (0, 0))) ∧ Aside0 (Below w.heap.size w w'))
                case atStart => exact ⟨(0), (x183000_1), (x183001_1), (x183002_1), (by first | rfl | (simp; done) | (simp [*]; done)), H', ⟨Nat.le_refl _⟩, ⟨by (with_reducible repeat (first | refine blk_drewN ?_ _ | refine blk_drew ?_ | refine blk_alloc ?_ _)); refine blk_put (cs := #[.int .u16 t188, .int .u16 t189, .bool x181002_1]) ?_ 2 _ rfl; (with_reducible repeat (first | refine blk_drewN ?_ _ | refine blk_drew ?_ | refine blk_alloc ?_ _)); refine blk_put (cs := #[.int .u16 t188, .int .u16 x181001_1, .bool x181002_1]) ?_ 1 _ rfl; (with_reducible repeat (first | refine blk_drewN ?_ _ | refine blk_drew ?_ | refine blk_alloc ?_ _)); refine blk_put (cs := #[.int .u16 x181000_1, .int .u16 x181001_1, .bool x181002_1]) ?_ 0 _ rfl; (with_reducible repeat (first | refine blk_drewN ?_ _ | refine blk_drew ?_ | refine blk_alloc ?_ _)); exact BK180.out⟩, ⟨by (with_reducible repeat (first | refine blk_drewN ?_ _ | refine blk_drew ?_ | refine blk_alloc ?_ _)); refine blk_far ?_ NB182_180.out _; (with_reducible repeat (first | refine blk_drewN ?_ _ | refine blk_drew ?_ | refine blk_alloc ?_ _)); refine blk_far ?_ NB182_180.out _; (with_reducible repeat (first | refine blk_drewN ?_ _ | refine blk_drew ?_ | refine blk_alloc ?_ _)); refine blk_far ?_ NB182_180.out _; (with_reducible repeat (first | refine blk_drewN ?_ _ | refine blk_drew ?_ | refine blk_alloc ?_ _)); exact BK182.out⟩, ⟨by repeat (first | (with_reducible first | exact HB.out | apply below_alloc | apply pw_below_drewN | apply below_drew1 | refine below_set ?_ GE180.out | refine below_set ?_ GE182.out) | exact HB.out)⟩⟩
                case round =>
                  clear H'
                  try clear c1
                  try clear p1
                  try clear q1
                  try clear hx1
                  try clear p2
                  try clear c3
                  try clear c3b0
                  try clear c3b1
                  try clear p6
                  try clear c8
                  try clear c9
                  try clear c10
                  try clear c12
                  try clear c12b0
                  try clear c13
                  try clear c13b0
                  try clear q14
                  try clear c15
                  try clear c16
                  try clear c16b0
                  try clear p18
                  try clear q18
                  try clear hx18
                  try clear hcz11_0
                  try clear hcz11_1
                  try clear hcz11_2
                  try clear hcz8_0
                  try clear hcz8_1
                  try clear hcz8_2
                  try clear hfz11_0
                  try clear hfz11_1
                  try clear hfz11_2
                  try clear hfz8_0
                  try clear hfz8_1
                  try clear hfz8_2
                  try clear hx184_0
                  try clear hx184_1
                  try clear hx184_2
                  try clear hx185_0
                  try clear hx185_1
                  try clear hx185_2
                  try clear hx187_0
                  try clear hx187_1
                  try clear hx187_2
                  try clear p184
                  try clear p185
                  try clear p187
                  try clear p2
                  try clear q184
                  try clear q185
                  try clear q187
                  obtain ⟨x7_2, x183000_2, x183001_2, x183002_2, rfl, HA, HK2, BK180, BK182, HB⟩ := hrel
                  cases gk with
                  | zero => exact absurd HA.out (by simp [culvertlaw11_LinkHears.l1])
                  | succ k2 =>
                    have H := HA.out
                    clear HA
                    simp only [culvertlaw11_LinkHears.l1] at H
                    by_cases c25 : 0 ≤ x6_1
                    · rw [if_pos c25] at H
                      have c25b0 : decide (0 ≤ x6_1) = true := decide_eq_true c25
                      clear c25
                      by_cases c26 : x6_1 < (l1.length : Int)
                      · rw [if_pos c26] at H
                        have c26b0 : decide (x6_1 < (l1.length : Int)) = true := decide_eq_true c26
                        clear c26
                        by_cases c27 : x7_2 < ((rd_T28 l1 x6_1).f1)
                        · rw [if_pos c27] at H
                          have c27b0 : decide (x7_2 < ((rd_T28 l1 x6_1).f1)) = true := decide_eq_true c27
                          clear c27
                          replace H := Option.bind_eq_some_iff.mp H
                          obtain ⟨⟨t192, t193, t194⟩, A280, H⟩ := H
                          replace H : (culvertlaw11_LinkHears.l1 k2 l1 x6_1 (wrap64 (x7_2 + 1)) t188 t189 t190 t192 t193 t194) = some r := H
                          have A28 := Aside0.mk A280
                          clear A280
                          have H' := Aside0.mk H
                          clear H
                          have p191 : 0 ≤ (x6_1 : Int) := of_decide_eq_true (by first | (with_reducible assumption) | assumption)
                          have q191 : x6_1 < (l1.length : Int) := of_decide_eq_true (by first | (with_reducible assumption) | assumption)
                          obtain ⟨ad191, e191, hx191_0, hx191_1, hx191_2⟩ := at_T28 HR1.out x6_1 p191 q191
                          (try rw [← Nbq14.out] at hx191_0); (try rw [← Nbq14.out] at hw191_0)
                          obtain rfl : ad184 = ad191 := (by injection e191)
                          replace hx191_0 := (HB.out.cell (World.block_lt_of_cell? w _ hx191_0)).trans hx191_0
                          replace hx191_1 := (HB.out.cell (World.block_lt_of_cell? w _ hx191_1)).trans hx191_1
                          replace hx191_2 := (HB.out.cell (World.block_lt_of_cell? w _ hx191_2)).trans hx191_2
                          replace p191 := eq_true p191
                          replace q191 := eq_true q191
                          have hnb29 := NB182_180.out
                          have hnc29 := NB180_182.out
                          have hcz30_0 : wr.cell? ⟨gb182, 0, none⟩ = some (.int .u16 x183000_2) := (blk_cell BK182.out 0).trans rfl
                          have hcz30_1 : wr.cell? ⟨gb182, 1, none⟩ = some (.int .u16 x183001_2) := (blk_cell BK182.out 1).trans rfl
                          have hcz30_2 : wr.cell? ⟨gb182, 2, none⟩ = some (.bool x183002_2) := (blk_cell BK182.out 2).trans rfl
                          have hfz30_0 := blk_frozen BK182.out 0
                          have hfz30_1 := blk_frozen BK182.out 1
                          have hfz30_2 := blk_frozen BK182.out 2
                          go_wp2_with (first | ((with_reducible refine gate_callee (f := 10) rfl ?_); refine goesL_ (some 48) rfl rfl Try.func10 (by kernel_rfl) rfl #[.agg #[.int .u16 x183000_2, .int .u16 x183001_2, .bool x183002_2]] rfl (by (try simp only [List.map_toArray, List.map_cons, List.map_nil]); first | done | rfl | (simp only [List.length_drop, List.length_take]; rfl)) ?_; (with_reducible refine (culvertref11_Miss.calls x183000_2 x183001_2 x183002_2 t192 t193 t194 _ A28.out).mono ?_); rintro e w31 ⟨rfl, hb⟩; refine ⟨_, rfl, ?_⟩; have n0_ := Aside0.mk (blk_below (g := gb180) (o := .cells #[.int .u16 t188, .int .u16 t189, .bool t190] 24 (0, 0)) (by (with_reducible repeat (first | refine blk_drewN ?_ _ | refine blk_drew ?_ | refine blk_alloc ?_ _)); exact BK180.out) hb); have n1_ := Aside0.mk (blk_below (g := gb182) (o := .cells #[.int .u16 x183000_2, .int .u16 x183001_2, .bool x183002_2] 24 (0, 0)) (by (with_reducible repeat (first | refine blk_drewN ?_ _ | refine blk_drew ?_ | refine blk_alloc ?_ _)); exact BK182.out) hb); have n2_ := Aside0.mk (below_step (by repeat (first | (with_reducible first | exact HB.out | apply below_alloc | apply pw_below_drewN | apply below_drew1 | refine below_set ?_ GE180.out | refine below_set ?_ GE182.out) | exact HB.out)) hb); clear BK180; clear BK182; clear HB; have BK180 := n0_; have BK182 := n1_; have HB := n2_; clear n0_ n1_ n2_; (try clear hb); (try clear hb2); (try clear hk); (try clear hi); have hcz32_0 : w31.cell? ⟨gb182, 0, none⟩ = some (.int .u16 x183000_2) := (blk_cell BK182.out 0).trans rfl; have hcz32_1 : w31.cell? ⟨gb182, 1, none⟩ = some (.int .u16 x183001_2) := (blk_cell BK182.out 1).trans rfl; have hcz32_2 : w31.cell? ⟨gb182, 2, none⟩ = some (.bool x183002_2) := (blk_cell BK182.out 2).trans rfl; have hfz32_0 := blk_frozen BK182.out 0; have hfz32_1 := blk_frozen BK182.out 1; have hfz32_2 := blk_frozen BK182.out 2))
                          go_roundg k2
                          case measure => have := HK1.out; have := HK2.out; omega
                          case rel => exact ⟨(wrap64 (x7_2 + 1)), (t192), (t193), (t194), (by first | rfl | (simp; done) | (simp [*]; done)), H', ⟨by have := HK1.out; have := HK2.out; omega⟩, ⟨by (with_reducible repeat (first | refine blk_drewN ?_ _ | refine blk_drew ?_ | refine blk_alloc ?_ _)); refine blk_far ?_ NB180_182.out _; (with_reducible repeat (first | refine blk_drewN ?_ _ | refine blk_drew ?_ | refine blk_alloc ?_ _)); refine blk_far ?_ NB180_182.out _; (with_reducible repeat (first | refine blk_drewN ?_ _ | refine blk_drew ?_ | refine blk_alloc ?_ _)); refine blk_far ?_ NB180_182.out _; (with_reducible repeat (first | refine blk_drewN ?_ _ | refine blk_drew ?_ | refine blk_alloc ?_ _)); exact BK180.out⟩, ⟨by (with_reducible repeat (first | refine blk_drewN ?_ _ | refine blk_drew ?_ | refine blk_alloc ?_ _)); refine blk_put (cs := #[.int .u16 t192, .int .u16 t193, .bool x183002_2]) ?_ 2 _ rfl; (with_reducible repeat (first | refine blk_drewN ?_ _ | refine blk_drew ?_ | refine blk_alloc ?_ _)); refine blk_put (cs := #[.int .u16 t192, .int .u16 x183001_2, .bool x183002_2]) ?_ 1 _ rfl; (with_reducible repeat (first | refine blk_drewN ?_ _ | refine blk_drew ?_ | refine blk_alloc ?_ _)); refine blk_put (cs := #[.int .u16 x183000_2, .int .u16 x183001_2, .bool x183002_2]) ?_ 0 _ rfl; (with_reducible repeat (first | refine blk_drewN ?_ _ | refine blk_drew ?_ | refine blk_alloc ?_ _)); exact BK182.out⟩, ⟨by repeat (first | (with_reducible first | exact HB.out | apply below_alloc | apply pw_below_drewN | apply below_drew1 | refine below_set ?_ GE180.out | refine below_set ?_ GE182.out) | exact HB.out)⟩⟩
                        · rw [if_neg c27] at H
                          have c27b0 : decide (x7_2 < ((rd_T28 l1 x6_1).f1)) = false := decide_eq_false c27
                          clear c27
                          by_cases c33 : (!(t188 == x183000_2) || (!(t189 == x183001_2) || (!(t190 == x183002_2)))) = true
                          · rw [if_pos c33] at H
                            have c33b0 : (!(t188 == x183000_2) || (!(t189 == x183001_2) || (!(t190 == x183002_2)))) = true := c33
                            clear c33
                            obtain rfl := Option.some.inj H
                            have p191 : 0 ≤ (x6_1 : Int) := of_decide_eq_true (by first | (with_reducible assumption) | assumption)
                            have q191 : x6_1 < (l1.length : Int) := of_decide_eq_true (by first | (with_reducible assumption) | assumption)
                            obtain ⟨ad191, e191, hx191_0, hx191_1, hx191_2⟩ := at_T28 HR1.out x6_1 p191 q191
                            (try rw [← Nbq14.out] at hx191_0); (try rw [← Nbq14.out] at hw191_0)
                            obtain rfl : ad184 = ad191 := (by injection e191)
                            replace hx191_0 := (HB.out.cell (World.block_lt_of_cell? w _ hx191_0)).trans hx191_0
                            replace hx191_1 := (HB.out.cell (World.block_lt_of_cell? w _ hx191_1)).trans hx191_1
                            replace hx191_2 := (HB.out.cell (World.block_lt_of_cell? w _ hx191_2)).trans hx191_2
                            replace p191 := eq_true p191
                            replace q191 := eq_true q191
                            have hnb34 := NB180_182.out
                            have hnc34 := NB182_180.out
                            have hcz35_0 : wr.cell? ⟨gb180, 0, none⟩ = some (.int .u16 t188) := (blk_cell BK180.out 0).trans rfl
                            have hcz35_1 : wr.cell? ⟨gb180, 1, none⟩ = some (.int .u16 t189) := (blk_cell BK180.out 1).trans rfl
                            have hcz35_2 : wr.cell? ⟨gb180, 2, none⟩ = some (.bool t190) := (blk_cell BK180.out 2).trans rfl
                            have hfz35_0 := blk_frozen BK180.out 0
                            have hfz35_1 := blk_frozen BK180.out 1
                            have hfz35_2 := blk_frozen BK180.out 2
                            have hcz36_0 : wr.cell? ⟨gb182, 0, none⟩ = some (.int .u16 x183000_2) := (blk_cell BK182.out 0).trans rfl
                            have hcz36_1 : wr.cell? ⟨gb182, 1, none⟩ = some (.int .u16 x183001_2) := (blk_cell BK182.out 1).trans rfl
                            have hcz36_2 : wr.cell? ⟨gb182, 2, none⟩ = some (.bool x183002_2) := (blk_cell BK182.out 2).trans rfl
                            have hfz36_0 := blk_frozen BK182.out 0
                            have hfz36_1 := blk_frozen BK182.out 1
                            have hfz36_2 := blk_frozen BK182.out 2
                            go_wp2
                            go_ret
                            exact ⟨by first | rfl | (simp [errW_none, errW_some] <;> rfl) | (simp [*, errW_none, errW_some] <;> rfl), by repeat (first | (with_reducible first | exact HB.out | apply below_alloc | apply pw_below_drewN | apply below_drew1 | refine below_set ?_ GE180.out | refine below_set ?_ GE182.out) | exact HB.out)⟩
                          · rw [if_neg c33] at H
                            have c33b0 : (!(t188 == x183000_2) || (!(t189 == x183001_2) || (!(t190 == x183002_2)))) = false := by simpa using c33
                            clear c33
                            have H' := Aside0.mk H
                            clear H
                            have p191 : 0 ≤ (x6_1 : Int) := of_decide_eq_true (by first | (with_reducible assumption) | assumption)
                            have q191 : x6_1 < (l1.length : Int) := of_decide_eq_true (by first | (with_reducible assumption) | assumption)
                            obtain ⟨ad191, e191, hx191_0, hx191_1, hx191_2⟩ := at_T28 HR1.out x6_1 p191 q191
                            (try rw [← Nbq14.out] at hx191_0); (try rw [← Nbq14.out] at hw191_0)
                            obtain rfl : ad184 = ad191 := (by injection e191)
                            replace hx191_0 := (HB.out.cell (World.block_lt_of_cell? w _ hx191_0)).trans hx191_0
                            replace hx191_1 := (HB.out.cell (World.block_lt_of_cell? w _ hx191_1)).trans hx191_1
                            replace hx191_2 := (HB.out.cell (World.block_lt_of_cell? w _ hx191_2)).trans hx191_2
                            replace p191 := eq_true p191
                            replace q191 := eq_true q191
                            have hnb37 := NB180_182.out
                            have hnc37 := NB182_180.out
                            have hcz38_0 : wr.cell? ⟨gb180, 0, none⟩ = some (.int .u16 t188) := (blk_cell BK180.out 0).trans rfl
                            have hcz38_1 : wr.cell? ⟨gb180, 1, none⟩ = some (.int .u16 t189) := (blk_cell BK180.out 1).trans rfl
                            have hcz38_2 : wr.cell? ⟨gb180, 2, none⟩ = some (.bool t190) := (blk_cell BK180.out 2).trans rfl
                            have hfz38_0 := blk_frozen BK180.out 0
                            have hfz38_1 := blk_frozen BK180.out 1
                            have hfz38_2 := blk_frozen BK180.out 2
                            have hcz39_0 : wr.cell? ⟨gb182, 0, none⟩ = some (.int .u16 x183000_2) := (blk_cell BK182.out 0).trans rfl
                            have hcz39_1 : wr.cell? ⟨gb182, 1, none⟩ = some (.int .u16 x183001_2) := (blk_cell BK182.out 1).trans rfl
                            have hcz39_2 : wr.cell? ⟨gb182, 2, none⟩ = some (.bool x183002_2) := (blk_cell BK182.out 2).trans rfl
                            have hfz39_0 := blk_frozen BK182.out 0
                            have hfz39_1 := blk_frozen BK182.out 1
                            have hfz39_2 := blk_frozen BK182.out 2
                            go_wp2
                            go_roundg k2
                            case measure => have := HK1.out; have := HK2.out; omega
                            case rel => exact ⟨(wrap64 (x6_1 + 1)), (t188), (t189), (t190), (x183000_2), (x183001_2), (x183002_2), (by first | rfl | (simp; done) | (simp [*]; done)), H', ⟨by have := HK1.out; have := HK2.out; omega⟩, ⟨by (with_reducible repeat (first | refine blk_drewN ?_ _ | refine blk_drew ?_ | refine blk_alloc ?_ _)); exact BK180.out⟩, ⟨by (with_reducible repeat (first | refine blk_drewN ?_ _ | refine blk_drew ?_ | refine blk_alloc ?_ _)); exact BK182.out⟩, ⟨by repeat (first | (with_reducible first | exact HB.out | apply below_alloc | apply pw_below_drewN | apply below_drew1 | refine below_set ?_ GE180.out | refine below_set ?_ GE182.out) | exact HB.out)⟩⟩
                      · rw [if_neg c26] at H
                        exact absurd H (by simp)
                    · rw [if_neg c25] at H
                      exact absurd H (by simp)
            · replace c15 := Bool.eq_false_iff.mpr c15
              subst c15
              have H1 : ((link_Hear.f k1 x181000_1 x181001_1 x181002_1 ((rd_T28 l1 x6_1).f2)).bind fun bt196 => ((culvertref11_Hear.f k1 x183000_1 x183001_1 x183002_1 ((rd_T28 l1 x6_1).f2)).bind fun bt200 => (if (!(bt196.1 == bt200.1) || (!(bt196.2.1 == bt200.2.1) || (!(bt196.2.2 == bt200.2.2)))) = true then (some false) else (culvertlaw11_LinkHears.l0 k1 l1 (wrap64 (x6_1 + 1)) bt196.1 bt196.2.1 bt196.2.2 bt200.1 bt200.2.1 bt200.2.2)))) = some r := by rw [if_neg (show ¬ (false = true) by decide)] at H; exact H
              clear H
              have H := H1
              clear H1
              replace H := Option.bind_eq_some_iff.mp H
              obtain ⟨⟨t196, t197, t198⟩, A400, H⟩ := H
              replace H : ((culvertref11_Hear.f k1 x183000_1 x183001_1 x183002_1 ((rd_T28 l1 x6_1).f2)).bind fun bt200 => (if (!(t196 == bt200.1) || (!(t197 == bt200.2.1) || (!(t198 == bt200.2.2)))) = true then (some false) else (culvertlaw11_LinkHears.l0 k1 l1 (wrap64 (x6_1 + 1)) t196 t197 t198 bt200.1 bt200.2.1 bt200.2.2))) = some r := H
              have A40 := Aside0.mk A400
              clear A400
              replace H := Option.bind_eq_some_iff.mp H
              obtain ⟨⟨t200, t201, t202⟩, A410, H⟩ := H
              replace H : (if (!(t196 == t200) || (!(t197 == t201) || (!(t198 == t202)))) = true then (some false) else (culvertlaw11_LinkHears.l0 k1 l1 (wrap64 (x6_1 + 1)) t196 t197 t198 t200 t201 t202)) = some r := H
              have A41 := Aside0.mk A410
              clear A410
              by_cases c42 : (!(t196 == t200) || (!(t197 == t201) || (!(t198 == t202)))) = true
              · rw [if_pos c42] at H
                have c42b0 : (!(t196 == t200) || (!(t197 == t201) || (!(t198 == t202)))) = true := c42
                clear c42
                obtain rfl := Option.some.inj H
                have p184 : 0 ≤ (x6_1 : Int) := of_decide_eq_true (by first | (with_reducible assumption) | assumption)
                have q184 : x6_1 < (l1.length : Int) := of_decide_eq_true (by first | (with_reducible assumption) | assumption)
                obtain ⟨ad184, e184, hx184_0, hx184_1, hx184_2⟩ := at_T28 HR1.out x6_1 p184 q184
                (try rw [← Nbq14.out] at hx184_0); (try rw [← Nbq14.out] at hw184_0)
                cases e184
                replace hx184_0 := (HB.out.cell (World.block_lt_of_cell? w _ hx184_0)).trans hx184_0
                replace hx184_1 := (HB.out.cell (World.block_lt_of_cell? w _ hx184_1)).trans hx184_1
                replace hx184_2 := (HB.out.cell (World.block_lt_of_cell? w _ hx184_2)).trans hx184_2
                replace p184 := eq_true p184
                replace q184 := eq_true q184
                try go_wp2
                have n0_ := Aside0.mk (blk_drew BK180.out)
                have n1_ := Aside0.mk (blk_drew BK182.out)
                have n2_ := Aside0.mk (below_drew1 HB.out)
                clear BK180
                clear BK182
                clear HB
                have BK180 := n0_
                have BK182 := n1_
                have HB := n2_
                clear n0_ n1_ n2_
                have p195 : 0 ≤ (x6_1 : Int) := of_decide_eq_true (by first | (with_reducible assumption) | assumption)
                have q195 : x6_1 < (l1.length : Int) := of_decide_eq_true (by first | (with_reducible assumption) | assumption)
                obtain ⟨ad195, e195, hx195_0, hx195_1, hx195_2⟩ := at_T28 HR1.out x6_1 p195 q195
                have hw195_2 := hx195_2
                have hw195_1 := hx195_1
                have hw195_0 := hx195_0
                (try rw [← Nbq14.out] at hx195_0); (try rw [← Nbq14.out] at hw195_0)
                obtain rfl : ad184 = ad195 := (by injection e195)
                replace hx195_0 := (HB.out.cell (World.block_lt_of_cell? w _ hx195_0)).trans hx195_0
                replace hx195_1 := (HB.out.cell (World.block_lt_of_cell? w _ hx195_1)).trans hx195_1
                replace hx195_2 := (HB.out.cell (World.block_lt_of_cell? w _ hx195_2)).trans hx195_2
                replace p195 := eq_true p195
                replace q195 := eq_true q195
                refine start_ (n := 8) (S := fun w' => w'.cell? ⟨gb180, 0, none⟩ = some (.int .u16 x181000_1) ∧ w'.cell? ⟨gb180, 1, none⟩ = some (.int .u16 x181001_1) ∧ w'.cell? ⟨gb180, 2, none⟩ = some (.bool x181002_1) ∧ w'.cell? (ad184.add ((x6_1).toNat * 3)) = some (.bool (false)) ∧ w'.cell? ⟨(ad184.add ((x6_1).toNat * 3)).block, (ad184.add ((x6_1).toNat * 3)).off + 1, none⟩ = some (.int .i64 ((rd_T28 l1 x6_1).f1)) ∧ w'.cell? ⟨(ad184.add ((x6_1).toNat * 3)).block, (ad184.add ((x6_1).toNat * 3)).off + 2, none⟩ = some (.int .u16 ((rd_T28 l1 x6_1).f2))) (ds := [7]) #[false, false, false, false, false, false, false, false] (by kernel_rfl) rfl rfl ⟨(blk_cell BK180.out 0).trans rfl, (blk_cell BK180.out 1).trans rfl, (blk_cell BK180.out 2).trans rfl, ((HB.out.cell (World.block_lt_of_cell? w _ hw195_0)).trans hw195_0), ((HB.out.cell (World.block_lt_of_cell? w _ hw195_1)).trans hw195_1), ((HB.out.cell (World.block_lt_of_cell? w _ hw195_2)).trans hw195_2)⟩ (fun hHeld => ?_); refine with_tabW culvertlaw11_LinkHears.tab15 culvertlaw11_LinkHears.bits15 (fun HT_ HW_ => ?_)
                generalize wr.drew = w43 at BK180 BK182 HB hx195_0 hx195_1 hx195_2 hHeld ⊢
                refine pure_ (i := 1) (N := some 50) (v := ?_) (a' := ?_) #[false, true, false, false, false, false, false, false] rfl rfl (any_of HT_.out (by kernel_rfl)) (fun _ _ _ h => h) (Or.inl ⟨by rfl, ?_⟩) ?_ ?_
                rotate_left
                · intro w'
                  go_simp
                  with_reducible rfl
                rotate_left
                · simp only [Act.put, List.setIfInBounds_toArray, List.set_cons_zero, List.set_cons_succ, i64_w, i32_w]
                  rfl
                refine pure_ (i := 2) (N := some 51) (v := ?_) (a' := ?_) #[false, true, true, false, false, false, false, false] rfl rfl (any_of HT_.out (by kernel_rfl)) (fun _ _ _ h => h) (Or.inl ⟨by rfl, ?_⟩) ?_ ?_
                rotate_left
                · intro w'
                  go_simp
                  with_reducible rfl
                rotate_left
                · simp only [Act.put, List.setIfInBounds_toArray, List.set_cons_zero, List.set_cons_succ, i64_w, i32_w]
                  rfl
                refine pure_ (i := 3) (N := some 52) (v := ?_) (a' := ?_) #[false, true, true, true, false, false, false, false] rfl rfl (any_of HT_.out (by kernel_rfl)) (fun _ _ _ h => h) (Or.inl ⟨by rfl, ?_⟩) ?_ ?_
                rotate_left
                · intro w'
                  go_simp
                  with_reducible rfl
                rotate_left
                · simp only [Act.put, List.setIfInBounds_toArray, List.set_cons_zero, List.set_cons_succ, i64_w, i32_w]
                  rfl
                refine pure_ (i := 4) (N := some 53) (v := ?_) (a' := ?_) #[false, true, true, true, true, false, false, false] rfl rfl (any_of HT_.out (by kernel_rfl)) (fun _ _ _ h => h) (Or.inl ⟨by rfl, ?_⟩) ?_ ?_
                rotate_left
                · intro w'
                  go_simp
                  with_reducible rfl
                rotate_left
                · simp only [Act.put, List.setIfInBounds_toArray, List.set_cons_zero, List.set_cons_succ, i64_w, i32_w]
                  rfl
                refine take_ (i := 0) (N := some 49) (v := ?_) (a' := ?_) #[true, true, true, true, true, false, false, false] rfl rfl (take_ofW HT_.out HW_.out (by kernel_rfl)) (fun _ _ _ h => h) (Or.inl ⟨by rfl, ?_⟩) hHeld ?_ ?_
                rotate_left
                · rintro w' ⟨s0, s1, s2, s3, s4, s5⟩
                  go_simp
                  with_reducible rfl
                rotate_left
                · simp only [Act.put, List.setIfInBounds_toArray, List.set_cons_zero, List.set_cons_succ, i64_w, i32_w]
                  rfl
                refine take_ (i := 5) (N := some 54) (v := ?_) (a' := ?_) #[true, true, true, true, true, true, false, false] rfl rfl (take_ofW HT_.out HW_.out (by kernel_rfl)) (fun _ _ _ h => h) (Or.inl ⟨by rfl, ?_⟩) hHeld ?_ ?_
                rotate_left
                · rintro w' ⟨s0, s1, s2, s3, s4, s5⟩
                  go_simp
                  with_reducible rfl
                rotate_left
                · simp only [Act.put, List.setIfInBounds_toArray, List.set_cons_zero, List.set_cons_succ, i64_w, i32_w]
                  rfl
                refine one_ (i := 6) (N := some 55) #[true, true, true, true, true, true, true, false] rfl rfl (one_of HT_.out (by kernel_rfl)) (by decide) (fun K hK => ?_)
                refine goes_ Try.func11 (by kernel_rfl) rfl #[.agg #[.int .u16 x181000_1, .int .u16 x181001_1, .bool x181002_1], .int .u16 ((rd_T28 l1 x6_1).f2)] (by rfl) rfl rfl (by (try simp only [List.map_toArray, List.map_cons, List.map_nil]); first | done | rfl | (simp only [List.length_drop, List.length_take]; rfl)) ?_
                with_reducible refine (link_Hear.calls k1 x181000_1 x181001_1 x181002_1 ((rd_T28 l1 x6_1).f2) t196 t197 t198 _ A40.out).mono ?_
                rintro e w44 ⟨rfl, hb⟩
                refine ⟨_, rfl, ?_⟩
                have n0_ := Aside0.mk (blk_below (g := gb180) (o := .cells #[.int .u16 x181000_1, .int .u16 x181001_1, .bool x181002_1] 24 (0, 0)) (by (with_reducible repeat (first | refine blk_drewN ?_ _ | refine blk_drew ?_ | refine blk_alloc ?_ _)); exact BK180.out) hb)
                have n1_ := Aside0.mk (blk_below (g := gb182) (o := .cells #[.int .u16 x183000_1, .int .u16 x183001_1, .bool x183002_1] 24 (0, 0)) (by (with_reducible repeat (first | refine blk_drewN ?_ _ | refine blk_drew ?_ | refine blk_alloc ?_ _)); exact BK182.out) hb)
                have n2_ := Aside0.mk (below_step (by repeat (first | (with_reducible first | exact HB.out | apply below_alloc | apply pw_below_drewN | apply below_drew1 | refine below_set ?_ GE180.out | refine below_set ?_ GE182.out) | exact HB.out)) hb)
                clear BK180
                clear BK182
                clear HB
                have BK180 := n0_
                have BK182 := n1_
                have HB := n2_
                clear n0_ n1_ n2_
                (try clear hb)
                (try clear hb2)
                (try clear hk)
                (try clear hi)
                refine hK.out _ _ ⟨(blk_cell BK180.out 0).trans rfl, (blk_cell BK180.out 1).trans rfl, (blk_cell BK180.out 2).trans rfl, ((HB.out.cell (World.block_lt_of_cell? w _ hw195_0)).trans hw195_0), ((HB.out.cell (World.block_lt_of_cell? w _ hw195_1)).trans hw195_1), ((HB.out.cell (World.block_lt_of_cell? w _ hw195_2)).trans hw195_2)⟩ (fun hHeld => ?_)
                clear hK K
                refine norm_ (a' := ?_) ?_ ?_
                rotate_left
                · show Act.put _ (some 55) _ = _
                  simp only [Act.put, List.setIfInBounds_toArray, List.set_cons_zero, List.set_cons_succ, i64_w, i32_w]
                  rfl
                refine last_ (i := 7) (N := none) #[true, true, true, true, true, true, true, true] rfl rfl (one_of HT_.out (by kernel_rfl)) (by decide) (fun K hK => ?_)
                have hs45 : w44.cell? ⟨gb180, 0, none⟩ = some (.int .u16 x181000_1) := (blk_cell BK180.out 0).trans rfl
                have hfs45 := blk_frozen BK180.out 0
                have hns45_1 := NB182_180.out
                have hms45_1 := NB180_182.out
                have hs46 : w44.cell? ⟨gb180, 1, none⟩ = some (.int .u16 x181001_1) := (blk_cell BK180.out 1).trans rfl
                have hfs46 := blk_frozen BK180.out 1
                have hns46_1 := NB182_180.out
                have hms46_1 := NB180_182.out
                have hs47 : w44.cell? ⟨gb180, 2, none⟩ = some (.bool x181002_1) := (blk_cell BK180.out 2).trans rfl
                have hfs47 := blk_frozen BK180.out 2
                have hns47_1 := NB182_180.out
                have hms47_1 := NB180_182.out
                refine skip_ (w1 := ?_) (by rfl) rfl ?_ ?_
                rotate_left
                · go_simp
                  rfl
                refine hK.out _ _ ?_
                clear hK K
                refine done_ (done_of HT_.out (by kernel_rfl)) ?_
                try go_wp2
                have n0_ : Aside0 ((((w44.setCell ⟨gb180, 0, none⟩ (.int .u16 t196)).setCell ⟨gb180, 1, none⟩ (.int .u16 t197)).setCell ⟨gb180, 2, none⟩ (.bool t198)).heap[gb180]? = some (.cells #[.int .u16 t196, .int .u16 t197, .bool t198] 24 (0, 0))) := ⟨by (with_reducible repeat (first | refine blk_drewN ?_ _ | refine blk_drew ?_ | refine blk_alloc ?_ _)); refine blk_put (cs := #[.int .u16 t196, .int .u16 t197, .bool x181002_1]) ?_ 2 _ rfl; (with_reducible repeat (first | refine blk_drewN ?_ _ | refine blk_drew ?_ | refine blk_alloc ?_ _)); refine blk_put (cs := #[.int .u16 t196, .int .u16 x181001_1, .bool x181002_1]) ?_ 1 _ rfl; (with_reducible repeat (first | refine blk_drewN ?_ _ | refine blk_drew ?_ | refine blk_alloc ?_ _)); refine blk_put (cs := #[.int .u16 x181000_1, .int .u16 x181001_1, .bool x181002_1]) ?_ 0 _ rfl; (with_reducible repeat (first | refine blk_drewN ?_ _ | refine blk_drew ?_ | refine blk_alloc ?_ _)); exact BK180.out⟩
                have n1_ : Aside0 ((((w44.setCell ⟨gb180, 0, none⟩ (.int .u16 t196)).setCell ⟨gb180, 1, none⟩ (.int .u16 t197)).setCell ⟨gb180, 2, none⟩ (.bool t198)).heap[gb182]? = some (.cells #[.int .u16 x183000_1, .int .u16 x183001_1, .bool x183002_1] 24 (0, 0))) := ⟨by (with_reducible repeat (first | refine blk_drewN ?_ _ | refine blk_drew ?_ | refine blk_alloc ?_ _)); refine blk_far ?_ NB182_180.out _; (with_reducible repeat (first | refine blk_drewN ?_ _ | refine blk_drew ?_ | refine blk_alloc ?_ _)); refine blk_far ?_ NB182_180.out _; (with_reducible repeat (first | refine blk_drewN ?_ _ | refine blk_drew ?_ | refine blk_alloc ?_ _)); refine blk_far ?_ NB182_180.out _; (with_reducible repeat (first | refine blk_drewN ?_ _ | refine blk_drew ?_ | refine blk_alloc ?_ _)); exact BK182.out⟩
                have n2_ : Aside0 (Below w.heap.size w (((w44.setCell ⟨gb180, 0, none⟩ (.int .u16 t196)).setCell ⟨gb180, 1, none⟩ (.int .u16 t197)).setCell ⟨gb180, 2, none⟩ (.bool t198))) := ⟨by repeat (first | (with_reducible first | exact HB.out | apply below_alloc | apply pw_below_drewN | apply below_drew1 | refine below_set ?_ GE180.out | refine below_set ?_ GE182.out) | exact HB.out)⟩
                (try clear BK180)
                (try clear BK182)
                (try clear HB)
                generalize (((w44.setCell ⟨gb180, 0, none⟩ (.int .u16 t196)).setCell ⟨gb180, 1, none⟩ (.int .u16 t197)).setCell ⟨gb180, 2, none⟩ (.bool t198)) = w48 at n0_ n1_ n2_ ⊢
                have BK180 := n0_
                have BK182 := n1_
                have HB := n2_
                clear n0_ n1_ n2_
                have n0_ := Aside0.mk (blk_drew BK180.out)
                have n1_ := Aside0.mk (blk_drew BK182.out)
                have n2_ := Aside0.mk (below_drew1 HB.out)
                clear BK180
                clear BK182
                clear HB
                have BK180 := n0_
                have BK182 := n1_
                have HB := n2_
                clear n0_ n1_ n2_
                have p199 : 0 ≤ (x6_1 : Int) := of_decide_eq_true (by first | (with_reducible assumption) | assumption)
                have q199 : x6_1 < (l1.length : Int) := of_decide_eq_true (by first | (with_reducible assumption) | assumption)
                obtain ⟨ad199, e199, hx199_0, hx199_1, hx199_2⟩ := at_T28 HR1.out x6_1 p199 q199
                have hw199_2 := hx199_2
                have hw199_1 := hx199_1
                have hw199_0 := hx199_0
                (try rw [← Nbq14.out] at hx199_0); (try rw [← Nbq14.out] at hw199_0)
                obtain rfl : ad184 = ad199 := (by injection e199)
                replace hx199_0 := (HB.out.cell (World.block_lt_of_cell? w _ hx199_0)).trans hx199_0
                replace hx199_1 := (HB.out.cell (World.block_lt_of_cell? w _ hx199_1)).trans hx199_1
                replace hx199_2 := (HB.out.cell (World.block_lt_of_cell? w _ hx199_2)).trans hx199_2
                replace p199 := eq_true p199
                replace q199 := eq_true q199
                refine start_ (n := 8) (S := fun w' => w'.cell? ⟨gb182, 0, none⟩ = some (.int .u16 x183000_1) ∧ w'.cell? ⟨gb182, 1, none⟩ = some (.int .u16 x183001_1) ∧ w'.cell? ⟨gb182, 2, none⟩ = some (.bool x183002_1) ∧ w'.cell? (ad184.add ((x6_1).toNat * 3)) = some (.bool (false)) ∧ w'.cell? ⟨(ad184.add ((x6_1).toNat * 3)).block, (ad184.add ((x6_1).toNat * 3)).off + 1, none⟩ = some (.int .i64 ((rd_T28 l1 x6_1).f1)) ∧ w'.cell? ⟨(ad184.add ((x6_1).toNat * 3)).block, (ad184.add ((x6_1).toNat * 3)).off + 2, none⟩ = some (.int .u16 ((rd_T28 l1 x6_1).f2))) (ds := [7]) #[false, false, false, false, false, false, false, false] (by kernel_rfl) rfl rfl ⟨(blk_cell BK182.out 0).trans rfl, (blk_cell BK182.out 1).trans rfl, (blk_cell BK182.out 2).trans rfl, ((HB.out.cell (World.block_lt_of_cell? w _ hw199_0)).trans hw199_0), ((HB.out.cell (World.block_lt_of_cell? w _ hw199_1)).trans hw199_1), ((HB.out.cell (World.block_lt_of_cell? w _ hw199_2)).trans hw199_2)⟩ (fun hHeld => ?_); refine with_tabW culvertlaw11_LinkHears.tab16 culvertlaw11_LinkHears.bits16 (fun HT_ HW_ => ?_)
                generalize w48.drew = w49 at BK180 BK182 HB hx199_0 hx199_1 hx199_2 hHeld ⊢
                refine pure_ (i := 1) (N := some 57) (v := ?_) (a' := ?_) #[false, true, false, false, false, false, false, false] rfl rfl (any_of HT_.out (by kernel_rfl)) (fun _ _ _ h => h) (Or.inl ⟨by rfl, ?_⟩) ?_ ?_
                rotate_left
                · intro w'
                  go_simp
                  with_reducible rfl
                rotate_left
                · simp only [Act.put, List.setIfInBounds_toArray, List.set_cons_zero, List.set_cons_succ, i64_w, i32_w]
                  rfl
                refine pure_ (i := 2) (N := some 58) (v := ?_) (a' := ?_) #[false, true, true, false, false, false, false, false] rfl rfl (any_of HT_.out (by kernel_rfl)) (fun _ _ _ h => h) (Or.inl ⟨by rfl, ?_⟩) ?_ ?_
                rotate_left
                · intro w'
                  go_simp
                  with_reducible rfl
                rotate_left
                · simp only [Act.put, List.setIfInBounds_toArray, List.set_cons_zero, List.set_cons_succ, i64_w, i32_w]
                  rfl
                refine pure_ (i := 3) (N := some 59) (v := ?_) (a' := ?_) #[false, true, true, true, false, false, false, false] rfl rfl (any_of HT_.out (by kernel_rfl)) (fun _ _ _ h => h) (Or.inl ⟨by rfl, ?_⟩) ?_ ?_
                rotate_left
                · intro w'
                  go_simp
                  with_reducible rfl
                rotate_left
                · simp only [Act.put, List.setIfInBounds_toArray, List.set_cons_zero, List.set_cons_succ, i64_w, i32_w]
                  rfl
                refine pure_ (i := 4) (N := some 60) (v := ?_) (a' := ?_) #[false, true, true, true, true, false, false, false] rfl rfl (any_of HT_.out (by kernel_rfl)) (fun _ _ _ h => h) (Or.inl ⟨by rfl, ?_⟩) ?_ ?_
                rotate_left
                · intro w'
                  go_simp
                  with_reducible rfl
                rotate_left
                · simp only [Act.put, List.setIfInBounds_toArray, List.set_cons_zero, List.set_cons_succ, i64_w, i32_w]
                  rfl
                refine take_ (i := 0) (N := some 56) (v := ?_) (a' := ?_) #[true, true, true, true, true, false, false, false] rfl rfl (take_ofW HT_.out HW_.out (by kernel_rfl)) (fun _ _ _ h => h) (Or.inl ⟨by rfl, ?_⟩) hHeld ?_ ?_
                rotate_left
                · rintro w' ⟨s0, s1, s2, s3, s4, s5⟩
                  go_simp
                  with_reducible rfl
                rotate_left
                · simp only [Act.put, List.setIfInBounds_toArray, List.set_cons_zero, List.set_cons_succ, i64_w, i32_w]
                  rfl
                refine take_ (i := 5) (N := some 61) (v := ?_) (a' := ?_) #[true, true, true, true, true, true, false, false] rfl rfl (take_ofW HT_.out HW_.out (by kernel_rfl)) (fun _ _ _ h => h) (Or.inl ⟨by rfl, ?_⟩) hHeld ?_ ?_
                rotate_left
                · rintro w' ⟨s0, s1, s2, s3, s4, s5⟩
                  go_simp
                  with_reducible rfl
                rotate_left
                · simp only [Act.put, List.setIfInBounds_toArray, List.set_cons_zero, List.set_cons_succ, i64_w, i32_w]
                  rfl
                refine one_ (i := 6) (N := some 62) #[true, true, true, true, true, true, true, false] rfl rfl (one_of HT_.out (by kernel_rfl)) (by decide) (fun K hK => ?_)
                refine goes_ Try.func12 (by kernel_rfl) rfl #[.agg #[.int .u16 x183000_1, .int .u16 x183001_1, .bool x183002_1], .int .u16 ((rd_T28 l1 x6_1).f2)] (by rfl) rfl rfl (by (try simp only [List.map_toArray, List.map_cons, List.map_nil]); first | done | rfl | (simp only [List.length_drop, List.length_take]; rfl)) ?_
                with_reducible refine (culvertref11_Hear.calls k1 x183000_1 x183001_1 x183002_1 ((rd_T28 l1 x6_1).f2) t200 t201 t202 _ A41.out).mono ?_
                rintro e w50 ⟨rfl, hb⟩
                refine ⟨_, rfl, ?_⟩
                have n0_ := Aside0.mk (blk_below (g := gb180) (o := .cells #[.int .u16 t196, .int .u16 t197, .bool t198] 24 (0, 0)) (by (with_reducible repeat (first | refine blk_drewN ?_ _ | refine blk_drew ?_ | refine blk_alloc ?_ _)); exact BK180.out) hb)
                have n1_ := Aside0.mk (blk_below (g := gb182) (o := .cells #[.int .u16 x183000_1, .int .u16 x183001_1, .bool x183002_1] 24 (0, 0)) (by (with_reducible repeat (first | refine blk_drewN ?_ _ | refine blk_drew ?_ | refine blk_alloc ?_ _)); exact BK182.out) hb)
                have n2_ := Aside0.mk (below_step (by repeat (first | (with_reducible first | exact HB.out | apply below_alloc | apply pw_below_drewN | apply below_drew1 | refine below_set ?_ GE180.out | refine below_set ?_ GE182.out) | exact HB.out)) hb)
                clear BK180
                clear BK182
                clear HB
                have BK180 := n0_
                have BK182 := n1_
                have HB := n2_
                clear n0_ n1_ n2_
                (try clear hb)
                (try clear hb2)
                (try clear hk)
                (try clear hi)
                refine hK.out _ _ ⟨(blk_cell BK182.out 0).trans rfl, (blk_cell BK182.out 1).trans rfl, (blk_cell BK182.out 2).trans rfl, ((HB.out.cell (World.block_lt_of_cell? w _ hw199_0)).trans hw199_0), ((HB.out.cell (World.block_lt_of_cell? w _ hw199_1)).trans hw199_1), ((HB.out.cell (World.block_lt_of_cell? w _ hw199_2)).trans hw199_2)⟩ (fun hHeld => ?_)
                clear hK K
                refine norm_ (a' := ?_) ?_ ?_
                rotate_left
                · show Act.put _ (some 62) _ = _
                  simp only [Act.put, List.setIfInBounds_toArray, List.set_cons_zero, List.set_cons_succ, i64_w, i32_w]
                  rfl
                refine last_ (i := 7) (N := none) #[true, true, true, true, true, true, true, true] rfl rfl (one_of HT_.out (by kernel_rfl)) (by decide) (fun K hK => ?_)
                have hs51 : w50.cell? ⟨gb182, 0, none⟩ = some (.int .u16 x183000_1) := (blk_cell BK182.out 0).trans rfl
                have hfs51 := blk_frozen BK182.out 0
                have hns51_0 := NB180_182.out
                have hms51_0 := NB182_180.out
                have hs52 : w50.cell? ⟨gb182, 1, none⟩ = some (.int .u16 x183001_1) := (blk_cell BK182.out 1).trans rfl
                have hfs52 := blk_frozen BK182.out 1
                have hns52_0 := NB180_182.out
                have hms52_0 := NB182_180.out
                have hs53 : w50.cell? ⟨gb182, 2, none⟩ = some (.bool x183002_1) := (blk_cell BK182.out 2).trans rfl
                have hfs53 := blk_frozen BK182.out 2
                have hns53_0 := NB180_182.out
                have hms53_0 := NB182_180.out
                refine skip_ (w1 := ?_) (by rfl) rfl ?_ ?_
                rotate_left
                · go_simp
                  rfl
                refine hK.out _ _ ?_
                clear hK K
                refine done_ (done_of HT_.out (by kernel_rfl)) ?_
                have hnb54 := NB180_182.out
                have hnc54 := NB182_180.out
                have hcz55_0 : w50.cell? ⟨gb180, 0, none⟩ = some (.int .u16 t196) := (blk_cell BK180.out 0).trans rfl
                have hcz55_1 : w50.cell? ⟨gb180, 1, none⟩ = some (.int .u16 t197) := (blk_cell BK180.out 1).trans rfl
                have hcz55_2 : w50.cell? ⟨gb180, 2, none⟩ = some (.bool t198) := (blk_cell BK180.out 2).trans rfl
                have hfz55_0 := blk_frozen BK180.out 0
                have hfz55_1 := blk_frozen BK180.out 1
                have hfz55_2 := blk_frozen BK180.out 2
                have hcz56_0 : w50.cell? ⟨gb182, 0, none⟩ = some (.int .u16 x183000_1) := (blk_cell BK182.out 0).trans rfl
                have hcz56_1 : w50.cell? ⟨gb182, 1, none⟩ = some (.int .u16 x183001_1) := (blk_cell BK182.out 1).trans rfl
                have hcz56_2 : w50.cell? ⟨gb182, 2, none⟩ = some (.bool x183002_1) := (blk_cell BK182.out 2).trans rfl
                have hfz56_0 := blk_frozen BK182.out 0
                have hfz56_1 := blk_frozen BK182.out 1
                have hfz56_2 := blk_frozen BK182.out 2
                try go_wp2
                go_ret
                exact ⟨by first | rfl | (simp [errW_none, errW_some] <;> rfl) | (simp [*, errW_none, errW_some] <;> rfl), by repeat (first | (with_reducible first | exact HB.out | apply below_alloc | apply pw_below_drewN | apply below_drew1 | refine below_set ?_ GE180.out | refine below_set ?_ GE182.out) | exact HB.out)⟩
              · rw [if_neg c42] at H
                have c42b0 : (!(t196 == t200) || (!(t197 == t201) || (!(t198 == t202)))) = false := by simpa using c42
                clear c42
                have H' := Aside0.mk H
                clear H
                have p184 : 0 ≤ (x6_1 : Int) := of_decide_eq_true (by first | (with_reducible assumption) | assumption)
                have q184 : x6_1 < (l1.length : Int) := of_decide_eq_true (by first | (with_reducible assumption) | assumption)
                obtain ⟨ad184, e184, hx184_0, hx184_1, hx184_2⟩ := at_T28 HR1.out x6_1 p184 q184
                (try rw [← Nbq14.out] at hx184_0); (try rw [← Nbq14.out] at hw184_0)
                cases e184
                replace hx184_0 := (HB.out.cell (World.block_lt_of_cell? w _ hx184_0)).trans hx184_0
                replace hx184_1 := (HB.out.cell (World.block_lt_of_cell? w _ hx184_1)).trans hx184_1
                replace hx184_2 := (HB.out.cell (World.block_lt_of_cell? w _ hx184_2)).trans hx184_2
                replace p184 := eq_true p184
                replace q184 := eq_true q184
                try go_wp2
                have n0_ := Aside0.mk (blk_drew BK180.out)
                have n1_ := Aside0.mk (blk_drew BK182.out)
                have n2_ := Aside0.mk (below_drew1 HB.out)
                clear BK180
                clear BK182
                clear HB
                have BK180 := n0_
                have BK182 := n1_
                have HB := n2_
                clear n0_ n1_ n2_
                have p195 : 0 ≤ (x6_1 : Int) := of_decide_eq_true (by first | (with_reducible assumption) | assumption)
                have q195 : x6_1 < (l1.length : Int) := of_decide_eq_true (by first | (with_reducible assumption) | assumption)
                obtain ⟨ad195, e195, hx195_0, hx195_1, hx195_2⟩ := at_T28 HR1.out x6_1 p195 q195
                have hw195_2 := hx195_2
                have hw195_1 := hx195_1
                have hw195_0 := hx195_0
                (try rw [← Nbq14.out] at hx195_0); (try rw [← Nbq14.out] at hw195_0)
                obtain rfl : ad184 = ad195 := (by injection e195)
                replace hx195_0 := (HB.out.cell (World.block_lt_of_cell? w _ hx195_0)).trans hx195_0
                replace hx195_1 := (HB.out.cell (World.block_lt_of_cell? w _ hx195_1)).trans hx195_1
                replace hx195_2 := (HB.out.cell (World.block_lt_of_cell? w _ hx195_2)).trans hx195_2
                replace p195 := eq_true p195
                replace q195 := eq_true q195
                refine start_ (n := 8) (S := fun w' => w'.cell? ⟨gb180, 0, none⟩ = some (.int .u16 x181000_1) ∧ w'.cell? ⟨gb180, 1, none⟩ = some (.int .u16 x181001_1) ∧ w'.cell? ⟨gb180, 2, none⟩ = some (.bool x181002_1) ∧ w'.cell? (ad184.add ((x6_1).toNat * 3)) = some (.bool (false)) ∧ w'.cell? ⟨(ad184.add ((x6_1).toNat * 3)).block, (ad184.add ((x6_1).toNat * 3)).off + 1, none⟩ = some (.int .i64 ((rd_T28 l1 x6_1).f1)) ∧ w'.cell? ⟨(ad184.add ((x6_1).toNat * 3)).block, (ad184.add ((x6_1).toNat * 3)).off + 2, none⟩ = some (.int .u16 ((rd_T28 l1 x6_1).f2))) (ds := [7]) #[false, false, false, false, false, false, false, false] (by kernel_rfl) rfl rfl ⟨(blk_cell BK180.out 0).trans rfl, (blk_cell BK180.out 1).trans rfl, (blk_cell BK180.out 2).trans rfl, ((HB.out.cell (World.block_lt_of_cell? w _ hw195_0)).trans hw195_0), ((HB.out.cell (World.block_lt_of_cell? w _ hw195_1)).trans hw195_1), ((HB.out.cell (World.block_lt_of_cell? w _ hw195_2)).trans hw195_2)⟩ (fun hHeld => ?_); refine with_tabW culvertlaw11_LinkHears.tab15 culvertlaw11_LinkHears.bits15 (fun HT_ HW_ => ?_)
                generalize wr.drew = w57 at BK180 BK182 HB hx195_0 hx195_1 hx195_2 hHeld ⊢
                refine pure_ (i := 1) (N := some 50) (v := ?_) (a' := ?_) #[false, true, false, false, false, false, false, false] rfl rfl (any_of HT_.out (by kernel_rfl)) (fun _ _ _ h => h) (Or.inl ⟨by rfl, ?_⟩) ?_ ?_
                rotate_left
                · intro w'
                  go_simp
                  with_reducible rfl
                rotate_left
                · simp only [Act.put, List.setIfInBounds_toArray, List.set_cons_zero, List.set_cons_succ, i64_w, i32_w]
                  rfl
                refine pure_ (i := 2) (N := some 51) (v := ?_) (a' := ?_) #[false, true, true, false, false, false, false, false] rfl rfl (any_of HT_.out (by kernel_rfl)) (fun _ _ _ h => h) (Or.inl ⟨by rfl, ?_⟩) ?_ ?_
                rotate_left
                · intro w'
                  go_simp
                  with_reducible rfl
                rotate_left
                · simp only [Act.put, List.setIfInBounds_toArray, List.set_cons_zero, List.set_cons_succ, i64_w, i32_w]
                  rfl
                refine pure_ (i := 3) (N := some 52) (v := ?_) (a' := ?_) #[false, true, true, true, false, false, false, false] rfl rfl (any_of HT_.out (by kernel_rfl)) (fun _ _ _ h => h) (Or.inl ⟨by rfl, ?_⟩) ?_ ?_
                rotate_left
                · intro w'
                  go_simp
                  with_reducible rfl
                rotate_left
                · simp only [Act.put, List.setIfInBounds_toArray, List.set_cons_zero, List.set_cons_succ, i64_w, i32_w]
                  rfl
                refine pure_ (i := 4) (N := some 53) (v := ?_) (a' := ?_) #[false, true, true, true, true, false, false, false] rfl rfl (any_of HT_.out (by kernel_rfl)) (fun _ _ _ h => h) (Or.inl ⟨by rfl, ?_⟩) ?_ ?_
                rotate_left
                · intro w'
                  go_simp
                  with_reducible rfl
                rotate_left
                · simp only [Act.put, List.setIfInBounds_toArray, List.set_cons_zero, List.set_cons_succ, i64_w, i32_w]
                  rfl
                refine take_ (i := 0) (N := some 49) (v := ?_) (a' := ?_) #[true, true, true, true, true, false, false, false] rfl rfl (take_ofW HT_.out HW_.out (by kernel_rfl)) (fun _ _ _ h => h) (Or.inl ⟨by rfl, ?_⟩) hHeld ?_ ?_
                rotate_left
                · rintro w' ⟨s0, s1, s2, s3, s4, s5⟩
                  go_simp
                  with_reducible rfl
                rotate_left
                · simp only [Act.put, List.setIfInBounds_toArray, List.set_cons_zero, List.set_cons_succ, i64_w, i32_w]
                  rfl
                refine take_ (i := 5) (N := some 54) (v := ?_) (a' := ?_) #[true, true, true, true, true, true, false, false] rfl rfl (take_ofW HT_.out HW_.out (by kernel_rfl)) (fun _ _ _ h => h) (Or.inl ⟨by rfl, ?_⟩) hHeld ?_ ?_
                rotate_left
                · rintro w' ⟨s0, s1, s2, s3, s4, s5⟩
                  go_simp
                  with_reducible rfl
                rotate_left
                · simp only [Act.put, List.setIfInBounds_toArray, List.set_cons_zero, List.set_cons_succ, i64_w, i32_w]
                  rfl
                refine one_ (i := 6) (N := some 55) #[true, true, true, true, true, true, true, false] rfl rfl (one_of HT_.out (by kernel_rfl)) (by decide) (fun K hK => ?_)
                refine goes_ Try.func11 (by kernel_rfl) rfl #[.agg #[.int .u16 x181000_1, .int .u16 x181001_1, .bool x181002_1], .int .u16 ((rd_T28 l1 x6_1).f2)] (by rfl) rfl rfl (by (try simp only [List.map_toArray, List.map_cons, List.map_nil]); first | done | rfl | (simp only [List.length_drop, List.length_take]; rfl)) ?_
                with_reducible refine (link_Hear.calls k1 x181000_1 x181001_1 x181002_1 ((rd_T28 l1 x6_1).f2) t196 t197 t198 _ A40.out).mono ?_
                rintro e w58 ⟨rfl, hb⟩
                refine ⟨_, rfl, ?_⟩
                have n0_ := Aside0.mk (blk_below (g := gb180) (o := .cells #[.int .u16 x181000_1, .int .u16 x181001_1, .bool x181002_1] 24 (0, 0)) (by (with_reducible repeat (first | refine blk_drewN ?_ _ | refine blk_drew ?_ | refine blk_alloc ?_ _)); exact BK180.out) hb)
                have n1_ := Aside0.mk (blk_below (g := gb182) (o := .cells #[.int .u16 x183000_1, .int .u16 x183001_1, .bool x183002_1] 24 (0, 0)) (by (with_reducible repeat (first | refine blk_drewN ?_ _ | refine blk_drew ?_ | refine blk_alloc ?_ _)); exact BK182.out) hb)
                have n2_ := Aside0.mk (below_step (by repeat (first | (with_reducible first | exact HB.out | apply below_alloc | apply pw_below_drewN | apply below_drew1 | refine below_set ?_ GE180.out | refine below_set ?_ GE182.out) | exact HB.out)) hb)
                clear BK180
                clear BK182
                clear HB
                have BK180 := n0_
                have BK182 := n1_
                have HB := n2_
                clear n0_ n1_ n2_
                (try clear hb)
                (try clear hb2)
                (try clear hk)
                (try clear hi)
                refine hK.out _ _ ⟨(blk_cell BK180.out 0).trans rfl, (blk_cell BK180.out 1).trans rfl, (blk_cell BK180.out 2).trans rfl, ((HB.out.cell (World.block_lt_of_cell? w _ hw195_0)).trans hw195_0), ((HB.out.cell (World.block_lt_of_cell? w _ hw195_1)).trans hw195_1), ((HB.out.cell (World.block_lt_of_cell? w _ hw195_2)).trans hw195_2)⟩ (fun hHeld => ?_)
                clear hK K
                refine norm_ (a' := ?_) ?_ ?_
                rotate_left
                · show Act.put _ (some 55) _ = _
                  simp only [Act.put, List.setIfInBounds_toArray, List.set_cons_zero, List.set_cons_succ, i64_w, i32_w]
                  rfl
                refine last_ (i := 7) (N := none) #[true, true, true, true, true, true, true, true] rfl rfl (one_of HT_.out (by kernel_rfl)) (by decide) (fun K hK => ?_)
                have hs59 : w58.cell? ⟨gb180, 0, none⟩ = some (.int .u16 x181000_1) := (blk_cell BK180.out 0).trans rfl
                have hfs59 := blk_frozen BK180.out 0
                have hns59_1 := NB182_180.out
                have hms59_1 := NB180_182.out
                have hs60 : w58.cell? ⟨gb180, 1, none⟩ = some (.int .u16 x181001_1) := (blk_cell BK180.out 1).trans rfl
                have hfs60 := blk_frozen BK180.out 1
                have hns60_1 := NB182_180.out
                have hms60_1 := NB180_182.out
                have hs61 : w58.cell? ⟨gb180, 2, none⟩ = some (.bool x181002_1) := (blk_cell BK180.out 2).trans rfl
                have hfs61 := blk_frozen BK180.out 2
                have hns61_1 := NB182_180.out
                have hms61_1 := NB180_182.out
                refine skip_ (w1 := ?_) (by rfl) rfl ?_ ?_
                rotate_left
                · go_simp
                  rfl
                refine hK.out _ _ ?_
                clear hK K
                refine done_ (done_of HT_.out (by kernel_rfl)) ?_
                try go_wp2
                have n0_ : Aside0 ((((w58.setCell ⟨gb180, 0, none⟩ (.int .u16 t196)).setCell ⟨gb180, 1, none⟩ (.int .u16 t197)).setCell ⟨gb180, 2, none⟩ (.bool t198)).heap[gb180]? = some (.cells #[.int .u16 t196, .int .u16 t197, .bool t198] 24 (0, 0))) := ⟨by (with_reducible repeat (first | refine blk_drewN ?_ _ | refine blk_drew ?_ | refine blk_alloc ?_ _)); refine blk_put (cs := #[.int .u16 t196, .int .u16 t197, .bool x181002_1]) ?_ 2 _ rfl; (with_reducible repeat (first | refine blk_drewN ?_ _ | refine blk_drew ?_ | refine blk_alloc ?_ _)); refine blk_put (cs := #[.int .u16 t196, .int .u16 x181001_1, .bool x181002_1]) ?_ 1 _ rfl; (with_reducible repeat (first | refine blk_drewN ?_ _ | refine blk_drew ?_ | refine blk_alloc ?_ _)); refine blk_put (cs := #[.int .u16 x181000_1, .int .u16 x181001_1, .bool x181002_1]) ?_ 0 _ rfl; (with_reducible repeat (first | refine blk_drewN ?_ _ | refine blk_drew ?_ | refine blk_alloc ?_ _)); exact BK180.out⟩
                have n1_ : Aside0 ((((w58.setCell ⟨gb180, 0, none⟩ (.int .u16 t196)).setCell ⟨gb180, 1, none⟩ (.int .u16 t197)).setCell ⟨gb180, 2, none⟩ (.bool t198)).heap[gb182]? = some (.cells #[.int .u16 x183000_1, .int .u16 x183001_1, .bool x183002_1] 24 (0, 0))) := ⟨by (with_reducible repeat (first | refine blk_drewN ?_ _ | refine blk_drew ?_ | refine blk_alloc ?_ _)); refine blk_far ?_ NB182_180.out _; (with_reducible repeat (first | refine blk_drewN ?_ _ | refine blk_drew ?_ | refine blk_alloc ?_ _)); refine blk_far ?_ NB182_180.out _; (with_reducible repeat (first | refine blk_drewN ?_ _ | refine blk_drew ?_ | refine blk_alloc ?_ _)); refine blk_far ?_ NB182_180.out _; (with_reducible repeat (first | refine blk_drewN ?_ _ | refine blk_drew ?_ | refine blk_alloc ?_ _)); exact BK182.out⟩
                have n2_ : Aside0 (Below w.heap.size w (((w58.setCell ⟨gb180, 0, none⟩ (.int .u16 t196)).setCell ⟨gb180, 1, none⟩ (.int .u16 t197)).setCell ⟨gb180, 2, none⟩ (.bool t198))) := ⟨by repeat (first | (with_reducible first | exact HB.out | apply below_alloc | apply pw_below_drewN | apply below_drew1 | refine below_set ?_ GE180.out | refine below_set ?_ GE182.out) | exact HB.out)⟩
                (try clear BK180)
                (try clear BK182)
                (try clear HB)
                generalize (((w58.setCell ⟨gb180, 0, none⟩ (.int .u16 t196)).setCell ⟨gb180, 1, none⟩ (.int .u16 t197)).setCell ⟨gb180, 2, none⟩ (.bool t198)) = w62 at n0_ n1_ n2_ ⊢
                have BK180 := n0_
                have BK182 := n1_
                have HB := n2_
                clear n0_ n1_ n2_
                have n0_ := Aside0.mk (blk_drew BK180.out)
                have n1_ := Aside0.mk (blk_drew BK182.out)
                have n2_ := Aside0.mk (below_drew1 HB.out)
                clear BK180
                clear BK182
                clear HB
                have BK180 := n0_
                have BK182 := n1_
                have HB := n2_
                clear n0_ n1_ n2_
                have p199 : 0 ≤ (x6_1 : Int) := of_decide_eq_true (by first | (with_reducible assumption) | assumption)
                have q199 : x6_1 < (l1.length : Int) := of_decide_eq_true (by first | (with_reducible assumption) | assumption)
                obtain ⟨ad199, e199, hx199_0, hx199_1, hx199_2⟩ := at_T28 HR1.out x6_1 p199 q199
                have hw199_2 := hx199_2
                have hw199_1 := hx199_1
                have hw199_0 := hx199_0
                (try rw [← Nbq14.out] at hx199_0); (try rw [← Nbq14.out] at hw199_0)
                obtain rfl : ad184 = ad199 := (by injection e199)
                replace hx199_0 := (HB.out.cell (World.block_lt_of_cell? w _ hx199_0)).trans hx199_0
                replace hx199_1 := (HB.out.cell (World.block_lt_of_cell? w _ hx199_1)).trans hx199_1
                replace hx199_2 := (HB.out.cell (World.block_lt_of_cell? w _ hx199_2)).trans hx199_2
                replace p199 := eq_true p199
                replace q199 := eq_true q199
                refine start_ (n := 8) (S := fun w' => w'.cell? ⟨gb182, 0, none⟩ = some (.int .u16 x183000_1) ∧ w'.cell? ⟨gb182, 1, none⟩ = some (.int .u16 x183001_1) ∧ w'.cell? ⟨gb182, 2, none⟩ = some (.bool x183002_1) ∧ w'.cell? (ad184.add ((x6_1).toNat * 3)) = some (.bool (false)) ∧ w'.cell? ⟨(ad184.add ((x6_1).toNat * 3)).block, (ad184.add ((x6_1).toNat * 3)).off + 1, none⟩ = some (.int .i64 ((rd_T28 l1 x6_1).f1)) ∧ w'.cell? ⟨(ad184.add ((x6_1).toNat * 3)).block, (ad184.add ((x6_1).toNat * 3)).off + 2, none⟩ = some (.int .u16 ((rd_T28 l1 x6_1).f2))) (ds := [7]) #[false, false, false, false, false, false, false, false] (by kernel_rfl) rfl rfl ⟨(blk_cell BK182.out 0).trans rfl, (blk_cell BK182.out 1).trans rfl, (blk_cell BK182.out 2).trans rfl, ((HB.out.cell (World.block_lt_of_cell? w _ hw199_0)).trans hw199_0), ((HB.out.cell (World.block_lt_of_cell? w _ hw199_1)).trans hw199_1), ((HB.out.cell (World.block_lt_of_cell? w _ hw199_2)).trans hw199_2)⟩ (fun hHeld => ?_); refine with_tabW culvertlaw11_LinkHears.tab16 culvertlaw11_LinkHears.bits16 (fun HT_ HW_ => ?_)
                generalize w62.drew = w63 at BK180 BK182 HB hx199_0 hx199_1 hx199_2 hHeld ⊢
                refine pure_ (i := 1) (N := some 57) (v := ?_) (a' := ?_) #[false, true, false, false, false, false, false, false] rfl rfl (any_of HT_.out (by kernel_rfl)) (fun _ _ _ h => h) (Or.inl ⟨by rfl, ?_⟩) ?_ ?_
                rotate_left
                · intro w'
                  go_simp
                  with_reducible rfl
                rotate_left
                · simp only [Act.put, List.setIfInBounds_toArray, List.set_cons_zero, List.set_cons_succ, i64_w, i32_w]
                  rfl
                refine pure_ (i := 2) (N := some 58) (v := ?_) (a' := ?_) #[false, true, true, false, false, false, false, false] rfl rfl (any_of HT_.out (by kernel_rfl)) (fun _ _ _ h => h) (Or.inl ⟨by rfl, ?_⟩) ?_ ?_
                rotate_left
                · intro w'
                  go_simp
                  with_reducible rfl
                rotate_left
                · simp only [Act.put, List.setIfInBounds_toArray, List.set_cons_zero, List.set_cons_succ, i64_w, i32_w]
                  rfl
                refine pure_ (i := 3) (N := some 59) (v := ?_) (a' := ?_) #[false, true, true, true, false, false, false, false] rfl rfl (any_of HT_.out (by kernel_rfl)) (fun _ _ _ h => h) (Or.inl ⟨by rfl, ?_⟩) ?_ ?_
                rotate_left
                · intro w'
                  go_simp
                  with_reducible rfl
                rotate_left
                · simp only [Act.put, List.setIfInBounds_toArray, List.set_cons_zero, List.set_cons_succ, i64_w, i32_w]
                  rfl
                refine pure_ (i := 4) (N := some 60) (v := ?_) (a' := ?_) #[false, true, true, true, true, false, false, false] rfl rfl (any_of HT_.out (by kernel_rfl)) (fun _ _ _ h => h) (Or.inl ⟨by rfl, ?_⟩) ?_ ?_
                rotate_left
                · intro w'
                  go_simp
                  with_reducible rfl
                rotate_left
                · simp only [Act.put, List.setIfInBounds_toArray, List.set_cons_zero, List.set_cons_succ, i64_w, i32_w]
                  rfl
                refine take_ (i := 0) (N := some 56) (v := ?_) (a' := ?_) #[true, true, true, true, true, false, false, false] rfl rfl (take_ofW HT_.out HW_.out (by kernel_rfl)) (fun _ _ _ h => h) (Or.inl ⟨by rfl, ?_⟩) hHeld ?_ ?_
                rotate_left
                · rintro w' ⟨s0, s1, s2, s3, s4, s5⟩
                  go_simp
                  with_reducible rfl
                rotate_left
                · simp only [Act.put, List.setIfInBounds_toArray, List.set_cons_zero, List.set_cons_succ, i64_w, i32_w]
                  rfl
                refine take_ (i := 5) (N := some 61) (v := ?_) (a' := ?_) #[true, true, true, true, true, true, false, false] rfl rfl (take_ofW HT_.out HW_.out (by kernel_rfl)) (fun _ _ _ h => h) (Or.inl ⟨by rfl, ?_⟩) hHeld ?_ ?_
                rotate_left
                · rintro w' ⟨s0, s1, s2, s3, s4, s5⟩
                  go_simp
                  with_reducible rfl
                rotate_left
                · simp only [Act.put, List.setIfInBounds_toArray, List.set_cons_zero, List.set_cons_succ, i64_w, i32_w]
                  rfl
                refine one_ (i := 6) (N := some 62) #[true, true, true, true, true, true, true, false] rfl rfl (one_of HT_.out (by kernel_rfl)) (by decide) (fun K hK => ?_)
                refine goes_ Try.func12 (by kernel_rfl) rfl #[.agg #[.int .u16 x183000_1, .int .u16 x183001_1, .bool x183002_1], .int .u16 ((rd_T28 l1 x6_1).f2)] (by rfl) rfl rfl (by (try simp only [List.map_toArray, List.map_cons, List.map_nil]); first | done | rfl | (simp only [List.length_drop, List.length_take]; rfl)) ?_
                with_reducible refine (culvertref11_Hear.calls k1 x183000_1 x183001_1 x183002_1 ((rd_T28 l1 x6_1).f2) t200 t201 t202 _ A41.out).mono ?_
                rintro e w64 ⟨rfl, hb⟩
                refine ⟨_, rfl, ?_⟩
                have n0_ := Aside0.mk (blk_below (g := gb180) (o := .cells #[.int .u16 t196, .int .u16 t197, .bool t198] 24 (0, 0)) (by (with_reducible repeat (first | refine blk_drewN ?_ _ | refine blk_drew ?_ | refine blk_alloc ?_ _)); exact BK180.out) hb)
                have n1_ := Aside0.mk (blk_below (g := gb182) (o := .cells #[.int .u16 x183000_1, .int .u16 x183001_1, .bool x183002_1] 24 (0, 0)) (by (with_reducible repeat (first | refine blk_drewN ?_ _ | refine blk_drew ?_ | refine blk_alloc ?_ _)); exact BK182.out) hb)
                have n2_ := Aside0.mk (below_step (by repeat (first | (with_reducible first | exact HB.out | apply below_alloc | apply pw_below_drewN | apply below_drew1 | refine below_set ?_ GE180.out | refine below_set ?_ GE182.out) | exact HB.out)) hb)
                clear BK180
                clear BK182
                clear HB
                have BK180 := n0_
                have BK182 := n1_
                have HB := n2_
                clear n0_ n1_ n2_
                (try clear hb)
                (try clear hb2)
                (try clear hk)
                (try clear hi)
                refine hK.out _ _ ⟨(blk_cell BK182.out 0).trans rfl, (blk_cell BK182.out 1).trans rfl, (blk_cell BK182.out 2).trans rfl, ((HB.out.cell (World.block_lt_of_cell? w _ hw199_0)).trans hw199_0), ((HB.out.cell (World.block_lt_of_cell? w _ hw199_1)).trans hw199_1), ((HB.out.cell (World.block_lt_of_cell? w _ hw199_2)).trans hw199_2)⟩ (fun hHeld => ?_)
                clear hK K
                refine norm_ (a' := ?_) ?_ ?_
                rotate_left
                · show Act.put _ (some 62) _ = _
                  simp only [Act.put, List.setIfInBounds_toArray, List.set_cons_zero, List.set_cons_succ, i64_w, i32_w]
                  rfl
                refine last_ (i := 7) (N := none) #[true, true, true, true, true, true, true, true] rfl rfl (one_of HT_.out (by kernel_rfl)) (by decide) (fun K hK => ?_)
                have hs65 : w64.cell? ⟨gb182, 0, none⟩ = some (.int .u16 x183000_1) := (blk_cell BK182.out 0).trans rfl
                have hfs65 := blk_frozen BK182.out 0
                have hns65_0 := NB180_182.out
                have hms65_0 := NB182_180.out
                have hs66 : w64.cell? ⟨gb182, 1, none⟩ = some (.int .u16 x183001_1) := (blk_cell BK182.out 1).trans rfl
                have hfs66 := blk_frozen BK182.out 1
                have hns66_0 := NB180_182.out
                have hms66_0 := NB182_180.out
                have hs67 : w64.cell? ⟨gb182, 2, none⟩ = some (.bool x183002_1) := (blk_cell BK182.out 2).trans rfl
                have hfs67 := blk_frozen BK182.out 2
                have hns67_0 := NB180_182.out
                have hms67_0 := NB182_180.out
                refine skip_ (w1 := ?_) (by rfl) rfl ?_ ?_
                rotate_left
                · go_simp
                  rfl
                refine hK.out _ _ ?_
                clear hK K
                refine done_ (done_of HT_.out (by kernel_rfl)) ?_
                have hnb68 := NB180_182.out
                have hnc68 := NB182_180.out
                have hcz69_0 : w64.cell? ⟨gb180, 0, none⟩ = some (.int .u16 t196) := (blk_cell BK180.out 0).trans rfl
                have hcz69_1 : w64.cell? ⟨gb180, 1, none⟩ = some (.int .u16 t197) := (blk_cell BK180.out 1).trans rfl
                have hcz69_2 : w64.cell? ⟨gb180, 2, none⟩ = some (.bool t198) := (blk_cell BK180.out 2).trans rfl
                have hfz69_0 := blk_frozen BK180.out 0
                have hfz69_1 := blk_frozen BK180.out 1
                have hfz69_2 := blk_frozen BK180.out 2
                have hcz70_0 : w64.cell? ⟨gb182, 0, none⟩ = some (.int .u16 x183000_1) := (blk_cell BK182.out 0).trans rfl
                have hcz70_1 : w64.cell? ⟨gb182, 1, none⟩ = some (.int .u16 x183001_1) := (blk_cell BK182.out 1).trans rfl
                have hcz70_2 : w64.cell? ⟨gb182, 2, none⟩ = some (.bool x183002_1) := (blk_cell BK182.out 2).trans rfl
                have hfz70_0 := blk_frozen BK182.out 0
                have hfz70_1 := blk_frozen BK182.out 1
                have hfz70_2 := blk_frozen BK182.out 2
                try go_wp2
                go_roundg k1
                case measure => have := HK1.out; omega
                case rel => exact ⟨(wrap64 (x6_1 + 1)), (t196), (t197), (t198), (t200), (t201), (t202), (by first | rfl | (simp; done) | (simp [*]; done)), H', ⟨by have := HK1.out; omega⟩, ⟨by (with_reducible repeat (first | refine blk_drewN ?_ _ | refine blk_drew ?_ | refine blk_alloc ?_ _)); refine blk_far ?_ NB180_182.out _; (with_reducible repeat (first | refine blk_drewN ?_ _ | refine blk_drew ?_ | refine blk_alloc ?_ _)); refine blk_far ?_ NB180_182.out _; (with_reducible repeat (first | refine blk_drewN ?_ _ | refine blk_drew ?_ | refine blk_alloc ?_ _)); refine blk_far ?_ NB180_182.out _; (with_reducible repeat (first | refine blk_drewN ?_ _ | refine blk_drew ?_ | refine blk_alloc ?_ _)); exact BK180.out⟩, ⟨by (with_reducible repeat (first | refine blk_drewN ?_ _ | refine blk_drew ?_ | refine blk_alloc ?_ _)); refine blk_put (cs := #[.int .u16 t200, .int .u16 t201, .bool x183002_1]) ?_ 2 _ rfl; (with_reducible repeat (first | refine blk_drewN ?_ _ | refine blk_drew ?_ | refine blk_alloc ?_ _)); refine blk_put (cs := #[.int .u16 t200, .int .u16 x183001_1, .bool x183002_1]) ?_ 1 _ rfl; (with_reducible repeat (first | refine blk_drewN ?_ _ | refine blk_drew ?_ | refine blk_alloc ?_ _)); refine blk_put (cs := #[.int .u16 x183000_1, .int .u16 x183001_1, .bool x183002_1]) ?_ 0 _ rfl; (with_reducible repeat (first | refine blk_drewN ?_ _ | refine blk_drew ?_ | refine blk_alloc ?_ _)); exact BK182.out⟩, ⟨by repeat (first | (with_reducible first | exact HB.out | apply below_alloc | apply pw_below_drewN | apply below_drew1 | refine below_set ?_ GE180.out | refine below_set ?_ GE182.out) | exact HB.out)⟩⟩
          · rw [if_neg c13] at H
            exact absurd H (by simp)
        · rw [if_neg c12] at H
          have c12b0 : decide (x6_1 < (l1.length : Int)) = false := decide_eq_false c12
          clear c12
          replace H := Option.bind_eq_some_iff.mp H
          obtain ⟨t183, A710, H⟩ := H
          replace H : (some t183) = some r := H
          have A71 := Aside0.mk A710
          clear A710
          obtain rfl := Option.some.inj H
          go_wp2_with (first | ((with_reducible refine gate_callee (f := 8) rfl ?_); refine goesL_ (some 66) rfl rfl Try.func8 (by kernel_rfl) rfl #[] rfl (by (try simp only [List.map_toArray, List.map_cons, List.map_nil]); first | done | rfl | (simp only [List.length_drop, List.length_take]; rfl)) ?_; (with_reducible refine (culvertlaw11_live.calls  t183 _ A71.out).mono ?_); rintro e w72 ⟨rfl, hb⟩; refine ⟨_, rfl, ?_⟩; have n0_ := Aside0.mk (blk_below (g := gb180) (o := .cells #[.int .u16 x181000_1, .int .u16 x181001_1, .bool x181002_1] 24 (0, 0)) (by (with_reducible repeat (first | refine blk_drewN ?_ _ | refine blk_drew ?_ | refine blk_alloc ?_ _)); exact BK180.out) hb); have n1_ := Aside0.mk (blk_below (g := gb182) (o := .cells #[.int .u16 x183000_1, .int .u16 x183001_1, .bool x183002_1] 24 (0, 0)) (by (with_reducible repeat (first | refine blk_drewN ?_ _ | refine blk_drew ?_ | refine blk_alloc ?_ _)); exact BK182.out) hb); have n2_ := Aside0.mk (below_step (by repeat (first | (with_reducible first | exact HB.out | apply below_alloc | apply pw_below_drewN | apply below_drew1 | refine below_set ?_ GE180.out | refine below_set ?_ GE182.out) | exact HB.out)) hb); clear BK180; clear BK182; clear HB; have BK180 := n0_; have BK182 := n1_; have HB := n2_; clear n0_ n1_ n2_; (try clear hb); (try clear hb2); (try clear hk); (try clear hi)))
          go_ret
          exact ⟨by first | rfl | (simp [errW_none, errW_some] <;> rfl) | (simp [*, errW_none, errW_some] <;> rfl), by repeat (first | (with_reducible first | exact HB.out | apply below_alloc | apply pw_below_drewN | apply below_drew1 | refine below_set ?_ GE180.out | refine below_set ?_ GE182.out) | exact HB.out)⟩

end Go.Proofs.Ytlhlghmpcimdlaa.MLn
