/- The walk of culvertlaw10.live: it returns true. -/
import Derived.Test.YtadgagndfmdjmaaFlM
namespace Go.Proofs.Ytadgagndfmdjmaa.Fl
open Go.RowKit Go.Proofs.Ytadgagndfmdjmaa.MFi Go.Proofs.YtadgagndfmdjmaaW.PrintWords Go.Proofs.YtadgagndfmdjmaaW.PrintLast
open Extern.Stop (cell)

def v0 : List UInt8 := [0, 0, 0, 0, 0, 0, 0, 0, 0, 0, 255, 255, 10, 0, 0, 0]
def v1 : List UInt8 := [0, 0, 0, 0, 0, 0, 0, 0, 0, 0, 255, 255, 10, 1, 0, 0]
def r0 : Rul := ⟨0, ⟨#[]⟩, ⟨v0, 104⟩, true, 8, 24, zpfx, false, no8, false, 10⟩
def pA : Par := ⟨⟨v1, 112⟩, any4⟩
def pB : Par := ⟨⟨v1, 128⟩, any4⟩
def e0 : ByteArray := ⟨#[101, 48]⟩
theorem r0_ok : r0.Ok := ⟨rfl, rfl, rfl⟩
theorem mA : matB r0 0 e0 pA no8 = true := by decide +kernel
theorem mB : matB r0 0 e0 pB no8 = false := by decide +kernel
theorem xA : metV (fun r => matB r 0 e0 pA no8) [r0] 65530 = 65535 := by decide +kernel
theorem xB : metV (fun r => matB r 1 e0 pA no8) [r0] 5 = 5 := by decide +kernel
set_option maxRecDepth 100000 in
set_option maxHeartbeats 4000000 in
theorem law_live (w : World) : Calls Try.prog 8 #[] w fun e w' => e = .returned (.bool true) ∧ Below w.heap.size w w' := by
  go_enter Try.func8, Try.ntmps8
  go_wp2_with (fail)
  refine (law_func4 _ _ _ _ _).mono ?_; rintro e w1 ⟨rfl, hb1⟩
  go_upto_region 2 with ((with_reducible refine gate_ (.store 24 (.tmp 1) _) rfl ?_); refine store_step (vs := four 10 1 0 0) 24 _ _ rfl rfl w.heap.size rfl rfl (blk_new _ _) rfl (by kernel_rfl) (by decide) hb1.size ?_; intro w2 hg2 hb2 hf2; have HB2 := Aside0.mk ((below_alloc hb1 _).trans hb2.out); clear hb2 hf2; (try simp only [Act.put]))
  go_wp2_with (fail)
  refine (law_func4 _ _ _ _ _).mono ?_; rintro e w3 ⟨rfl, hb⟩
  have HB3 := Aside0.mk (below_then HB2.out HB2.out.size hb)
  have HG3 := Aside0.mk (blk_below hg2.out hb)
  clear hb HB2 hg2
  go_upto_region 3 with ((with_reducible refine gate_ (.store 41 (.tmp 2) _) rfl ?_); refine store_step (vs := rc r0) 41 _ _ rfl rfl w.heap.size rfl rfl (blk_new _ _) rfl (by kernel_rfl) rc_one HB3.out.size ?_; intro w4 hg4 hb4 hf4; have HB4 := Aside0.mk ((below_alloc HB3.out _).trans hb4.out); have HG4 := Aside0.mk ((hf4.out w1.heap.size (Nat.ne_of_lt (blk_lt HG3.out))).trans (blk_alloc HG3.out _)); clear hb4 hf4 HB3 HG3; (try simp only [Act.put]))
  go_cut [3] from 5 (fun v w' => ∃ b, v = .pointer (some ⟨b, 0, none⟩) ∧ Below w4.heap.size w4 w' ∧ w'.heap[b]? = some (.cells (qc pA).toArray 28 (0, 0)))
  case first =>
    have HV := Aside0.mk (fun w' (hb : Below w4.heap.size w4 w') => blk_below HG4.out hb)
    refine wp_region_inv (by kernel_rfl) (fun A L a' w' => ∃ x3 x9 x10 x11 x12, a' = ((((A.put (some 9) x9).put (some 10) x10).put (some 11) x11).put (some 12) x12).put (some 3) x3 ∧ Below w4.heap.size w4 w' ∧ (L.getD 0 false = true → x9 = .agg (bs v1).toArray) ∧ (L.getD 1 false = true → x10 = .agg (pc pA.D).toArray) ∧ (L.getD 2 false = true → x11 = .agg (pc any4).toArray) ∧ (L.getD 3 false = true → x12 = .agg (qc pA).toArray) ∧ (L.getD 4 false = true → ∃ b cs, x3 = .pointer (some ⟨b, 0, none⟩) ∧ w4.heap.size ≤ b ∧ w'.heap[b]? = some (.cells cs 28 (0, 0)) ∧ cs.size = 34 ∧ (L.getD 5 false = true → cs = (qc pA).toArray)) ∧ (L.getD 5 false = true → L.getD 4 false = true)) ?_ ?_ ?_
    · refine ⟨undef, undef, undef, undef, undef, by kernel_rfl, ?_, ?_, ?_, ?_, ?_, ?_, ?_⟩
      · exact (Below.refl _ _).drew
      all_goals (intro h; simp at h)
    · intro L a' w' hL hI i hi
      have hL6 : L.size = 6 := hL
      obtain ⟨b0, b1, b2, b3, b4, b5, hLe⟩ := six_bools hL6
      subst hLe
      obtain ⟨x3, x9, x10, x11, x12, ha, hB, h0, h1, h2, h3, h4, h5⟩ := hI
      subst ha
      have hmr := mem_ready.1 hi
      obtain ⟨hju, o, ho, hall⟩ := hmr
      have hi6 : i < 6 := (Array.getElem?_eq_some_iff.1 ho).1
      clear hL hL6 hi
      rcases (show i = 0 ∨ i = 1 ∨ i = 2 ∨ i = 3 ∨ i = 4 ∨ i = 5 by omega) with rfl | rfl | rfl | rfl | rfl | rfl <;> cases ho <;> refine wpOp_plain rfl rfl ?_
      · simp only [Act.put, List.setIfInBounds_toArray, List.set_cons_zero, List.set_cons_succ]
        refine wp_load_mid (cs := bs v1) 24 _ rfl w1.heap.size 0 rfl _ (fun j v hv => ?_) Try.underlying24 rfl (by kernel_rfl) ?_
        · rw [Nat.zero_add, blk_cell (HV.out _ hB), List.getElem?_toArray]; exact hv
        · exact ⟨x3, .agg (bs v1).toArray, x10, x11, x12, by kernel_rfl, hB, fun _ => rfl, h1, h2, h3, h4, h5⟩
      · have q0 := h0 (hall ⟨0, .data⟩ (by simp) (by kernel_rfl))
        subst q0
        simp only [Act.put, List.setIfInBounds_toArray, List.set_cons_zero, List.set_cons_succ]
        refine wp_of_run (w' := w') (.agg (pc pA.D).toArray) (by kernel_rfl) ?_
        exact ⟨x3, .agg (bs v1).toArray, .agg (pc pA.D).toArray, x11, x12, by kernel_rfl, hB, fun _ => rfl, fun _ => rfl, h2, h3, h4, h5⟩
      · simp only [Act.put, List.setIfInBounds_toArray, List.set_cons_zero, List.set_cons_succ]
        refine wp_of_call (w' := w') 18 #[.int .i64 4] (by kernel_rfl) ?_
        refine (ref_any4 _).mono ?_; rintro e w'' ⟨rfl, hb⟩
        refine ⟨_, rfl, x3, x9, x10, .agg (pc any4).toArray, x12, by kernel_rfl, below_then hB hB.size hb, h0, h1, fun _ => rfl, h3, fun h => ?_, h5⟩
        have q4 := h4 h
        obtain ⟨b, cs, e1, e2, e3, e4, e5⟩ := q4
        exact ⟨b, cs, e1, e2, blk_below e3 hb, e4, e5⟩
      · have q1 := h1 (hall ⟨1, .data⟩ (by simp) (by kernel_rfl))
        have q2 := h2 (hall ⟨2, .data⟩ (by simp) (by kernel_rfl))
        subst q1 q2
        simp only [Act.put, List.setIfInBounds_toArray, List.set_cons_zero, List.set_cons_succ]
        refine wp_of_run (w' := w') (.agg (qc pA).toArray) (by kernel_rfl) ?_
        exact ⟨x3, x9, .agg (pc pA.D).toArray, .agg (pc any4).toArray, .agg (qc pA).toArray, by kernel_rfl, hB, h0, fun _ => rfl, fun _ => rfl, fun _ => rfl, h4, h5⟩
      · simp only [Act.put, List.setIfInBounds_toArray, List.set_cons_zero, List.set_cons_succ]
        refine wp_of_run (w' := w'.alloc (.cells (qc ⟨zpfx, zpfx⟩).toArray 28)) (.pointer (some ⟨w'.heap.size, 0, none⟩)) (by kernel_rfl) ?_
        exact ⟨.pointer (some ⟨w'.heap.size, 0, none⟩), x9, x10, x11, x12, by kernel_rfl, below_alloc hB _, h0, h1, h2, h3, fun _ => ⟨_, _, rfl, hB.size, blk_new _ _, rfl, fun h => absurd ((h5 h).symm.trans hju) (by decide)⟩, fun _ => rfl⟩
      · have q4 := h4 (hall ⟨4, .data⟩ (by simp) (by kernel_rfl))
        have q3 := h3 (hall ⟨3, .data⟩ (by simp) (by kernel_rfl))
        obtain ⟨b, cs, e1, e2, e3, e4, e5⟩ := q4
        subst e1 q3
        simp only [Act.put, List.setIfInBounds_toArray, List.set_cons_zero, List.set_cons_succ]
        have hw := whole (vs := qc pA) e3 (e4 ▸ rfl) e2
        refine wp_store_mid 28 _ _ rfl b 0 (qc pA).toArray rfl rfl (fun j hj => ?_) (by kernel_rfl) (by kernel_rfl) ?_
        · have hj' : j < cs.size := by rw [e4]; exact hj
          rw [Nat.zero_add, blk_cell e3, blk_frozen e3]; simp [hj']
        · exact ⟨.pointer (some ⟨b, 0, none⟩), x9, x10, x11, .agg (qc pA).toArray, by kernel_rfl, hB.trans hw.2.1, h0, h1, h2, fun _ => rfl, fun _ => ⟨b, _, rfl, e2, hw.1, rfl, fun _ => rfl⟩, fun _ => hall ⟨4, .data⟩ (by simp) (by kernel_rfl)⟩
    · intro L a' w' hL hI hr
      have hL6 : L.size = 6 := hL
      obtain ⟨b0, b1, b2, b3, b4, b5, hLe⟩ := six_bools hL6
      subst hLe
      obtain ⟨x3, x9, x10, x11, x12, ha, hB, h0, h1, h2, h3, h4, h5⟩ := hI
      subst ha
      have h45 : b4 = true ∧ b5 = true := by cases b0 <;> cases b1 <;> cases b2 <;> cases b3 <;> cases b4 <;> cases b5 <;> first | exact ⟨rfl, rfl⟩ | exact absurd hr (by decide +kernel)
      have q4 := h4 h45.1
      obtain ⟨b, cs, e1, e2, e3, e4, e5⟩ := q4
      subst e1
      have q5 := e5 h45.2
      rw [q5] at e3
      clear h0 h1 h2 h3 h4 h5 hr hL hL6 e5 q5 h45
      simp only [Act.put, List.setIfInBounds_toArray, List.set_cons_zero, List.set_cons_succ]
      go_wp2_with (fail)
      go_meet
      case rel => exact ⟨b, rfl, hB, e3⟩
  case rest =>
    obtain ⟨bA, rfl, HB5, HA5⟩ := hcut
    have HBA := Aside0.mk (below_then HB4.out HB4.out.size HB5)
    have HGA := Aside0.mk HA5
    have HG5 := Aside0.mk (blk_below HG4.out HB5)
    have hg5 := Aside0.mk (blk_below hg4.out HB5)
    have w5e : wc = wc := rfl
    clear HB5 HA5 HB4 HG4 hg4 w5e
    go_upto_region 4 with (fail)
    generalize wc = w5 at *
    go_cut [4] from 5 (fun v w' => ∃ b, v = .pointer (some ⟨b, 0, none⟩) ∧ Below w5.heap.size w5 w' ∧ w'.heap[b]? = some (.cells (qc pB).toArray 28 (0, 0)))
    case first =>
      have HV := Aside0.mk (fun w' (hb : Below w5.heap.size w5 w') => blk_below HG5.out hb)
      refine wp_region_inv (by kernel_rfl) (fun A L a' w' => ∃ x3 x9 x10 x11 x12, a' = ((((A.put (some 13) x9).put (some 14) x10).put (some 15) x11).put (some 16) x12).put (some 4) x3 ∧ Below w5.heap.size w5 w' ∧ (L.getD 0 false = true → x9 = .agg (bs v1).toArray) ∧ (L.getD 1 false = true → x10 = .agg (pc pB.D).toArray) ∧ (L.getD 2 false = true → x11 = .agg (pc any4).toArray) ∧ (L.getD 3 false = true → x12 = .agg (qc pB).toArray) ∧ (L.getD 4 false = true → ∃ b cs, x3 = .pointer (some ⟨b, 0, none⟩) ∧ w5.heap.size ≤ b ∧ w'.heap[b]? = some (.cells cs 28 (0, 0)) ∧ cs.size = 34 ∧ (L.getD 5 false = true → cs = (qc pB).toArray)) ∧ (L.getD 5 false = true → L.getD 4 false = true)) ?_ ?_ ?_
      · refine ⟨undef, u13, u14, u15, u16, by kernel_rfl, ?_, ?_, ?_, ?_, ?_, ?_, ?_⟩
        · exact (Below.refl _ _).drew
        all_goals (intro h; simp at h)
      · intro L a' w' hL hI i hi
        have hL6 : L.size = 6 := hL
        obtain ⟨b0, b1, b2, b3, b4, b5, hLe⟩ := six_bools hL6
        subst hLe
        obtain ⟨x3, x9, x10, x11, x12, ha, hB, h0, h1, h2, h3, h4, h5⟩ := hI
        subst ha
        have hmr := mem_ready.1 hi
        obtain ⟨hju, o, ho, hall⟩ := hmr
        have hi6 : i < 6 := (Array.getElem?_eq_some_iff.1 ho).1
        clear hL hL6 hi
        rcases (show i = 0 ∨ i = 1 ∨ i = 2 ∨ i = 3 ∨ i = 4 ∨ i = 5 by omega) with rfl | rfl | rfl | rfl | rfl | rfl <;> cases ho <;> refine wpOp_plain rfl rfl ?_
        · simp only [Act.put, List.setIfInBounds_toArray, List.set_cons_zero, List.set_cons_succ]
          refine wp_load_mid (cs := bs v1) 24 _ rfl w1.heap.size 0 rfl _ (fun j v hv => ?_) Try.underlying24 rfl (by kernel_rfl) ?_
          · rw [Nat.zero_add, blk_cell (HV.out _ hB), List.getElem?_toArray]; exact hv
          · exact ⟨x3, .agg (bs v1).toArray, x10, x11, x12, by kernel_rfl, hB, fun _ => rfl, h1, h2, h3, h4, h5⟩
        · have q0 := h0 (hall ⟨0, .data⟩ (by simp) (by kernel_rfl))
          subst q0
          simp only [Act.put, List.setIfInBounds_toArray, List.set_cons_zero, List.set_cons_succ]
          refine wp_of_run (w' := w') (.agg (pc pB.D).toArray) (by kernel_rfl) ?_
          exact ⟨x3, .agg (bs v1).toArray, .agg (pc pB.D).toArray, x11, x12, by kernel_rfl, hB, fun _ => rfl, fun _ => rfl, h2, h3, h4, h5⟩
        · simp only [Act.put, List.setIfInBounds_toArray, List.set_cons_zero, List.set_cons_succ]
          refine wp_of_call (w' := w') 18 #[.int .i64 4] (by kernel_rfl) ?_
          refine (ref_any4 _).mono ?_; rintro e w'' ⟨rfl, hb⟩
          refine ⟨_, rfl, x3, x9, x10, .agg (pc any4).toArray, x12, by kernel_rfl, below_then hB hB.size hb, h0, h1, fun _ => rfl, h3, fun h => ?_, h5⟩
          have q4 := h4 h
          obtain ⟨b, cs, e1, e2, e3, e4, e5⟩ := q4
          exact ⟨b, cs, e1, e2, blk_below e3 hb, e4, e5⟩
        · have q1 := h1 (hall ⟨1, .data⟩ (by simp) (by kernel_rfl))
          have q2 := h2 (hall ⟨2, .data⟩ (by simp) (by kernel_rfl))
          subst q1 q2
          simp only [Act.put, List.setIfInBounds_toArray, List.set_cons_zero, List.set_cons_succ]
          refine wp_of_run (w' := w') (.agg (qc pB).toArray) (by kernel_rfl) ?_
          exact ⟨x3, x9, .agg (pc pB.D).toArray, .agg (pc any4).toArray, .agg (qc pB).toArray, by kernel_rfl, hB, h0, fun _ => rfl, fun _ => rfl, fun _ => rfl, h4, h5⟩
        · simp only [Act.put, List.setIfInBounds_toArray, List.set_cons_zero, List.set_cons_succ]
          refine wp_of_run (w' := w'.alloc (.cells (qc ⟨zpfx, zpfx⟩).toArray 28)) (.pointer (some ⟨w'.heap.size, 0, none⟩)) (by kernel_rfl) ?_
          exact ⟨.pointer (some ⟨w'.heap.size, 0, none⟩), x9, x10, x11, x12, by kernel_rfl, below_alloc hB _, h0, h1, h2, h3, fun _ => ⟨_, _, rfl, hB.size, blk_new _ _, rfl, fun h => absurd ((h5 h).symm.trans hju) (by decide)⟩, fun _ => rfl⟩
        · have q4 := h4 (hall ⟨4, .data⟩ (by simp) (by kernel_rfl))
          have q3 := h3 (hall ⟨3, .data⟩ (by simp) (by kernel_rfl))
          obtain ⟨b, cs, e1, e2, e3, e4, e5⟩ := q4
          subst e1 q3
          simp only [Act.put, List.setIfInBounds_toArray, List.set_cons_zero, List.set_cons_succ]
          have hw := whole (vs := qc pB) e3 (e4 ▸ rfl) e2
          refine wp_store_mid 28 _ _ rfl b 0 (qc pB).toArray rfl rfl (fun j hj => ?_) (by kernel_rfl) (by kernel_rfl) ?_
          · have hj' : j < cs.size := by rw [e4]; exact hj
            rw [Nat.zero_add, blk_cell e3, blk_frozen e3]; simp [hj']
          · exact ⟨.pointer (some ⟨b, 0, none⟩), x9, x10, x11, .agg (qc pB).toArray, by kernel_rfl, hB.trans hw.2.1, h0, h1, h2, fun _ => rfl, fun _ => ⟨b, _, rfl, e2, hw.1, rfl, fun _ => rfl⟩, fun _ => hall ⟨4, .data⟩ (by simp) (by kernel_rfl)⟩
      · intro L a' w' hL hI hr
        have hL6 : L.size = 6 := hL
        obtain ⟨b0, b1, b2, b3, b4, b5, hLe⟩ := six_bools hL6
        subst hLe
        obtain ⟨x3, x9, x10, x11, x12, ha, hB, h0, h1, h2, h3, h4, h5⟩ := hI
        subst ha
        have h45 : b4 = true ∧ b5 = true := by cases b0 <;> cases b1 <;> cases b2 <;> cases b3 <;> cases b4 <;> cases b5 <;> first | exact ⟨rfl, rfl⟩ | exact absurd hr (by decide +kernel)
        have q4 := h4 h45.1
        obtain ⟨b, cs, e1, e2, e3, e4, e5⟩ := q4
        subst e1
        have q5 := e5 h45.2
        rw [q5] at e3
        clear h0 h1 h2 h3 h4 h5 hr hL hL6 e5 q5 h45
        simp only [Act.put, List.setIfInBounds_toArray, List.set_cons_zero, List.set_cons_succ]
        go_wp2_with (fail)
        go_meet
        case rel => exact ⟨b, rfl, hB, e3⟩
    case rest =>
      obtain ⟨bB, rfl, HB6, HA6⟩ := hcut
      have HBB := Aside0.mk (below_then HBA.out HBA.out.size HB6)
      have HGB := Aside0.mk HA6
      have HGA' := Aside0.mk (blk_below HGA.out HB6)
      have HR := Aside0.mk (blk_below hg5.out HB6)
      clear HB6 HA6 HBA HGA HG5 hg5
      have l41 : _ := (rul_blk r0_ok HR.out).2.2.2
      have lA := par_all (q := pA) ⟨rfl, rfl⟩ HGA'.out
      go_wp2_with (first | ((with_reducible refine gate_dst (N := 17) rfl ?_); (try (refine gate_guard (by rfl) ?_; dsimp only)); refine load_step 41 _ rfl rfl _ l41 ?_; (try simp only [Act.put, List.setIfInBounds_toArray, List.set_cons_zero, List.set_cons_succ])) | ((with_reducible refine gate_dst (N := 18) rfl ?_); (try (refine gate_guard (by rfl) ?_; dsimp only)); refine load_step 28 _ rfl rfl _ lA ?_; (try simp only [Act.put, List.setIfInBounds_toArray, List.set_cons_zero, List.set_cons_succ])))
      refine (fil_matches_ r0 r0_ok 0 e0 pA ⟨rfl, rfl⟩ ⟨by decide, by decide⟩ no8 rfl _ _ mA).mono ?_; rintro e w7 ⟨rfl, hbb⟩
      have HB7 := Aside0.mk (below_then HBB.out HBB.out.size hbb)
      have HR7 := Aside0.mk (blk_below HR.out hbb)
      have HA7 := Aside0.mk (blk_below HGA'.out hbb)
      have HC7 := Aside0.mk (blk_below HGB.out hbb)
      clear l41 lA HR HGA' HGB HBB hbb
      have l41 : _ := (rul_blk r0_ok HR7.out).2.2.2
      have lB := par_all (q := pB) ⟨rfl, rfl⟩ HC7.out
      go_wp2_with (first | ((with_reducible refine gate_dst (N := 22) rfl ?_); (try (refine gate_guard (by rfl) ?_; dsimp only)); refine load_step 41 _ rfl rfl _ l41 ?_; (try simp only [Act.put, List.setIfInBounds_toArray, List.set_cons_zero, List.set_cons_succ])) | ((with_reducible refine gate_dst (N := 23) rfl ?_); (try (refine gate_guard (by rfl) ?_; dsimp only)); refine load_step 28 _ rfl rfl _ lB ?_; (try simp only [Act.put, List.setIfInBounds_toArray, List.set_cons_zero, List.set_cons_succ])))
      refine (fil_matches_ r0 r0_ok 0 e0 pB ⟨rfl, rfl⟩ ⟨by decide, by decide⟩ no8 rfl _ _ mB).mono ?_; rintro e w8 ⟨rfl, hbb⟩
      have HB8 := Aside0.mk (below_then HB7.out HB7.out.size hbb)
      have HR8 := Aside0.mk (blk_below HR7.out hbb)
      have HA8 := Aside0.mk (blk_below HA7.out hbb)
      clear l41 lB HR7 HA7 HC7 HB7 hbb
      have l41 : _ := (rul_blk r0_ok HR8.out).2.2.2
      have lA := par_all (q := pA) ⟨rfl, rfl⟩ HA8.out
      go_wp2_with (first | ((with_reducible refine gate_dst (N := 31) rfl ?_); (try (refine gate_guard (by rfl) ?_; dsimp only)); refine load_step 41 _ rfl rfl _ l41 ?_; (try simp only [Act.put, List.setIfInBounds_toArray, List.set_cons_zero, List.set_cons_succ])) | ((with_reducible refine gate_dst (N := 29) rfl ?_); (try (refine gate_guard (by rfl) ?_; dsimp only)); refine load_step 28 _ rfl rfl _ lA ?_; (try simp only [Act.put, List.setIfInBounds_toArray, List.set_cons_zero, List.set_cons_succ])))
      rw [fold_row (rc r0) _ (by rfl)]
      refine (fil_metric_ _ 1 [r0] 1 rfl 0 e0 pA ⟨rfl, rfl⟩ ⟨by decide, by decide⟩ no8 rfl 65530 ⟨by decide, by decide⟩ _ (RD_one r0_ok (blk_new _ _)) _ xA).mono ?_; rintro e w9 ⟨rfl, hbb⟩
      have hal := below_alloc (Below.refl w8.heap.size w8) (Obj.cells (rc r0).toArray 41)
      have hbb' := below_then hal hal.size hbb
      have HB9 := Aside0.mk (below_then HB8.out HB8.out.size hbb')
      have HR9 := Aside0.mk (blk_below HR8.out hbb')
      have HA9 := Aside0.mk (blk_below HA8.out hbb')
      clear l41 lA HR8 HA8 HB8 hbb hbb' hal
      have l41 : _ := (rul_blk r0_ok HR9.out).2.2.2
      have lA := par_all (q := pA) ⟨rfl, rfl⟩ HA9.out
      go_wp2_with (first | ((with_reducible refine gate_dst (N := 39) rfl ?_); (try (refine gate_guard (by rfl) ?_; dsimp only)); refine load_step 41 _ rfl rfl _ l41 ?_; (try simp only [Act.put, List.setIfInBounds_toArray, List.set_cons_zero, List.set_cons_succ])) | ((with_reducible refine gate_dst (N := 37) rfl ?_); (try (refine gate_guard (by rfl) ?_; dsimp only)); refine load_step 28 _ rfl rfl _ lA ?_; (try simp only [Act.put, List.setIfInBounds_toArray, List.set_cons_zero, List.set_cons_succ])))
      rw [fold_row (rc r0) _ (by rfl)]
      refine (fil_metric_ _ 1 [r0] 1 rfl 1 e0 pA ⟨rfl, rfl⟩ ⟨by decide, by decide⟩ no8 rfl 5 ⟨by decide, by decide⟩ _ (RD_one r0_ok (blk_new _ _)) _ xB).mono ?_; rintro e w10 ⟨rfl, hbb⟩
      have hal := below_alloc (Below.refl w9.heap.size w9) (Obj.cells (rc r0).toArray 41)
      have HBX := Aside0.mk (below_then HB9.out HB9.out.size (below_then hal hal.size hbb))
      clear l41 lA HR9 HA9 HB9 hbb hal
      go_wp2_with (fail)
      go_ret
      exact ⟨rfl, HBX.out⟩

end Go.Proofs.Ytadgagndfmdjmaa.Fl
