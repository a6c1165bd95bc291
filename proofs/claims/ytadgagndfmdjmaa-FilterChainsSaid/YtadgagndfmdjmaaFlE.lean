/- Walks of filter.bits and filter.to; rules in memory. -/
import Derived.Test.YtadgagndfmdjmaaFlD
namespace Go.Proofs.Ytadgagndfmdjmaa.Fl
open Go.RowKit Go.Proofs.YtadgagndfmdjmaaW.PrintWords Go.Proofs.YtadgagndfmdjmaaW.PrintLast
open Extern.Stop (cell)

theorem field_any4 (w : World) : (Instr.field 26 (.agg (pc any4).toArray) 1).run Try.prog w = .ok (.int .i64 96) w := by kernel_rfl
theorem field_any6 (w : World) : (Instr.field 26 (.agg (pc any6).toArray) 1).run Try.prog w = .ok (.int .i64 0) w := by kernel_rfl
theorem fil_bits (p : Pfx) (hp : p.Ok) (h0 : -9223372036854775808 ≤ p.L) (h1 : p.L ≤ 9223372036854775807) (w : World) :
    Calls Try.prog 32 #[.agg (pc p).toArray] w fun e w' => e = .returned (.int .i64 (nbits p)) ∧ Below w.heap.size w w' := by
  have hg0 := blk_new w (Obj.cells (pc p).toArray 26)
  rcases pfam_two p with h | h
  · have h96 := pfam_L h
    have HR := Aside0.mk (show nbits p = p.L - 96 from if_pos h)
    go_enter Try.func32, Try.ntmps32
    go_wp2_with (fail)
    generalize hw0 : w.alloc (Obj.cells (pc p).toArray 26) = w0 at *
    have HB0 : Aside0 (Below w.heap.size w w0) := ⟨by rw [← hw0]; exact below_alloc (Below.refl _ _) _⟩
    clear hw0
    refine region_quietB (by kernel_rfl) (by kernel_rfl) ?_
    intro X F _ HB HN
    have l26 : ∀ y, _ := fun y => (pfx_blk hp (blk_below hg0 (HB.out y))).2.1
    have c16 : ∀ y, _ := fun y => (pfx_blk hp (blk_below hg0 (HB.out y))).2.2.1
    have hf := fun y => field_any4 (F y)
    repeat (first | (go_big_quiet_want; refine quiet_loadF 5 rfl 26 _ rfl _ l26 ?_; (simp only [Act.put, List.setIfInBounds_toArray, List.set_cons_zero, List.set_cons_succ]); go_big_quiet_on) | (go_big_quiet_step (((first | with_reducible refine (addr_pfam_ p hp _ _ h).mono ?_ | with_reducible refine (addr_any4 _).mono ?_); rintro e w2 ⟨rfl, hb2⟩; exact ⟨rfl, HN.out _ _ hb2⟩))))
    refine wpQuiet_nil ?_
    rintro w' ⟨x, rfl⟩
    have HB3 := Aside0.mk (below_then HB0.out HB0.out.size (HB.out x))
    clear l26 c16 HB HN hg0 hf
    go_wp2_with (fail)
    go_ret
    exact ⟨by rw [HR.out]; rfl, HB3.out⟩
  · have HR := Aside0.mk (show nbits p = p.L from if_neg (by omega))
    go_enter Try.func32, Try.ntmps32
    go_wp2_with (fail)
    generalize hw0 : w.alloc (Obj.cells (pc p).toArray 26) = w0 at *
    have HB0 : Aside0 (Below w.heap.size w w0) := ⟨by rw [← hw0]; exact below_alloc (Below.refl _ _) _⟩
    clear hw0
    refine region_quietB (by kernel_rfl) (by kernel_rfl) ?_
    intro X F _ HB HN
    have l26 : ∀ y, _ := fun y => (pfx_blk hp (blk_below hg0 (HB.out y))).2.1
    have c16 : ∀ y, _ := fun y => (pfx_blk hp (blk_below hg0 (HB.out y))).2.2.1
    have hf := fun y => field_any6 (F y)
    repeat (first | (go_big_quiet_want; refine quiet_loadF 5 rfl 26 _ rfl _ l26 ?_; (simp only [Act.put, List.setIfInBounds_toArray, List.set_cons_zero, List.set_cons_succ]); go_big_quiet_on) | (go_big_quiet_step (((first | with_reducible refine (addr_pfam_ p hp _ _ h).mono ?_ | with_reducible refine (addr_any6 _).mono ?_); rintro e w2 ⟨rfl, hb2⟩; exact ⟨rfl, HN.out _ _ hb2⟩))))
    refine wpQuiet_nil ?_
    rintro w' ⟨x, rfl⟩
    have HB3 := Aside0.mk (below_then HB0.out HB0.out.size (HB.out x))
    clear l26 c16 HB HN hg0 hf
    go_wp2_with (fail)
    go_ret
    exact ⟨by rw [HR.out]; rfl, HB3.out⟩

/-- A rule. -/
structure Rul where
  C : Int
  I : ByteArray
  D : Pfx
  HD : Bool
  G : Int
  E : Int
  S : Pfx
  HS : Bool
  R : List UInt8
  N : Bool
  X : Int
def Rul.Ok (r : Rul) : Prop := r.D.Ok ∧ r.S.Ok ∧ r.R.length = 8
def rc (r : Rul) : List Value := [.int .i64 r.C, .string r.I] ++ (pc r.D ++ ([.bool r.HD, .int .i64 r.G, .int .i64 r.E] ++ (pc r.S ++ ([.bool r.HS] ++ (bs r.R ++ [.bool r.N, .int .i64 r.X])))))
theorem rc_len {r : Rul} (h : r.Ok) : (rc r).length = 50 := by simp [rc, pc_len h.1, pc_len h.2.1, bs_len, h.2.2]
theorem rc_0 (r : Rul) : (rc r)[0]? = some (.int .i64 r.C) := rfl
theorem rc_1 (r : Rul) : (rc r)[1]? = some (.string r.I) := rfl
theorem rc_at {r : Rul} (h : r.Ok) : (rc r)[19]? = some (.bool r.HD) ∧ (rc r)[20]? = some (.int .i64 r.G) ∧ (rc r)[21]? = some (.int .i64 r.E) ∧ (rc r)[39]? = some (.bool r.HS) ∧ (rc r)[48]? = some (.bool r.N) ∧ (rc r)[49]? = some (.int .i64 r.X) := by
  have hD := pc_len h.1
  have hS := pc_len h.2.1
  have hR := (bs_len r.R).trans h.2.2
  refine ⟨?_, ?_, ?_, ?_, ?_, ?_⟩ <;> simp [rc, hD, hS, hR]
theorem drop_two (a b : Value) (l : List Value) : ([a, b] ++ l).drop 2 = l := rfl
theorem drop_three (a b c : Value) (l : List Value) : ([a, b, c] ++ l).drop 3 = l := rfl
theorem drop_one (a : Value) (l : List Value) : ([a] ++ l).drop 1 = l := rfl
theorem rc_D {r : Rul} (h : r.Ok) : ((rc r).drop 2).take 17 = pc r.D := by
  unfold rc
  rw [drop_two, List.take_left' (pc_len h.1)]
theorem rc_S {r : Rul} (h : r.Ok) : ((rc r).drop 22).take 17 = pc r.S := by
  unfold rc
  rw [show (22 : Nat) = 2 + (17 + 3) from rfl, ← List.drop_drop, drop_two, ← List.drop_drop, List.drop_left' (pc_len h.1), drop_three, List.take_left' (pc_len h.2.1)]
theorem rc_R {r : Rul} (h : r.Ok) : ((rc r).drop 40).take 8 = bs r.R := by
  unfold rc
  rw [show (40 : Nat) = 2 + (17 + (3 + (17 + 1))) from rfl, ← List.drop_drop, drop_two, ← List.drop_drop, List.drop_left' (pc_len h.1), ← List.drop_drop, drop_three, ← List.drop_drop, List.drop_left' (pc_len h.2.1), drop_one, List.take_left' ((bs_len r.R).trans h.2.2)]
theorem rul_blk {r : Rul} (h : r.Ok) {w : World} {b : Nat} {T : TypeId} (hb : w.heap[b]? = some (.cells (rc r).toArray T (0, 0))) :
    (Instr.loadAt 26 (.pointer (some ⟨b, 2, none⟩))).run Try.prog w = .ok (.agg (pc r.D).toArray) w ∧ (Instr.loadAt 26 (.pointer (some ⟨b, 22, none⟩))).run Try.prog w = .ok (.agg (pc r.S).toArray) w ∧
    (Instr.loadAt 30 (.pointer (some ⟨b, 40, none⟩))).run Try.prog w = .ok (.agg (bs r.R).toArray) w ∧ (Instr.loadAt 41 (.pointer (some ⟨b, 0, none⟩))).run Try.prog w = .ok (.agg (rc r).toArray) w :=
  ⟨load_mid hb (rc_D h) (pc_len h.1) Try.underlying26 rfl (by kernel_rfl), load_mid hb (rc_S h) (pc_len h.2.1) Try.underlying26 rfl (by kernel_rfl),
   load_mid hb (rc_R h) ((bs_len r.R).trans h.2.2) Try.underlying30 rfl (by kernel_rfl), load_mid hb (by rw [List.drop_zero, List.take_of_length_le (by rw [rc_len h]; omega)]) (rc_len h) Try.underlying41 rfl (by kernel_rfl)⟩
theorem rul_cell {r : Rul} (h : r.Ok) {w : World} {b : Nat} {T : TypeId} (hb : w.heap[b]? = some (.cells (rc r).toArray T (0, 0))) :
    w.cell? ⟨b, 0, none⟩ = some (.int .i64 r.C) ∧ w.cell? ⟨b, 1, none⟩ = some (.string r.I) ∧ w.cell? ⟨b, 19, none⟩ = some (.bool r.HD) ∧ w.cell? ⟨b, 20, none⟩ = some (.int .i64 r.G) ∧ w.cell? ⟨b, 21, none⟩ = some (.int .i64 r.E) ∧
    w.cell? ⟨b, 39, none⟩ = some (.bool r.HS) ∧ w.cell? ⟨b, 48, none⟩ = some (.bool r.N) ∧ w.cell? ⟨b, 49, none⟩ = some (.int .i64 r.X) := by
  obtain ⟨h1, h2, h3, h4, h5, h6⟩ := rc_at h
  refine ⟨?_, ?_, ?_, ?_, ?_, ?_, ?_, ?_⟩ <;> (rw [blk_cell hb, List.getElem?_toArray]; first | rfl | assumption)

/-- filter's 'to'. -/
def toB (r : Rul) (p : Pfx) : Bool := !r.HD || ((pfam r.D == pfam p) && (acov r.D p && (decide (r.G ≤ nbits p) && decide (nbits p ≤ r.E))))
/-- A length that an int holds. -/
def In64 (n : Int) : Prop := -9223372036854775808 ≤ n ∧ n ≤ 9223372036854775807
theorem fil_bits_ (p : Pfx) (hp : p.Ok) (hL : In64 p.L) (w : World) (n : Int) (hn : nbits p = n) :
    Calls Try.prog 32 #[.agg (pc p).toArray] w fun e w' => e = .returned (.int .i64 n) ∧ Below w.heap.size w w' := hn ▸ fil_bits p hp hL.1 hL.2 w
theorem addr_covers_ (p : Pfx) (hp : p.Ok) (q : Pfx) (hq : q.Ok) (w : World) (b : Bool) (hb : acov p q = b) :
    Calls Try.prog 21 #[.agg (pc p).toArray, .agg (pc q).toArray] w fun e w' => e = .returned (.bool b) ∧ Below w.heap.size w w' := hb ▸ addr_covers p hp q hq w
set_option maxHeartbeats 8000000 in
theorem fil_to (r : Rul) (hr : r.Ok) (p : Pfx) (hp : p.Ok) (hL : In64 p.L) (w : World) :
    Calls Try.prog 22 #[.agg (rc r).toArray, .agg (pc p).toArray] w fun e w' => e = .returned (.bool (toB r p)) ∧ Below w.heap.size w w' := by
  have hg0 : ((w.alloc (Obj.cells (rc r).toArray 41)).alloc (Obj.cells (pc p).toArray 26)).heap[w.heap.size]? = some (Obj.cells (rc r).toArray 41 (0, 0)) := blk_alloc (blk_new _ _) _
  have hg1 : ((w.alloc (Obj.cells (rc r).toArray 41)).alloc (Obj.cells (pc p).toArray 26)).heap[w.heap.size + 1]? = some (Obj.cells (pc p).toArray 26 (0, 0)) := by have := blk_new (w.alloc (Obj.cells (rc r).toArray 41)) (Obj.cells (pc p).toArray 26); simpa using this
  have HB0 : Aside0 (Below w.heap.size w ((w.alloc (Obj.cells (rc r).toArray 41)).alloc (Obj.cells (pc p).toArray 26))) := ⟨below_alloc (below_alloc (Below.refl _ _) _) _⟩
  have c19 := (rc_at hr).1
  have hD := hr.1
  cases hHD : r.HD with
  | false =>
    rw [hHD] at c19
    have HR := Aside0.mk (show toB r p = true by unfold toB; rw [hHD]; rfl)
    go_enter Try.func22, Try.ntmps22
    go_wp2_with (fail)
    go_ret
    exact ⟨by rw [HR.out]; rfl, HB0.out⟩
  | true =>
    rw [hHD] at c19
    have l26 := (pfx_blk hp hg1).2.1
    obtain ⟨n, hn⟩ : ∃ n, nbits p = n := ⟨_, rfl⟩
    have key : ∀ (fd fp : Int) (cv dg de : Bool), pfam r.D = fd → pfam p = fp → acov r.D p = cv → decide (r.G ≤ n) = dg → decide (n ≤ r.E) = de → (fd = 4 ∨ fd = 6) → (fp = 4 ∨ fp = 6) → (cv = true ∨ cv = false) → (dg = true ∨ dg = false) → (de = true ∨ de = false) →
        Calls Try.prog 22 #[.agg (rc r).toArray, .agg (pc p).toArray] w fun e w' => e = .returned (.bool (toB r p)) ∧ Below w.heap.size w w' := by
      intro fd fp cv dg de hfd hfp hcv hdg hde bfd bfp bcv bdg bde
      have HR := Aside0.mk (show toB r p = ((fd == fp) && (cv && (dg && de))) by unfold toB; rw [hHD, hfd, hfp, hcv, hn, hdg, hde]; rfl)
      have HC := Aside0.mk (And.intro hdg hde)
      clear hdg hde hHD
      go_enter Try.func22, Try.ntmps22
      go_wp2_with ((with_reducible refine gate_dst (N := 9) rfl ?_); (try (refine gate_guard (by rfl) ?_; dsimp only)); refine load_step 26 _ rfl rfl _ l26 ?_)
      refine (fil_bits_ p hp hL _ n hn).mono ?_; rintro e w1 ⟨rfl, hb1⟩
      have HB1 := Aside0.mk (below_then HB0.out HB0.out.size hb1)
      have hh0 := blk_below hg0 hb1
      have hh1 := blk_below hg1 hb1
      clear hb1 hg0 hg1 HB0 l26 c19
      go_wp2_with (fail)
      refine region_quietB (by kernel_rfl) (by kernel_rfl) ?_
      intro X F _ HB HN
      have lD : ∀ y, _ := fun y => (rul_blk hr (blk_below hh0 (HB.out y))).1
      have lP : ∀ y, _ := fun y => (pfx_blk hp (blk_below hh1 (HB.out y))).2.1
      have c20 : ∀ y, _ := fun y => (rul_cell hr (blk_below hh0 (HB.out y))).2.2.2.1
      have c21 : ∀ y, _ := fun y => (rul_cell hr (blk_below hh0 (HB.out y))).2.2.2.2.1
      obtain ⟨dG, dE⟩ := HC.out
      rcases bfd with rfl | rfl <;> rcases bfp with rfl | rfl <;> rcases bcv with rfl | rfl <;> rcases bdg with rfl | rfl <;> rcases bde with rfl | rfl <;> (
        repeat (first | (go_big_quiet_want; refine quiet_loadF 12 rfl 26 _ rfl _ lD ?_; (simp only [Act.put, List.setIfInBounds_toArray, List.set_cons_zero, List.set_cons_succ]); go_big_quiet_on) | (go_big_quiet_want; refine quiet_loadF 14 rfl 26 _ rfl _ lP ?_; (simp only [Act.put, List.setIfInBounds_toArray, List.set_cons_zero, List.set_cons_succ]); go_big_quiet_on) | (go_big_quiet_want; refine quiet_loadF 19 rfl 26 _ rfl _ lD ?_; (simp only [Act.put, List.setIfInBounds_toArray, List.set_cons_zero, List.set_cons_succ]); go_big_quiet_on) | (go_big_quiet_want; refine quiet_loadF 20 rfl 26 _ rfl _ lP ?_; (simp only [Act.put, List.setIfInBounds_toArray, List.set_cons_zero, List.set_cons_succ]); go_big_quiet_on) | (go_big_quiet_step (((first | with_reducible refine (addr_pfam_ r.D hD _ _ hfd).mono ?_ | with_reducible refine (addr_pfam_ p hp _ _ hfp).mono ?_ | with_reducible refine (addr_covers_ r.D hD p hp _ _ hcv).mono ?_); rintro e w2 ⟨rfl, hb2⟩; exact ⟨rfl, HN.out _ _ hb2⟩))))
        refine wpQuiet_nil ?_
        rintro w' ⟨x, rfl⟩
        have HB3 := Aside0.mk (below_then HB1.out HB1.out.size (HB.out x))
        clear lD lP c20 c21 HB HN hh0 hh1 dG dE
        go_wp2_with (fail)
        go_ret
        exact ⟨by rw [HR.out]; rfl, HB3.out⟩)
    exact key _ _ _ _ _ rfl rfl rfl rfl rfl (pfam_two _) (pfam_two _) (by cases acov r.D p <;> simp) (by cases decide (r.G ≤ n) <;> simp) (by cases decide (n ≤ r.E) <;> simp)
end Go.Proofs.Ytadgagndfmdjmaa.Fl
