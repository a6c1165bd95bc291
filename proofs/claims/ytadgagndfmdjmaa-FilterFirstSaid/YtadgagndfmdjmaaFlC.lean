/- Walks of addr's functions: masked, Check, Contains, Covers. -/
import Derived.Test.YtadgagndfmdjmaaFlB
namespace Go.Proofs.Ytadgagndfmdjmaa.Fl
open Go.RowKit Go.Proofs.YtadgagndfmdjmaaW.PrintWords Go.Proofs.YtadgagndfmdjmaaW.PrintLast
open Extern.Stop (cell)

/-- How many bits of byte i lie ahead of bit n. -/
def keep (n i : Int) : Int := if n - 8 * i < 0 then 0 else if 8 < n - 8 * i then 8 else n - 8 * i
/-- A byte's first k bits. -/
def mb (x : UInt8) (k : Nat) : UInt8 := UInt8.ofNat (x.toNat / 2 ^ (8 - k) * 2 ^ (8 - k))
theorem mb_all : ∀ x : Fin 256, ∀ k : Fin 9, Go.bits BinOp.and IntKind.u8 (x.val : Int) (IntKind.u8.wrap (65280 / 2 ^ k.val)) = ((mb (UInt8.ofNat x.val) k.val).toNat : Int) := by decide +kernel
def maskFrom (a : List UInt8) (n : Int) : Nat → Int → List UInt8
  | 0, _ => a
  | d + 1, i => maskFrom (a.set i.toNat (mb (a.getD i.toNat 0) (keep n i).toNat)) n d (i + 1)
def amask (a : List UInt8) (n : Int) : List UInt8 := maskFrom a n 16 0
theorem maskFrom_len (n : Int) (d : Nat) : ∀ (a : List UInt8) (i : Int), (maskFrom a n d i).length = a.length := by
  induction d with
  | zero => intro a i; rfl
  | succ d ih => intro a i; rw [maskFrom, ih]; simp
theorem amask_len {a : List UInt8} (h : a.length = 16) (n : Int) : (amask a n).length = 16 := by unfold amask; rw [maskFrom_len, h]

theorem addr_masked (a : List UInt8) (ha : a.length = 16) (n : Int) (h0 : 0 ≤ n) (h1 : n ≤ 128) (w : World) :
    Calls Try.prog 37 #[.agg (bs a).toArray, .int .i64 n] w fun e w' => e = .returned (.agg (bs (amask a n)).toArray) ∧ Below w.heap.size w w' := by
  have HR0 := Aside0.mk (show maskFrom a n (16 - 0) 0 = amask a n from rfl)
  generalize amask a n = R at *
  go_enter Try.func37, Try.ntmps37
  go_wp2_with (fail)
  generalize hw0 : ((w.alloc (Obj.cells (bs a).toArray 24)).alloc (Obj.cells #[Value.int IntKind.u8 0, Value.int IntKind.u8 0, Value.int IntKind.u8 0, Value.int IntKind.u8 0, Value.int IntKind.u8 0, Value.int IntKind.u8 0, Value.int IntKind.u8 0, Value.int IntKind.u8 0, Value.int IntKind.u8 0, Value.int IntKind.u8 0, Value.int IntKind.u8 0, Value.int IntKind.u8 0, Value.int IntKind.u8 0, Value.int IntKind.u8 0, Value.int IntKind.u8 0, Value.int IntKind.u8 0] 24)) = w0
  have HB0 : Aside0 (Below w.heap.size w w0) := ⟨by rw [← hw0]; exact below_alloc (below_alloc (Below.refl _ _) _) _⟩
  have HG0 : Aside0 (w0.heap[w.heap.size]? = some (Obj.cells (bs a).toArray 24 (0, 0))) := ⟨by rw [← hw0]; exact blk_alloc (blk_new _ _) _⟩
  have HZ0 : Aside0 (∃ Z, w0.heap[w.heap.size + 1]? = some (Obj.cells Z 24 (0, 0)) ∧ Z.size = 16) := ⟨⟨_, by rw [← hw0]; have := blk_new (w.alloc (Obj.cells (bs a).toArray 24)) (Obj.cells #[Value.int IntKind.u8 0, Value.int IntKind.u8 0, Value.int IntKind.u8 0, Value.int IntKind.u8 0, Value.int IntKind.u8 0, Value.int IntKind.u8 0, Value.int IntKind.u8 0, Value.int IntKind.u8 0, Value.int IntKind.u8 0, Value.int IntKind.u8 0, Value.int IntKind.u8 0, Value.int IntKind.u8 0, Value.int IntKind.u8 0, Value.int IntKind.u8 0, Value.int IntKind.u8 0, Value.int IntKind.u8 0] 24); simpa using this, rfl⟩⟩
  clear hw0
  go_loopw [5, 6, 7] (fun v5 v6 v wr => ∃ (i : Nat) (b : List UInt8), i ≤ 16 ∧ v = .int .i64 i ∧ b.length = 16 ∧ Aside0 (maskFrom b n (16 - i) i = R) ∧ Aside0 (Below w.heap.size w wr) ∧ Aside0 (wr.heap[w.heap.size]? = some (.cells (bs b).toArray 24 (0, 0))) ∧ Aside0 (∃ Z, wr.heap[w.heap.size + 1]? = some (Obj.cells Z 24 (0, 0)) ∧ Z.size = 16)) (fun _ _ v _ => 16 - (intOf v).toNat)
  case atStart => exact ⟨0, a, by omega, rfl, ha, HR0, HB0, HG0, HZ0⟩
  case round =>
    clear HB0 HG0 HZ0 HR0
    obtain ⟨i, b, hi1, rfl, hb, HI, HB, HG, HZ⟩ := hrel
    by_cases hlt : i < 16
    · obtain ⟨x, hx⟩ : ∃ x, b.getD i 0 = x := ⟨_, rfl⟩
      have c0 : wr.cell? ⟨w.heap.size, i, none⟩ = some (.int .u8 (x.toNat : Int)) := (blk_cell HG.out _).trans (by
        rw [bs_get' (by omega)]; unfold byte; rw [Int.toNat_natCast, hx])
      have f0 := blk_frozen HG.out i
      have hk : 0 ≤ keep n i ∧ keep n i ≤ 8 := ⟨by unfold keep; split <;> (try split) <;> omega, by unfold keep; split <;> (try split) <;> omega⟩
      have hV := mb_all ⟨x.toNat, x.toNat_lt⟩ ⟨(keep n i).toNat, by omega⟩
      have HN : Aside0 (maskFrom (b.set i (mb x (keep n i).toNat)) n (16 - (i + 1)) ((i + 1 : Nat) : Int) = R) := ⟨by
        rw [← HI.out, show 16 - i = (16 - (i + 1)) + 1 by omega, maskFrom, Int.toNat_natCast, hx]; rfl⟩
      have HS := Aside0.mk (bs_set b i (mb x (keep n i).toNat))
      simp only [UInt8.ofNat_toNat] at hV
      clear HI hx
      by_cases hA : n - 8 * (i : Int) < 0
      · have hK : keep n i = 0 := if_pos hA
        have HV : Aside0 (Go.bits BinOp.and IntKind.u8 (x.toNat : Int) 0 = ((mb x (keep n i).toNat).toNat : Int)) := ⟨by
          rw [← hV, hK]; rfl⟩
        clear hV hK hk
        go_wp2_with (fail)
        go_region
        go_wp2_with (fail)
        go_roundw
        case rel =>
          refine ⟨i + 1, _, by omega, by go_num, by simp [hb], HN, ⟨by first | exact (below_set HB.out (Nat.le_refl _)).drew | exact below_set HB.out (Nat.le_refl _)⟩, ⟨?_⟩, ⟨?_⟩⟩
          · rw [HV.out]
            have := blk_set HG.out i (.int .u8 ((mb x (keep n i).toNat).toNat : Int))
            rwa [HS.out] at this
          · obtain ⟨Z, hZ, hz⟩ := HZ.out
            exact ⟨Z, blk_far hZ (by simp) _, hz⟩
        case measure => simp [intOf]; omega
      · by_cases hB : 8 < n - 8 * (i : Int)
        · have hK : keep n i = 8 := by unfold keep; rw [if_neg hA, if_pos hB]
          have HV : Aside0 (Go.bits BinOp.and IntKind.u8 (x.toNat : Int) 255 = ((mb x (keep n i).toNat).toNat : Int)) := ⟨by
            rw [← hV, hK]; rfl⟩
          clear hV hK hk
          go_wp2_with (fail)
          go_region
          go_wp2_with (fail)
          go_roundw
          case rel =>
            refine ⟨i + 1, _, by omega, by go_num, by simp [hb], HN, ⟨by first | exact (below_set HB.out (Nat.le_refl _)).drew | exact below_set HB.out (Nat.le_refl _)⟩, ⟨?_⟩, ⟨?_⟩⟩
            · rw [HV.out]
              have := blk_set HG.out i (.int .u8 ((mb x (keep n i).toNat).toNat : Int))
              rwa [HS.out] at this
            · obtain ⟨Z, hZ, hz⟩ := HZ.out
              exact ⟨Z, blk_far hZ (by simp) _, hz⟩
          case measure => simp [intOf]; omega
        · have hK : keep n i = n - 8 * i := by unfold keep; rw [if_neg hA, if_neg hB]
          have HV : Aside0 (Go.bits BinOp.and IntKind.u8 (x.toNat : Int) (65280 / 2 ^ (n - 8 * (i : Int)).toNat % 256) = ((mb x (keep n i).toNat).toNat : Int)) := ⟨by
            rw [← hV, hK]; simp [IntKind.wrap, IntKind.bits, IntKind.signed]⟩
          clear hV hK hk
          go_wp2_with (fail)
          go_region
          go_wp2_with (fail)
          go_roundw
          case rel =>
            refine ⟨i + 1, _, by omega, by go_num, by simp [hb], HN, ⟨(below_set HB.out (Nat.le_refl _)).drew⟩, ⟨?_⟩, ⟨?_⟩⟩
            · rw [HV.out]
              have := blk_set HG.out i (.int .u8 ((mb x (keep n i).toNat).toNat : Int))
              rwa [HS.out] at this
            · obtain ⟨Z, hZ, hz⟩ := HZ.out
              exact ⟨Z, blk_far hZ (by simp) _, hz⟩
          case measure => simp [intOf]; omega
    · obtain rfl : i = 16 := by omega
      obtain ⟨Z, hZ, hz⟩ := HZ.out
      have hR : b = R := HI.out
      subst hR
      have l24 := load_mid (o := 0) (cs := bs b) HG.out (by rw [List.drop_zero, List.take_of_length_le (by rw [bs_len, hb]; omega)]) (bs_len b |>.trans hb) Try.underlying24 rfl (by kernel_rfl)
      have HZ' := Aside0.mk hZ
      clear hZ HZ
      go_wp2_with (first | ((with_reducible refine gate_dst (N := 25) rfl ?_); (try (refine gate_guard (by rfl) ?_; dsimp only)); refine load_step 24 _ rfl rfl _ l24 ?_) | ((with_reducible refine gate_ (.store 24 _ _) rfl ?_); refine store_step 24 _ _ rfl rfl w.heap.size rfl rfl HZ'.out (by rw [bs_len, hb, hz]) (by rw [hz]; kernel_rfl) bs_one (by omega) ?_; intro w1 hg1 hb1 hf1))
      refine bodyPost_ret (results_cell_row rfl _ _ (w.heap.size + 1) 24 (bs b).toArray (0, 0) _ rfl hg1.out Try.underlying24 rfl (by rw [List.size_toArray, bs_len, hb]; kernel_rfl)) rfl ?_
      exact ⟨rfl, HB.out.trans hb1.out⟩

/-- addr's Check. -/
def achk (p : Pfx) : Bool := decide (0 ≤ p.L ∧ p.L ≤ 128) && (amask p.A p.L == p.A)
def aec (p : Pfx) : Int := if achk p = true then 0 else 21
theorem aec0 {p : Pfx} (h : achk p = true) : aec p = 0 := if_pos h
theorem aec21 {p : Pfx} (h : achk p = false) : aec p = 21 := by unfold aec; rw [h]; rfl
theorem achk_L {p : Pfx} (h : achk p = true) : 0 ≤ p.L ∧ p.L ≤ 128 := by
  unfold achk at h
  rw [Bool.and_eq_true] at h
  exact of_decide_eq_true h.1
theorem addr_check (p : Pfx) (hp : p.Ok) (w : World) :
    Calls Try.prog 30 #[.agg (pc p).toArray] w fun e w' => e = .returned (.int .i64 (aec p)) ∧ Below w.heap.size w w' := by
  have hA : p.A.length = 16 := hp
  have hm := amask_len hA p.L
  have hg0 := blk_new w (Obj.cells (pc p).toArray 26)
  by_cases h0 : 0 ≤ p.L
  · by_cases h1 : p.L ≤ 128
    · have key : ∀ r : Bool, (!(amask p.A p.L == p.A)) = r → (r = true ∨ r = false) → Calls Try.prog 30 #[.agg (pc p).toArray] w fun e w' => e = .returned (.int .i64 (aec p)) ∧ Below w.heap.size w w' := by
        intro r hq hb
        have hR : achk p = !r := by unfold achk; rw [decide_eq_true ⟨h0, h1⟩, Bool.true_and, ← hq, Bool.not_not]
        have HR := Aside0.mk hR
        have d0 : decide (p.L < 0) = false := decide_eq_false (by omega)
        have d1 : decide (128 < p.L) = false := decide_eq_false (by omega)
        clear hR
        rcases hb with rfl | rfl <;> (
          go_enter Try.func30, Try.ntmps30
          go_wp2_with (fail)
          generalize hw0 : w.alloc (Obj.cells (pc p).toArray 26) = w0 at *
          have HB0 : Aside0 (Below w.heap.size w w0) := ⟨by rw [← hw0]; exact below_alloc (Below.refl _ _) _⟩
          clear hw0
          refine region_quietB (by kernel_rfl) (by kernel_rfl) ?_
          intro X F _ HB HN
          have l24 : ∀ y, _ := fun y => (pfx_blk hp (blk_below hg0 (HB.out y))).1
          have c16 : ∀ y, _ := fun y => (pfx_blk hp (blk_below hg0 (HB.out y))).2.2.1
          repeat (first | (go_big_quiet_want; refine quiet_loadF 13 rfl 24 _ rfl _ l24 ?_; (simp only [Act.put, List.setIfInBounds_toArray, List.set_cons_zero, List.set_cons_succ]); go_big_quiet_on) | (go_big_quiet_want; refine quiet_loadF 18 rfl 24 _ rfl _ l24 ?_; (simp only [Act.put, List.setIfInBounds_toArray, List.set_cons_zero, List.set_cons_succ]); go_big_quiet_on) | (go_big_quiet_want; refine quiet_neq24 19 rfl _ _ _ rfl _ _ hm hA rfl rfl _ hq ?_; (simp only [Act.put, List.setIfInBounds_toArray, List.set_cons_zero, List.set_cons_succ]); go_big_quiet_on) | (go_big_quiet_step (((with_reducible refine (addr_masked p.A hA p.L h0 h1 _).mono ?_); rintro e w2 ⟨rfl, hb2⟩; exact ⟨rfl, HN.out _ _ hb2⟩))))
          refine wpQuiet_nil ?_
          rintro w' ⟨x, rfl⟩
          have HB3 := Aside0.mk (below_then HB0.out HB0.out.size (HB.out x))
          clear l24 c16 HB HN hg0
          go_wp2_with (fail)
          go_ret
          exact ⟨by unfold aec; rw [HR.out]; rfl, HB3.out⟩)
      exact key _ rfl (by cases (!(amask p.A p.L == p.A)) <;> simp)
    · have HR := Aside0.mk (show achk p = false by unfold achk; rw [decide_eq_false (by omega)]; rfl)
      have d0 : decide (p.L < 0) = false := decide_eq_false (by omega)
      have d1 : decide (128 < p.L) = true := decide_eq_true (by omega)
      go_enter Try.func30, Try.ntmps30
      go_wp2_with (fail)
      generalize hw0 : w.alloc (Obj.cells (pc p).toArray 26) = w0 at *
      have HB0 : Aside0 (Below w.heap.size w w0) := ⟨by rw [← hw0]; exact below_alloc (Below.refl _ _) _⟩
      clear hw0
      refine region_quietB (by kernel_rfl) (by kernel_rfl) ?_
      intro X F _ HB HN
      have c16 : ∀ y, _ := fun y => (pfx_blk hp (blk_below hg0 (HB.out y))).2.2.1
      repeat (go_big_quiet_step (fail))
      refine wpQuiet_nil ?_
      rintro w' ⟨x, rfl⟩
      have HB3 := Aside0.mk (below_then HB0.out HB0.out.size (HB.out x))
      clear c16 HB HN hg0
      go_wp2_with (fail)
      go_ret
      exact ⟨by unfold aec; rw [HR.out]; rfl, HB3.out⟩
  · have HR := Aside0.mk (show achk p = false by unfold achk; rw [decide_eq_false (by omega)]; rfl)
    have d0 : decide (p.L < 0) = true := decide_eq_true (by omega)
    go_enter Try.func30, Try.ntmps30
    go_wp2_with (fail)
    generalize hw0 : w.alloc (Obj.cells (pc p).toArray 26) = w0 at *
    have HB0 : Aside0 (Below w.heap.size w w0) := ⟨by rw [← hw0]; exact below_alloc (Below.refl _ _) _⟩
    clear hw0
    refine region_quietB (by kernel_rfl) (by kernel_rfl) ?_
    intro X F _ HB HN
    have c16 : ∀ y, _ := fun y => (pfx_blk hp (blk_below hg0 (HB.out y))).2.2.1
    repeat (go_big_quiet_step (fail))
    refine wpQuiet_nil ?_
    rintro w' ⟨x, rfl⟩
    have HB3 := Aside0.mk (below_then HB0.out HB0.out.size (HB.out x))
    clear c16 HB HN hg0
    go_wp2_with (fail)
    go_ret
    exact ⟨by unfold aec; rw [HR.out]; rfl, HB3.out⟩
theorem addr_check_ (p : Pfx) (ha : p.Ok) (w : World) (r : Int) (hr : aec p = r) :
    Calls Try.prog 30 #[.agg (pc p).toArray] w fun e w' => e = .returned (.int .i64 r) ∧ Below w.heap.size w w' := hr ▸ addr_check p ha w

def acon (p : Pfx) (a : List UInt8) : Bool := achk p && (amask a p.L == p.A)
theorem addr_contains (p : Pfx) (hp : p.Ok) (a : List UInt8) (ha : a.length = 16) (w : World) :
    Calls Try.prog 31 #[.agg (pc p).toArray, .agg (bs a).toArray] w fun e w' => e = .returned (.bool (acon p a)) ∧ Below w.heap.size w w' := by
  cases hc : achk p with
  | false =>
    have he := aec21 hc
    have HR := Aside0.mk (show acon p a = false by unfold acon; rw [hc]; rfl)
    go_enter Try.func31, Try.ntmps31
    go_wp2_with (fail)
    generalize hw0 : (w.alloc (Obj.cells (pc p).toArray 26)).alloc (Obj.cells (bs a).toArray 24) = w0
    have HB0 : Aside0 (Below w.heap.size w w0) := ⟨by rw [← hw0]; exact below_alloc (below_alloc (Below.refl _ _) _) _⟩
    have hg : w0.heap[w.heap.size]? = some (Obj.cells (pc p).toArray 26 (0, 0)) := by rw [← hw0]; exact blk_alloc (blk_new _ _) _
    clear hw0
    refine region_quietB (by kernel_rfl) (by kernel_rfl) ?_
    intro X F _ HB HN
    have l26 : ∀ y, _ := fun y => (pfx_blk hp (blk_below hg (HB.out y))).2.1
    repeat (first | (go_big_quiet_want; refine quiet_loadF 5 rfl 26 _ rfl _ l26 ?_; (simp only [Act.put, List.setIfInBounds_toArray, List.set_cons_zero, List.set_cons_succ]); go_big_quiet_on) | (go_big_quiet_step ((refine (addr_check_ p hp _ _ he).mono ?_; rintro e w2 ⟨rfl, hb2⟩; exact ⟨rfl, HN.out _ _ hb2⟩))))
    refine wpQuiet_nil ?_
    rintro w' ⟨x, rfl⟩
    have HB3 := Aside0.mk (below_then HB0.out HB0.out.size (HB.out x))
    clear l26 HB HN hg
    go_wp2_with (fail)
    go_ret
    exact ⟨by rw [HR.out]; rfl, HB3.out⟩
  | true =>
    have he := aec0 hc
    have hL := achk_L hc
    have hm := amask_len ha p.L
    have hA : p.A.length = 16 := hp
    cases hq : (amask a p.L == p.A) with
    | _ => 
    have HR := Aside0.mk (show acon p a = _ by unfold acon; rw [hc, hq, Bool.true_and])
    go_enter Try.func31, Try.ntmps31
    go_wp2_with (fail)
    generalize hw0 : (w.alloc (Obj.cells (pc p).toArray 26)).alloc (Obj.cells (bs a).toArray 24) = w0
    have HB0 : Aside0 (Below w.heap.size w w0) := ⟨by rw [← hw0]; exact below_alloc (below_alloc (Below.refl _ _) _) _⟩
    have hg : w0.heap[w.heap.size]? = some (Obj.cells (pc p).toArray 26 (0, 0)) := by rw [← hw0]; exact blk_alloc (blk_new _ _) _
    have hg2 : w0.heap[w.heap.size + 1]? = some (Obj.cells (bs a).toArray 24 (0, 0)) := by rw [← hw0]; have := blk_new (w.alloc (Obj.cells (pc p).toArray 26)) (Obj.cells (bs a).toArray 24); simpa using this
    clear hw0
    refine region_quietB (by kernel_rfl) (by kernel_rfl) ?_
    intro X F _ HB HN
    have l26 : ∀ y, _ := fun y => (pfx_blk hp (blk_below hg (HB.out y))).2.1
    have l24 : ∀ y, _ := fun y => (pfx_blk hp (blk_below hg (HB.out y))).1
    have c16 : ∀ y, _ := fun y => (pfx_blk hp (blk_below hg (HB.out y))).2.2.1
    have l24a : ∀ y, (Instr.loadAt 24 (.pointer (some ⟨w.heap.size + 1, 0, none⟩))).run Try.prog (F y) = .ok (.agg (bs a).toArray) (F y) := fun y => load_mid (o := 0) (cs := bs a) (blk_below hg2 (HB.out y)) (by rw [List.drop_zero, List.take_of_length_le (by rw [bs_len, ha]; omega)]) (bs_len a |>.trans ha) Try.underlying24 rfl (by kernel_rfl)
    repeat (first | (go_big_quiet_want; refine quiet_loadF 5 rfl 26 _ rfl _ l26 ?_; (simp only [Act.put, List.setIfInBounds_toArray, List.set_cons_zero, List.set_cons_succ]); go_big_quiet_on) | (go_big_quiet_want; refine quiet_loadF 9 rfl 24 _ rfl _ l24a ?_; (simp only [Act.put, List.setIfInBounds_toArray, List.set_cons_zero, List.set_cons_succ]); go_big_quiet_on) | (go_big_quiet_want; refine quiet_loadF 14 rfl 24 _ rfl _ l24 ?_; (simp only [Act.put, List.setIfInBounds_toArray, List.set_cons_zero, List.set_cons_succ]); go_big_quiet_on) | (go_big_quiet_want; refine quiet_eql24 15 rfl _ _ _ rfl _ _ hm hA rfl rfl _ hq ?_; (simp only [Act.put, List.setIfInBounds_toArray, List.set_cons_zero, List.set_cons_succ]); go_big_quiet_on) | (go_big_quiet_step (((first | refine (addr_check_ p hp _ _ he).mono ?_ | refine (addr_masked a ha p.L hL.1 hL.2 _).mono ?_); rintro e w2 ⟨rfl, hb2⟩; exact ⟨rfl, HN.out _ _ hb2⟩))))
    refine wpQuiet_nil ?_
    rintro w' ⟨x, rfl⟩
    have HB3 := Aside0.mk (below_then HB0.out HB0.out.size (HB.out x))
    clear l26 l24 l24a c16 HB HN hg hg2
    go_wp2_with (fail)
    go_ret
    exact ⟨by rw [HR.out]; rfl, HB3.out⟩

def acov (p q : Pfx) : Bool := achk q && (decide (p.L ≤ q.L) && acon p q.A)
theorem addr_contains_ (p : Pfx) (hp : p.Ok) (a : List UInt8) (ha : a.length = 16) (w : World) (r : Bool) (hr : acon p a = r) :
    Calls Try.prog 31 #[.agg (pc p).toArray, .agg (bs a).toArray] w fun e w' => e = .returned (.bool r) ∧ Below w.heap.size w w' := hr ▸ addr_contains p hp a ha w
theorem addr_covers (p : Pfx) (hp : p.Ok) (q : Pfx) (hq : q.Ok) (w : World) :
    Calls Try.prog 21 #[.agg (pc p).toArray, .agg (pc q).toArray] w fun e w' => e = .returned (.bool (acov p q)) ∧ Below w.heap.size w w' := by
  have hg0 : ((w.alloc (Obj.cells (pc p).toArray 26)).alloc (Obj.cells (pc q).toArray 26)).heap[w.heap.size]? = some (Obj.cells (pc p).toArray 26 (0, 0)) := blk_alloc (blk_new _ _) _
  have hg1 : ((w.alloc (Obj.cells (pc p).toArray 26)).alloc (Obj.cells (pc q).toArray 26)).heap[w.heap.size + 1]? = some (Obj.cells (pc q).toArray 26 (0, 0)) := by have := blk_new (w.alloc (Obj.cells (pc p).toArray 26)) (Obj.cells (pc q).toArray 26); simpa using this
  have HB0 : Aside0 (Below w.heap.size w ((w.alloc (Obj.cells (pc p).toArray 26)).alloc (Obj.cells (pc q).toArray 26))) := ⟨below_alloc (below_alloc (Below.refl _ _) _) _⟩
  obtain ⟨_, l26q, _, _⟩ := pfx_blk hq hg1
  cases hc : achk q with
  | false =>
    have he := aec21 hc
    have HR := Aside0.mk (show acov p q = false by unfold acov; rw [hc]; rfl)
    go_enter Try.func21, Try.ntmps21
    go_wp2_with ((with_reducible refine gate_dst (N := 5) rfl ?_); (try (refine gate_guard (by rfl) ?_; dsimp only)); refine load_step 26 _ rfl rfl _ l26q ?_)
    refine (addr_check_ q hq _ _ he).mono ?_; rintro e w1 ⟨rfl, hb1⟩
    go_wp2_with (fail)
    go_ret
    exact ⟨by rw [HR.out]; rfl, below_then HB0.out HB0.out.size hb1⟩
  | true =>
    have he := aec0 hc
    by_cases hle : p.L ≤ q.L
    · cases hcon : acon p q.A with
      | _ =>
      have HR := Aside0.mk (show acov p q = _ by unfold acov; rw [hc, decide_eq_true hle, Bool.true_and, Bool.true_and, hcon])
      go_enter Try.func21, Try.ntmps21
      go_wp2_with ((with_reducible refine gate_dst (N := 5) rfl ?_); (try (refine gate_guard (by rfl) ?_; dsimp only)); refine load_step 26 _ rfl rfl _ l26q ?_)
      refine (addr_check_ q hq _ _ he).mono ?_; rintro e w1 ⟨rfl, hb1⟩
      have HB1 := Aside0.mk (below_then HB0.out HB0.out.size hb1)
      obtain ⟨p24, p26, p16, _⟩ := pfx_blk hp (blk_below hg0 hb1)
      obtain ⟨q24, q26, q16, _⟩ := pfx_blk hq (blk_below hg1 hb1)
      clear hb1 hg0 hg1 HB0 l26q
      go_wp2_with (first | ((with_reducible refine gate_dst (N := 16) rfl ?_); (try (refine gate_guard (by rfl) ?_; dsimp only)); refine load_step 26 _ rfl rfl _ p26 ?_) | ((with_reducible refine gate_dst (N := 18) rfl ?_); (try (refine gate_guard (by rfl) ?_; dsimp only)); refine load_step 24 _ rfl rfl _ q24 ?_))
      refine (addr_contains_ p hp q.A hq _ _ hcon).mono ?_; rintro e w2 ⟨rfl, hb2⟩
      go_wp2_with (fail)
      go_ret
      exact ⟨by rw [HR.out]; rfl, below_then HB1.out HB1.out.size hb2⟩
    · have HR := Aside0.mk (show acov p q = false by unfold acov; rw [decide_eq_false hle]; simp)
      go_enter Try.func21, Try.ntmps21
      go_wp2_with ((with_reducible refine gate_dst (N := 5) rfl ?_); (try (refine gate_guard (by rfl) ?_; dsimp only)); refine load_step 26 _ rfl rfl _ l26q ?_)
      refine (addr_check_ q hq _ _ he).mono ?_; rintro e w1 ⟨rfl, hb1⟩
      have HB1 := Aside0.mk (below_then HB0.out HB0.out.size hb1)
      obtain ⟨p24, p26, p16, _⟩ := pfx_blk hp (blk_below hg0 hb1)
      obtain ⟨q24, q26, q16, _⟩ := pfx_blk hq (blk_below hg1 hb1)
      clear hb1 hg0 hg1 HB0 l26q
      go_wp2_with (fail)
      go_ret
      exact ⟨by rw [HR.out]; rfl, HB1.out⟩

end Go.Proofs.Ytadgagndfmdjmaa.Fl
