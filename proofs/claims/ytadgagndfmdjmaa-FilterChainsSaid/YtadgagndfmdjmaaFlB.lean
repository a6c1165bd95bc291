/- Walks of the document's Masked, Contains, Covers, CheckPair, bits. -/
import Derived.Test.YtadgagndfmdjmaaFlA
namespace Go.Proofs.Ytadgagndfmdjmaa.Fl
open Go.RowKit Go.Proofs.YtadgagndfmdjmaaW.PrintWords Go.Proofs.YtadgagndfmdjmaaW.PrintLast
open Extern.Stop (cell)

theorem bs_one {a : List UInt8} : ∀ v ∈ bs a, v.oneCell' = true := by
  intro v hv
  obtain ⟨u, _, rfl⟩ := List.mem_map.1 hv
  rfl
theorem bs_set (a : List UInt8) (i : Nat) (u : UInt8) : (bs a).toArray.setIfInBounds i (.int .u8 (u.toNat : Int)) = (bs (a.set i u)).toArray := by
  rw [List.setIfInBounds_toArray]; unfold bs; rw [List.map_set]; rfl
/-- A whole block is written. -/
theorem whole {w : World} {g base : Nat} {T : TypeId} {cur : Array Value} {vs : List Value} (hb : w.heap[g]? = some (.cells cur T (0, 0))) (hl : vs.length = cur.size) (hB : base ≤ g) :
    (w.setCells g 0 vs).heap[g]? = some (.cells vs.toArray T (0, 0)) ∧ Below base w (w.setCells g 0 vs) ∧ ∀ k, k ≠ g → (w.setCells g 0 vs).heap[k]? = w.heap[k]? := by
  obtain ⟨cur', h1, h2, h3⟩ := setCells_row vs 0 w cur hb (by omega)
  refine ⟨?_, ?_, fun k hk => setCells_far vs 0 k hk⟩
  · have : cur' = vs.toArray := by
      apply Array.toList_inj.1
      rw [h3]
      simp [hl]
    rw [h1, this]
  · obtain ⟨e1, e2, e3, e4⟩ := setCells_same g vs 0 w
    exact ⟨e1, e2, e3, by omega, fun k hk => setCells_far vs 0 k (by omega)⟩
theorem store_step {ops : Array Oper} {rest : List Oper} {o : Oper} {a : Act} {Q : Exit → Act → World → Prop} {W : World} (ty : TypeId) (p x : Operand) (ho : o.op = .store ty p x) (hg : o.guard = none) (base : Nat) {g : Nat} {T : TypeId} {cur : Array Value} {vs : List Value}
    (hp : a.eval p = .pointer (some ⟨g, 0, none⟩)) (hx : a.eval x = .agg vs.toArray) (hb : W.heap[g]? = some (.cells cur T (0, 0))) (hl : vs.length = cur.size) (hi : (Try.prog.info? ty).map (·.size) = some cur.size) (h1 : ∀ v ∈ vs, v.oneCell' = true) (hB : base ≤ g)
    (h : ∀ w1, Aside0 (w1.heap[g]? = some (.cells vs.toArray T (0, 0))) → Aside0 (Below base W w1) → Aside0 (∀ k, k ≠ g → w1.heap[k]? = W.heap[k]?) → wpList Try.prog ops Q rest (a.put o.dst undef) w1) : wpList Try.prog ops Q (o :: rest) a W := by
  have hw := whole hb hl hB
  refine wpList_store_mid hg ty p x ho g 0 vs.toArray hp hx (fun j hj => ?_) (by rw [List.size_toArray, hl]; exact hi) (all_oneCell_toArray h1) (h _ ⟨hw.1⟩ ⟨hw.2.1⟩ ⟨hw.2.2⟩)
  have hj' : j < cur.size := by rw [← hl]; simpa using hj
  rw [Nat.zero_add, blk_cell hb, blk_frozen hb]
  simp [hj']

/-- A byte without bit t. -/
def cb (x : UInt8) (t : Nat) : UInt8 := UInt8.ofNat (x.toNat - x.toNat / 2 ^ (7 - t) % 2 * 2 ^ (7 - t))
theorem cb_all : ∀ x : Fin 256, ∀ t : Fin 8, Go.bits BinOp.andNot IntKind.u8 (x.val : Int) (128 / 2 ^ t.val) = ((cb (UInt8.ofNat x.val) t.val).toNat : Int) := by decide +kernel
def clearBit (a : List UInt8) (i : Int) : List UInt8 := a.set (i / 8).toNat (cb (a.getD (i / 8).toNat 0) (i % 8).toNat)
def clearFrom (a : List UInt8) : Nat → Int → List UInt8
  | 0, _ => a
  | d + 1, i => clearFrom (clearBit a i) d (i + 1)
def rmask (a : List UInt8) (n : Int) : List UInt8 := clearFrom a (128 - n).toNat n
theorem clearFrom_len (d : Nat) : ∀ (a : List UInt8) (i : Int), (clearFrom a d i).length = a.length := by
  induction d with
  | zero => intro a i; rfl
  | succ d ih => intro a i; rw [clearFrom, ih]; simp [clearBit]

theorem ref_masked (a : List UInt8) (ha : a.length = 16) (n : Int) (h0 : 0 ≤ n) (h1 : n ≤ 128) (w : World) :
    Calls Try.prog 40 #[.agg (bs a).toArray, .int .i64 n] w fun e w' => e = .returned (.agg (bs (rmask a n)).toArray) ∧ Below w.heap.size w w' := by
  have HR0 := Aside0.mk (show clearFrom a (128 - n).toNat n = rmask a n from rfl)
  have HL : Aside0 ((rmask a n).length = 16) := ⟨by unfold rmask; rw [clearFrom_len, ha]⟩
  generalize rmask a n = R at *
  go_enter Try.func40, Try.ntmps40
  go_wp2_with (fail)
  generalize hw0 : ((w.alloc (Obj.cells (bs a).toArray 24)).alloc (Obj.cells #[Value.int IntKind.u8 0, Value.int IntKind.u8 0, Value.int IntKind.u8 0, Value.int IntKind.u8 0, Value.int IntKind.u8 0, Value.int IntKind.u8 0, Value.int IntKind.u8 0, Value.int IntKind.u8 0, Value.int IntKind.u8 0, Value.int IntKind.u8 0, Value.int IntKind.u8 0, Value.int IntKind.u8 0, Value.int IntKind.u8 0, Value.int IntKind.u8 0, Value.int IntKind.u8 0, Value.int IntKind.u8 0] 24)) = w0
  have HB0 : Aside0 (Below w.heap.size w w0) := ⟨by rw [← hw0]; exact below_alloc (below_alloc (Below.refl _ _) _) _⟩
  have HG0 : Aside0 (w0.heap[w.heap.size]? = some (Obj.cells (bs a).toArray 24 (0, 0))) := ⟨by rw [← hw0]; exact blk_alloc (blk_new _ _) _⟩
  have HZ0 : Aside0 (∃ Z, w0.heap[w.heap.size + 1]? = some (Obj.cells Z 24 (0, 0)) ∧ Z.size = 16) := ⟨⟨_, by rw [← hw0]; have := blk_new (w.alloc (Obj.cells (bs a).toArray 24)) (Obj.cells #[Value.int IntKind.u8 0, Value.int IntKind.u8 0, Value.int IntKind.u8 0, Value.int IntKind.u8 0, Value.int IntKind.u8 0, Value.int IntKind.u8 0, Value.int IntKind.u8 0, Value.int IntKind.u8 0, Value.int IntKind.u8 0, Value.int IntKind.u8 0, Value.int IntKind.u8 0, Value.int IntKind.u8 0, Value.int IntKind.u8 0, Value.int IntKind.u8 0, Value.int IntKind.u8 0, Value.int IntKind.u8 0] 24); simpa using this, rfl⟩⟩
  clear hw0
  go_loopw [5] (fun v wr => ∃ (i : Int) (b : List UInt8), n ≤ i ∧ i ≤ 128 ∧ v = .int .i64 i ∧ b.length = 16 ∧ Aside0 (clearFrom b (128 - i).toNat i = R) ∧ Aside0 (Below w.heap.size w wr) ∧ Aside0 (wr.heap[w.heap.size]? = some (.cells (bs b).toArray 24 (0, 0))) ∧ Aside0 (∃ Z, wr.heap[w.heap.size + 1]? = some (Obj.cells Z 24 (0, 0)) ∧ Z.size = 16)) (fun v _ => 128 - (intOf v).toNat)
  case atStart => exact ⟨n, a, Int.le_refl _, h1, rfl, ha, HR0, HB0, HG0, HZ0⟩
  case round =>
    clear HB0 HG0 HZ0 HR0
    obtain ⟨i, b, hi0, hi1, rfl, hb, HI, HB, HG, HZ⟩ := hrel
    by_cases hlt : i < 128
    · have hk : (i / 8).toNat < b.length := by omega
      have c0 : wr.cell? ⟨w.heap.size, (i / 8).toNat, none⟩ = some (.int .u8 ((b.getD (i / 8).toNat 0).toNat : Int)) := (blk_cell HG.out _).trans (by
        rw [bs_get' hk]; unfold byte; rw [Int.toNat_natCast])
      have f0 := blk_frozen HG.out (i / 8).toNat
      have HV : Aside0 (Go.bits BinOp.andNot IntKind.u8 ((b.getD (i / 8).toNat 0).toNat : Int) (128 / 2 ^ (i % 8).toNat) = ((cb (b.getD (i / 8).toNat 0) (i % 8).toNat).toNat : Int)) := ⟨by
        have := cb_all ⟨(b.getD (i / 8).toNat 0).toNat, (b.getD (i / 8).toNat 0).toNat_lt⟩ ⟨(i % 8).toNat, by omega⟩
        simpa using this⟩
      have HN : Aside0 (clearFrom (clearBit b i) (128 - (i + 1)).toNat (i + 1) = R) := ⟨by
        rw [← HI.out, show (128 - i).toNat = (128 - (i + 1)).toNat + 1 by omega]; rfl⟩
      have HS := Aside0.mk (bs_set b (i / 8).toNat (cb (b.getD (i / 8).toNat 0) (i % 8).toNat))
      have HX := Aside0.mk (show clearBit b i = b.set (i / 8).toNat (cb (b.getD (i / 8).toNat 0) (i % 8).toNat) from rfl)
      generalize b.getD (i / 8).toNat 0 = x at *
      clear HI
      go_wp2_with (fail)
      go_roundw
      case rel =>
        refine ⟨i + 1, clearBit b i, by omega, by omega, rfl, by simp [clearBit, hb], HN, ⟨below_set HB.out (Nat.le_refl _)⟩, ⟨?_⟩, ⟨?_⟩⟩
        · rw [HV.out]
          have := blk_set HG.out (i / 8).toNat (.int .u8 ((cb x (i % 8).toNat).toNat : Int))
          rwa [HS.out, ← HX.out] at this
        · obtain ⟨Z, hZ, hz⟩ := HZ.out
          exact ⟨Z, blk_far hZ (by simp) _, hz⟩
      case measure => simp [intOf]; omega
    · obtain rfl : i = 128 := by omega
      obtain ⟨Z, hZ, hz⟩ := HZ.out
      have hR : b = R := HI.out
      subst hR
      have l24 := load_mid (o := 0) (cs := bs b) HG.out (by rw [List.drop_zero, List.take_of_length_le (by rw [bs_len, hb]; omega)]) (bs_len b |>.trans hb) Try.underlying24 rfl (by kernel_rfl)
      have HZ' := Aside0.mk hZ
      clear hZ HZ
      go_wp2_with (first | ((with_reducible refine gate_dst (N := 23) rfl ?_); (try (refine gate_guard (by rfl) ?_; dsimp only)); refine load_step 24 _ rfl rfl _ l24 ?_) | ((with_reducible refine gate_ (.store 24 _ _) rfl ?_); refine store_step 24 _ _ rfl rfl w.heap.size rfl rfl HZ'.out (by rw [bs_len, hb, hz]) (by rw [hz]; kernel_rfl) bs_one (by omega) ?_; intro w1 hg1 hb1 hf1))
      refine bodyPost_ret (results_cell_row rfl _ _ (w.heap.size + 1) 24 (bs b).toArray (0, 0) _ rfl hg1.out Try.underlying24 rfl (by rw [List.size_toArray, bs_len, hb]; kernel_rfl)) rfl ?_
      exact ⟨rfl, HB.out.trans hb1.out⟩

theorem ec0 {p : Pfx} (h : chk p = true) : ec p = 0 := if_pos h
theorem ec21 {p : Pfx} (h : chk p = false) : ec p = 21 := by unfold ec; rw [h]; rfl
theorem chk_L {p : Pfx} (h : chk p = true) : 0 ≤ p.L ∧ p.L ≤ 128 := by
  unfold chk at h
  rw [Bool.and_eq_true] at h
  exact of_decide_eq_true h.1
theorem ref_check_ (p : Pfx) (ha : p.Ok) (w : World) (r : Int) (hr : ec p = r) :
    Calls Try.prog 26 #[.agg (pc p).toArray] w fun e w' => e = .returned (.int .i64 r) ∧ Below w.heap.size w w' := hr ▸ ref_check p ha w
theorem rmask_len {a : List UInt8} (h : a.length = 16) (n : Int) : (rmask a n).length = 16 := by unfold rmask; rw [clearFrom_len, h]
def con (p : Pfx) (a : List UInt8) : Bool := chk p && (rmask a p.L == p.A)
theorem ref_contains (p : Pfx) (hp : p.Ok) (a : List UInt8) (ha : a.length = 16) (w : World) :
    Calls Try.prog 34 #[.agg (pc p).toArray, .agg (bs a).toArray] w fun e w' => e = .returned (.bool (con p a)) ∧ Below w.heap.size w w' := by
  cases hc : chk p with
  | false =>
    have he := ec21 hc
    have HR := Aside0.mk (show con p a = false by unfold con; rw [hc]; rfl)
    go_enter Try.func34, Try.ntmps34
    go_wp2_with (fail)
    generalize hw0 : (w.alloc (Obj.cells (pc p).toArray 26)).alloc (Obj.cells (bs a).toArray 24) = w0
    have HB0 : Aside0 (Below w.heap.size w w0) := ⟨by rw [← hw0]; exact below_alloc (below_alloc (Below.refl _ _) _) _⟩
    have hg : w0.heap[w.heap.size]? = some (Obj.cells (pc p).toArray 26 (0, 0)) := by rw [← hw0]; exact blk_alloc (blk_new _ _) _
    clear hw0
    refine region_quietB (by kernel_rfl) (by kernel_rfl) ?_
    intro X F _ HB HN
    have l26 : ∀ y, _ := fun y => (pfx_blk hp (blk_below hg (HB.out y))).2.1
    repeat (first | (go_big_quiet_want; refine quiet_loadF 5 rfl 26 _ rfl _ l26 ?_; (simp only [Act.put, List.setIfInBounds_toArray, List.set_cons_zero, List.set_cons_succ]); go_big_quiet_on) | (go_big_quiet_step ((refine (ref_check_ p hp _ _ he).mono ?_; rintro e w2 ⟨rfl, hb2⟩; exact ⟨rfl, HN.out _ _ hb2⟩))))
    refine wpQuiet_nil ?_
    rintro w' ⟨x, rfl⟩
    have HB3 := Aside0.mk (below_then HB0.out HB0.out.size (HB.out x))
    clear l26 HB HN hg
    go_wp2_with (fail)
    go_ret
    exact ⟨by rw [HR.out]; rfl, HB3.out⟩
  | true =>
    have he := ec0 hc
    have hL := chk_L hc
    have hm := rmask_len ha p.L
    have hA : p.A.length = 16 := hp
    cases hq : (rmask a p.L == p.A) with
    | _ => 
    have HR := Aside0.mk (show con p a = _ by unfold con; rw [hc, hq, Bool.true_and])
    go_enter Try.func34, Try.ntmps34
    go_wp2_with (fail)
    generalize hw0 : (w.alloc (Obj.cells (pc p).toArray 26)).alloc (Obj.cells (bs a).toArray 24) = w0
    have HB0 : Aside0 (Below w.heap.size w w0) := ⟨by rw [← hw0]; exact below_alloc (below_alloc (Below.refl _ _) _) _⟩
    have hg : w0.heap[w.heap.size]? = some (Obj.cells (pc p).toArray 26 (0, 0)) := by rw [← hw0]; exact blk_alloc (blk_new _ _) _
    have hg2 : w0.heap[w.heap.size + 1]? = some (Obj.cells (bs a).toArray 24 (0, 0)) := by rw [← hw0]; have := blk_new (w.alloc (Obj.cells (pc p).toArray 26)) (Obj.cells (bs a).toArray 24); simpa using this
    clear hw0
    refine region_quietB (by kernel_rfl) (by kernel_rfl) ?_
    intro X F _ HB HN
    have l26 : ∀ y, _ := fun y => (pfx_blk hp (blk_below hg (HB.out y))).2.1
    have l24 : ∀ y, _ := fun y => (pfx_blk hp (blk_below hg (HB.out y))).1
    have c16 : ∀ y, _ := fun y => (pfx_blk hp (blk_below hg (HB.out y))).2.2.1
    have l24a : ∀ y, (Instr.loadAt 24 (.pointer (some ⟨w.heap.size + 1, 0, none⟩))).run Try.prog (F y) = .ok (.agg (bs a).toArray) (F y) := fun y => load_mid (o := 0) (cs := bs a) (blk_below hg2 (HB.out y)) (by rw [List.drop_zero, List.take_of_length_le (by rw [bs_len, ha]; omega)]) (bs_len a |>.trans ha) Try.underlying24 rfl (by kernel_rfl)
    repeat (first | (go_big_quiet_want; refine quiet_loadF 5 rfl 26 _ rfl _ l26 ?_; (simp only [Act.put, List.setIfInBounds_toArray, List.set_cons_zero, List.set_cons_succ]); go_big_quiet_on) | (go_big_quiet_want; refine quiet_loadF 9 rfl 24 _ rfl _ l24a ?_; (simp only [Act.put, List.setIfInBounds_toArray, List.set_cons_zero, List.set_cons_succ]); go_big_quiet_on) | (go_big_quiet_want; refine quiet_loadF 14 rfl 24 _ rfl _ l24 ?_; (simp only [Act.put, List.setIfInBounds_toArray, List.set_cons_zero, List.set_cons_succ]); go_big_quiet_on) | (go_big_quiet_want; refine quiet_eql24 15 rfl _ _ _ rfl _ _ hm hA rfl rfl _ hq ?_; (simp only [Act.put, List.setIfInBounds_toArray, List.set_cons_zero, List.set_cons_succ]); go_big_quiet_on) | (go_big_quiet_step (((first | refine (ref_check_ p hp _ _ he).mono ?_ | refine (ref_masked a ha p.L hL.1 hL.2 _).mono ?_); rintro e w2 ⟨rfl, hb2⟩; exact ⟨rfl, HN.out _ _ hb2⟩))))
    refine wpQuiet_nil ?_
    rintro w' ⟨x, rfl⟩
    have HB3 := Aside0.mk (below_then HB0.out HB0.out.size (HB.out x))
    clear l26 l24 l24a c16 HB HN hg hg2
    go_wp2_with (fail)
    go_ret
    exact ⟨by rw [HR.out]; rfl, HB3.out⟩

def cov (p q : Pfx) : Bool := chk q && (decide (p.L ≤ q.L) && con p q.A)
theorem ref_contains_ (p : Pfx) (hp : p.Ok) (a : List UInt8) (ha : a.length = 16) (w : World) (r : Bool) (hr : con p a = r) :
    Calls Try.prog 34 #[.agg (pc p).toArray, .agg (bs a).toArray] w fun e w' => e = .returned (.bool r) ∧ Below w.heap.size w w' := hr ▸ ref_contains p hp a ha w
theorem ref_covers (p : Pfx) (hp : p.Ok) (q : Pfx) (hq : q.Ok) (w : World) :
    Calls Try.prog 23 #[.agg (pc p).toArray, .agg (pc q).toArray] w fun e w' => e = .returned (.bool (cov p q)) ∧ Below w.heap.size w w' := by
  have hg0 : ((w.alloc (Obj.cells (pc p).toArray 26)).alloc (Obj.cells (pc q).toArray 26)).heap[w.heap.size]? = some (Obj.cells (pc p).toArray 26 (0, 0)) := blk_alloc (blk_new _ _) _
  have hg1 : ((w.alloc (Obj.cells (pc p).toArray 26)).alloc (Obj.cells (pc q).toArray 26)).heap[w.heap.size + 1]? = some (Obj.cells (pc q).toArray 26 (0, 0)) := by have := blk_new (w.alloc (Obj.cells (pc p).toArray 26)) (Obj.cells (pc q).toArray 26); simpa using this
  have HB0 : Aside0 (Below w.heap.size w ((w.alloc (Obj.cells (pc p).toArray 26)).alloc (Obj.cells (pc q).toArray 26))) := ⟨below_alloc (below_alloc (Below.refl _ _) _) _⟩
  obtain ⟨_, l26q, _, _⟩ := pfx_blk hq hg1
  cases hc : chk q with
  | false =>
    have he := ec21 hc
    have HR := Aside0.mk (show cov p q = false by unfold cov; rw [hc]; rfl)
    go_enter Try.func23, Try.ntmps23
    go_wp2_with ((with_reducible refine gate_dst (N := 5) rfl ?_); (try (refine gate_guard (by rfl) ?_; dsimp only)); refine load_step 26 _ rfl rfl _ l26q ?_)
    refine (ref_check_ q hq _ _ he).mono ?_; rintro e w1 ⟨rfl, hb1⟩
    go_wp2_with (fail)
    go_ret
    exact ⟨by rw [HR.out]; rfl, below_then HB0.out HB0.out.size hb1⟩
  | true =>
    have he := ec0 hc
    by_cases hle : p.L ≤ q.L
    · cases hcon : con p q.A with
      | _ =>
      have HR := Aside0.mk (show cov p q = _ by unfold cov; rw [hc, decide_eq_true hle, Bool.true_and, Bool.true_and, hcon])
      go_enter Try.func23, Try.ntmps23
      go_wp2_with ((with_reducible refine gate_dst (N := 5) rfl ?_); (try (refine gate_guard (by rfl) ?_; dsimp only)); refine load_step 26 _ rfl rfl _ l26q ?_)
      refine (ref_check_ q hq _ _ he).mono ?_; rintro e w1 ⟨rfl, hb1⟩
      have HB1 := Aside0.mk (below_then HB0.out HB0.out.size hb1)
      obtain ⟨p24, p26, p16, _⟩ := pfx_blk hp (blk_below hg0 hb1)
      obtain ⟨q24, q26, q16, _⟩ := pfx_blk hq (blk_below hg1 hb1)
      clear hb1 hg0 hg1 HB0 l26q
      go_wp2_with (first | ((with_reducible refine gate_dst (N := 16) rfl ?_); (try (refine gate_guard (by rfl) ?_; dsimp only)); refine load_step 26 _ rfl rfl _ p26 ?_) | ((with_reducible refine gate_dst (N := 18) rfl ?_); (try (refine gate_guard (by rfl) ?_; dsimp only)); refine load_step 24 _ rfl rfl _ q24 ?_))
      refine (ref_contains_ p hp q.A hq _ _ hcon).mono ?_; rintro e w2 ⟨rfl, hb2⟩
      go_wp2_with (fail)
      go_ret
      exact ⟨by rw [HR.out]; rfl, below_then HB1.out HB1.out.size hb2⟩
    · have HR := Aside0.mk (show cov p q = false by unfold cov; rw [decide_eq_false hle]; simp)
      go_enter Try.func23, Try.ntmps23
      go_wp2_with ((with_reducible refine gate_dst (N := 5) rfl ?_); (try (refine gate_guard (by rfl) ?_; dsimp only)); refine load_step 26 _ rfl rfl _ l26q ?_)
      refine (ref_check_ q hq _ _ he).mono ?_; rintro e w1 ⟨rfl, hb1⟩
      have HB1 := Aside0.mk (below_then HB0.out HB0.out.size hb1)
      obtain ⟨p24, p26, p16, _⟩ := pfx_blk hp (blk_below hg0 hb1)
      obtain ⟨q24, q26, q16, _⟩ := pfx_blk hq (blk_below hg1 hb1)
      clear hb1 hg0 hg1 HB0 l26q
      go_wp2_with (fail)
      go_ret
      exact ⟨by rw [HR.out]; rfl, HB1.out⟩

def nbits (p : Pfx) : Int := if pfam p = 4 then p.L - 96 else p.L
theorem pfam_two (p : Pfx) : pfam p = 4 ∨ pfam p = 6 := by
  unfold pfam
  split
  · exact fam_two _
  · exact .inr rfl
theorem pfam_L {p : Pfx} (h : pfam p = 4) : 96 ≤ p.L := by
  unfold pfam at h
  split at h
  · assumption
  · cases h
theorem ref_pfam_ (p : Pfx) (ha : p.Ok) (w : World) (r : Int) (hr : pfam p = r) :
    Calls Try.prog 24 #[.agg (pc p).toArray] w fun e w' => e = .returned (.int .i64 r) ∧ Below w.heap.size w w' := hr ▸ ref_pfam p ha w
theorem ref_bits (p : Pfx) (hp : p.Ok) (hL : p.L ≤ 9223372036854775807) (w : World) :
    Calls Try.prog 25 #[.agg (pc p).toArray] w fun e w' => e = .returned (.int .i64 (nbits p)) ∧ Below w.heap.size w w' := by
  have hb := blk_new w (Obj.cells (pc p).toArray 26)
  obtain ⟨l24, l26, c16, c16'⟩ := pfx_blk hp hb
  rcases pfam_two p with h | h
  · have h96 := pfam_L h
    have HR := Aside0.mk (show nbits p = p.L - 96 from if_pos h)
    go_enter Try.func25, Try.ntmps25
    go_wp2_with ((with_reducible refine gate_dst (N := 3) rfl ?_); (try (refine gate_guard (by rfl) ?_; dsimp only)); refine load_step 26 _ rfl rfl _ l26 ?_)
    refine (ref_pfam_ p hp _ _ h).mono ?_; rintro e w1 ⟨rfl, hb1⟩
    have HB1 := Aside0.mk (below_then (below_alloc (Below.refl _ _) _) (by simp) hb1)
    obtain ⟨p24, p26, p16, _⟩ := pfx_blk hp (blk_below hb hb1)
    clear hb1 hb l24 l26 c16
    go_wp2_with (fail)
    go_ret
    exact ⟨by rw [HR.out]; rfl, HB1.out⟩
  · have HR := Aside0.mk (show nbits p = p.L from if_neg (by omega))
    go_enter Try.func25, Try.ntmps25
    go_wp2_with ((with_reducible refine gate_dst (N := 3) rfl ?_); (try (refine gate_guard (by rfl) ?_; dsimp only)); refine load_step 26 _ rfl rfl _ l26 ?_)
    refine (ref_pfam_ p hp _ _ h).mono ?_; rintro e w1 ⟨rfl, hb1⟩
    have HB1 := Aside0.mk (below_then (below_alloc (Below.refl _ _) _) (by simp) hb1)
    obtain ⟨p24, p26, p16, _⟩ := pfx_blk hp (blk_below hb hb1)
    clear hb1 hb l24 l26 c16
    go_wp2_with (fail)
    go_ret
    exact ⟨by rw [HR.out]; rfl, HB1.out⟩

/-- Is it no pair? -/
def chkp (q : Par) : Bool := chk q.D && (chk q.S && (pfam q.D == pfam q.S))
def ecp (q : Par) : Int := if chkp q = true then 0 else 21
set_option maxHeartbeats 4000000 in
theorem ref_checkpair (q : Par) (hq : q.Ok) (w : World) :
    Calls Try.prog 15 #[.agg (qc q).toArray] w fun e w' => e = .returned (.int .i64 (ecp q)) ∧ Below w.heap.size w w' := by
  have hg0 := blk_new w (Obj.cells (qc q).toArray 28)
  have hq1 := hq.1
  have hq2 := hq.2
  have key : ∀ (cd cs : Bool) (fd fs : Int), chk q.D = cd → chk q.S = cs → pfam q.D = fd → pfam q.S = fs → (cd = true ∨ cd = false) → (cs = true ∨ cs = false) → (fd = 4 ∨ fd = 6) → (fs = 4 ∨ fs = 6) →
      Calls Try.prog 15 #[.agg (qc q).toArray] w fun e w' => e = .returned (.int .i64 (ecp q)) ∧ Below w.heap.size w w' := by
    intro cd cs fd fs hcd hcs hfd hfs bcd bcs bfd bfs
    have hed : ec q.D = if cd = true then 0 else 21 := by unfold ec; rw [hcd]
    have hes : ec q.S = if cs = true then 0 else 21 := by unfold ec; rw [hcs]
    rcases bcd with rfl | rfl <;> rcases bcs with rfl | rfl <;> rcases bfd with rfl | rfl <;> rcases bfs with rfl | rfl <;> (
      have HR := Aside0.mk (show ecp q = _ by unfold ecp chkp; rw [hcd, hcs, hfd, hfs])
      simp at hed hes
      go_enter Try.func15, Try.ntmps15
      go_wp2_with (fail)
      generalize hw0 : w.alloc (Obj.cells (qc q).toArray 28) = w0 at *
      have HB0 : Aside0 (Below w.heap.size w w0) := ⟨by rw [← hw0]; exact below_alloc (Below.refl _ _) _⟩
      clear hw0
      refine region_quietB (by kernel_rfl) (by kernel_rfl) ?_
      intro X F _ HB HN
      have lD : ∀ y, _ := fun y => (par_blk hq (blk_below hg0 (HB.out y))).1
      have lS : ∀ y, _ := fun y => (par_blk hq (blk_below hg0 (HB.out y))).2
      repeat (first | (go_big_quiet_want; refine quiet_loadF 4 rfl 26 _ rfl _ lD ?_; (simp only [Act.put, List.setIfInBounds_toArray, List.set_cons_zero, List.set_cons_succ]); go_big_quiet_on) | (go_big_quiet_want; refine quiet_loadF 9 rfl 26 _ rfl _ lS ?_; (simp only [Act.put, List.setIfInBounds_toArray, List.set_cons_zero, List.set_cons_succ]); go_big_quiet_on) | (go_big_quiet_want; refine quiet_loadF 15 rfl 26 _ rfl _ lD ?_; (simp only [Act.put, List.setIfInBounds_toArray, List.set_cons_zero, List.set_cons_succ]); go_big_quiet_on) | (go_big_quiet_want; refine quiet_loadF 18 rfl 26 _ rfl _ lS ?_; (simp only [Act.put, List.setIfInBounds_toArray, List.set_cons_zero, List.set_cons_succ]); go_big_quiet_on) | (go_big_quiet_step (((first | with_reducible refine (ref_check_ q.D hq1 _ _ hed).mono ?_ | with_reducible refine (ref_check_ q.S hq2 _ _ hes).mono ?_ | with_reducible refine (ref_pfam_ q.D hq1 _ _ hfd).mono ?_ | with_reducible refine (ref_pfam_ q.S hq2 _ _ hfs).mono ?_); rintro e w2 ⟨rfl, hb2⟩; exact ⟨rfl, HN.out _ _ hb2⟩))))
      refine wpQuiet_nil ?_
      rintro w' ⟨x, rfl⟩
      have HB3 := Aside0.mk (below_then HB0.out HB0.out.size (HB.out x))
      clear lD lS HB HN hg0
      go_wp2_with (fail)
      go_ret
      exact ⟨by rw [HR.out]; rfl, HB3.out⟩)
  exact key _ _ _ _ rfl rfl rfl rfl (by cases chk q.D <;> simp) (by cases chk q.S <;> simp) (pfam_two _) (pfam_two _)
end Go.Proofs.Ytadgagndfmdjmaa.Fl
