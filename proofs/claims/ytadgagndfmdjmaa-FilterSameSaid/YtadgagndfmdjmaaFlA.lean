/- Addresses, prefixes, pairs as values; walks of the document's functions over them. -/
import Derived.Test.YtadgagndfmdjmaaMFix2
import Derived.Deep.RegionWith
import Derived.BigQuiet
import Derived.Deep.MidRow
import Derived.Stop.BytesEq
namespace Go.Proofs.Ytadgagndfmdjmaa.Fl
open Go.RowKit Go.Proofs.YtadgagndfmdjmaaW.PrintWords Go.Proofs.YtadgagndfmdjmaaW.PrintLast
open Extern.Stop (cell)
/-- The cells of an array of bytes. -/
def bs (a : List UInt8) : List Value := a.map cell
def byte (a : List UInt8) (i : Int) : Int := (a.getD i.toNat 0).toNat
theorem byte_range (a : List UInt8) (i : Int) : 0 ≤ byte a i ∧ byte a i ≤ 255 := by
  have := (a.getD i.toNat 0).toNat_lt
  unfold byte; omega
theorem bs_len (a : List UInt8) : (bs a).length = a.length := by simp [bs]
theorem bs_get {a : List UInt8} {i : Nat} (h : i < a.length) : (bs a)[i]? = some (.int .u8 (byte a i)) := by
  simp [bs, byte, cell, List.getD_eq_getElem?_getD, List.getElem?_eq_getElem h]
theorem bs_get' {a : List UInt8} {i : Nat} (h : i < a.length) : (bs a).toArray[i]? = some (.int .u8 (byte a i)) := by
  rw [List.getElem?_toArray]; exact bs_get h
structure Pfx where
  A : List UInt8
  L : Int
structure Par where
  D : Pfx
  S : Pfx
def Pfx.Ok (p : Pfx) : Prop := p.A.length = 16
def Par.Ok (q : Par) : Prop := q.D.Ok ∧ q.S.Ok
def pc (p : Pfx) : List Value := bs p.A ++ [.int .i64 p.L]
def qc (q : Par) : List Value := pc q.D ++ pc q.S
theorem pc_len {p : Pfx} (h : p.Ok) : (pc p).length = 17 := by have : p.A.length = 16 := h; simp [pc, bs, this]
theorem qc_len {q : Par} (h : q.Ok) : (qc q).length = 34 := by simp [qc, pc_len h.1, pc_len h.2]
theorem pc_L {p : Pfx} (h : p.Ok) : (pc p)[16]? = some (.int .i64 p.L) := by
  have h : p.A.length = 16 := h
  unfold pc
  rw [List.getElem?_append_right (by simp [bs, h])]
  simp [bs, h]
theorem pc_A {p : Pfx} (h : p.Ok) : ((pc p).drop 0).take 16 = bs p.A := by
  have h : p.A.length = 16 := h
  unfold pc
  rw [List.drop_zero, List.take_left' (by simp [bs, h])]
theorem load_mid {b o n : Nat} {C : List Value} {T : TypeId} {d : TypeDesc} {ty : TypeId} {w : World} {cs : List Value} (hb : w.heap[b]? = some (.cells C.toArray T (0, 0))) (hcs : (C.drop o).take n = cs)
    (hn : cs.length = n) (hu : Try.prog.underlying ty = some d) (hd : d.isRow = true) (hi : (Try.prog.info? ty).map (·.size) = some n) :
    (Instr.loadAt ty (.pointer (some ⟨b, o, none⟩))).run Try.prog w = .ok (.agg cs.toArray) w := by
  subst hcs
  refine run_loadAt_mid w b o ty _ d (fun j v hv => ?_) hu hd (by rw [hn]; exact hi)
  rw [blk_cell hb]
  have := hv
  rw [List.getElem?_take] at this
  split at this
  · rw [List.getElem?_drop] at this
    simpa using this
  · cases this
theorem load_step {P : Program} {ops : Array Oper} {rest : List Oper} {o : Oper} {a : Act} {Q : Exit → Act → World → Prop} {W : World} (ty : TypeId) (x : Operand) (ho : o.op = .load ty x) (hg : o.guard = none) (v : Value)
    (hv : (Instr.loadAt ty (a.eval x)).run P W = .ok v W) (h : wpList P ops Q rest (a.put o.dst v) W) : wpList P ops Q (o :: rest) a W :=
  wpList_plain hg fun _ hK => by
    unfold Oper.wp execOp
    simp only [ho, hv, Sem.run_bind, Sem.run_pure, Result.andThen_ok]
    exact hK _ _ h
theorem quiet_loadF {X : Type} {F : X → World} {P : Program} {o : Oper} {a : Act} {K : Act → Prop} (N : Tmp) (_hN : o.dst = some N) (ty : TypeId) (x : Operand) (ho : o.op = .load ty x) (v : Value) (hv : ∀ y, (Instr.loadAt ty (a.eval x)).run P (F y) = .ok v (F y))
    (hk : K (a.put o.dst v)) : o.quiet P a (fun w' => ∃ y, w' = F y) K :=
  ⟨v, fun w ⟨y, hy⟩ => by
    subst hy
    unfold Oper.quietAt execOp
    simp only [ho, hv, Sem.run_bind, Sem.run_pure, Result.andThen_ok]
    exact ⟨rfl, rfl⟩, hk⟩
theorem run_eq24 {p q : List UInt8} (hp : p.length = 16) (hq : q.length = 16) (w : World) : (Op.equalIn 10000 24 (.agg (bs p).toArray) (.agg (bs q).toArray)).run Try.prog w = .ok (p == q) w :=
  run_equalIn_bytes w 9998 24 5 16 Try.underlying24 Try.underlying5 (fun w => by kernel_rfl) p q hp hq
theorem quiet_eql24 {X : Type} {F : X → World} {o : Oper} {a : Act} {K : Act → Prop} (N : Tmp) (_hN : o.dst = some N) (x y : Operand) (tt : TypeId) (ho : o.op = .binOp .eql 24 x y tt) (p q : List UInt8) (hp : p.length = 16) (hq : q.length = 16)
    (hx : a.eval x = .agg (bs p).toArray) (hy : a.eval y = .agg (bs q).toArray) (r : Bool) (hr : (p == q) = r) (hk : K (a.put o.dst (.bool r))) : o.quiet Try.prog a (fun w' => ∃ y, w' = F y) K :=
  ⟨_, fun w ⟨y, hy'⟩ => by
    subst hy'
    unfold Oper.quietAt execOp
    simp only [ho, hx, hy, Sem.run_bind, Sem.run_pure, run_eqGuard_agg (P := Try.prog) _ .eql 24 _ _ _ _ (by kernel_rfl), run_eql_struct, run_eq24 hp hq, Result.andThen_ok, hr]
    exact ⟨rfl, rfl⟩, hk⟩
theorem quiet_neq24 {X : Type} {F : X → World} {o : Oper} {a : Act} {K : Act → Prop} (N : Tmp) (_hN : o.dst = some N) (x y : Operand) (tt : TypeId) (ho : o.op = .binOp .neq 24 x y tt) (p q : List UInt8) (hp : p.length = 16) (hq : q.length = 16)
    (hx : a.eval x = .agg (bs p).toArray) (hy : a.eval y = .agg (bs q).toArray) (r : Bool) (hr : (!(p == q)) = r) (hk : K (a.put o.dst (.bool r))) : o.quiet Try.prog a (fun w' => ∃ y, w' = F y) K :=
  ⟨_, fun w ⟨y, hy'⟩ => by
    subst hy'
    unfold Oper.quietAt execOp
    simp only [ho, hx, hy, Sem.run_bind, Sem.run_pure, run_eqGuard_agg (P := Try.prog) _ .neq 24 _ _ _ _ (by kernel_rfl), run_neq_struct, run_eq24 hp hq, Result.andThen_ok, hr]
    exact ⟨rfl, rfl⟩, hk⟩
theorem region_quietB {P : Program} {id : Nat} {Q : Exit → Act → World → Prop} {a : Act} {w : World} {l : List Oper} (hm : P.follows .mixedOrders = true) (hB : Region.lexB .any l.toArray = true)
    (h : ∀ (X : Type) (F : X → World) (_ : Nonempty X), Aside0 (∀ x, Below w.heap.size w (F x)) → Aside0 (∀ x w', Below (F x).heap.size (F x) w' → ∃ y, w' = F y) →
      wpQuiet P l.toArray (fun w' => ∃ x, w' = F x) (fun a' => ∀ w', (∃ x, w' = F x) → Q .normal a' w') l a) : (Code.region id l.toArray true).wp P Q a w := by
  have h1 := h {w' : World // Below w.heap.size w w'} (fun x => x.1) ⟨⟨w, Below.refl _ _⟩⟩ ⟨fun x => x.2⟩ ⟨fun x w' hb => ⟨⟨w', below_then x.2 x.2.size hb⟩, rfl⟩⟩
  exact wp_region_quiet (C := fun w' => ∃ x : {w' : World // Below w.heap.size w w'}, w' = x.1) hm hB ⟨⟨w.drew, (Below.refl _ _).drew⟩, rfl⟩ (by simpa using h1)
/-- What a prefix in memory reads as. -/
theorem pfx_blk {p : Pfx} (h : p.Ok) {w : World} {b : Nat} {T : TypeId} (hb : w.heap[b]? = some (.cells (pc p).toArray T (0, 0))) :
    (Instr.loadAt 24 (.pointer (some ⟨b, 0, none⟩))).run Try.prog w = .ok (.agg (bs p.A).toArray) w ∧ (Instr.loadAt 26 (.pointer (some ⟨b, 0, none⟩))).run Try.prog w = .ok (.agg (pc p).toArray) w ∧ w.cell? ⟨b, 16, none⟩ = some (.int .i64 p.L) ∧ (pc p)[16]? = some (.int .i64 p.L) :=
  ⟨load_mid hb (pc_A h) (by have : p.A.length = 16 := h; simp [bs, this]) Try.underlying24 rfl (by kernel_rfl), load_mid hb (by rw [List.drop_zero, List.take_of_length_le (by rw [pc_len h]; omega)]) (pc_len h) Try.underlying26 rfl (by kernel_rfl), (blk_cell hb 16).trans (by rw [List.getElem?_toArray]; exact pc_L h), pc_L h⟩
theorem par_blk {q : Par} (h : q.Ok) {w : World} {b : Nat} {T : TypeId} (hb : w.heap[b]? = some (.cells (qc q).toArray T (0, 0))) :
    (Instr.loadAt 26 (.pointer (some ⟨b, 0, none⟩))).run Try.prog w = .ok (.agg (pc q.D).toArray) w ∧ (Instr.loadAt 26 (.pointer (some ⟨b, 17, none⟩))).run Try.prog w = .ok (.agg (pc q.S).toArray) w :=
  ⟨load_mid hb (by unfold qc; rw [List.drop_zero, List.take_left' (pc_len h.1)]) (pc_len h.1) Try.underlying26 rfl (by kernel_rfl), load_mid hb (by unfold qc; rw [List.drop_left' (pc_len h.1), List.take_of_length_le (by rw [pc_len h.2]; omega)]) (pc_len h.2) Try.underlying26 rfl (by kernel_rfl)⟩

def famBad (a : List UInt8) (i : Int) : Bool := if i < 10 then byte a i != 0 else byte a i != 255
def fam (a : List UInt8) : Int := if (List.range 12).all (fun j => !famBad a j) then 4 else 6
theorem fam6 {a : List UInt8} {j : Nat} (hj : j < 12) (h : famBad a j = true) : fam a = 6 := by
  unfold fam
  rw [if_neg]
  intro hA
  have := List.all_eq_true.1 hA j (List.mem_range.2 hj)
  rw [h] at this; cases this
theorem fam4 {a : List UInt8} (h : ∀ j : Nat, j < 12 → famBad a j = false) : fam a = 4 := by
  unfold fam
  rw [if_pos]
  exact List.all_eq_true.2 fun j hj => by rw [h j (List.mem_range.1 hj)]; rfl

theorem ref_fam (a : List UInt8) (ha : a.length = 16) (w : World) :
    Calls Try.prog 35 #[.agg (bs a).toArray] w fun e w' => e = .returned (.int .i64 (fam a)) ∧ Below w.heap.size w w' := by
  go_enter Try.func35, Try.ntmps35
  go_wp2_with (fail)
  generalize hw0 : w.alloc (Obj.cells (bs a).toArray 24) = w0
  have HB : Aside0 (Below w.heap.size w w0) := ⟨by rw [← hw0]; exact below_alloc (Below.refl _ _) _⟩
  have HG : Aside0 (w0.heap[w.heap.size]? = some (Obj.cells (bs a).toArray 24 (0, 0))) := ⟨by rw [← hw0]; exact blk_new _ _⟩
  clear hw0
  go_loopw [3] (fun i wr => w0 = wr ∧ ∃ k : Nat, k ≤ 12 ∧ i = .int .i64 k ∧ Aside0 (∀ j : Nat, j < k → famBad a j = false)) (fun i _ => 12 - (intOf i).toNat)
  case atStart => exact ⟨rfl, 0, by omega, rfl, ⟨fun j hj => by omega⟩⟩
  case round =>
    obtain ⟨rfl, k, hk, rfl, HI⟩ := hrel
    by_cases hlt : k < 12
    · have c0 : w0.cell? ⟨w.heap.size, k, none⟩ = some (.int .u8 (byte a k)) := (blk_cell HG.out k).trans (bs_get' (by omega))
      have next : famBad a k = false → Aside0 (∀ j : Nat, j < k + 1 → famBad a j = false) := fun h => ⟨fun j hj => by
        by_cases hjk : j = k
        · rw [hjk]; exact h
        · exact HI.out j (by omega)⟩
      by_cases h10 : (k : Int) < 10
      · have e : famBad a k = (byte a k != 0) := by unfold famBad; rw [if_pos h10]
        cases hx : (byte a k != 0) with
        | true =>
          have HR := Aside0.mk (fam6 hlt (e.trans hx))
          generalize byte a k = x at *
          clear e next
          go_wp2_with (fail)
          go_ret
          exact ⟨by rw [HR.out]; rfl, HB.out⟩
        | false =>
          have HN := next (e.trans hx)
          generalize byte a k = x at *
          clear e next HI
          go_wp2_with (fail)
          go_roundw
          case rel => exact ⟨trivial, k + 1, by omega, by go_num, HN⟩
          case measure => simp [intOf]; omega
      · have e : famBad a k = (byte a k != 255) := by unfold famBad; rw [if_neg h10]
        cases hx : (byte a k != 255) with
        | true =>
          have HR := Aside0.mk (fam6 hlt (e.trans hx))
          generalize byte a k = x at *
          clear e next
          go_wp2_with (fail)
          go_ret
          exact ⟨by rw [HR.out]; rfl, HB.out⟩
        | false =>
          have HN := next (e.trans hx)
          generalize byte a k = x at *
          clear e next HI
          go_wp2_with (fail)
          go_roundw
          case rel => exact ⟨trivial, k + 1, by omega, by go_num, HN⟩
          case measure => simp [intOf]; omega
    · obtain rfl : k = 12 := by omega
      have HR := Aside0.mk (fam4 HI.out)
      go_wp2_with (fail)
      go_ret
      exact ⟨by rw [HR.out]; rfl, HB.out⟩

/-- Bit t (0 the highest) of a byte. -/
def bitv (x : Int) (t : Nat) : Int := x / 2 ^ (7 - t) % 2
theorem bit_all : ∀ x : Fin 256, ∀ t : Fin 8, Go.bits BinOp.and IntKind.i64 (wrap64 ((x.val : Int) / 2 ^ (7 - t.val))) 1 = bitv x.val t.val := by decide +kernel
def bitAt (a : List UInt8) (i : Int) : Int := bitv (byte a (i / 8)) (i % 8).toNat
theorem ref_bit (a : List UInt8) (ha : a.length = 16) (i : Int) (h0 : 0 ≤ i) (h1 : i < 128) (w : World) :
    Calls Try.prog 36 #[.agg (bs a).toArray, .int .i64 i] w fun e w' => e = .returned (.int .i64 (bitAt a i)) ∧ Below w.heap.size w w' := by
  have c0 : (bs a)[(i / 8).toNat]? = some (.int .u8 (byte a (i / 8))) := by
    have := bs_get (a := a) (i := (i / 8).toNat) (by omega)
    rwa [show (((i / 8).toNat : Nat) : Int) = i / 8 by omega] at this
  have hr := byte_range a (i / 8)
  have HR : Aside0 (Go.bits BinOp.and IntKind.i64 (wrap64 (byte a (i / 8) / 2 ^ (7 - i % 8).toNat)) 1 = bitAt a i) := ⟨by
    have := bit_all ⟨(byte a (i / 8)).toNat, by omega⟩ ⟨(i % 8).toNat, by omega⟩
    unfold bitAt
    simp only [] at this
    rw [show ((byte a (i / 8)).toNat : Int) = byte a (i / 8) by omega] at this
    rw [← this, show (7 - i % 8).toNat = 7 - (i % 8).toNat by omega]⟩
  generalize byte a (i / 8) = x at *
  generalize bitAt a i = R at *
  go_enter Try.func36, Try.ntmps36
  go_wp2_with (fail)
  go_ret
  exact ⟨by rw [← HR.out]; rfl, below_alloc (Below.refl _ _) _⟩

theorem ref_bit_ (a : List UInt8) (ha : a.length = 16) (i : Int) (h0 : 0 ≤ i) (h1 : i < 128) (w : World) (r : Int) (hr : bitAt a i = r) :
    Calls Try.prog 36 #[.agg (bs a).toArray, .int .i64 i] w fun e w' => e = .returned (.int .i64 r) ∧ Below w.heap.size w w' := hr ▸ ref_bit a ha i h0 h1 w
def pfam (p : Pfx) : Int := if 96 ≤ p.L then fam p.A else 6
theorem fam_two (a : List UInt8) : fam a = 4 ∨ fam a = 6 := by
  unfold fam
  split
  · exact .inl rfl
  · exact .inr rfl
theorem ref_fam_ (a : List UInt8) (ha : a.length = 16) (w : World) (r : Int) (hr : fam a = r) :
    Calls Try.prog 35 #[.agg (bs a).toArray] w fun e w' => e = .returned (.int .i64 r) ∧ Below w.heap.size w w' := hr ▸ ref_fam a ha w
theorem ref_pfam (p : Pfx) (ha : p.Ok) (w : World) :
    Calls Try.prog 24 #[.agg (pc p).toArray] w fun e w' => e = .returned (.int .i64 (pfam p)) ∧ Below w.heap.size w w' := by
  have hb := blk_new w (Obj.cells (pc p).toArray 26)
  obtain ⟨l24, l26, c16, c16'⟩ := pfx_blk ha hb
  by_cases hL : 96 ≤ p.L
  · have HR := Aside0.mk (show pfam p = fam p.A from if_pos hL)
    rcases fam_two p.A with h | h
    · go_enter Try.func24, Try.ntmps24
      go_wp2_with ((with_reducible refine gate_dst (N := 8) rfl ?_); (try (refine gate_guard (by rfl) ?_; dsimp only)); refine load_step 24 _ rfl rfl _ l24 ?_)
      refine (ref_fam_ p.A ha _ _ h).mono ?_; rintro e w1 ⟨rfl, hb1⟩
      go_wp2_with (fail)
      go_ret
      exact ⟨by rw [HR.out, h]; rfl, below_then (below_alloc (Below.refl _ _) _) (by simp) hb1⟩
    · go_enter Try.func24, Try.ntmps24
      go_wp2_with ((with_reducible refine gate_dst (N := 8) rfl ?_); (try (refine gate_guard (by rfl) ?_; dsimp only)); refine load_step 24 _ rfl rfl _ l24 ?_)
      refine (ref_fam_ p.A ha _ _ h).mono ?_; rintro e w1 ⟨rfl, hb1⟩
      go_wp2_with (fail)
      go_ret
      exact ⟨by rw [HR.out, h]; rfl, below_then (below_alloc (Below.refl _ _) _) (by simp) hb1⟩
  · have HR := Aside0.mk (show pfam p = 6 from if_neg hL)
    go_enter Try.func24, Try.ntmps24
    go_wp2_with (fail)
    go_ret
    exact ⟨by rw [HR.out]; rfl, below_alloc (Below.refl _ _) _⟩

/-- May a prefix be? -/
def chk (p : Pfx) : Bool := decide (0 ≤ p.L ∧ p.L ≤ 128) && (List.range 128).all (fun i => decide ((i : Int) < p.L) || !(bitAt p.A i == 1))
def ec (p : Pfx) : Int := if chk p = true then 0 else 21
theorem ec_out {p : Pfx} (h : ¬ (0 ≤ p.L ∧ p.L ≤ 128)) : ec p = 21 := by unfold ec chk; rw [decide_eq_false h]; rfl
theorem ec_bad {p : Pfx} {i : Int} (h0 : 0 ≤ i) (h1 : i < 128) (hL : p.L ≤ i) (h : bitAt p.A i = 1) : ec p = 21 := by
  unfold ec chk
  rw [if_neg]
  intro hA
  rw [Bool.and_eq_true] at hA
  have := List.all_eq_true.1 hA.2 i.toNat (List.mem_range.2 (by omega))
  rw [show ((i.toNat : Nat) : Int) = i by omega, h, decide_eq_false (by omega)] at this
  cases this
theorem ec_ok {p : Pfx} (h0 : 0 ≤ p.L) (h1 : p.L ≤ 128) (h : ∀ i : Int, p.L ≤ i → i < 128 → bitAt p.A i ≠ 1) : ec p = 0 := by
  unfold ec chk
  rw [decide_eq_true ⟨h0, h1⟩, Bool.true_and, if_pos]
  refine List.all_eq_true.2 fun i hi => ?_
  have hi := List.mem_range.1 hi
  by_cases hl : (i : Int) < p.L
  · rw [decide_eq_true hl]; rfl
  · have := h i (by omega) (by omega)
    simp [this]
theorem ref_check (p : Pfx) (ha : p.Ok) (w : World) :
    Calls Try.prog 26 #[.agg (pc p).toArray] w fun e w' => e = .returned (.int .i64 (ec p)) ∧ Below w.heap.size w w' := by
  have hb := blk_new w (Obj.cells (pc p).toArray 26)
  obtain ⟨l24, l26, c16, c16'⟩ := pfx_blk ha hb
  by_cases hL0 : 0 ≤ p.L
  · by_cases hL1 : p.L ≤ 128
    · go_enter Try.func26, Try.ntmps26
      go_wp2_with (fail)
      generalize hw0 : w.alloc (Obj.cells (pc p).toArray 26) = w0 at *
      have HB0 : Aside0 (Below w.heap.size w w0) := ⟨by rw [← hw0]; exact below_alloc (Below.refl _ _) _⟩
      have HG0 := Aside0.mk hb
      clear hw0 l24 l26 c16 c16' hb
      go_loopw [3] (fun v wr => ∃ i : Int, p.L ≤ i ∧ i ≤ 128 ∧ v = .int .i64 i ∧ Aside0 (∀ j : Int, p.L ≤ j → j < i → bitAt p.A j ≠ 1) ∧ Aside0 (Below w.heap.size w wr) ∧ Aside0 (wr.heap[w.heap.size]? = some (.cells (pc p).toArray 26 (0, 0)))) (fun v _ => 128 - (intOf v).toNat)
      case atStart => exact ⟨p.L, by omega, hL1, rfl, ⟨fun j h1 h2 => by omega⟩, HB0, HG0⟩
      case round =>
        clear HB0 HG0
        obtain ⟨i, hi0, hi1, rfl, HI, HB, HG⟩ := hrel
        obtain ⟨l24, l26, c16, c16'⟩ := pfx_blk ha HG.out
        by_cases hlt : i < 128
        · by_cases hx : bitAt p.A i = 1
          · have HR := Aside0.mk (ec_bad (by omega) hlt hi0 hx)
            go_wp2_with ((with_reducible refine gate_dst (N := 19) rfl ?_); (try (refine gate_guard (by rfl) ?_; dsimp only)); refine load_step 24 _ rfl rfl _ l24 ?_)
            refine (ref_bit_ p.A ha i (by omega) hlt _ _ hx).mono ?_; rintro e w1 ⟨rfl, hb1⟩
            go_wp2_with (fail)
            go_ret
            exact ⟨by rw [HR.out]; rfl, below_then HB.out HB.out.size hb1⟩
          · have HN : Aside0 (∀ j : Int, p.L ≤ j → j < i + 1 → bitAt p.A j ≠ 1) := ⟨fun j h1 h2 => by
              by_cases hj : j = i
              · rw [hj]; exact hx
              · exact HI.out j h1 (by omega)⟩
            clear HI
            generalize hr : bitAt p.A i = r at *
            have hd : (r == 1) = false := by rw [beq_eq_false_iff_ne]; exact hx
            go_wp2_with ((with_reducible refine gate_dst (N := 19) rfl ?_); (try (refine gate_guard (by rfl) ?_; dsimp only)); refine load_step 24 _ rfl rfl _ l24 ?_)
            refine (ref_bit_ p.A ha i (by omega) hlt _ _ hr).mono ?_; rintro e w1 ⟨rfl, hb1⟩
            have HB1 := Aside0.mk (below_then HB.out HB.out.size hb1)
            have HG1 := Aside0.mk (blk_below HG.out hb1)
            clear hb1 l24 l26 c16
            go_wp2_with (fail)
            go_roundw
            case rel => exact ⟨i + 1, by omega, by omega, by go_num, HN, HB1, HG1⟩
            case measure => simp [intOf]; omega
        · obtain rfl : i = 128 := by omega
          have HR := Aside0.mk (ec_ok hL0 hL1 HI.out)
          go_wp2_with (fail)
          go_ret
          exact ⟨by rw [HR.out]; rfl, HB.out⟩
    · have HR := Aside0.mk (ec_out (p := p) (by omega))
      go_enter Try.func26, Try.ntmps26
      go_wp2_with (fail)
      go_ret
      exact ⟨by rw [HR.out]; rfl, below_alloc (Below.refl _ _) _⟩
  · have HR := Aside0.mk (ec_out (p := p) (by omega))
    go_enter Try.func26, Try.ntmps26
    go_wp2_with (fail)
    go_ret
    exact ⟨by rw [HR.out]; rfl, below_alloc (Below.refl _ _) _⟩
end Go.Proofs.Ytadgagndfmdjmaa.Fl
