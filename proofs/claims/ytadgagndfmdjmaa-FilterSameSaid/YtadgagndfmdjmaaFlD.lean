/- Walks of addr's Family, PrefixFamily, Any, and of filter.bits. -/
import Derived.Test.YtadgagndfmdjmaaFlC
namespace Go.Proofs.Ytadgagndfmdjmaa.Fl
open Go.RowKit Go.Proofs.YtadgagndfmdjmaaW.PrintWords Go.Proofs.YtadgagndfmdjmaaW.PrintLast
open Extern.Stop (cell)

theorem u8_ne (x : UInt8) (n : UInt8) : ((x.toNat : Int) != (n.toNat : Int)) = !(x == n) := by
  rw [Bool.eq_iff_iff]
  simp only [bne_iff_ne, Bool.not_eq_true', beq_eq_false_iff_ne, ne_eq, ← UInt8.toNat_inj]
  omega
def v4s : List UInt8 := [0, 0, 0, 0, 0, 0, 0, 0, 0, 0, 255, 255]
theorem fam_take {a : List UInt8} (ha : a.length = 16) : fam a = if a.take 12 = v4s then 4 else 6 := by
  match a, ha with
  | [a0, a1, a2, a3, a4, a5, a6, a7, a8, a9, a10, a11, a12, a13, a14, a15], _ =>
    have e : ∀ x : UInt8, ((x.toNat : Int) != 0) = !(x == 0) := fun x => u8_ne x 0
    have e' : ∀ x : UInt8, ((x.toNat : Int) != 255) = !(x == 255) := fun x => u8_ne x 255
    unfold fam v4s
    congr 1
    rw [show List.range 12 = [0, 1, 2, 3, 4, 5, 6, 7, 8, 9, 10, 11] from rfl]
    simp [famBad, byte, e, e', -bne_iff_ne]
theorem conv12 {a : List UInt8} (ha : a.length = 16) {w : World} {g : Nat} (hb : w.heap[g]? = some (.cells (bs a).toArray 24 (0, 0))) :
    (convert 67 9 (.slice (some ⟨g, 0, none⟩) 12 16)).run Try.prog w = .ok (.string ⟨(a.take 12).toArray⟩) w := by
  have h12 : (a.take 12).length = 12 := by rw [List.length_take, ha]; rfl
  have := run_convert_bytes_back (P := Try.prog) w 67 9 5 ⟨g, 0, none⟩ 16 (a.take 12) Try.underlying67 Try.underlying5 Try.underlying9 (fun j hj => by
    rw [add_plain, blk_cell hb, bs_get' (by omega)]
    simp [byte, List.getD_eq_getElem?_getD, List.getElem?_eq_getElem (show j < a.length by omega)])
  rwa [h12] at this
theorem addr_fam (a : List UInt8) (ha : a.length = 16) (w : World) :
    Calls Try.prog 39 #[.agg (bs a).toArray] w fun e w' => e = .returned (.int .i64 (fam a)) ∧ Below w.heap.size w w' := by
  have hb := blk_new w (Obj.cells (bs a).toArray 24)
  have hc := conv12 ha hb
  by_cases h : a.take 12 = v4s
  · have HR := Aside0.mk (show fam a = 4 by rw [fam_take ha, if_pos h])
    rw [h, v4s] at hc
    clear hb
    go_enter Try.func39, Try.ntmps39
    go_wp2_with (fail)
    go_ret
    exact ⟨by rw [HR.out]; rfl, below_alloc (Below.refl _ _) _⟩
  · have HR := Aside0.mk (show fam a = 6 by rw [fam_take ha, if_neg h])
    have hne : (a.take 12 == [0, 0, 0, 0, 0, 0, 0, 0, 0, 0, 255, 255]) = false := by rw [beq_eq_false_iff_ne]; exact h
    clear h
    generalize a.take 12 = s at *
    clear hb
    go_enter Try.func39, Try.ntmps39
    go_wp2_with (fail)
    go_ret
    exact ⟨by rw [HR.out]; rfl, below_alloc (Below.refl _ _) _⟩
theorem addr_fam_ (a : List UInt8) (ha : a.length = 16) (w : World) (r : Int) (hr : fam a = r) :
    Calls Try.prog 39 #[.agg (bs a).toArray] w fun e w' => e = .returned (.int .i64 r) ∧ Below w.heap.size w w' := hr ▸ addr_fam a ha w
theorem addr_pfam (p : Pfx) (hp : p.Ok) (w : World) :
    Calls Try.prog 33 #[.agg (pc p).toArray] w fun e w' => e = .returned (.int .i64 (pfam p)) ∧ Below w.heap.size w w' := by
  have hA : p.A.length = 16 := hp
  have hb := blk_new w (Obj.cells (pc p).toArray 26)
  obtain ⟨l24, l26, c16, c16'⟩ := pfx_blk hp hb
  by_cases hL : 96 ≤ p.L
  · have HR := Aside0.mk (show pfam p = fam p.A from if_pos hL)
    go_enter Try.func33, Try.ntmps33
    go_wp2_with ((with_reducible refine gate_dst (N := 7) rfl ?_); (try (refine gate_guard (by rfl) ?_; dsimp only)); refine load_step 24 _ rfl rfl _ l24 ?_)
    refine (addr_fam p.A hA _).mono ?_; rintro e w1 ⟨rfl, hb1⟩
    go_wp2_with (fail)
    go_ret
    exact ⟨by rw [HR.out]; rfl, below_then (below_alloc (Below.refl _ _) _) (by simp) hb1⟩
  · have HR := Aside0.mk (show pfam p = 6 from if_neg hL)
    go_enter Try.func33, Try.ntmps33
    go_wp2_with (fail)
    go_ret
    exact ⟨by rw [HR.out]; rfl, below_alloc (Below.refl _ _) _⟩
theorem addr_pfam_ (p : Pfx) (ha : p.Ok) (w : World) (r : Int) (hr : pfam p = r) :
    Calls Try.prog 33 #[.agg (pc p).toArray] w fun e w' => e = .returned (.int .i64 r) ∧ Below w.heap.size w w' := hr ▸ addr_pfam p ha w
def any4 : Pfx := ⟨[0, 0, 0, 0, 0, 0, 0, 0, 0, 0, 255, 255, 0, 0, 0, 0], 96⟩
def any6 : Pfx := ⟨[0, 0, 0, 0, 0, 0, 0, 0, 0, 0, 0, 0, 0, 0, 0, 0], 0⟩
theorem copy_v4 {w : World} {g base : Nat} {T : TypeId} (hb : w.heap[g]? = some (.cells #[Value.int IntKind.u8 0, Value.int IntKind.u8 0, Value.int IntKind.u8 0, Value.int IntKind.u8 0, Value.int IntKind.u8 0, Value.int IntKind.u8 0, Value.int IntKind.u8 0, Value.int IntKind.u8 0, Value.int IntKind.u8 0, Value.int IntKind.u8 0, Value.int IntKind.u8 0, Value.int IntKind.u8 0, Value.int IntKind.u8 0, Value.int IntKind.u8 0, Value.int IntKind.u8 0, Value.int IntKind.u8 0, Value.int IntKind.i64 96] T (0, 0))) (hB : base ≤ g) :
    ∃ w2, (Builtin.copy_ #[67, 9] 3 #[.slice (some ⟨g, 0, none⟩) 16 16, .string ⟨#[0, 0, 0, 0, 0, 0, 0, 0, 0, 0, 255, 255]⟩]).run Try.prog w = .ok (.int .i64 12) w2 ∧ w2.heap[g]? = some (.cells (pc any4).toArray T (0, 0)) ∧ Below base w w2 ∧ ∀ k, k ≠ g → w2.heap[k]? = w.heap[k]? := by
  have hst := run_storeCells_cells (P := Try.prog) g 0 (bs v4s) 0 w (fun j hj => by rw [show 0 + 0 + j = j by omega, blk_cell hb]; have : j < 12 := hj; simp; omega) (fun j _ => blk_frozen hb _) bs_one
  obtain ⟨cur', h1, h2, h3⟩ := setCells_row (bs v4s) 0 w _ hb (by decide)
  have hc : cur' = (pc any4).toArray := by
    apply Array.toList_inj.1
    rw [h3]; rfl
  subst hc
  obtain ⟨e1, e2, e3, e4⟩ := setCells_same g (bs v4s) 0 w
  refine ⟨_, ?_, h1, ⟨e1, e2, e3, by omega, fun k hk => setCells_far _ 0 k (by omega)⟩, fun k hk => setCells_far _ 0 k hk⟩
  have hi : ∃ i, Try.prog.info? 5 = some i ∧ i.size = 1 := by
    have : (Try.prog.info? 5).map (·.size) = some 1 := by kernel_rfl
    rw [Option.map_eq_some_iff] at this
    exact this
  obtain ⟨i, hi1, hi2⟩ := hi
  simp [Builtin.copy_, run_underlying Try.underlying67, Builtin.lenOf, Builtin.firstCells, sizeOf, typeInfo, hi1]
  refine Eq.trans (b := ((Sem.run Try.prog (storeCells ⟨g, 0, none⟩ (bs v4s) 0) w).andThen fun _ w' => Result.ok (.int .i64 12) w')) rfl ?_
  rw [hst]
  rfl
theorem addr_any4 (w : World) : Calls Try.prog 38 #[.int .i64 4] w fun e w' => e = .returned (.agg (pc any4).toArray) ∧ Below w.heap.size w w' := by
  have hz := blk_new w (Obj.cells #[Value.int IntKind.u8 0, Value.int IntKind.u8 0, Value.int IntKind.u8 0, Value.int IntKind.u8 0, Value.int IntKind.u8 0, Value.int IntKind.u8 0, Value.int IntKind.u8 0, Value.int IntKind.u8 0, Value.int IntKind.u8 0, Value.int IntKind.u8 0, Value.int IntKind.u8 0, Value.int IntKind.u8 0, Value.int IntKind.u8 0, Value.int IntKind.u8 0, Value.int IntKind.u8 0, Value.int IntKind.u8 0, Value.int IntKind.i64 0] 26)
  have HB0 := Aside0.mk (below_alloc (Below.refl w.heap.size w) (Obj.cells #[Value.int IntKind.u8 0, Value.int IntKind.u8 0, Value.int IntKind.u8 0, Value.int IntKind.u8 0, Value.int IntKind.u8 0, Value.int IntKind.u8 0, Value.int IntKind.u8 0, Value.int IntKind.u8 0, Value.int IntKind.u8 0, Value.int IntKind.u8 0, Value.int IntKind.u8 0, Value.int IntKind.u8 0, Value.int IntKind.u8 0, Value.int IntKind.u8 0, Value.int IntKind.u8 0, Value.int IntKind.u8 0, Value.int IntKind.i64 0] 26))
  go_enter Try.func38, Try.ntmps38
  go_wp2_with (fail)
  refine (MFi.addr_shared.calls 4 96 _ rfl).mono ?_; rintro e w1 ⟨rfl, hd⟩
  have hb1 := hd.below
  have HB1 := Aside0.mk (below_then HB0.out HB0.out.size hb1)
  have HZ := blk_below hz hb1
  have hlt := blk_lt HZ
  obtain ⟨w2, hcopy, hg2, hb2, hf2⟩ := copy_v4 (base := w.heap.size) (blk_new w1 (Obj.cells #[Value.int IntKind.u8 0, Value.int IntKind.u8 0, Value.int IntKind.u8 0, Value.int IntKind.u8 0, Value.int IntKind.u8 0, Value.int IntKind.u8 0, Value.int IntKind.u8 0, Value.int IntKind.u8 0, Value.int IntKind.u8 0, Value.int IntKind.u8 0, Value.int IntKind.u8 0, Value.int IntKind.u8 0, Value.int IntKind.u8 0, Value.int IntKind.u8 0, Value.int IntKind.u8 0, Value.int IntKind.u8 0, Value.int IntKind.i64 96] 26)) (by omega)
  have HZ2 := Aside0.mk ((hf2 w.heap.size (by omega)).trans (blk_alloc HZ _))
  have HB2 := Aside0.mk ((below_alloc HB1.out _).trans hb2)
  have HG2 := Aside0.mk hg2
  have l26 := (pfx_blk (p := any4) rfl hg2).2.1
  clear hz HB0 hb1 hd hlt hf2 HZ hb2 hg2
  go_wp2_with (first | ((with_reducible refine gate_dst (N := 12) rfl ?_); (try (refine gate_guard (by rfl) ?_; dsimp only)); refine load_step 26 _ rfl rfl _ l26 ?_) | ((with_reducible refine gate_ (.store 26 (.tmp 2) _) rfl ?_); refine store_step (vs := pc any4) 26 _ _ rfl rfl w.heap.size rfl rfl HZ2.out rfl (by kernel_rfl) (by decide) (by omega) ?_; intro w3 hg3 hb3 hf3))
  refine bodyPost_ret (results_cell_row rfl _ _ w.heap.size 26 (pc any4).toArray (0, 0) _ rfl hg3.out Try.underlying26 rfl (by kernel_rfl)) rfl ?_
  exact ⟨rfl, HB2.out.trans hb3.out⟩
theorem addr_any6 (w : World) : Calls Try.prog 38 #[.int .i64 6] w fun e w' => e = .returned (.agg (pc any6).toArray) ∧ Below w.heap.size w w' := by
  have hz := blk_new w (Obj.cells #[Value.int IntKind.u8 0, Value.int IntKind.u8 0, Value.int IntKind.u8 0, Value.int IntKind.u8 0, Value.int IntKind.u8 0, Value.int IntKind.u8 0, Value.int IntKind.u8 0, Value.int IntKind.u8 0, Value.int IntKind.u8 0, Value.int IntKind.u8 0, Value.int IntKind.u8 0, Value.int IntKind.u8 0, Value.int IntKind.u8 0, Value.int IntKind.u8 0, Value.int IntKind.u8 0, Value.int IntKind.u8 0, Value.int IntKind.i64 0] 26)
  have HB0 := Aside0.mk (below_alloc (Below.refl w.heap.size w) (Obj.cells #[Value.int IntKind.u8 0, Value.int IntKind.u8 0, Value.int IntKind.u8 0, Value.int IntKind.u8 0, Value.int IntKind.u8 0, Value.int IntKind.u8 0, Value.int IntKind.u8 0, Value.int IntKind.u8 0, Value.int IntKind.u8 0, Value.int IntKind.u8 0, Value.int IntKind.u8 0, Value.int IntKind.u8 0, Value.int IntKind.u8 0, Value.int IntKind.u8 0, Value.int IntKind.u8 0, Value.int IntKind.u8 0, Value.int IntKind.i64 0] 26))
  go_enter Try.func38, Try.ntmps38
  go_wp2_with (fail)
  refine (MFi.addr_shared.calls 6 0 _ rfl).mono ?_; rintro e w1 ⟨rfl, hd⟩
  have hb1 := hd.below
  have HB1 := Aside0.mk (below_then HB0.out HB0.out.size hb1)
  have HZ := blk_below hz hb1
  have hlt := blk_lt HZ
  have hg2 : (w1.alloc (Obj.cells #[Value.int IntKind.u8 0, Value.int IntKind.u8 0, Value.int IntKind.u8 0, Value.int IntKind.u8 0, Value.int IntKind.u8 0, Value.int IntKind.u8 0, Value.int IntKind.u8 0, Value.int IntKind.u8 0, Value.int IntKind.u8 0, Value.int IntKind.u8 0, Value.int IntKind.u8 0, Value.int IntKind.u8 0, Value.int IntKind.u8 0, Value.int IntKind.u8 0, Value.int IntKind.u8 0, Value.int IntKind.u8 0, Value.int IntKind.i64 0] 26)).heap[w1.heap.size]? = some (Obj.cells (pc any6).toArray 26 (0, 0)) := blk_new w1 _
  have HZ2 := Aside0.mk (blk_alloc HZ (Obj.cells #[Value.int IntKind.u8 0, Value.int IntKind.u8 0, Value.int IntKind.u8 0, Value.int IntKind.u8 0, Value.int IntKind.u8 0, Value.int IntKind.u8 0, Value.int IntKind.u8 0, Value.int IntKind.u8 0, Value.int IntKind.u8 0, Value.int IntKind.u8 0, Value.int IntKind.u8 0, Value.int IntKind.u8 0, Value.int IntKind.u8 0, Value.int IntKind.u8 0, Value.int IntKind.u8 0, Value.int IntKind.u8 0, Value.int IntKind.i64 0] 26))
  have HB2 := Aside0.mk (below_alloc HB1.out (Obj.cells #[Value.int IntKind.u8 0, Value.int IntKind.u8 0, Value.int IntKind.u8 0, Value.int IntKind.u8 0, Value.int IntKind.u8 0, Value.int IntKind.u8 0, Value.int IntKind.u8 0, Value.int IntKind.u8 0, Value.int IntKind.u8 0, Value.int IntKind.u8 0, Value.int IntKind.u8 0, Value.int IntKind.u8 0, Value.int IntKind.u8 0, Value.int IntKind.u8 0, Value.int IntKind.u8 0, Value.int IntKind.u8 0, Value.int IntKind.i64 0] 26))
  have l26 := (pfx_blk (p := any6) rfl hg2).2.1
  clear hz HB0 hb1 hd hlt HZ hg2
  go_wp2_with (first | ((with_reducible refine gate_dst (N := 12) rfl ?_); (try (refine gate_guard (by rfl) ?_; dsimp only)); refine load_step 26 _ rfl rfl _ l26 ?_) | ((with_reducible refine gate_ (.store 26 (.tmp 2) _) rfl ?_); refine store_step (vs := pc any6) 26 _ _ rfl rfl w.heap.size rfl rfl HZ2.out rfl (by kernel_rfl) (by decide) (by omega) ?_; intro w3 hg3 hb3 hf3))
  refine bodyPost_ret (results_cell_row rfl _ _ w.heap.size 26 (pc any6).toArray (0, 0) _ rfl hg3.out Try.underlying26 rfl (by kernel_rfl)) rfl ?_
  exact ⟨rfl, HB2.out.trans hb3.out⟩
end Go.Proofs.Ytadgagndfmdjmaa.Fl
