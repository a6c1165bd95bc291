/- culvertlaw10.func4 and the document's Any at 4. -/
import Derived.Test.YtadgagndfmdjmaaFlL
namespace Go.Proofs.Ytadgagndfmdjmaa.Fl
open Go.RowKit Go.Proofs.Ytadgagndfmdjmaa.MFi Go.Proofs.YtadgagndfmdjmaaW.PrintWords Go.Proofs.YtadgagndfmdjmaaW.PrintLast
open Extern.Stop (cell)

abbrev four (a b c d : Int) : List Value := [.int .u8 0, .int .u8 0, .int .u8 0, .int .u8 0, .int .u8 0, .int .u8 0, .int .u8 0, .int .u8 0, .int .u8 0, .int .u8 0, .int .u8 255, .int .u8 255, .int .u8 a, .int .u8 b, .int .u8 c, .int .u8 d]
theorem law_func4 (a b c d : Int) (w : World) : Calls Try.prog 17 #[.int .u8 a, .int .u8 b, .int .u8 c, .int .u8 d] w fun e w' => e = .returned (.agg (four a b c d).toArray) ∧ Below w.heap.size w w' := by
  go_enter Try.func17, Try.ntmps17
  go_wp2_with (fail)
  refine bodyPost_ret (results_cell_row rfl _ _ w.heap.size 24 (four a b c d).toArray (0, 0) _ rfl (blk_new _ _) Try.underlying24 rfl (by kernel_rfl)) rfl ?_
  exact ⟨rfl, below_alloc (Below.refl _ _) _⟩
theorem ref_any4 (w : World) : Calls Try.prog 18 #[.int .i64 4] w fun e w' => e = .returned (.agg (pc any4).toArray) ∧ Below w.heap.size w w' := by
  go_enter Try.func18, Try.ntmps18
  go_wp2_with ((with_reducible refine gate_ (.store 26 (.tmp 2) _) rfl ?_); refine store_step (vs := pc any4) 26 _ _ rfl rfl w.heap.size rfl rfl (blk_new _ _) rfl (by kernel_rfl) (by decide) (by simp) ?_; intro w3 hg3 hb3 hf3)
  refine bodyPost_ret (results_cell_row rfl _ _ w.heap.size 26 (pc any4).toArray (0, 0) _ rfl hg3.out Try.underlying26 rfl (by kernel_rfl)) rfl ?_
  exact ⟨rfl, (below_alloc (Below.refl _ _) _).trans hb3.out⟩
/-- A drawn region by an invariant over what has come up. -/
theorem wp_region_inv {P : Program} {id : Nat} {ops : Array Oper} {Q : Exit → Act → World → Prop} {a : Act} {w : World} (hm : P.follows .mixedOrders = true) (I : Act → Array Bool → Act → World → Prop)
    (h0 : I a (Array.replicate ops.size false) a w.drew)
    (hstep : ∀ L a' w', L.size = ops.size → I a L a' w' → ∀ i, i ∈ Region.ready .any ops L → wpOp P ops Q i (fun a'' w'' => I a (L.setIfInBounds i true) a'' w'') a' w')
    (hend : ∀ L a' w', L.size = ops.size → I a L a' w' → Region.ready .any ops L = [] → Q .normal a' w') : (Code.region id ops true).wp P Q a w := by
  refine wp_region_any hm ?_
  have key : ∀ (fuel : Nat) (L : Array Bool) (a' : Act) (w' : World), L.size = ops.size → L.toList.count false ≤ fuel → I a L a' w' → wpAny P .any ops Q fuel L a' w' := by
    intro fuel
    induction fuel with
    | zero =>
      intro L a' w' hs hc hI
      have hr : Region.ready .any ops L = [] := by
        rw [List.eq_nil_iff_forall_not_mem]
        intro j hj
        obtain ⟨hju, _⟩ := mem_ready.1 hj
        have hm : false ∈ L.toList := by
          by_cases hlt : j < L.size
          · have : L[j] = false := by simpa [Array.getD, hlt] using hju
            rw [← this]; exact Array.getElem_mem_toList hlt
          · simp [Array.getD, hlt] at hju
        have := List.count_pos_iff.2 hm
        omega
      exact ⟨hr, hend L a' w' hs hI hr⟩
    | succ fuel ih =>
      intro L a' w' hs hc hI
      refine ⟨fun hr => hend L a' w' hs hI hr, fun i hi => ?_⟩
      obtain ⟨hju, _⟩ := mem_ready.1 hi
      have hlt : i < L.size := by
        by_cases hlt : i < L.size
        · exact hlt
        · simp [Array.getD, hlt] at hju
      have hLi : L[i] = false := by simpa [Array.getD, hlt] using hju
      have hc' : (L.setIfInBounds i true).toList.count false ≤ fuel := by
        have h1 : (L.setIfInBounds i true).toList = L.toList.set i true := by simp
        have h2 : L.toList.count false = (L.toList.set i true).count false + 1 := by
          have hlt' : i < L.toList.length := by simpa using hlt
          have hg : L.toList[i] = false := by simpa using hLi
          rw [List.count_set hlt', hg]
          have hp : 0 < L.toList.count false := List.count_pos_iff.2 (by rw [← hg]; exact List.getElem_mem hlt')
          rw [if_pos (by decide), if_neg (by decide)]
          omega
        rw [h1]; omega
      exact wpOp_mono (fun a'' w'' h => ih _ a'' w'' (by simpa using hs) hc' h) (hstep L a' w' hs hI i hi)
  exact key ops.size _ a w.drew (by simp) (by simp) h0
theorem wp_of_run {P : Program} {o : Oper} {a : Act} {w w' : World} {K : Act → World → Prop} {Q : Exit → Act → World → Prop} (v : Value) (hr : (execOp a.eval o).run P w = .ok (.value v) w') (h : K (a.put o.dst v) w') : o.wp P a w K Q := by
  unfold Oper.wp Oper.upon
  rw [hr]
  exact h
theorem wp_of_call {P : Program} {o : Oper} {a : Act} {w w' : World} {K : Act → World → Prop} {Q : Exit → Act → World → Prop} (f : FuncId) (args : Array Value) (hr : (execOp a.eval o).run P w = .ok (.enter f args) w') (h : Calls P f args w' fun e w'' => ∃ v, e = .returned v ∧ K (a.put o.dst v) w'') : o.wp P a w K Q := by
  unfold Oper.wp Oper.upon
  rw [hr]
  exact h.mono fun e w'' ⟨v, he, hk⟩ => by subst he; exact hk
theorem six_bools {L : Array Bool} (h : L.size = 6) : ∃ b0 b1 b2 b3 b4 b5, L = #[b0, b1, b2, b3, b4, b5] := by
  obtain ⟨l⟩ := L
  have h : l.length = 6 := h
  match l, h with
  | [b0, b1, b2, b3, b4, b5], _ => exact ⟨b0, b1, b2, b3, b4, b5, rfl⟩
theorem wpOp_plain {P : Program} {ops : Array Oper} {Q : Exit → Act → World → Prop} {i : Nat} {K : Act → World → Prop} {a : Act} {w : World} {o : Oper} (ho : ops[i]? = some o) (hg : o.guard = none) (h : o.wp P a w K Q) : wpOp P ops Q i K a w := by
  unfold wpOp
  simp only [ho, Region.wanted, hg, if_true]
  exact .inl h
end Go.Proofs.Ytadgagndfmdjmaa.Fl
