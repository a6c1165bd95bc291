/- append of rows of rules. -/
import Derived.Test.YtadgagndfmdjmaaFlH
namespace Go.Proofs.Ytadgagndfmdjmaa.Fl
open Go.RowKit Go.Proofs.YtadgagndfmdjmaaW.PrintWords Go.Proofs.YtadgagndfmdjmaaW.PrintLast
open Extern.Stop (cell)

def zrul : Rul := ⟨0, ⟨#[]⟩, ⟨[0,0,0,0,0,0,0,0,0,0,0,0,0,0,0,0], 0⟩, false, 0, 0, ⟨[0,0,0,0,0,0,0,0,0,0,0,0,0,0,0,0], 0⟩, false, no8, false, 0⟩
abbrev OW (w : World) (base : Nat) (v : Value) (l : List Rul) : Prop := OwnRow KR 41 50 w base v l
theorem rrow_one {l : List Rul} {cs : List Value} (h : Reps KR 50 l cs) : ∀ u ∈ cs, u.oneCell' = true := by
  intro u hu
  obtain ⟨i, hi, rfl⟩ := List.getElem_of_mem hu
  have hj : i / 50 < l.length := by have := h.1; omega
  obtain ⟨e, _⟩ := h.2 (i / 50) _ (List.getElem?_eq_getElem hj)
  refine rc_one (r := l[i / 50]) _ ?_
  rw [← e]
  have e1 : ((cs.drop (i / 50 * 50)).take 50)[i % 50]? = some cs[i] := by
    rw [List.getElem?_take, if_pos (by omega), List.getElem?_drop, show i / 50 * 50 + i % 50 = i by omega, List.getElem?_eq_getElem hi]
  exact List.mem_of_getElem? e1
theorem wp_append_rows {o : Oper} {a : Act} {K : Act → World → Prop} {Q : Exit → Act → World → Prop} {w0 W : World} (base : Nat) (s x : Operand) (ho : o.op = .call { callee := .builtin .append, args := #[s, x], argTypes := #[22, 22] })
    (v : Value) (ps qs : List Rul) (A : Option Addr) (m c : Nat) (hs : a.eval s = v) (hx : a.eval x = .slice A m c) (HO : OW W base v ps) (HR : ReadsRow KR 50 W A m qs) (HB : Below base w0 W) (hbase : base ≤ W.heap.size) (hl : (ps.length + m) * 120 ≤ 140737488355328)
    (h : ∀ v1 w1, OW w1 base v1 (ps ++ qs) → Below base w0 w1 → K (a.put o.dst v1) w1) : o.wp Try.prog a W K Q := by
  have hinfo : (Try.prog.info? 41).map (fun i => (i.zero, i.size, i.bytes)) = some (some (.agg (rc zrul).toArray), 50, 120) := by kernel_rfl
  obtain ⟨i0, hi, hzz⟩ := Option.map_eq_some_iff.1 hinfo
  simp only [Prod.mk.injEq] at hzz
  obtain ⟨hz0, hz1, hz2⟩ := hzz
  obtain ⟨inner, hown, hrep⟩ := HO
  have hm : qs.length = m := HR.1
  have hrun : ∃ v1 w1, (Builtin.append_ #[22, 22] o.type #[v, .slice A m c]).run Try.prog W = .ok v1 w1 ∧ OW w1 base v1 (ps ++ qs) ∧ W.grownBy w1 v.ownBlock := by
    rcases A with _ | ad
    · have h0 : m = 0 := by
        rcases Nat.eq_zero_or_pos m with h0 | h0
        · exact h0
        · obtain ⟨ad, h, _⟩ := HR.2.2 h0
          cases h
      subst h0
      obtain rfl : qs = [] := List.eq_nil_of_length_eq_zero hm
      refine ⟨v, W, ?_, by rw [List.append_nil]; exact ⟨inner, hown, hrep⟩, World.grownBy.refl W _⟩
      rcases hown.2 with ⟨rfl, hn⟩ | ⟨g, cap, cur, rfl, _, _, hnc, _⟩
      · simp [Builtin.append_, run_underlying Try.underlying22, sizeOf, typeInfo, hi, Builtin.lenOf, Builtin.firstCells]
      · simp [Builtin.append_, run_underlying Try.underlying22, sizeOf, typeInfo, hi, Builtin.lenOf, Builtin.firstCells, hnc, storeCells]
    · obtain ⟨news, hn, hcell⟩ := HR.inner_
      obtain ⟨v1, w1, hr, h2, h3, _, _⟩ := run_append_own_at (P := Try.prog) W base 22 o.type 41 i0 (.agg (rc zrul).toArray) 50 120 Try.underlying22 hi hz0 hz1 hz2 rfl (by omega) v ps.length inner hown ad m c news (by rw [hn.1, hm]) hcell (rrow_one hn) (by simp only [maxLen]; omega) hl hbase
      exact ⟨v1, w1, hr, ⟨inner ++ news, by rw [List.length_append, hm]; exact h2, Kd.reps_append hrep hn⟩, h3⟩
  obtain ⟨v1, w1, hr, hown1, hg⟩ := hrun
  unfold Oper.wp execOp
  simp only [ho, resolve, invoke, builtin, Sem.run_bind, Sem.run_pure, Result.andThen_ok, List.map_toArray, List.map_cons, List.map_nil, hs, hx, hr]
  exact h v1 w1 hown1 (HB.grown hg hbase (own_base hown))
end Go.Proofs.Ytadgagndfmdjmaa.Fl
