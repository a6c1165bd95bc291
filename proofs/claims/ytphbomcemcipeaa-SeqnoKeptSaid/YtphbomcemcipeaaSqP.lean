/- Plain lemmas on seqno.Sum, seqno.Less, seqno.Plus and the document's own answers. -/
import Derived.Test.YtphbomcemcipeaaMSqLx1
namespace Go.Proofs.Ytphbomcemcipeaa.SqP
open Go.RowKit Go.Proofs.Ytphbomcemcipeaa.MSqL Go.Proofs.YtphbomcemcipeaaW.PrintWords Go.Proofs.YtphbomcemcipeaaW.PrintLast

theorem of16 {a : Int} (h : (Lit.int .u16 a).wf = true) : 0 ≤ a ∧ a ≤ 65535 := by
  simpa [Lit.wf, IntKind.min, IntKind.max, IntKind.bits, IntKind.signed] using h
theorem of32 {a : Int} (h : (Lit.int .u32 a).wf = true) : 0 ≤ a ∧ a ≤ 4294967295 := by
  simpa [Lit.wf, IntKind.min, IntKind.max, IntKind.bits, IntKind.signed] using h
theorem of64 {a : Int} (h : (Lit.int .i64 a).wf = true) : -9223372036854775808 ≤ a ∧ a ≤ 9223372036854775807 := by
  simpa [Lit.wf, IntKind.min, IntKind.max, IntKind.bits, IntKind.signed] using h
theorem wrap16 (a : Int) : IntKind.u16.wrap a = a % 65536 := by
  simp [IntKind.wrap, IntKind.bits, IntKind.signed]
theorem w64 {a : Int} (h0 : -9223372036854775808 ≤ a) (h1 : a ≤ 9223372036854775807) : wrap64 a = a := by unfold wrap64; omega

def tot (l : List Int) : Int := l.foldr (· + ·) 0
theorem tot_nil : tot [] = 0 := rfl
theorem tot_cons (x : Int) (l : List Int) : tot (x :: l) = x + tot l := rfl
theorem tot_append (l m : List Int) : tot (l ++ m) = tot l + tot m := by
  induction l with
  | nil => simp [tot_nil]
  | cons x l ih => rw [List.cons_append, tot_cons, tot_cons, ih]; omega
def In16 (l : List Int) : Prop := ∀ x ∈ l, 0 ≤ x ∧ x ≤ 65535
theorem In16.tail {x : Int} {l : List Int} (h : In16 (x :: l)) : In16 l := fun y hy => h y (List.mem_cons_of_mem _ hy)
theorem In16.append {l m : List Int} (h : In16 l) (h' : In16 m) : In16 (l ++ m) := fun y hy => (List.mem_append.1 hy).elim (h y) (h' y)
theorem tot_pos {l : List Int} (h : In16 l) : 0 ≤ tot l := by
  induction l with
  | nil => simp [tot_nil]
  | cons x l ih => rw [tot_cons]; have := ih h.tail; have := h x List.mem_cons_self; omega
theorem tot_mem {l : List Int} (h : In16 l) {x : Int} (hx : x ∈ l) : x ≤ tot l := by
  induction l with
  | nil => cases hx
  | cons y l ih =>
    rw [tot_cons]
    have h1 := tot_pos h.tail
    have h2 := h y List.mem_cons_self
    rcases List.mem_cons.1 hx with rfl | hx
    · omega
    · have := ih h.tail hx; omega
theorem drop_rd {l : List Int} {i : Int} (h0 : 0 ≤ i) (h : i < l.length) : l.drop i.toNat = rd l i :: l.drop (i + 1).toNat := by
  have hi : i.toNat < l.length := by omega
  rw [List.drop_eq_getElem_cons hi, show (i + 1).toNat = i.toNat + 1 by omega]
  simp [rd, List.getD_eq_getElem?_getD, List.getElem?_eq_getElem hi]
theorem rd_mem {l : List Int} {i : Int} (h0 : 0 ≤ i) (h : i < l.length) : rd l i ∈ l := by
  have hi : i.toNat < l.length := by omega
  simp [rd, List.getD_eq_getElem?_getD, List.getElem?_eq_getElem hi]
/-- A sum that ends. -/
def sat (x : Int) : Int := if x ≤ 65535 then x else 65535

theorem in_drop {l : List Int} (hl : In16 l) (n : Nat) : In16 (l.drop n) := fun x hx => hl x (List.mem_of_mem_drop hx)

theorem sum_loop (l : List Int) (hl : In16 l) (hn : l.length ≤ 4611686018427387904) (d : Nat) : ∀ (k : Nat) (acc i : Int), 0 ≤ acc → acc ≤ 65535 → 0 ≤ i → i ≤ l.length → (l.length : Int) - i = d → d < k →
    seqno_Sum.l0 k acc l (l.length : Int) i = some (sat (acc + tot (l.drop i.toNat))) := by
  induction d with
  | zero =>
    intro k acc i h0 h1 h2 h3 h4 h5
    obtain ⟨k, rfl⟩ : ∃ m, k = m + 1 := ⟨k - 1, by omega⟩
    simp only [seqno_Sum.l0]
    rw [if_neg (by omega), List.drop_eq_nil_of_le (by omega), tot_nil, Int.add_zero, sat, if_pos h1]
  | succ d ih =>
    intro k acc i h0 h1 h2 h3 h4 h5
    obtain ⟨k, rfl⟩ : ∃ m, k = m + 1 := ⟨k - 1, by omega⟩
    have hlt : i < (l.length : Int) := by omega
    have hx := hl _ (rd_mem h2 hlt)
    have hp := tot_pos (in_drop hl (i + 1).toNat)
    simp only [seqno_Sum.l0]
    rw [if_pos hlt, if_pos h2, if_pos hlt, drop_rd h2 hlt, tot_cons, wrap16, wrap16]
    by_cases hc : rd l i > (65535 - acc) % 65536
    · rw [if_pos hc, sat, if_neg (by omega)]
    · rw [if_neg hc, w64 (by omega) (by omega), show (acc + rd l i) % 65536 = acc + rd l i by omega, ih k (acc + rd l i) (i + 1) (by omega) (by omega) (by omega) (by omega) (by omega) (by omega), Int.add_assoc]

theorem sum_is (l : List Int) (hl : In16 l) (hn : l.length ≤ 4611686018427387904) (k : Nat) (hk : l.length < k) : seqno_Sum.f k l = some (sat (tot l)) := by
  unfold seqno_Sum.f
  rw [sum_loop l hl hn l.length k 0 0 (by omega) (by omega) (by omega) (by omega) (by omega) hk]
  simp

theorem refsum_loop (l : List Int) (hl : In16 l) (hn : l.length ≤ 4611686018427387904) (d : Nat) : ∀ (k : Nat) (acc i : Int), 0 ≤ acc → acc ≤ 65535 → 0 ≤ i → i ≤ l.length → (l.length : Int) - i = d → d < k →
    culvertref03_Sum.l0 k l acc i = some (sat (acc + tot (l.drop i.toNat))) := by
  induction d with
  | zero =>
    intro k acc i h0 h1 h2 h3 h4 h5
    obtain ⟨k, rfl⟩ : ∃ m, k = m + 1 := ⟨k - 1, by omega⟩
    simp only [culvertref03_Sum.l0]
    rw [if_neg (by omega), List.drop_eq_nil_of_le (by omega), tot_nil, Int.add_zero, sat, if_pos h1, wrap16]
    congr 1; omega
  | succ d ih =>
    intro k acc i h0 h1 h2 h3 h4 h5
    obtain ⟨k, rfl⟩ : ∃ m, k = m + 1 := ⟨k - 1, by omega⟩
    have hlt : i < (l.length : Int) := by omega
    have hx := hl _ (rd_mem h2 hlt)
    have hp := tot_pos (in_drop hl (i + 1).toNat)
    simp only [culvertref03_Sum.l0]
    rw [if_pos hlt, if_pos h2, drop_rd h2 hlt, tot_cons, w64 (a := rd l i) (by omega) (by omega), w64 (a := acc + rd l i) (by omega) (by omega), w64 (a := i + 1) (by omega) (by omega)]
    rw [ih k (mn (acc + rd l i) 65535) (i + 1) (by unfold mn; split <;> omega) (by unfold mn; split <;> omega) (by omega) (by omega) (by omega) (by omega)]
    congr 1
    unfold mn sat
    split <;> split <;> split <;> omega

theorem refsum_is (l : List Int) (hl : In16 l) (hn : l.length ≤ 4611686018427387904) (k : Nat) (hk : l.length < k) : culvertref03_Sum.f k l = some (sat (tot l)) := by
  unfold culvertref03_Sum.f
  rw [refsum_loop l hl hn l.length k 0 0 (by omega) (by omega) (by omega) (by omega) (by omega) hk]
  simp

theorem less_is (a b : Int) : seqno_Less.f a b = some (decide (a ≠ b ∧ (b - a) % 65536 < 32768)) := by
  unfold seqno_Less.f
  rw [wrap16]
  by_cases h : a = b
  · rw [if_pos h]; simp [h]
  · rw [if_neg h]; simp [h]
theorem refless_is {a b : Int} (ha : 0 ≤ a ∧ a ≤ 65535) (hb : 0 ≤ b ∧ b ≤ 65535) : culvertref03_Less.f a b = some (decide (a ≠ b ∧ (b - a) % 65536 < 32768)) := by
  unfold culvertref03_Less.f
  rw [w64 (a := b) (by omega) (by omega), w64 (a := a) (by omega) (by omega), w64 (a := b - a) (by omega) (by omega), w64 (by omega) (by omega), Int.tmod_eq_emod_of_nonneg (by omega)]
  by_cases h : (b - a + 65536) % 65536 ≥ 1
  · rw [if_pos h]
    congr 1
    rw [decide_eq_decide]
    omega
  · rw [if_neg h]
    congr 1
    symm
    rw [decide_eq_false_iff_not]
    omega
end Go.Proofs.Ytphbomcemcipeaa.SqP
