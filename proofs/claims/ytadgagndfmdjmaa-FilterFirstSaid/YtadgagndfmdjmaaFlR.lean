/- Addresses, prefixes, pairs, ids and rules, as they read: opened. -/
import Derived.Test.YtadgagndfmdjmaaFlP
import Derived.Test.YtadgagndfmdjmaaOpn
namespace Go.Proofs.Ytadgagndfmdjmaa.Fl
open Go.ChangeShapes Go.WideShapes Go.ChangeAt Go.RowKit Go.Proofs.Ytadgagndfmdjmaa.Opn Go.Proofs.YtadgagndfmdjmaaW.PrintWords Go.Proofs.YtadgagndfmdjmaaW.PrintLast
open Extern.Stop (cell)

theorem bytes_of : ∀ cs : List Value, (∀ i, i < cs.length → ∃ v : UInt8, cs[i]? = some (cell v)) → ∃ a : List UInt8, cs = bs a
  | [], _ => ⟨[], rfl⟩
  | c :: cs, h => by
    obtain ⟨v, hv⟩ := h 0 (by simp)
    obtain ⟨a, ha⟩ := bytes_of cs fun i hi => h (i + 1) (by simpa using hi)
    have : c = cell v := by simpa using hv
    exact ⟨v :: a, by rw [this, ha]; rfl⟩
section
variable {H : Type} {enc : TypeId × Value → H} {w : World} {base : Nat} {spare : Nat → Bool} {held : Bool}
theorem open_bytes {t : TypeId} {n fuel : Nat} {cs : List Value} {x : DataW H × List MemPlace} (ht : Try.prog.underlying t = some (.array n 5)) (hl : cs.length = n) (h : DataW.trod enc Try.prog w base spare held fuel t cs = some x) : ∃ a : List UInt8, a.length = n ∧ cs = bs a := by
  obtain ⟨xs, m, _, _, _, hx, hf⟩ := DataW.trod_array ht h
  have h1 : Try.prog.cellsOf 5 = 1 := by kernel_rfl
  obtain ⟨a, ha⟩ := bytes_of cs fun i hi => by
    have := hf i (by omega)
    rw [h1, Nat.mul_one, List.getElem?_eq_getElem (by omega)] at this
    obtain ⟨v, hv, _, hw⟩ := DataW.trod_int Try.underlying5 this
    have hb : 0 ≤ v ∧ v ≤ 255 := by simpa [Lit.wf, IntKind.min, IntKind.max, IntKind.bits, IntKind.signed] using hw
    refine ⟨UInt8.ofNat v.toNat, ?_⟩
    have h0 : ((cs.drop i).take 1)[0]? = cs[i]? := by rw [List.getElem?_take, if_pos (by omega), List.getElem?_drop, Nat.add_zero]
    rw [← h0, hv]
    show some (Value.int .u8 v) = some (Value.int .u8 ((UInt8.ofNat v.toNat).toNat : Int))
    rw [UInt8.toNat_ofNat', show v.toNat % 2 ^ 8 = v.toNat by omega, show ((v.toNat : Nat) : Int) = v by omega]
  exact ⟨a, by rw [← hl, ha, bs_len], ha⟩
theorem wf64 {a : Int} (h : (Lit.int .i64 a).wf = true) : In64 a := by
  have : -9223372036854775808 ≤ a ∧ a ≤ 9223372036854775807 := by simpa [Lit.wf, IntKind.min, IntKind.max, IntKind.bits, IntKind.signed] using h
  exact this
theorem part_next {cs : List Value} (k n : Nat) : cs.drop k = (cs.drop k).take n ++ cs.drop (k + n) := by
  rw [← List.drop_drop, List.take_append_drop]
theorem open_pfx {fuel : Nat} {cs : List Value} {x : DataW H × List MemPlace} (hl : cs.length = 17) (h : DataW.trod enc Try.prog w base spare held fuel 26 cs = some x) : ∃ p : Pfx, cs = pc p ∧ p.Ok ∧ In64 p.L := by
  obtain ⟨y0, y1, n, _, _, g0, g1⟩ := trod_struct2 Try.underlying26 h
  have c24 : Try.prog.cellsOf 24 = 16 := by kernel_rfl
  have c3 : Try.prog.cellsOf 3 = 1 := by kernel_rfl
  dsimp only at g0 g1
  rw [c24] at g0
  rw [c3] at g1
  obtain ⟨a, ha, e0⟩ := open_bytes Try.underlying24 (by rw [List.length_take, List.length_drop, hl]; rfl) g0
  obtain ⟨L, e1, _, wl⟩ := DataW.trod_int Try.underlying3 g1
  refine ⟨⟨a, L⟩, ?_, ha, wf64 wl⟩
  have s0 := part_next (cs := cs) 0 16
  have s1 := part_next (cs := cs) 16 1
  rw [List.drop_zero] at s0 e0
  rw [e0] at s0
  rw [e1, List.drop_eq_nil_of_le (show cs.length ≤ 16 + 1 by omega), List.append_nil] at s1
  rw [s0, Nat.zero_add, s1]; rfl
theorem open_par {fuel : Nat} {cs : List Value} {x : DataW H × List MemPlace} (hl : cs.length = 34) (h : DataW.trod enc Try.prog w base spare held fuel 28 cs = some x) : ∃ q : Par, cs = qc q ∧ q.Ok ∧ In64 q.D.L := by
  obtain ⟨y0, y1, n, _, _, g0, g1⟩ := trod_struct2 Try.underlying28 h
  have c26 : Try.prog.cellsOf 26 = 17 := by kernel_rfl
  dsimp only at g0 g1
  rw [c26] at g0 g1
  obtain ⟨D, e0, hD, hL⟩ := open_pfx (by rw [List.length_take, List.length_drop, hl]; rfl) g0
  obtain ⟨S, e1, hS, _⟩ := open_pfx (by rw [List.length_take, List.length_drop, hl]; rfl) g1
  refine ⟨⟨D, S⟩, ?_, ⟨hD, hS⟩, hL⟩
  have s0 := part_next (cs := cs) 0 17
  have s1 := part_next (cs := cs) 17 17
  rw [List.drop_zero] at s0 e0
  rw [e0] at s0
  rw [e1, List.drop_eq_nil_of_le (show cs.length ≤ 17 + 17 by omega), List.append_nil] at s1
  rw [s0, Nat.zero_add, s1]; rfl
theorem open_rul {fuel : Nat} {cs : List Value} {x : DataW H × List MemPlace} (hl : cs.length = 50) (h : DataW.trod enc Try.prog w base spare held fuel 41 cs = some x) : ∃ r : Rul, KR r cs := by
  obtain ⟨xs, n, _, _, _, hx, hf⟩ := DataW.trod_struct Try.underlying41 h
  have hx : xs.length = 11 := hx
  have c24 : Try.prog.cellsOf 24 = 16 := by kernel_rfl
  have c26 : Try.prog.cellsOf 26 = 17 := by kernel_rfl
  have c30 : Try.prog.cellsOf 30 = 8 := by kernel_rfl
  have c3 : Try.prog.cellsOf 3 = 1 := by kernel_rfl
  have c4 : Try.prog.cellsOf 4 = 1 := by kernel_rfl
  have c9 : Try.prog.cellsOf 9 = 1 := by kernel_rfl
  have g0 : DataW.trod enc Try.prog w base spare held n 3 ((cs.drop 0).take (Try.prog.cellsOf 3)) = xs[0]? := hf 0 _ rfl
  rw [c3, List.getElem?_eq_getElem (by omega)] at g0
  have g1 : DataW.trod enc Try.prog w base spare held n 9 ((cs.drop 1).take (Try.prog.cellsOf 9)) = xs[1]? := hf 1 _ rfl
  rw [c9, List.getElem?_eq_getElem (by omega)] at g1
  have g2 : DataW.trod enc Try.prog w base spare held n 26 ((cs.drop 2).take (Try.prog.cellsOf 26)) = xs[2]? := hf 2 _ rfl
  rw [c26, List.getElem?_eq_getElem (by omega)] at g2
  have g3 : DataW.trod enc Try.prog w base spare held n 4 ((cs.drop 19).take (Try.prog.cellsOf 4)) = xs[3]? := hf 3 _ rfl
  rw [c4, List.getElem?_eq_getElem (by omega)] at g3
  have g4 : DataW.trod enc Try.prog w base spare held n 3 ((cs.drop 20).take (Try.prog.cellsOf 3)) = xs[4]? := hf 4 _ rfl
  rw [c3, List.getElem?_eq_getElem (by omega)] at g4
  have g5 : DataW.trod enc Try.prog w base spare held n 3 ((cs.drop 21).take (Try.prog.cellsOf 3)) = xs[5]? := hf 5 _ rfl
  rw [c3, List.getElem?_eq_getElem (by omega)] at g5
  have g6 : DataW.trod enc Try.prog w base spare held n 26 ((cs.drop 22).take (Try.prog.cellsOf 26)) = xs[6]? := hf 6 _ rfl
  rw [c26, List.getElem?_eq_getElem (by omega)] at g6
  have g7 : DataW.trod enc Try.prog w base spare held n 4 ((cs.drop 39).take (Try.prog.cellsOf 4)) = xs[7]? := hf 7 _ rfl
  rw [c4, List.getElem?_eq_getElem (by omega)] at g7
  have g8 : DataW.trod enc Try.prog w base spare held n 30 ((cs.drop 40).take (Try.prog.cellsOf 30)) = xs[8]? := hf 8 _ rfl
  rw [c30, List.getElem?_eq_getElem (by omega)] at g8
  have g9 : DataW.trod enc Try.prog w base spare held n 4 ((cs.drop 48).take (Try.prog.cellsOf 4)) = xs[9]? := hf 9 _ rfl
  rw [c4, List.getElem?_eq_getElem (by omega)] at g9
  have g10 : DataW.trod enc Try.prog w base spare held n 3 ((cs.drop 49).take (Try.prog.cellsOf 3)) = xs[10]? := hf 10 _ rfl
  rw [c3, List.getElem?_eq_getElem (by omega)] at g10
  obtain ⟨C, e0, _, _⟩ := DataW.trod_int Try.underlying3 g0
  obtain ⟨I, e1, _, _⟩ := DataW.trod_string Try.underlying9 g1
  obtain ⟨D, e2, hD, _⟩ := open_pfx (by rw [List.length_take, List.length_drop, hl]; rfl) g2
  obtain ⟨HD, e3, _⟩ := DataW.trod_bool Try.underlying4 g3
  obtain ⟨G, e4, _, _⟩ := DataW.trod_int Try.underlying3 g4
  obtain ⟨E, e5, _, _⟩ := DataW.trod_int Try.underlying3 g5
  obtain ⟨S, e6, hS, _⟩ := open_pfx (by rw [List.length_take, List.length_drop, hl]; rfl) g6
  obtain ⟨HS, e7, _⟩ := DataW.trod_bool Try.underlying4 g7
  obtain ⟨R, hR, e8⟩ := open_bytes Try.underlying30 (by rw [List.length_take, List.length_drop, hl]; rfl) g8
  obtain ⟨N, e9, _⟩ := DataW.trod_bool Try.underlying4 g9
  obtain ⟨X, e10, _, _⟩ := DataW.trod_int Try.underlying3 g10
  refine ⟨⟨C, I, D, HD, G, E, S, HS, R, N, X⟩, ?_, hD, hS, hR⟩
  have s0 := part_next (cs := cs) 0 1
  have s1 := part_next (cs := cs) 1 1
  have s2 := part_next (cs := cs) 2 17
  have s3 := part_next (cs := cs) 19 1
  have s4 := part_next (cs := cs) 20 1
  have s5 := part_next (cs := cs) 21 1
  have s6 := part_next (cs := cs) 22 17
  have s7 := part_next (cs := cs) 39 1
  have s8 := part_next (cs := cs) 40 8
  have s9 := part_next (cs := cs) 48 1
  have s10 := part_next (cs := cs) 49 1
  rw [e0] at s0; rw [e1] at s1; rw [e2] at s2; rw [e3] at s3; rw [e4] at s4; rw [e5] at s5; rw [e6] at s6; rw [e7] at s7; rw [e8] at s8; rw [e9] at s9; rw [e10, List.drop_eq_nil_of_le (show cs.length ≤ 49 + 1 by omega)] at s10
  rw [List.drop_zero] at s0
  rw [s0, show 0 + 1 = 1 from rfl, s1, show 1 + 1 = 2 from rfl, s2, show 2 + 17 = 19 from rfl, s3, show 19 + 1 = 20 from rfl, s4, show 20 + 1 = 21 from rfl, s5, show 21 + 1 = 22 from rfl, s6, show 22 + 17 = 39 from rfl, s7, show 39 + 1 = 40 from rfl, s8, show 40 + 8 = 48 from rfl, s9, show 48 + 1 = 49 from rfl, s10]
  simp [rc]
theorem rows_RD {A : Option Addr} {n : Nat} {xs : List Rul} (h : ReadsRow KR 50 w A n xs) : RD w A xs ∧ ∀ r ∈ xs, r.Ok := by
  refine ⟨?_, fun r hr => ?_⟩
  · have h1 := h.1
    subst h1
    exact h
  · obtain ⟨c, hk⟩ := rows_mem h hr
    exact hk.2
end
theorem okWide_array {w : World} {r : Reach} {base : Nat} {t e : TypeId} {n : Nat} {v : Value} (ht : Try.prog.underlying t = some (.array n e)) (h : Value.okWide Try.prog w r base t v) : ∃ cs, v = .agg cs ∧ cs.size = Try.prog.cellsOf t := by
  simp only [Value.okWide, ht] at h
  obtain ⟨cs, h1, h2, _⟩ := h
  exact ⟨cs, h1, h2⟩
theorem of16 {a : Int} (h : (Lit.int .u16 a).wf = true) : 0 ≤ a ∧ a ≤ 65535 := by
  simpa [Lit.wf, IntKind.min, IntKind.max, IntKind.bits, IntKind.signed] using h
end Go.Proofs.Ytadgagndfmdjmaa.Fl
