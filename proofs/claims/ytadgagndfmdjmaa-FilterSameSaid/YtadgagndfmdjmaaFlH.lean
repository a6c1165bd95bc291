/- Rows of rules; walks of filter.Which and of the document's Which. -/
import Derived.Test.YtadgagndfmdjmaaFlG
namespace Go.Proofs.Ytadgagndfmdjmaa.Fl
open Go.RowKit Go.Proofs.YtadgagndfmdjmaaW.PrintWords Go.Proofs.YtadgagndfmdjmaaW.PrintLast
open Extern.Stop (cell)

theorem load_any {a : Addr} {ty : TypeId} {d : TypeDesc} {w : World} {cs : List Value} (hc : ∀ j v, cs[j]? = some v → w.cell? (a.add j) = some v)
    (hu : Try.prog.underlying ty = some d) (hd : d.isRow = true) (hi : (Try.prog.info? ty).map (·.size) = some cs.length) :
    (Instr.loadAt ty (.pointer (some a))).run Try.prog w = .ok (.agg cs.toArray) w := by
  have hl : (loadCells a cs.length).run Try.prog w = .ok cs.toArray w := run_loadCells_list (P := Try.prog) w a cs hc
  have hv : (loadVar ty a).run Try.prog w = .ok (.agg cs.toArray) w := by
    cases hq : Try.prog.info? ty with
    | none => simp [hq] at hi
    | some i =>
      have hs : i.size = cs.length := by simpa [hq] using hi
      have hagg : (isAgg ty).run Try.prog w = .ok true w := by
        unfold isAgg
        rw [Sem.run_bind, run_underlying hu w]
        cases d <;> simp_all
      simp [loadVar, Sem.run_bind, hagg, sizeOf, typeInfo, hq, hs, hl]
  simp only [Instr.loadAt, Instr.sureAddr, Sem.run_bind, Sem.run_pure, Result.andThen_ok, hv]
/-- A row of rules that is read. -/
def KR (r : Rul) (c : List Value) : Prop := c = rc r ∧ r.Ok
abbrev RD (w : World) (A : Option Addr) (l : List Rul) : Prop := ReadsRow KR 50 w A l.length l
theorem RD.below {w w1 : World} {A : Option Addr} {l : List Rul} (h : RD w A l) (hb : Below w.heap.size w w1) : RD w1 A l := ReadsRow.imp_ h hb (fun _ _ hp => hp)
theorem add_two (a : Addr) (i j : Nat) : (a.add i).add j = a.add (i + j) := by
  unfold Addr.add
  by_cases h1 : i = 0 <;> by_cases h2 : j = 0 <;> simp [h1, h2, Nat.add_assoc]
theorem RD.at {w : World} {A : Option Addr} {l : List Rul} (h : RD w A l) (k : Nat) (hk : k < l.length) :
    ∃ ad x, A = some ad ∧ l[k]? = some x ∧ x.Ok ∧ (Instr.loadAt 41 (.pointer (some (ad.add (k * 50))))).run Try.prog w = .ok (.agg (rc x).toArray) w ∧
      w.cell? (ad.add (k * 50)) = some (.int .i64 x.C) ∧ w.cell? ⟨(ad.add (k * 50)).block, (ad.add (k * 50)).off + 1, none⟩ = some (.string x.I) ∧
      w.cell? ⟨(ad.add (k * 50)).block, (ad.add (k * 50)).off + 48, none⟩ = some (.bool x.N) ∧ w.cell? ⟨(ad.add (k * 50)).block, (ad.add (k * 50)).off + 49, none⟩ = some (.int .i64 x.X) := by
  obtain ⟨ad, e, hc⟩ := h.2.2 (by omega)
  obtain ⟨c, hs, ⟨rfl, hok⟩, hcell⟩ := hc k _ (List.getElem?_eq_getElem hk)
  have hcell' : ∀ j v, (rc l[k])[j]? = some v → w.cell? ((ad.add (k * 50)).add j) = some v := fun j v hv => by rw [add_two]; exact hcell j v hv
  obtain ⟨_, _, _, _, h48, h49⟩ := rc_at hok
  refine ⟨ad, l[k], e, List.getElem?_eq_getElem hk, hok, load_any hcell' Try.underlying41 rfl (by rw [rc_len hok]; kernel_rfl), ?_, ?_, ?_, ?_⟩
  · have := hcell' 0 _ (rc_0 _); rwa [show (ad.add (k * 50)).add 0 = ad.add (k * 50) from rfl] at this
  · exact hcell' 1 _ (rc_1 _)
  · exact hcell' 48 _ h48
  · exact hcell' 49 _ h49

def atI (R : Int) : Int := if R < 0 then 0 else R
def hasI (R : Int) : Bool := decide (0 ≤ R)
/-- The first rule that matches; -1: none. -/
def idx (p : Rul → Bool) : List Rul → Int → Int
  | [], _ => -1
  | x :: l, i => if p x = true then i else idx p l (i + 1)
theorem idx_step (p : Rul → Bool) {l : List Rul} {k : Nat} {x : Rul} (h : l[k]? = some x) (i : Int) : idx p (l.drop k) i = if p x = true then i else idx p (l.drop (k + 1)) (i + 1) := by
  obtain ⟨hk, rfl⟩ := List.getElem?_eq_some_iff.1 h
  rw [List.drop_eq_getElem_cons hk]; rfl
theorem rc_one {r : Rul} : ∀ v ∈ rc r, v.oneCell' = true := by
  intro v hv
  have hp : ∀ p : Pfx, ∀ v ∈ pc p, v.oneCell' = true := by
    intro p v hv
    unfold pc at hv
    rcases List.mem_append.1 hv with h | h
    · exact bs_one v h
    · rw [List.mem_singleton] at h; subst h; rfl
  unfold rc at hv
  simp only [List.mem_append, List.mem_cons, List.not_mem_nil, or_false] at hv
  rcases hv with (h | h) | h | (h | h | h) | h | h | h | h | h <;> first | (subst h; rfl) | exact hp _ _ h | exact bs_one v h
theorem par_all {q : Par} (h : q.Ok) {w : World} {b : Nat} {T : TypeId} (hb : w.heap[b]? = some (.cells (qc q).toArray T (0, 0))) :
    (Instr.loadAt 28 (.pointer (some ⟨b, 0, none⟩))).run Try.prog w = .ok (.agg (qc q).toArray) w :=
  load_mid hb (by rw [List.drop_zero, List.take_of_length_le (by rw [qc_len h]; omega)]) (qc_len h) Try.underlying28 rfl (by kernel_rfl)
theorem fil_matches_ (r : Rul) (hr : r.Ok) (chain : Int) (name : ByteArray) (q : Par) (hq : q.Ok) (hL : In64 q.D.L) (id : List UInt8) (hid : id.length = 8) (w : World) (b : Bool) (hb : matB r chain name q id = b) :
    Calls Try.prog 13 #[.agg (rc r).toArray, .int .i64 chain, .string name, .agg (qc q).toArray, .agg (bs id).toArray] w fun e w' => e = .returned (.bool b) ∧ Below w.heap.size w w' := hb ▸ fil_matches r hr chain name q hq hL id hid w
theorem ref_matches_ (r : Rul) (hr : r.Ok) (chain : Int) (name : ByteArray) (q : Par) (hq : q.Ok) (hL : In64 q.D.L) (id : List UInt8) (hid : id.length = 8) (w : World) (b : Bool) (hb : rmatB r chain name q id = b) :
    Calls Try.prog 14 #[.agg (rc r).toArray, .int .i64 chain, .string name, .agg (qc q).toArray, .agg (bs id).toArray] w fun e w' => e = .returned (.bool b) ∧ Below w.heap.size w w' := hb ▸ ref_matches r hr chain name q hq hL id hid w

set_option maxHeartbeats 1000000 in
theorem fil_which (A : Option Addr) (c : Nat) (l : List Rul) (chain : Int) (name : ByteArray) (q : Par) (hq : q.Ok) (hL : In64 q.D.L) (id : List UInt8) (hid : id.length = 8) (w : World) (hr : RD w A l) :
    Calls Try.prog 9 #[.int .i64 chain, .string name, .agg (qc q).toArray, .agg (bs id).toArray, .slice A l.length c] w fun e w' => e = .returned (.tuple #[.int .i64 (atI (idx (fun r => matB r chain name q id) l 0)), .bool (hasI (idx (fun r => matB r chain name q id) l 0))]) ∧ Below w.heap.size w w' := by
  have hm := hr.2.1
  have HR := Aside0.mk hr
  clear hr
  have H0 := Aside0.mk (show idx (fun r => matB r chain name q id) (l.drop 0) (((0 : Nat) : Nat) : Int) = idx (fun r => matB r chain name q id) l 0 by rw [List.drop_zero]; rfl)
  generalize idx (fun r => matB r chain name q id) l 0 = R at *
  go_enter Try.func9, Try.ntmps9
  go_wp2_with (first | ((with_reducible refine gate_dst (N := 7) rfl ?_); refine box_gen 28 _ rfl rfl (qc q).toArray ?hx ?_; (case hx => rfl); intro w1 g1 b1; (try simp only [Act.put, List.setIfInBounds_toArray, List.set_cons_zero, List.set_cons_succ])) | (((with_reducible refine gate_dst (N := 8) rfl ?_); refine box_gen 30 _ rfl rfl (bs id).toArray ?hx ?_; (case hx => rfl); intro w2 g2 b2; (try simp only [Act.put, List.setIfInBounds_toArray, List.set_cons_zero, List.set_cons_succ])); have HB1 := Aside0.mk (blk_below g1.out b2.out.1); have HB2 := Aside0.mk g2.out; have HB0 := Aside0.mk (below_then b1.out.1 b1.out.1.size b2.out.1); clear g1 g2 b1 b2))
  go_loopw [16] (fun i wr => ∃ k : Nat, k ≤ l.length ∧ i = .int .i64 k ∧ Aside0 (idx (fun r => matB r chain name q id) (l.drop k) (k : Int) = R) ∧ Aside0 (Below w2.heap.size w2 wr)) (fun i _ => l.length - (intOf i).toNat)
  case atStart => exact ⟨0, Nat.zero_le _, rfl, H0, ⟨Below.refl _ _⟩⟩
  case round =>
    clear H0
    obtain ⟨k, hk, rfl, HI, HB⟩ := hrel
    have hs0 := HB0.out.size
    have hs2 := HB.out.size
    have hlt1 := blk_lt HB1.out
    have hlt2 := blk_lt HB2.out
    by_cases hlt : k < l.length
    · obtain ⟨ad, x, rfl, hx, hok, l41, c0, c1, c48, c49⟩ := RD.at (RD.below HR.out (below_then HB0.out HB0.out.size HB.out)) k hlt
      have HX := Aside0.mk (idx_step (fun r => matB r chain name q id) hx (k : Int))
      have HP := Aside0.mk (blk_below HB1.out HB.out)
      have HD := Aside0.mk (blk_below HB2.out HB.out)
      clear c0 c1 c48 c49
      cases hm' : matB x chain name q id with
      | true =>
        have hmr : idx (fun r => matB r chain name q id) (l.drop k) (k : Int) = k := by rw [HX.out, if_pos hm']
        have HRk := Aside0.mk (hmr.symm.trans HI.out)
        go_wp2_with (first | ((with_reducible refine gate_dst (N := 20) rfl ?_); (try (refine gate_guard (by rfl) ?_; dsimp only)); refine load_step 41 _ rfl rfl _ l41 ?_; (try simp only [Act.put, List.setIfInBounds_toArray, List.set_cons_zero, List.set_cons_succ])) | ((with_reducible refine gate_ (.store 41 _ _) rfl ?_); refine store_step (vs := rc x) 41 _ _ rfl rfl w2.heap.size rfl rfl (blk_new _ _) (by rw [rc_len hok]; rfl) (by kernel_rfl) rc_one hs2 ?_; intro w4 hg4 hb4 hf4; have k41 := (rul_blk hok hg4.out).2.2.2; have kP := par_all hq ((hf4.out w.heap.size (by omega)).trans (blk_alloc HP.out _)); have kI := arr_blk (ty := 30) hid ((hf4.out w1.heap.size (by omega)).trans (blk_alloc HD.out _)) Try.underlying30 rfl (by kernel_rfl)) | ((with_reducible refine gate_dst (N := 21) rfl ?_); (try (refine gate_guard (by rfl) ?_; dsimp only)); refine load_step 41 _ rfl rfl _ k41 ?_; (try simp only [Act.put, List.setIfInBounds_toArray, List.set_cons_zero, List.set_cons_succ])) | ((with_reducible refine gate_dst (N := 24) rfl ?_); (try (refine gate_guard (by rfl) ?_; dsimp only)); refine load_step 28 _ rfl rfl _ kP ?_; (try simp only [Act.put, List.setIfInBounds_toArray, List.set_cons_zero, List.set_cons_succ])) | ((with_reducible refine gate_dst (N := 25) rfl ?_); (try (refine gate_guard (by rfl) ?_; dsimp only)); refine load_step 30 _ rfl rfl _ kI ?_; (try simp only [Act.put, List.setIfInBounds_toArray, List.set_cons_zero, List.set_cons_succ])))
        refine (fil_matches_ x hok chain name q hq hL id hid _ _ hm').mono ?_; rintro e w5 ⟨rfl, hbb⟩
        have HB4 := (below_alloc HB.out _).trans hb4.out
        have HB5 := Aside0.mk (below_then HB0.out HB0.out.size (below_then HB4 HB4.size hbb))
        clear hbb HB4 hb4 hf4 hg4
        go_wp2_with (fail)
        go_ret2
        exact ⟨by rw [← HRk.out]; unfold atI hasI; rw [if_neg (by omega), decide_eq_true (by omega)]; rfl, HB5.out⟩
      | false =>
        have hmr : idx (fun r => matB r chain name q id) (l.drop k) (k : Int) = idx (fun r => matB r chain name q id) (l.drop (k + 1)) ((k : Int) + 1) := by rw [HX.out, if_neg (by rw [hm']; decide)]
        have HRk := Aside0.mk (hmr.symm.trans HI.out)
        go_wp2_with (first | ((with_reducible refine gate_dst (N := 20) rfl ?_); (try (refine gate_guard (by rfl) ?_; dsimp only)); refine load_step 41 _ rfl rfl _ l41 ?_; (try simp only [Act.put, List.setIfInBounds_toArray, List.set_cons_zero, List.set_cons_succ])) | ((with_reducible refine gate_ (.store 41 _ _) rfl ?_); refine store_step (vs := rc x) 41 _ _ rfl rfl w2.heap.size rfl rfl (blk_new _ _) (by rw [rc_len hok]; rfl) (by kernel_rfl) rc_one hs2 ?_; intro w4 hg4 hb4 hf4; have k41 := (rul_blk hok hg4.out).2.2.2; have kP := par_all hq ((hf4.out w.heap.size (by omega)).trans (blk_alloc HP.out _)); have kI := arr_blk (ty := 30) hid ((hf4.out w1.heap.size (by omega)).trans (blk_alloc HD.out _)) Try.underlying30 rfl (by kernel_rfl)) | ((with_reducible refine gate_dst (N := 21) rfl ?_); (try (refine gate_guard (by rfl) ?_; dsimp only)); refine load_step 41 _ rfl rfl _ k41 ?_; (try simp only [Act.put, List.setIfInBounds_toArray, List.set_cons_zero, List.set_cons_succ])) | ((with_reducible refine gate_dst (N := 24) rfl ?_); (try (refine gate_guard (by rfl) ?_; dsimp only)); refine load_step 28 _ rfl rfl _ kP ?_; (try simp only [Act.put, List.setIfInBounds_toArray, List.set_cons_zero, List.set_cons_succ])) | ((with_reducible refine gate_dst (N := 25) rfl ?_); (try (refine gate_guard (by rfl) ?_; dsimp only)); refine load_step 30 _ rfl rfl _ kI ?_; (try simp only [Act.put, List.setIfInBounds_toArray, List.set_cons_zero, List.set_cons_succ])))
        refine (fil_matches_ x hok chain name q hq hL id hid _ _ hm').mono ?_; rintro e w5 ⟨rfl, hbb⟩
        have HB4 := (below_alloc HB.out _).trans hb4.out
        have HB5 := Aside0.mk (below_then HB4 HB4.size hbb)
        clear hbb HB4 hb4 hf4 hg4
        go_wp2_with (fail)
        go_roundw
        case rel => exact ⟨k + 1, by omega, by go_num, ⟨by rw [← HRk.out, show ((k + 1 : Nat) : Int) = (k : Int) + 1 by omega]⟩, HB5⟩
        case measure => simp [intOf]; omega
    · obtain rfl : k = l.length := by omega
      have HRk := Aside0.mk (show R = -1 by rw [← HI.out, List.drop_eq_nil_of_le (Nat.le_refl _)]; rfl)
      have HB5 := Aside0.mk (below_then HB0.out HB0.out.size HB.out)
      go_wp2_with (fail)
      go_ret2
      exact ⟨by rw [HRk.out]; rfl, HB5.out⟩

set_option maxHeartbeats 1000000 in
theorem ref_which (A : Option Addr) (c : Nat) (l : List Rul) (chain : Int) (name : ByteArray) (q : Par) (hq : q.Ok) (hL : In64 q.D.L) (id : List UInt8) (hid : id.length = 8) (w : World) (hr : RD w A l) :
    Calls Try.prog 10 #[.int .i64 chain, .string name, .agg (qc q).toArray, .agg (bs id).toArray, .slice A l.length c] w fun e w' => e = .returned (.int .i64 (idx (fun r => rmatB r chain name q id) l 0)) ∧ Below w.heap.size w w' := by
  have hm := hr.2.1
  have HR := Aside0.mk hr
  clear hr
  have H0 := Aside0.mk (show idx (fun r => rmatB r chain name q id) (l.drop 0) (((0 : Nat) : Nat) : Int) = idx (fun r => rmatB r chain name q id) l 0 by rw [List.drop_zero]; rfl)
  generalize idx (fun r => rmatB r chain name q id) l 0 = R at *
  go_enter Try.func10, Try.ntmps10
  go_wp2_with (first | ((with_reducible refine gate_dst (N := 7) rfl ?_); refine box_gen 28 _ rfl rfl (qc q).toArray ?hx ?_; (case hx => rfl); intro w1 g1 b1; (try simp only [Act.put, List.setIfInBounds_toArray, List.set_cons_zero, List.set_cons_succ])) | (((with_reducible refine gate_dst (N := 8) rfl ?_); refine box_gen 30 _ rfl rfl (bs id).toArray ?hx ?_; (case hx => rfl); intro w2 g2 b2; (try simp only [Act.put, List.setIfInBounds_toArray, List.set_cons_zero, List.set_cons_succ])); have HB1 := Aside0.mk (blk_below g1.out b2.out.1); have HB2 := Aside0.mk g2.out; have HB0 := Aside0.mk (below_then b1.out.1 b1.out.1.size b2.out.1); clear g1 g2 b1 b2))
  go_loopw [11] (fun i wr => ∃ k : Nat, k ≤ l.length ∧ i = .int .i64 k ∧ Aside0 (idx (fun r => rmatB r chain name q id) (l.drop k) (k : Int) = R) ∧ Aside0 (Below w2.heap.size w2 wr)) (fun i _ => l.length - (intOf i).toNat)
  case atStart => exact ⟨0, Nat.zero_le _, rfl, H0, ⟨Below.refl _ _⟩⟩
  case round =>
    clear H0
    obtain ⟨k, hk, rfl, HI, HB⟩ := hrel
    by_cases hlt : k < l.length
    · obtain ⟨ad, x, rfl, hx, hok, l41, c0, c1, c48, c49⟩ := RD.at (RD.below HR.out (below_then HB0.out HB0.out.size HB.out)) k hlt
      have HX := Aside0.mk (idx_step (fun r => rmatB r chain name q id) hx (k : Int))
      have HP := Aside0.mk (blk_below HB1.out HB.out)
      have HD := Aside0.mk (blk_below HB2.out HB.out)
      clear c0 c1 c48 c49
      have HB1' := below_then HB0.out HB0.out.size HB.out
      cases hm' : rmatB x chain name q id with
      | true =>
        have hmr : idx (fun r => rmatB r chain name q id) (l.drop k) (k : Int) = k := by rw [HX.out, if_pos hm']
        have HRk := Aside0.mk (hmr.symm.trans HI.out)
        go_upto_region 4 with (fail)
        refine region_quietB (by kernel_rfl) (by kernel_rfl) ?_
        intro X F _ HB' HN
        have q41 : ∀ y, (Instr.loadAt 41 (.pointer (some (ad.add (k * 50))))).run Try.prog (F y) = .ok (.agg (rc x).toArray) (F y) := fun y => by
          obtain ⟨ad', x', e', hx', _, h41, _⟩ := RD.at (RD.below HR.out (below_then HB1' HB1'.size (HB'.out y))) k hlt
          cases e'; rw [hx] at hx'; cases hx'; exact h41
        have kP : ∀ y, _ := fun y => par_all hq (blk_below HP.out (HB'.out y))
        have kI : ∀ y, _ := fun y => arr_blk (ty := 30) hid (blk_below HD.out (HB'.out y)) Try.underlying30 rfl (by kernel_rfl)
        repeat (first | (go_big_quiet_want; refine quiet_loadF 21 rfl 41 _ rfl _ q41 ?_; (simp only [Act.put, List.setIfInBounds_toArray, List.set_cons_zero, List.set_cons_succ]); go_big_quiet_on) | (go_big_quiet_want; refine quiet_loadF 24 rfl 28 _ rfl _ kP ?_; (simp only [Act.put, List.setIfInBounds_toArray, List.set_cons_zero, List.set_cons_succ]); go_big_quiet_on) | (go_big_quiet_want; refine quiet_loadF 25 rfl 30 _ rfl _ kI ?_; (simp only [Act.put, List.setIfInBounds_toArray, List.set_cons_zero, List.set_cons_succ]); go_big_quiet_on) | (go_big_quiet_step ((refine (ref_matches_ x hok chain name q hq hL id hid _ _ hm').mono ?_; rintro e w2 ⟨rfl, hb2⟩; exact ⟨rfl, HN.out _ _ hb2⟩))))
        refine wpQuiet_nil ?_
        rintro w' ⟨y, rfl⟩
        have HB5 := Aside0.mk (below_then HB1' HB1'.size (HB'.out y))
        clear q41 kP kI HB' HN
        go_wp2_with (fail)
        go_ret
        exact ⟨by rw [← HRk.out]; rfl, HB5.out⟩
      | false =>
        have hmr : idx (fun r => rmatB r chain name q id) (l.drop k) (k : Int) = idx (fun r => rmatB r chain name q id) (l.drop (k + 1)) ((k : Int) + 1) := by rw [HX.out, if_neg (by rw [hm']; decide)]
        have HRk := Aside0.mk (hmr.symm.trans HI.out)
        go_upto_region 4 with (fail)
        refine region_quietB (by kernel_rfl) (by kernel_rfl) ?_
        intro X F _ HB' HN
        have q41 : ∀ y, (Instr.loadAt 41 (.pointer (some (ad.add (k * 50))))).run Try.prog (F y) = .ok (.agg (rc x).toArray) (F y) := fun y => by
          obtain ⟨ad', x', e', hx', _, h41, _⟩ := RD.at (RD.below HR.out (below_then HB1' HB1'.size (HB'.out y))) k hlt
          cases e'; rw [hx] at hx'; cases hx'; exact h41
        have kP : ∀ y, _ := fun y => par_all hq (blk_below HP.out (HB'.out y))
        have kI : ∀ y, _ := fun y => arr_blk (ty := 30) hid (blk_below HD.out (HB'.out y)) Try.underlying30 rfl (by kernel_rfl)
        repeat (first | (go_big_quiet_want; refine quiet_loadF 21 rfl 41 _ rfl _ q41 ?_; (simp only [Act.put, List.setIfInBounds_toArray, List.set_cons_zero, List.set_cons_succ]); go_big_quiet_on) | (go_big_quiet_want; refine quiet_loadF 24 rfl 28 _ rfl _ kP ?_; (simp only [Act.put, List.setIfInBounds_toArray, List.set_cons_zero, List.set_cons_succ]); go_big_quiet_on) | (go_big_quiet_want; refine quiet_loadF 25 rfl 30 _ rfl _ kI ?_; (simp only [Act.put, List.setIfInBounds_toArray, List.set_cons_zero, List.set_cons_succ]); go_big_quiet_on) | (go_big_quiet_step ((refine (ref_matches_ x hok chain name q hq hL id hid _ _ hm').mono ?_; rintro e w2 ⟨rfl, hb2⟩; exact ⟨rfl, HN.out _ _ hb2⟩))))
        refine wpQuiet_nil ?_
        rintro w' ⟨y, rfl⟩
        have HB5 := Aside0.mk (below_then HB.out HB.out.size (HB'.out y))
        clear q41 kP kI HB' HN
        go_wp2_with (fail)
        go_roundw
        case rel => exact ⟨k + 1, by omega, by go_num, ⟨by rw [← HRk.out, show ((k + 1 : Nat) : Int) = (k : Int) + 1 by omega]⟩, HB5⟩
        case measure => simp [intOf]; omega
    · obtain rfl : k = l.length := by omega
      have HRk := Aside0.mk (show R = -1 by rw [← HI.out, List.drop_eq_nil_of_le (Nat.le_refl _)]; rfl)
      have HB5 := Aside0.mk (below_then HB0.out HB0.out.size HB.out)
      go_wp2_with (fail)
      go_ret
      exact ⟨by rw [HRk.out]; rfl, HB5.out⟩
end Go.Proofs.Ytadgagndfmdjmaa.Fl
