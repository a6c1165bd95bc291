/- Rules that may be: culvertref09's Name, in, bits, CheckRule return something; so does culvertlaw10.right. -/
import Derived.Test.YtadgagndfmdjmaaFlI
import Derived.Test.YtadgagndfmdjmaaMFix1
namespace Go.Proofs.Ytadgagndfmdjmaa.Fl
open Go.RowKit Go.Proofs.Ytadgagndfmdjmaa.MFi Go.Proofs.YtadgagndfmdjmaaW.PrintWords Go.Proofs.YtadgagndfmdjmaaW.PrintLast
open Extern.Stop (cell)

theorem part24 {p : Pfx} (h : p.Ok) (w : World) : (part 24 (pc p).toArray 0).run Try.prog w = .ok (.agg (bs p.A).toArray) w := by
  have hm : (Try.prog.info? 24).map (·.size) = some 16 := by kernel_rfl
  cases hq : Try.prog.info? 24 with
  | none => rw [hq] at hm; cases hm
  | some i =>
    rw [hq] at hm
    have hs : i.size = 16 := by simpa using hm
    have hA := pc_A h
    simp [part, isAgg, run_underlying Try.underlying24, sizeOf, typeInfo, hq, hs]
    simpa using hA
theorem part3 {p : Pfx} (h : p.Ok) (w : World) : (part 3 (pc p).toArray 16).run Try.prog w = .ok (.int .i64 p.L) w := by
  have hA := pc_L h
  simp [part, isAgg, run_underlying Try.underlying3, hA]
theorem run_eq26 {p q : Pfx} (hp : p.Ok) (hq : q.Ok) (w : World) : (Op.equalIn 10000 26 (.agg (pc p).toArray) (.agg (pc q).toArray)).run Try.prog w = .ok ((p.A == q.A) && (p.L == q.L)) w :=
  eqA_of Try.underlying26 (by kernel_rfl) (eqf_cons rfl (part24 hp w) (part24 hq w) (run_equalIn_bytes w 9997 24 5 16 Try.underlying24 Try.underlying5 (fun w => by kernel_rfl) p.A q.A hp hq) (eqf_last rfl (part3 hp w) (part3 hq w) (run_equalIn_int w 9998 3 .i64 .i64 _ _ Try.underlying3)))
theorem neq26_step {ops : Array Oper} {rest : List Oper} {o : Oper} {a : Act} {Q : Exit → Act → World → Prop} {W : World} (N : Tmp) (_hN : o.dst = some N) (hg : o.guard = none) (x y : Operand) (tt : TypeId) (ho : o.op = .binOp .neq 26 x y tt) (p q : Pfx) (hp : p.Ok) (hq : q.Ok)
    (hx : a.eval x = .agg (pc p).toArray) (hy : a.eval y = .agg (pc q).toArray) (r : Bool) (hr : (!((p.A == q.A) && (p.L == q.L))) = r) (h : wpList Try.prog ops Q rest (a.put o.dst (.bool r)) W) : wpList Try.prog ops Q (o :: rest) a W :=
  wpList_plain hg fun _ hK => by
    unfold Oper.wp execOp
    simp only [ho, hx, hy, Sem.run_bind, Sem.run_pure, run_eqGuard_agg (P := Try.prog) _ .neq 26 _ _ _ _ (by kernel_rfl), run_neq_struct, run_eq26 hp hq, Result.andThen_ok, hr]
    exact hK _ _ h
def zpfx : Pfx := ⟨[0,0,0,0,0,0,0,0,0,0,0,0,0,0,0,0], 0⟩
theorem ref_in (a b c : Int) (w : World) : Calls Try.prog 27 #[.int .i64 a, .int .i64 b, .int .i64 c] w fun e w' => (∃ r, e = .returned (.bool r)) ∧ Below w.heap.size w w' := by
  obtain ⟨r, hr⟩ : ∃ r, culvertref09_in.f a b c = some r := by unfold culvertref09_in.f; split <;> exact ⟨_, rfl⟩
  exact (culvertref09_in.calls a b c r w hr).mono fun e w' ⟨he, hd⟩ => ⟨⟨r, he⟩, hd.below⟩
theorem name_loop (s : ByteArray) (hs : (s.size : Int) ≤ 15) : ∀ (d : Nat) (i : Int), 0 ≤ i → (s.size : Int) - i ≤ d → ∃ r, culvertref09_Name.l0 (d + 1) s i = some r := by
  intro d
  induction d with
  | zero =>
    intro i h0 h1
    simp only [culvertref09_Name.l0]
    rw [if_neg (by omega)]
    exact ⟨_, rfl⟩
  | succ d ih =>
    intro i h0 h1
    by_cases hlt : i < (s.size : Int)
    · obtain ⟨r, hr⟩ := ih (i + 1) (by omega) (by omega)
      rw [culvertref09_Name.l0]
      rw [if_pos hlt, if_pos h0, w64 (by omega) (by omega), hr]
      repeat' split
      all_goals exact ⟨_, rfl⟩
    · rw [culvertref09_Name.l0, if_neg hlt]
      exact ⟨_, rfl⟩
theorem name_some (s : ByteArray) : ∃ r, culvertref09_Name.f 18 s = some r := by
  unfold culvertref09_Name.f
  split
  · simp only [culvertref09_Name.j0]; exact ⟨_, rfl⟩
  · by_cases h : (s.size : Int) > 15
    · rw [decide_eq_true h]; simp only [culvertref09_Name.j0]; exact ⟨_, rfl⟩
    · rw [decide_eq_false h]
      obtain ⟨r, hr⟩ := name_loop s (by omega) 16 0 (by omega) (by omega)
      rw [culvertref09_Name.j0, if_neg (by decide), hr]
      exact ⟨_, rfl⟩
theorem ref_name (s : ByteArray) (w : World) : Calls Try.prog 28 #[.string s] w fun e w' => (∃ r, e = .returned (.bool r)) ∧ Below w.heap.size w w' := by
  obtain ⟨r, hr⟩ := name_some s
  exact (culvertref09_Name.calls 18 s r w hr).mono fun e w' ⟨he, hd⟩ => ⟨⟨r, he⟩, hd.below⟩
theorem ref09_bits (p : Pfx) (hp : p.Ok) (w : World) : Calls Try.prog 29 #[.agg (pc p).toArray] w fun e w' => (∃ n m, e = .returned (.tuple #[.int .i64 n, .int .i64 m])) ∧ Below w.heap.size w w' := by
  rcases pfam_two p with h | h
  · go_enter Try.func29, Try.ntmps29
    go_wp2_with (first | (((with_reducible refine gate_dst (N := 1) rfl ?_); refine box_gen 26 _ rfl rfl (pc p).toArray ?hx ?_; (case hx => rfl); intro w1 g1 b1; (try simp only [Act.put, List.setIfInBounds_toArray, List.set_cons_zero, List.set_cons_succ])); have HB1 := Aside0.mk b1.out.1; have l26 := (pfx_blk hp g1.out).2.1; have HG := Aside0.mk g1.out; clear g1 b1) | ((with_reducible refine gate_dst (N := 4) rfl ?_); (try (refine gate_guard (by rfl) ?_; dsimp only)); refine load_step 26 _ rfl rfl _ l26 ?_; (try simp only [Act.put, List.setIfInBounds_toArray, List.set_cons_zero, List.set_cons_succ])))
    refine (ref_pfam_ p hp _ _ h).mono ?_; rintro e w2 ⟨rfl, hbb⟩
    have HB2 := Aside0.mk (below_then HB1.out HB1.out.size hbb)
    have c16 := (pfx_blk hp (blk_below HG.out hbb)).2.2.1
    clear hbb l26
    go_wp2_with (fail)
    go_ret2
    exact ⟨⟨_, _, rfl⟩, HB2.out⟩
  · go_enter Try.func29, Try.ntmps29
    go_wp2_with (first | (((with_reducible refine gate_dst (N := 1) rfl ?_); refine box_gen 26 _ rfl rfl (pc p).toArray ?hx ?_; (case hx => rfl); intro w1 g1 b1; (try simp only [Act.put, List.setIfInBounds_toArray, List.set_cons_zero, List.set_cons_succ])); have HB1 := Aside0.mk b1.out.1; have l26 := (pfx_blk hp g1.out).2.1; have HG := Aside0.mk g1.out; clear g1 b1) | ((with_reducible refine gate_dst (N := 4) rfl ?_); (try (refine gate_guard (by rfl) ?_; dsimp only)); refine load_step 26 _ rfl rfl _ l26 ?_; (try simp only [Act.put, List.setIfInBounds_toArray, List.set_cons_zero, List.set_cons_succ])))
    refine (ref_pfam_ p hp _ _ h).mono ?_; rintro e w2 ⟨rfl, hbb⟩
    have HB2 := Aside0.mk (below_then HB1.out HB1.out.size hbb)
    have c16 := (pfx_blk hp (blk_below HG.out hbb)).2.2.1
    clear hbb l26
    go_wp2_with (fail)
    go_ret2
    exact ⟨⟨_, _, rfl⟩, HB2.out⟩
theorem ref_check_any (p : Pfx) (hp : p.Ok) (w : World) : Calls Try.prog 26 #[.agg (pc p).toArray] w fun e w' => (∃ n, e = .returned (.int .i64 n)) ∧ Below w.heap.size w w' :=
  (ref_check p hp w).mono fun _ _ ⟨he, hd⟩ => ⟨⟨_, he⟩, hd⟩
set_option maxHeartbeats 4000000 in
set_option maxRecDepth 100000 in
theorem ref_checkrule (r : Rul) (hr : r.Ok) (w : World) : Calls Try.prog 16 #[.agg (rc r).toArray] w fun e w' => (∃ n, e = .returned (.int .i64 n)) ∧ Below w.heap.size w w' := by
  have hD := hr.1
  have hS := hr.2.1
  have hz : zpfx.Ok := rfl
  go_enter Try.func16, Try.ntmps16
  go_upto_region 1 with (((with_reducible refine gate_dst (N := 1) rfl ?_); refine box_gen 41 _ rfl rfl (rc r).toArray ?hx ?_; (case hx => rfl); intro w1 g1 b1; (try simp only [Act.put, List.setIfInBounds_toArray, List.set_cons_zero, List.set_cons_succ])); have HB1 := Aside0.mk b1.out.1; have HG := Aside0.mk g1.out; clear g1 b1)
  go_cut [3] from 4 (fun v w' => (∃ b, v = .bool b) ∧ Below w1.heap.size w1 w')
  case first =>
    have c0 := (rul_cell hr HG.out).1
    go_wp2_with (fail)
    clear c0
    refine (ref_in _ _ _ _).mono ?_; rintro e w2 ⟨⟨b2, rfl⟩, hbb⟩
    have HC2 := Aside0.mk (hbb)
    have HG2 := Aside0.mk (blk_below HG.out hbb)
    clear hbb
    cases b2 with
    | false =>
      go_wp2_with (fail)
      go_meet
      case rel => exact ⟨⟨_, rfl⟩, HC2.out⟩
    | true =>
      have c1 := (rul_cell hr HG2.out).2.1
      by_cases hI : r.I.toList = []
      · have hE : r.I.toList.isEmpty = true := by rw [hI]; rfl
        have c48 := (rul_cell hr HG2.out).2.2.2.2.2.2.1
        have c49 := (rul_cell hr HG2.out).2.2.2.2.2.2.2
        cases hN : r.N with
        | true =>
          rw [hN] at c48
          clear hN
          cases hX : (r.X != 0) with
          | true =>
            go_wp2_with (fail)
            go_meet
            case rel => exact ⟨⟨_, rfl⟩, HC2.out⟩
          | false =>
            go_wp2_with (fail)
            clear c48 c49
            refine (ref_in _ _ _ _).mono ?_; rintro e w7 ⟨⟨b7, rfl⟩, hbb⟩
            have HC7 := Aside0.mk (below_then HC2.out HC2.out.size hbb)
            have HG7 := Aside0.mk (blk_below HG2.out hbb)
            clear hbb
            go_wp2_with (fail)
            go_meet
            case rel => exact ⟨⟨_, rfl⟩, HC7.out⟩
        | false =>
          rw [hN] at c48
          clear hN
          go_wp2_with (fail)
          clear c48 c49
          refine (ref_in _ _ _ _).mono ?_; rintro e w7 ⟨⟨b7, rfl⟩, hbb⟩
          have HC7 := Aside0.mk (below_then HC2.out HC2.out.size hbb)
          have HG7 := Aside0.mk (blk_below HG2.out hbb)
          clear hbb
          go_wp2_with (fail)
          go_meet
          case rel => exact ⟨⟨_, rfl⟩, HC7.out⟩
      · have hN : r.I.toList.isEmpty = false := by cases hx : r.I.toList with | nil => exact absurd hx hI | cons _ _ => rfl
        go_wp2_with (fail)
        clear c1
        refine (ref_name _ _).mono ?_; rintro e w3 ⟨⟨b3, rfl⟩, hbb⟩
        have HC3 := Aside0.mk (below_then HC2.out HC2.out.size hbb)
        have HG3 := Aside0.mk (blk_below HG2.out hbb)
        clear hbb
        cases b3 with
        | false =>
          go_wp2_with (fail)
          go_meet
          case rel => exact ⟨⟨_, rfl⟩, HC3.out⟩
        | true =>
          have c48 := (rul_cell hr HG3.out).2.2.2.2.2.2.1
          have c49 := (rul_cell hr HG3.out).2.2.2.2.2.2.2
          cases hN : r.N with
          | true =>
            rw [hN] at c48
            clear hN
            cases hX : (r.X != 0) with
            | true =>
              go_wp2_with (fail)
              go_meet
              case rel => exact ⟨⟨_, rfl⟩, HC3.out⟩
            | false =>
              go_wp2_with (fail)
              clear c48 c49
              refine (ref_in _ _ _ _).mono ?_; rintro e w8 ⟨⟨b8, rfl⟩, hbb⟩
              have HC8 := Aside0.mk (below_then HC3.out HC3.out.size hbb)
              have HG8 := Aside0.mk (blk_below HG3.out hbb)
              clear hbb
              go_wp2_with (fail)
              go_meet
              case rel => exact ⟨⟨_, rfl⟩, HC8.out⟩
          | false =>
            rw [hN] at c48
            clear hN
            go_wp2_with (fail)
            clear c48 c49
            refine (ref_in _ _ _ _).mono ?_; rintro e w8 ⟨⟨b8, rfl⟩, hbb⟩
            have HC8 := Aside0.mk (below_then HC3.out HC3.out.size hbb)
            have HG8 := Aside0.mk (blk_below HG3.out hbb)
            clear hbb
            go_wp2_with (fail)
            go_meet
            case rel => exact ⟨⟨_, rfl⟩, HC8.out⟩
  case rest =>
    obtain ⟨⟨b, rfl⟩, hbb⟩ := hcut
    have HA := Aside0.mk (below_then HB1.out HB1.out.size hbb)
    have HGa := Aside0.mk (blk_below HG.out hbb)
    clear hbb HB1 HG
    have c19 := (rul_cell hr HGa.out).2.2.1
    have lD := (rul_blk hr HGa.out).1
    cases hHD : r.HD with
    | true =>
      rw [hHD] at c19
      clear hHD
      go_wp2_with ((with_reducible refine gate_dst (N := 40) rfl ?_); (try (refine gate_guard (by rfl) ?_; dsimp only)); refine load_step 26 _ rfl rfl _ lD ?_; (try simp only [Act.put, List.setIfInBounds_toArray, List.set_cons_zero, List.set_cons_succ]))
      clear c19 lD
      refine (ref09_bits r.D hD _).mono ?_; rintro e w3 ⟨⟨n, m, rfl⟩, hbb⟩
      have HA3 := Aside0.mk (below_then HA.out HA.out.size hbb)
      have HG3 := Aside0.mk (blk_below HGa.out hbb)
      clear hbb HA HGa
      go_upto_region 4 with (fail)
      go_cut [3] from 6 (fun v w' => (∃ b, v = .bool b) ∧ Below w3.heap.size w3 w')
      case first =>
        have lD := (rul_blk hr HG3.out).1
        cases b with
        | true =>
          go_wp2_with (fail)
          go_meet
          case rel => exact ⟨⟨_, rfl⟩, Below.refl _ _⟩
        | false =>
          go_wp2_with ((with_reducible refine gate_dst (N := 47) rfl ?_); (try (refine gate_guard (by rfl) ?_; dsimp only)); refine load_step 26 _ rfl rfl _ lD ?_; (try simp only [Act.put, List.setIfInBounds_toArray, List.set_cons_zero, List.set_cons_succ]))
          clear lD
          refine (ref_check_any r.D hD _).mono ?_; rintro e w4 ⟨⟨n4, rfl⟩, hbb⟩
          have HM := Aside0.mk hbb
          have HG4 := Aside0.mk (blk_below HG3.out hbb)
          clear hbb
          have c20 := (rul_cell hr HG4.out).2.2.2.1
          have c21 := (rul_cell hr HG4.out).2.2.2.2.1
          cases q1 : (n4 != 0) with
          | true =>
            go_wp2_with (fail)
            go_meet
            case rel => exact ⟨⟨_, rfl⟩, HM.out⟩
          | false =>
            cases q2 : decide (r.G < n) with
            | true =>
              go_wp2_with (fail)
              go_meet
              case rel => exact ⟨⟨_, rfl⟩, HM.out⟩
            | false =>
              cases q3 : decide (r.E < r.G) with
              | true =>
                go_wp2_with (fail)
                go_meet
                case rel => exact ⟨⟨_, rfl⟩, HM.out⟩
              | false =>
                go_wp2_with (fail)
                go_meet
                case rel => exact ⟨⟨_, rfl⟩, HM.out⟩
      case rest =>
        obtain ⟨⟨b5, rfl⟩, hbb⟩ := hcut
        have HA' := Aside0.mk (below_then HA3.out HA3.out.size hbb)
        have HG' := Aside0.mk (blk_below HG3.out hbb)
        clear hbb HA3 HG3
        have c39 := (rul_cell hr HG'.out).2.2.2.2.2.1
        cases hHS : r.HS with
        | true =>
          rw [hHS] at c39
          clear hHS
          go_upto_region 7 with (fail)
          clear c39
          have lS := (rul_blk hr HG'.out).2.1
          go_cut [3] from 6 (fun v w' => (∃ b, v = .bool b) ∧ Below wc.heap.size wc w')
          case first =>
            cases b5 with
            | true =>
              go_wp2_with (fail)
              go_meet
              case rel => exact ⟨⟨_, rfl⟩, Below.refl _ _⟩
            | false =>
              go_wp2_with ((with_reducible refine gate_dst (N := 92) rfl ?_); (try (refine gate_guard (by rfl) ?_; dsimp only)); refine load_step 26 _ rfl rfl _ lS ?_; (try simp only [Act.put, List.setIfInBounds_toArray, List.set_cons_zero, List.set_cons_succ]))
              clear lS
              refine (ref_check_any r.S hS _).mono ?_; rintro e w8 ⟨⟨n8, rfl⟩, hbb⟩
              have HM := Aside0.mk hbb
              clear hbb
              go_wp2_with (fail)
              go_meet
              case rel => exact ⟨⟨_, rfl⟩, HM.out⟩
          case rest =>
            obtain ⟨⟨b9, rfl⟩, hbb⟩ := hcut
            have HE := Aside0.mk (below_then HA'.out HA'.out.size hbb)
            clear hbb lS
            cases b9 with
            | true =>
              go_wp2_with (fail)
              go_ret
              exact ⟨⟨_, rfl⟩, HE.out⟩
            | false =>
              go_wp2_with (fail)
              go_ret
              exact ⟨⟨_, rfl⟩, HE.out⟩
        | false =>
          rw [hHS] at c39
          clear hHS
          go_upto_region 8 with (fail)
          clear c39
          have lS := (rul_blk hr HG'.out).2.1
          go_cut [3] from 6 (fun v w' => (∃ b, v = .bool b) ∧ Below wc.heap.size wc w')
          case first =>
            cases b5 with
            | true =>
              go_wp2_with (fail)
              go_meet
              case rel => exact ⟨⟨_, rfl⟩, Below.refl _ _⟩
            | false =>
              obtain ⟨v8, e8⟩ : ∃ v, (!((r.S.A == zpfx.A) && (r.S.L == zpfx.L))) = v := ⟨_, rfl⟩
              have E8 := Aside0.mk e8
              clear e8
              go_wp2_with (first | ((with_reducible refine gate_dst (N := 99) rfl ?_); (try (refine gate_guard (by rfl) ?_; dsimp only)); refine load_step 26 _ rfl rfl _ lS ?_; (try simp only [Act.put, List.setIfInBounds_toArray, List.set_cons_zero, List.set_cons_succ])) | ((with_reducible refine gate_dst (N := 101) rfl ?_); (try (refine gate_guard (by rfl) ?_; dsimp only)); refine neq26_step 101 rfl rfl _ _ _ rfl r.S zpfx hS hz ?hx ?hy _ E8.out ?_; (case hx => rfl); (case hy => rfl); (try simp only [Act.put, List.setIfInBounds_toArray, List.set_cons_zero, List.set_cons_succ])))
              go_meet
              case rel => exact ⟨⟨_, rfl⟩, Below.refl _ _⟩
          case rest =>
            obtain ⟨⟨b9, rfl⟩, hbb⟩ := hcut
            have HE := Aside0.mk (below_then HA'.out HA'.out.size hbb)
            clear hbb lS
            cases b9 with
            | true =>
              go_wp2_with (fail)
              go_ret
              exact ⟨⟨_, rfl⟩, HE.out⟩
            | false =>
              go_wp2_with (fail)
              go_ret
              exact ⟨⟨_, rfl⟩, HE.out⟩
    | false =>
      rw [hHD] at c19
      clear hHD
      go_upto_region 5 with (fail)
      clear c19
      have c20 := (rul_cell hr HGa.out).2.2.2.1
      have c21 := (rul_cell hr HGa.out).2.2.2.2.1
      go_cut [3] from 6 (fun v w' => (∃ b, v = .bool b) ∧ Below wc.heap.size wc w')
      case first =>
        cases b with
        | true =>
          go_wp2_with (fail)
          go_meet
          case rel => exact ⟨⟨_, rfl⟩, Below.refl _ _⟩
        | false =>
          have lD := (rul_blk hr HGa.out).1
          cases e5 : (!((r.D.A == zpfx.A) && (r.D.L == zpfx.L))) with
          | true =>
            have E5 := Aside0.mk e5
            clear e5
            go_wp2_with (first | ((with_reducible refine gate_dst (N := 73) rfl ?_); (try (refine gate_guard (by rfl) ?_; dsimp only)); refine load_step 26 _ rfl rfl _ lD ?_; (try simp only [Act.put, List.setIfInBounds_toArray, List.set_cons_zero, List.set_cons_succ])) | ((with_reducible refine gate_dst (N := 75) rfl ?_); (try (refine gate_guard (by rfl) ?_; dsimp only)); refine neq26_step 75 rfl rfl _ _ _ rfl r.D zpfx hD hz ?hx ?hy _ E5.out ?_; (case hx => rfl); (case hy => rfl); (try simp only [Act.put, List.setIfInBounds_toArray, List.set_cons_zero, List.set_cons_succ])))
            go_meet
            case rel => exact ⟨⟨_, rfl⟩, Below.refl _ _⟩
          | false =>
            cases q1 : (r.G != 0) with
            | true =>
              have E5 := Aside0.mk e5
              clear e5
              go_wp2_with (first | ((with_reducible refine gate_dst (N := 73) rfl ?_); (try (refine gate_guard (by rfl) ?_; dsimp only)); refine load_step 26 _ rfl rfl _ lD ?_; (try simp only [Act.put, List.setIfInBounds_toArray, List.set_cons_zero, List.set_cons_succ])) | ((with_reducible refine gate_dst (N := 75) rfl ?_); (try (refine gate_guard (by rfl) ?_; dsimp only)); refine neq26_step 75 rfl rfl _ _ _ rfl r.D zpfx hD hz ?hx ?hy _ E5.out ?_; (case hx => rfl); (case hy => rfl); (try simp only [Act.put, List.setIfInBounds_toArray, List.set_cons_zero, List.set_cons_succ])))
              go_meet
              case rel => exact ⟨⟨_, rfl⟩, Below.refl _ _⟩
            | false =>
              have E5 := Aside0.mk e5
              clear e5
              go_wp2_with (first | ((with_reducible refine gate_dst (N := 73) rfl ?_); (try (refine gate_guard (by rfl) ?_; dsimp only)); refine load_step 26 _ rfl rfl _ lD ?_; (try simp only [Act.put, List.setIfInBounds_toArray, List.set_cons_zero, List.set_cons_succ])) | ((with_reducible refine gate_dst (N := 75) rfl ?_); (try (refine gate_guard (by rfl) ?_; dsimp only)); refine neq26_step 75 rfl rfl _ _ _ rfl r.D zpfx hD hz ?hx ?hy _ E5.out ?_; (case hx => rfl); (case hy => rfl); (try simp only [Act.put, List.setIfInBounds_toArray, List.set_cons_zero, List.set_cons_succ])))
              go_meet
              case rel => exact ⟨⟨_, rfl⟩, Below.refl _ _⟩
      case rest =>
        obtain ⟨⟨b5, rfl⟩, hbb⟩ := hcut
        have HA' := Aside0.mk (below_then HA.out HA.out.size hbb)
        have HG' := Aside0.mk (blk_below HGa.out hbb)
        clear hbb HA HGa
        have c39 := (rul_cell hr HG'.out).2.2.2.2.2.1
        cases hHS : r.HS with
        | true =>
          rw [hHS] at c39
          clear hHS
          go_upto_region 7 with (fail)
          clear c39
          have lS := (rul_blk hr HG'.out).2.1
          go_cut [3] from 6 (fun v w' => (∃ b, v = .bool b) ∧ Below wc.heap.size wc w')
          case first =>
            cases b5 with
            | true =>
              go_wp2_with (fail)
              go_meet
              case rel => exact ⟨⟨_, rfl⟩, Below.refl _ _⟩
            | false =>
              go_wp2_with ((with_reducible refine gate_dst (N := 92) rfl ?_); (try (refine gate_guard (by rfl) ?_; dsimp only)); refine load_step 26 _ rfl rfl _ lS ?_; (try simp only [Act.put, List.setIfInBounds_toArray, List.set_cons_zero, List.set_cons_succ]))
              clear lS
              refine (ref_check_any r.S hS _).mono ?_; rintro e w8 ⟨⟨n8, rfl⟩, hbb⟩
              have HM := Aside0.mk hbb
              clear hbb
              go_wp2_with (fail)
              go_meet
              case rel => exact ⟨⟨_, rfl⟩, HM.out⟩
          case rest =>
            obtain ⟨⟨b9, rfl⟩, hbb⟩ := hcut
            have HE := Aside0.mk (below_then HA'.out HA'.out.size hbb)
            clear hbb lS
            cases b9 with
            | true =>
              go_wp2_with (fail)
              go_ret
              exact ⟨⟨_, rfl⟩, HE.out⟩
            | false =>
              go_wp2_with (fail)
              go_ret
              exact ⟨⟨_, rfl⟩, HE.out⟩
        | false =>
          rw [hHS] at c39
          clear hHS
          go_upto_region 8 with (fail)
          clear c39
          have lS := (rul_blk hr HG'.out).2.1
          go_cut [3] from 6 (fun v w' => (∃ b, v = .bool b) ∧ Below wc.heap.size wc w')
          case first =>
            cases b5 with
            | true =>
              go_wp2_with (fail)
              go_meet
              case rel => exact ⟨⟨_, rfl⟩, Below.refl _ _⟩
            | false =>
              obtain ⟨v8, e8⟩ : ∃ v, (!((r.S.A == zpfx.A) && (r.S.L == zpfx.L))) = v := ⟨_, rfl⟩
              have E8 := Aside0.mk e8
              clear e8
              go_wp2_with (first | ((with_reducible refine gate_dst (N := 99) rfl ?_); (try (refine gate_guard (by rfl) ?_; dsimp only)); refine load_step 26 _ rfl rfl _ lS ?_; (try simp only [Act.put, List.setIfInBounds_toArray, List.set_cons_zero, List.set_cons_succ])) | ((with_reducible refine gate_dst (N := 101) rfl ?_); (try (refine gate_guard (by rfl) ?_; dsimp only)); refine neq26_step 101 rfl rfl _ _ _ rfl r.S zpfx hS hz ?hx ?hy _ E8.out ?_; (case hx => rfl); (case hy => rfl); (try simp only [Act.put, List.setIfInBounds_toArray, List.set_cons_zero, List.set_cons_succ])))
              go_meet
              case rel => exact ⟨⟨_, rfl⟩, Below.refl _ _⟩
          case rest =>
            obtain ⟨⟨b9, rfl⟩, hbb⟩ := hcut
            have HE := Aside0.mk (below_then HA'.out HA'.out.size hbb)
            clear hbb lS
            cases b9 with
            | true =>
              go_wp2_with (fail)
              go_ret
              exact ⟨⟨_, rfl⟩, HE.out⟩
            | false =>
              go_wp2_with (fail)
              go_ret
              exact ⟨⟨_, rfl⟩, HE.out⟩
end Go.Proofs.Ytadgagndfmdjmaa.Fl
