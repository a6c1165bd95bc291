/- Laid by a program of this repo (wip/myprint.py) out of the print of the loaded program: for each Go function a function with the same answers, and the proof that the Go code comes to these; in a row: the law holds for every input. -/
import Derived.Test.YtlhlghmpcimdlaaMLnx0
import Derived.Test.YtlhlghmpcimdlaaMLnx2
namespace Go.Proofs.Ytlhlghmpcimdlaa.MLn
attribute [local go_sem] Go.Proofs.Ytlhlghmpcimdlaa.Ln.field24_0 Go.Proofs.Ytlhlghmpcimdlaa.Ln.field24_1 Go.Proofs.Ytlhlghmpcimdlaa.Ln.field24_2
open Go.RowKit Go.Proofs.YtlhlghmpcimdlaaW.PrintWords Go.Proofs.YtlhlghmpcimdlaaW.PrintLast Go.Proofs.YtlhlghmpcimdlaaW.PrintMore
attribute [local go_sem] max2_int min2_int max_two min_two max_three min_three max_four min_four   -- for this text's walks alone
set_option linter.unusedVariables false
set_option linter.unusedSimpArgs false

/-! ### culvertlaw11_LinkAll: function 5 -/
mutual
def culvertlaw11_LinkAll.j0 : Nat → Int → Int → Int → Int → Bool → Option (Bool)
  | 0, _, _, _, _, _ => none
  | k + 1, x0, x1, x2, x3, x29 => if x29 = true then ((culvertlaw11_live.f).bind fun t110 => (some t110)) else (culvertlaw11_LinkAll.l0 k x0 x1 x2 x3 0 0 0 false)
def culvertlaw11_LinkAll.l0 : Nat → Int → Int → Int → Int → Int → Int → Int → Bool → Option (Bool)
  | 0, _, _, _, _, _, _, _, _ => none
  | k + 1, x0, x1, x2, x3, x10, x112000, x112001, x112002 => if x10 < x2 then ((link_Hear.f k x112000 x112001 x112002 (IntKind.u16.wrap (x1 + (IntKind.u16.wrap (x10))))).bind fun bt112 => (culvertlaw11_LinkAll.l0 k x0 x1 x2 x3 (wrap64 (x10 + 1)) bt112.1 bt112.2.1 bt112.2.2)) else (if x2 ≥ 3 then ((link_Rx.f k 0 x0 (([(⟨x112000, x112001, x112002⟩ : S24)] : List (S24)))).bind fun t118 => (if t118 = x0 then (if x2 ≥ 16 then ((link_Rx.f k 1 x0 (([(⟨x112000, x112001, x112002⟩ : S24)] : List (S24)))).bind fun t122 => (culvertlaw11_LinkAll.j2 k x0 x1 x2 x3 (t122 != x0) x112000 x112001 x112002)) else (culvertlaw11_LinkAll.j2 k x0 x1 x2 x3 false x112000 x112001 x112002)) else (culvertlaw11_LinkAll.j2 k x0 x1 x2 x3 true x112000 x112001 x112002))) else (if x2 ≥ 16 then ((link_Rx.f k 1 x0 (([(⟨x112000, x112001, x112002⟩ : S24)] : List (S24)))).bind fun t126 => (culvertlaw11_LinkAll.j2 k x0 x1 x2 x3 (t126 != x0) x112000 x112001 x112002)) else (culvertlaw11_LinkAll.j2 k x0 x1 x2 x3 false x112000 x112001 x112002)))
def culvertlaw11_LinkAll.j2 : Nat → Int → Int → Int → Int → Bool → Int → Int → Bool → Option (Bool)
  | 0, _, _, _, _, _, _, _, _ => none
  | k + 1, x0, x1, x2, x3, x64, x112000, x112001, x112002 => if x64 = true then (some false) else ((link_Miss.f x112000 x112001 x112002 x3).bind fun bt127 => (if x3 ≥ 16 then ((link_Rx.f k 1 x0 (([(⟨bt127.1, bt127.2.1, bt127.2.2⟩ : S24)] : List (S24)))).bind fun t134 => (if t134 = 65535 then (if bt127.1 = 0 then (if x3 ≥ 2 then ((link_Rx.f k 0 x0 (([(⟨bt127.1, bt127.2.1, bt127.2.2⟩ : S24)] : List (S24)))).bind fun t138 => (culvertlaw11_LinkAll.j3 k x0 x1 x2 x3 (t138 != 65535) bt127.1 bt127.2.1 bt127.2.2)) else (culvertlaw11_LinkAll.j3 k x0 x1 x2 x3 false bt127.1 bt127.2.1 bt127.2.2)) else (culvertlaw11_LinkAll.j3 k x0 x1 x2 x3 true bt127.1 bt127.2.1 bt127.2.2)) else (culvertlaw11_LinkAll.j3 k x0 x1 x2 x3 true bt127.1 bt127.2.1 bt127.2.2))) else (if x3 ≥ 2 then ((link_Rx.f k 0 x0 (([(⟨bt127.1, bt127.2.1, bt127.2.2⟩ : S24)] : List (S24)))).bind fun t142 => (culvertlaw11_LinkAll.j3 k x0 x1 x2 x3 (t142 != 65535) bt127.1 bt127.2.1 bt127.2.2)) else (culvertlaw11_LinkAll.j3 k x0 x1 x2 x3 false bt127.1 bt127.2.1 bt127.2.2))))
def culvertlaw11_LinkAll.j3 : Nat → Int → Int → Int → Int → Bool → Int → Int → Bool → Option (Bool)
  | 0, _, _, _, _, _, _, _, _ => none
  | k + 1, x0, x1, x2, x3, x92, x131000, x131001, x131002 => if x92 = true then (some false) else ((link_Rx.f k 0 x0 ([] : List (S24))).bind fun t143 => (if t143 = 65535 then (if x2 = 0 then ((culvertlaw11_live.f).bind fun t144 => (some t144)) else (if x131001 = (IntKind.u16.wrap (x1 + (IntKind.u16.wrap (wrap64 (x2 + x3))))) then ((culvertlaw11_live.f).bind fun t145 => (some t145)) else (some false))) else (some false)))
end
def culvertlaw11_LinkAll.f (k : Nat) (a0 : Int) (a1 : Int) (a2 : Int) (a3 : Int) : Option (Bool) := if a2 < 0 then (culvertlaw11_LinkAll.j0 k a0 a1 a2 a3 true) else (if a2 > 300 then (culvertlaw11_LinkAll.j0 k a0 a1 a2 a3 true) else (if a3 < 0 then (culvertlaw11_LinkAll.j0 k a0 a1 a2 a3 true) else (if a3 > 300 then (culvertlaw11_LinkAll.j0 k a0 a1 a2 a3 true) else (culvertlaw11_LinkAll.j0 k a0 a1 a2 a3 (a0 == 65535)))))
theorem culvertlaw11_LinkAll.mono_l : ∀ k, (∀ y0 y1 y2 y3 y4, LeO (culvertlaw11_LinkAll.j0 k y0 y1 y2 y3 y4) (culvertlaw11_LinkAll.j0 (k + 1) y0 y1 y2 y3 y4)) ∧ (∀ y0 y1 y2 y3 y4 y5 y6 y7, LeO (culvertlaw11_LinkAll.l0 k y0 y1 y2 y3 y4 y5 y6 y7) (culvertlaw11_LinkAll.l0 (k + 1) y0 y1 y2 y3 y4 y5 y6 y7)) ∧ (∀ y0 y1 y2 y3 y4 y5 y6 y7, LeO (culvertlaw11_LinkAll.j2 k y0 y1 y2 y3 y4 y5 y6 y7) (culvertlaw11_LinkAll.j2 (k + 1) y0 y1 y2 y3 y4 y5 y6 y7)) ∧ (∀ y0 y1 y2 y3 y4 y5 y6 y7, LeO (culvertlaw11_LinkAll.j3 k y0 y1 y2 y3 y4 y5 y6 y7) (culvertlaw11_LinkAll.j3 (k + 1) y0 y1 y2 y3 y4 y5 y6 y7))
  | 0 => ⟨fun _ _ _ _ _ r h => by simp [culvertlaw11_LinkAll.j0] at h, fun _ _ _ _ _ _ _ _ r h => by simp [culvertlaw11_LinkAll.l0] at h, fun _ _ _ _ _ _ _ _ r h => by simp [culvertlaw11_LinkAll.j2] at h, fun _ _ _ _ _ _ _ _ r h => by simp [culvertlaw11_LinkAll.j3] at h⟩
  | k + 1 => by
    obtain ⟨ih0, ih1, ih2, ih3⟩ := culvertlaw11_LinkAll.mono_l k
    refine ⟨?_, ?_, ?_, ?_⟩
    · intro y0 y1 y2 y3 y4
      unfold culvertlaw11_LinkAll.j0
      repeat' first
      | (with_reducible exact ih0 _ _ _ _ _)
      | (with_reducible exact ih1 _ _ _ _ _ _ _ _)
      | (with_reducible exact ih2 _ _ _ _ _ _ _ _)
      | (with_reducible exact ih3 _ _ _ _ _ _ _ _)
      | (with_reducible exact link_Hear.mono _ _ _ _ _)
      | (with_reducible exact link_Rx.mono _ _ _ _)
      | (with_reducible exact LeO.refl _)
      | (with_reducible exact LeO.none _)
      | (with_reducible refine LeO.ite ?_ ?_)
      | (with_reducible refine LeO.bind ?_ (fun _ => ?_))
      | exact ih0 _ _ _ _ _
      | exact ih1 _ _ _ _ _ _ _ _
      | exact ih2 _ _ _ _ _ _ _ _
      | exact ih3 _ _ _ _ _ _ _ _
      | exact link_Hear.mono _ _ _ _ _
      | exact link_Rx.mono _ _ _ _
      | exact LeO.none _
      | refine LeO.ite ?_ ?_
      | refine LeO.bind ?_ (fun _ => ?_)
    · intro y0 y1 y2 y3 y4 y5 y6 y7
      unfold culvertlaw11_LinkAll.l0
      repeat' first
      | (with_reducible exact ih0 _ _ _ _ _)
      | (with_reducible exact ih1 _ _ _ _ _ _ _ _)
      | (with_reducible exact ih2 _ _ _ _ _ _ _ _)
      | (with_reducible exact ih3 _ _ _ _ _ _ _ _)
      | (with_reducible exact link_Hear.mono _ _ _ _ _)
      | (with_reducible exact link_Rx.mono _ _ _ _)
      | (with_reducible exact LeO.refl _)
      | (with_reducible exact LeO.none _)
      | (with_reducible refine LeO.ite ?_ ?_)
      | (with_reducible refine LeO.bind ?_ (fun _ => ?_))
      | exact ih0 _ _ _ _ _
      | exact ih1 _ _ _ _ _ _ _ _
      | exact ih2 _ _ _ _ _ _ _ _
      | exact ih3 _ _ _ _ _ _ _ _
      | exact link_Hear.mono _ _ _ _ _
      | exact link_Rx.mono _ _ _ _
      | exact LeO.none _
      | refine LeO.ite ?_ ?_
      | refine LeO.bind ?_ (fun _ => ?_)
    · intro y0 y1 y2 y3 y4 y5 y6 y7
      unfold culvertlaw11_LinkAll.j2
      repeat' first
      | (with_reducible exact ih0 _ _ _ _ _)
      | (with_reducible exact ih1 _ _ _ _ _ _ _ _)
      | (with_reducible exact ih2 _ _ _ _ _ _ _ _)
      | (with_reducible exact ih3 _ _ _ _ _ _ _ _)
      | (with_reducible exact link_Hear.mono _ _ _ _ _)
      | (with_reducible exact link_Rx.mono _ _ _ _)
      | (with_reducible exact LeO.refl _)
      | (with_reducible exact LeO.none _)
      | (with_reducible refine LeO.ite ?_ ?_)
      | (with_reducible refine LeO.bind ?_ (fun _ => ?_))
      | exact ih0 _ _ _ _ _
      | exact ih1 _ _ _ _ _ _ _ _
      | exact ih2 _ _ _ _ _ _ _ _
      | exact ih3 _ _ _ _ _ _ _ _
      | exact link_Hear.mono _ _ _ _ _
      | exact link_Rx.mono _ _ _ _
      | exact LeO.none _
      | refine LeO.ite ?_ ?_
      | refine LeO.bind ?_ (fun _ => ?_)
    · intro y0 y1 y2 y3 y4 y5 y6 y7
      unfold culvertlaw11_LinkAll.j3
      repeat' first
      | (with_reducible exact ih0 _ _ _ _ _)
      | (with_reducible exact ih1 _ _ _ _ _ _ _ _)
      | (with_reducible exact ih2 _ _ _ _ _ _ _ _)
      | (with_reducible exact ih3 _ _ _ _ _ _ _ _)
      | (with_reducible exact link_Hear.mono _ _ _ _ _)
      | (with_reducible exact link_Rx.mono _ _ _ _)
      | (with_reducible exact LeO.refl _)
      | (with_reducible exact LeO.none _)
      | (with_reducible refine LeO.ite ?_ ?_)
      | (with_reducible refine LeO.bind ?_ (fun _ => ?_))
      | exact ih0 _ _ _ _ _
      | exact ih1 _ _ _ _ _ _ _ _
      | exact ih2 _ _ _ _ _ _ _ _
      | exact ih3 _ _ _ _ _ _ _ _
      | exact link_Hear.mono _ _ _ _ _
      | exact link_Rx.mono _ _ _ _
      | exact LeO.none _
      | refine LeO.ite ?_ ?_
      | refine LeO.bind ?_ (fun _ => ?_)
theorem culvertlaw11_LinkAll.mono : ∀ a0 a1 a2 a3 k, LeO (culvertlaw11_LinkAll.f k a0 a1 a2 a3) (culvertlaw11_LinkAll.f (k + 1) a0 a1 a2 a3) := by
  intro a0 a1 a2 a3 k
  obtain ⟨ih0, ih1, ih2, ih3⟩ := culvertlaw11_LinkAll.mono_l k
  unfold culvertlaw11_LinkAll.f
  repeat' first
      | (with_reducible exact ih0 _ _ _ _ _)
      | (with_reducible exact ih1 _ _ _ _ _ _ _ _)
      | (with_reducible exact ih2 _ _ _ _ _ _ _ _)
      | (with_reducible exact ih3 _ _ _ _ _ _ _ _)
      | (with_reducible exact link_Hear.mono _ _ _ _ _)
      | (with_reducible exact link_Rx.mono _ _ _ _)
      | (with_reducible exact LeO.refl _)
      | (with_reducible exact LeO.none _)
      | (with_reducible refine LeO.ite ?_ ?_)
      | (with_reducible refine LeO.bind ?_ (fun _ => ?_))
      | exact ih0 _ _ _ _ _
      | exact ih1 _ _ _ _ _ _ _ _
      | exact ih2 _ _ _ _ _ _ _ _
      | exact ih3 _ _ _ _ _ _ _ _
      | exact link_Hear.mono _ _ _ _ _
      | exact link_Rx.mono _ _ _ _
      | exact LeO.none _
      | refine LeO.ite ?_ ?_
      | refine LeO.bind ?_ (fun _ => ?_)
set_option maxHeartbeats 8000000 in
set_option maxRecDepth 100000 in
theorem culvertlaw11_LinkAll.calls (k : Nat) (a0 : Int) (a1 : Int) (a2 : Int) (a3 : Int) (r : Bool) (w : World) (h : culvertlaw11_LinkAll.f k a0 a1 a2 a3 = some r) :
    Calls Try.prog 5 #[.int .u16 a0, .int .u16 a1, .int .i64 a2, .int .i64 a3] w fun e w' => e = .returned (.bool r) ∧ Below w.heap.size w w' := by
  have hu24 := Try.underlying24
  have HB := Aside0.mk (Below.refl w.heap.size w)
  have H : (if a2 < 0 then (culvertlaw11_LinkAll.j0 k a0 a1 a2 a3 true) else (if a2 > 300 then (culvertlaw11_LinkAll.j0 k a0 a1 a2 a3 true) else (if a3 < 0 then (culvertlaw11_LinkAll.j0 k a0 a1 a2 a3 true) else (if a3 > 300 then (culvertlaw11_LinkAll.j0 k a0 a1 a2 a3 true) else (culvertlaw11_LinkAll.j0 k a0 a1 a2 a3 (a0 == 65535)))))) = some r := h
  clear h
  have HC5 := Aside0.mk H
  clear H
  go_enter Try.func5, Try.ntmps5
  go_upto_region 1 with (fail)
  go_cut [29] (fun v29 wc => ∃ (kq : Nat) (x29_4 : Bool), v29 = .bool x29_4 ∧ Aside0 (culvertlaw11_LinkAll.j0 kq a0 a1 a2 a3 x29_4 = some r) ∧ Aside0 (kq ≤ k) ∧ Aside0 (Below w.heap.size w wc))
  case first =>
    have H := HC5.out
    clear HC5
    by_cases c6 : a2 < 0
    · rw [if_pos c6] at H
      have c6b0 : decide (a2 < 0) = true := decide_eq_true c6
      clear c6
      (first | rw [c6b0] | (simp only [i64_w, i32_w]; rw [c6b0]) | skip)
      have H' := Aside0.mk H
      clear H
      go_wp2
      go_meet
      case rel => exact ⟨_, (true), (by first | rfl | (simp; done) | (simp [*]; done)), H', ⟨by first | omega | exact Nat.le_refl _⟩, ⟨by repeat (first | (with_reducible first | exact HB.out | apply below_alloc | apply pw_below_drewN | apply below_drew1) | exact HB.out)⟩⟩
    · rw [if_neg c6] at H
      have c6b0 : decide (a2 < 0) = false := decide_eq_false c6
      clear c6
      (first | rw [c6b0] | (simp only [i64_w, i32_w]; rw [c6b0]) | skip)
      by_cases c7 : a2 > 300
      · rw [if_pos c7] at H
        have c7b0 : decide (300 < a2) = true := decide_eq_true c7
        clear c7
        have H' := Aside0.mk H
        clear H
        go_wp2
        go_meet
        case rel => exact ⟨_, (true), (by first | rfl | (simp; done) | (simp [*]; done)), H', ⟨by first | omega | exact Nat.le_refl _⟩, ⟨by repeat (first | (with_reducible first | exact HB.out | apply below_alloc | apply pw_below_drewN | apply below_drew1) | exact HB.out)⟩⟩
      · rw [if_neg c7] at H
        have c7b0 : decide (300 < a2) = false := decide_eq_false c7
        clear c7
        by_cases c8 : a3 < 0
        · rw [if_pos c8] at H
          have c8b0 : decide (a3 < 0) = true := decide_eq_true c8
          clear c8
          have H' := Aside0.mk H
          clear H
          go_wp2
          go_meet
          case rel => exact ⟨_, (true), (by first | rfl | (simp; done) | (simp [*]; done)), H', ⟨by first | omega | exact Nat.le_refl _⟩, ⟨by repeat (first | (with_reducible first | exact HB.out | apply below_alloc | apply pw_below_drewN | apply below_drew1) | exact HB.out)⟩⟩
        · rw [if_neg c8] at H
          have c8b0 : decide (a3 < 0) = false := decide_eq_false c8
          clear c8
          by_cases c9 : a3 > 300
          · rw [if_pos c9] at H
            have c9b0 : decide (300 < a3) = true := decide_eq_true c9
            clear c9
            have H' := Aside0.mk H
            clear H
            go_wp2
            go_meet
            case rel => exact ⟨_, (true), (by first | rfl | (simp; done) | (simp [*]; done)), H', ⟨by first | omega | exact Nat.le_refl _⟩, ⟨by repeat (first | (with_reducible first | exact HB.out | apply below_alloc | apply pw_below_drewN | apply below_drew1) | exact HB.out)⟩⟩
          · rw [if_neg c9] at H
            have c9b0 : decide (300 < a3) = false := decide_eq_false c9
            clear c9
            have H' := Aside0.mk H
            clear H
            go_wp2
            go_meet
            case rel => exact ⟨_, ((a0 == 65535)), (by first | rfl | (simp; done) | (simp [*]; done)), H', ⟨by first | omega | exact Nat.le_refl _⟩, ⟨by repeat (first | (with_reducible first | exact HB.out | apply below_alloc | apply pw_below_drewN | apply below_drew1) | exact HB.out)⟩⟩
  case rest =>
    clear HC5
    try clear p2
    try clear c5
    try clear c6
    try clear c6b0
    try clear c7
    try clear c7b0
    try clear c8
    try clear c8b0
    try clear c9
    try clear c9b0
    obtain ⟨kq, x29_4, rfl, HA, HJ4, HB⟩ := hcut
    cases kq with
    | zero => exact absurd HA.out (by simp [culvertlaw11_LinkAll.j0])
    | succ kj4 =>
      have H := HA.out
      clear HA
      simp only [culvertlaw11_LinkAll.j0] at H
      by_cases c10 : x29_4 = true
      · subst c10
        have H1 : ((culvertlaw11_live.f).bind fun t110 => (some t110)) = some r := by rw [if_pos rfl] at H; exact H
        clear H
        have H := H1
        clear H1
        replace H := Option.bind_eq_some_iff.mp H
        obtain ⟨t110, A110, H⟩ := H
        replace H : (some t110) = some r := H
        have A11 := Aside0.mk A110
        clear A110
        obtain rfl := Option.some.inj H
        go_wp2_with (first | ((with_reducible refine gate_callee (f := 8) rfl ?_); refine goesL_ (some 30) rfl rfl Try.func8 (by kernel_rfl) rfl #[] rfl (by (try simp only [List.map_toArray, List.map_cons, List.map_nil]); first | done | rfl | (simp only [List.length_drop, List.length_take]; rfl)) ?_; (with_reducible refine (culvertlaw11_live.calls  t110 _ A11.out).mono ?_); rintro e w12 ⟨rfl, hb⟩; refine ⟨_, rfl, ?_⟩; have n0_ := Aside0.mk (below_step (by repeat (first | (with_reducible first | exact HB.out | apply below_alloc | apply pw_below_drewN | apply below_drew1) | exact HB.out)) hb); clear HB; have HB := n0_; clear n0_; (try clear hb); (try clear hb2); (try clear hk); (try clear hi)))
        go_ret
        exact ⟨by first | rfl | (simp [errW_none, errW_some] <;> rfl) | (simp [*, errW_none, errW_some] <;> rfl), by repeat (first | (with_reducible first | exact HB.out | apply below_alloc | apply pw_below_drewN | apply below_drew1) | exact HB.out)⟩
      · replace c10 := Bool.eq_false_iff.mpr c10
        subst c10
        have H1 : (culvertlaw11_LinkAll.l0 kj4 a0 a1 a2 a3 0 0 0 false) = some r := by rw [if_neg (show ¬ (false = true) by decide)] at H; exact H
        clear H
        have H := H1
        clear H1
        have H' := Aside0.mk H
        clear H
        go_wp2_with (first | ((with_reducible refine gate_dst (N := 9) rfl ?_); (try (refine gate_guard (by rfl) ?_; dsimp only)); refine box_event ?hg (N := 9) ?hd (cs := #[.int .u16 0, .int .u16 0, .bool false]) (t := 24) ?hr ?_; (case hd => rfl); (case hg => rfl); (case hr => first | (go_simp; done) | (go_simp; rfl)); intro gb111 hg w13 hbox hb; have n0_ := Aside0.mk (below_step (by repeat (first | (with_reducible first | exact HB.out | apply below_alloc | apply pw_below_drewN | apply below_drew1) | exact HB.out)) hb); have n1_ := Aside0.mk (hbox); have n2_ := Aside0.mk ((by rw [hg]; exact (below_size (by repeat (first | (with_reducible first | exact HB.out | apply below_alloc | apply pw_below_drewN | apply below_drew1) | exact HB.out))) : w.heap.size ≤ gb111)); have n3_ := Aside0.mk ((by rw [hg]; exact (below_size (by repeat (first | (with_reducible first | exact HB.out | apply below_alloc | apply pw_below_drewN | apply below_drew1) | exact HB.out))) : w.heap.size ≤ gb111)); clear HB; have HB := n0_; have BK111 := n1_; have GW111 := n2_; have GE111 := n3_; clear n0_ n1_ n2_ n3_; clear hb hbox hg; have hcz14_0 : w13.cell? ⟨gb111, 0, none⟩ = some (.int .u16 0) := (blk_cell BK111.out 0).trans rfl; have hcz14_1 : w13.cell? ⟨gb111, 1, none⟩ = some (.int .u16 0) := (blk_cell BK111.out 1).trans rfl; have hcz14_2 : w13.cell? ⟨gb111, 2, none⟩ = some (.bool false) := (blk_cell BK111.out 2).trans rfl; have hfz14_0 := blk_frozen BK111.out 0; have hfz14_1 := blk_frozen BK111.out 1; have hfz14_2 := blk_frozen BK111.out 2))
        go_loopg [10] kj4 (fun kq v10 w' => ∃ (x10_2 : Int) (x112000_2 : Int) (x112001_2 : Int) (x112002_2 : Bool), v10 = .int .i64 x10_2 ∧ Aside0 (culvertlaw11_LinkAll.l0 kq a0 a1 a2 a3 x10_2 x112000_2 x112001_2 x112002_2 = some r) ∧ Aside0 (kq ≤ kj4) ∧ Aside0 (w'.heap[gb111]? = some (.cells #[.int .u16 x112000_2, .int .u16 x112001_2, .bool x112002_2] 24 (0, 0))) ∧ Aside0 (Below w.heap.size w w'))
        case atStart => exact ⟨(0), (0), (0), (false), (by first | rfl | (simp; done) | (simp [*]; done)), H', ⟨Nat.le_refl _⟩, ⟨by (with_reducible repeat (first | refine blk_drewN ?_ _ | refine blk_drew ?_ | refine blk_alloc ?_ _)); refine blk_put (cs := #[.int .u16 0, .int .u16 0, .bool false]) ?_ 2 _ rfl; (with_reducible repeat (first | refine blk_drewN ?_ _ | refine blk_drew ?_ | refine blk_alloc ?_ _)); refine blk_put (cs := #[.int .u16 0, .int .u16 0, .bool false]) ?_ 1 _ rfl; (with_reducible repeat (first | refine blk_drewN ?_ _ | refine blk_drew ?_ | refine blk_alloc ?_ _)); refine blk_put (cs := #[.int .u16 0, .int .u16 0, .bool false]) ?_ 0 _ rfl; (with_reducible repeat (first | refine blk_drewN ?_ _ | refine blk_drew ?_ | refine blk_alloc ?_ _)); exact BK111.out⟩, ⟨by repeat (first | (with_reducible first | exact HB.out | apply below_alloc | apply pw_below_drewN | apply below_drew1 | refine below_set ?_ GE111.out) | exact HB.out)⟩⟩
        case round =>
          clear H'
          try clear c1
          try clear p2
          try clear c5
          try clear c6
          try clear c6b0
          try clear c7
          try clear c7b0
          try clear c8
          try clear c8b0
          try clear c9
          try clear c9b0
          try clear c10
          try clear hcz14_0
          try clear hcz14_1
          try clear hcz14_2
          try clear hfz14_0
          try clear hfz14_1
          try clear hfz14_2
          try clear p2
          obtain ⟨x10_2, x112000_2, x112001_2, x112002_2, rfl, HA, HK2, BK111, HB⟩ := hrel
          cases gk with
          | zero => exact absurd HA.out (by simp [culvertlaw11_LinkAll.l0])
          | succ k2 =>
            have H := HA.out
            clear HA
            simp only [culvertlaw11_LinkAll.l0] at H
            by_cases c15 : x10_2 < a2
            · rw [if_pos c15] at H
              have c15b0 : decide (x10_2 < a2) = true := decide_eq_true c15
              clear c15
              replace H := Option.bind_eq_some_iff.mp H
              obtain ⟨⟨t112, t113, t114⟩, A160, H⟩ := H
              replace H : (culvertlaw11_LinkAll.l0 k2 a0 a1 a2 a3 (wrap64 (x10_2 + 1)) t112 t113 t114) = some r := H
              have A16 := Aside0.mk A160
              clear A160
              have H' := Aside0.mk H
              clear H
              have hcz17_0 : wr.cell? ⟨gb111, 0, none⟩ = some (.int .u16 x112000_2) := (blk_cell BK111.out 0).trans rfl
              have hcz17_1 : wr.cell? ⟨gb111, 1, none⟩ = some (.int .u16 x112001_2) := (blk_cell BK111.out 1).trans rfl
              have hcz17_2 : wr.cell? ⟨gb111, 2, none⟩ = some (.bool x112002_2) := (blk_cell BK111.out 2).trans rfl
              have hfz17_0 := blk_frozen BK111.out 0
              have hfz17_1 := blk_frozen BK111.out 1
              have hfz17_2 := blk_frozen BK111.out 2
              go_wp2_with (first | ((with_reducible refine gate_callee (f := 11) rfl ?_); refine goesL_ (some 42) rfl rfl Try.func11 (by kernel_rfl) rfl #[.agg #[.int .u16 x112000_2, .int .u16 x112001_2, .bool x112002_2], .int .u16 (IntKind.u16.wrap (a1 + (IntKind.u16.wrap (x10_2))))] rfl (by (try simp only [List.map_toArray, List.map_cons, List.map_nil]); first | done | rfl | (simp only [List.length_drop, List.length_take]; rfl)) ?_; (with_reducible refine (link_Hear.calls k2 x112000_2 x112001_2 x112002_2 (IntKind.u16.wrap (a1 + (IntKind.u16.wrap (x10_2)))) t112 t113 t114 _ A16.out).mono ?_); rintro e w18 ⟨rfl, hb⟩; refine ⟨_, rfl, ?_⟩; have n0_ := Aside0.mk (blk_below (g := gb111) (o := .cells #[.int .u16 x112000_2, .int .u16 x112001_2, .bool x112002_2] 24 (0, 0)) (by (with_reducible repeat (first | refine blk_drewN ?_ _ | refine blk_drew ?_ | refine blk_alloc ?_ _)); exact BK111.out) hb); have n1_ := Aside0.mk (below_step (by repeat (first | (with_reducible first | exact HB.out | apply below_alloc | apply pw_below_drewN | apply below_drew1 | refine below_set ?_ GE111.out) | exact HB.out)) hb); clear BK111; clear HB; have BK111 := n0_; have HB := n1_; clear n0_ n1_; (try clear hb); (try clear hb2); (try clear hk); (try clear hi); have hcz19_0 : w18.cell? ⟨gb111, 0, none⟩ = some (.int .u16 x112000_2) := (blk_cell BK111.out 0).trans rfl; have hcz19_1 : w18.cell? ⟨gb111, 1, none⟩ = some (.int .u16 x112001_2) := (blk_cell BK111.out 1).trans rfl; have hcz19_2 : w18.cell? ⟨gb111, 2, none⟩ = some (.bool x112002_2) := (blk_cell BK111.out 2).trans rfl; have hfz19_0 := blk_frozen BK111.out 0; have hfz19_1 := blk_frozen BK111.out 1; have hfz19_2 := blk_frozen BK111.out 2))
              go_roundg k2
              case measure => have := HJ4.out; have := HK2.out; omega
              case rel => exact ⟨(wrap64 (x10_2 + 1)), (t112), (t113), (t114), (by first | rfl | (simp; done) | (simp [*]; done)), H', ⟨by have := HJ4.out; have := HK2.out; omega⟩, ⟨by (with_reducible repeat (first | refine blk_drewN ?_ _ | refine blk_drew ?_ | refine blk_alloc ?_ _)); refine blk_put (cs := #[.int .u16 t112, .int .u16 t113, .bool x112002_2]) ?_ 2 _ rfl; (with_reducible repeat (first | refine blk_drewN ?_ _ | refine blk_drew ?_ | refine blk_alloc ?_ _)); refine blk_put (cs := #[.int .u16 t112, .int .u16 x112001_2, .bool x112002_2]) ?_ 1 _ rfl; (with_reducible repeat (first | refine blk_drewN ?_ _ | refine blk_drew ?_ | refine blk_alloc ?_ _)); refine blk_put (cs := #[.int .u16 x112000_2, .int .u16 x112001_2, .bool x112002_2]) ?_ 0 _ rfl; (with_reducible repeat (first | refine blk_drewN ?_ _ | refine blk_drew ?_ | refine blk_alloc ?_ _)); exact BK111.out⟩, ⟨by repeat (first | (with_reducible first | exact HB.out | apply below_alloc | apply pw_below_drewN | apply below_drew1 | refine below_set ?_ GE111.out) | exact HB.out)⟩⟩
            · rw [if_neg c15] at H
              have c15b0 : decide (x10_2 < a2) = false := decide_eq_false c15
              clear c15
              have HC20 := Aside0.mk H
              clear H
              go_upto_region 8 with (fail)
              go_cut [64] (fun v64 wc => ∃ (kq : Nat) (x64_19 : Bool), v64 = .bool x64_19 ∧ Aside0 (culvertlaw11_LinkAll.j2 kq a0 a1 a2 a3 x64_19 x112000_2 x112001_2 x112002_2 = some r) ∧ Aside0 (kq ≤ k2) ∧ Aside0 (wc.heap[gb111]? = some (.cells #[.int .u16 x112000_2, .int .u16 x112001_2, .bool x112002_2] 24 (0, 0))) ∧ Aside0 (Below w.heap.size w wc))
              case first =>
                have H := HC20.out
                clear HC20
                by_cases c21 : a2 ≥ 3
                · rw [if_pos c21] at H
                  have c21b0 : decide (3 ≤ a2) = true := decide_eq_true c21
                  clear c21
                  (first | rw [c21b0] | (simp only [i64_w, i32_w]; rw [c21b0]) | skip)
                  obtain ⟨y115, hy115⟩ : ∃ y_ : List (S24), y_ = (([(⟨x112000_2, x112001_2, x112002_2⟩ : S24)] : List (S24))) := ⟨_, rfl⟩
                  replace H : ((link_Rx.f k2 0 a0 y115).bind fun t118 => (if t118 = a0 then (if a2 ≥ 16 then ((link_Rx.f k2 1 a0 (([(⟨x112000_2, x112001_2, x112002_2⟩ : S24)] : List (S24)))).bind fun t122 => (culvertlaw11_LinkAll.j2 k2 a0 a1 a2 a3 (t122 != a0) x112000_2 x112001_2 x112002_2)) else (culvertlaw11_LinkAll.j2 k2 a0 a1 a2 a3 false x112000_2 x112001_2 x112002_2)) else (culvertlaw11_LinkAll.j2 k2 a0 a1 a2 a3 true x112000_2 x112001_2 x112002_2))) = some r := by first | (rw [hy115]; with_reducible exact H) | (have H2_ := (Option.bind_some _ _).symm.trans H; rw [hy115]; with_reducible exact H2_) | (have H2_ := (Option.bind_some _ _).symm.trans H; with_reducible exact H2_) | with_reducible exact H | (rw [hy115]; exact H) | exact H
                  have Ny115 := Aside0.mk hy115
                  clear hy115
                  replace H := Option.bind_eq_some_iff.mp H
                  obtain ⟨t118, A220, H⟩ := H
                  replace H : (if t118 = a0 then (if a2 ≥ 16 then ((link_Rx.f k2 1 a0 (([(⟨x112000_2, x112001_2, x112002_2⟩ : S24)] : List (S24)))).bind fun t122 => (culvertlaw11_LinkAll.j2 k2 a0 a1 a2 a3 (t122 != a0) x112000_2 x112001_2 x112002_2)) else (culvertlaw11_LinkAll.j2 k2 a0 a1 a2 a3 false x112000_2 x112001_2 x112002_2)) else (culvertlaw11_LinkAll.j2 k2 a0 a1 a2 a3 true x112000_2 x112001_2 x112002_2)) = some r := H
                  have A22 := Aside0.mk A220
                  clear A220
                  by_cases c23 : t118 = a0
                  · rw [if_pos c23] at H
                    have c23b0 : (t118 == a0) = true := beq_iff_eq.mpr c23
                    have c23b1 : (t118 != a0) = false := bne_eq_false_iff_eq.mpr c23
                    clear c23
                    by_cases c24 : a2 ≥ 16
                    · rw [if_pos c24] at H
                      have c24b0 : decide (16 ≤ a2) = true := decide_eq_true c24
                      clear c24
                      obtain ⟨y119, hy119⟩ : ∃ y_ : List (S24), y_ = (([(⟨x112000_2, x112001_2, x112002_2⟩ : S24)] : List (S24))) := ⟨_, rfl⟩
                      replace H : ((link_Rx.f k2 1 a0 y119).bind fun t122 => (culvertlaw11_LinkAll.j2 k2 a0 a1 a2 a3 (t122 != a0) x112000_2 x112001_2 x112002_2)) = some r := by first | (rw [hy119]; with_reducible exact H) | (have H2_ := (Option.bind_some _ _).symm.trans H; rw [hy119]; with_reducible exact H2_) | (have H2_ := (Option.bind_some _ _).symm.trans H; with_reducible exact H2_) | with_reducible exact H | (rw [hy119]; exact H) | exact H
                      have Ny119 := Aside0.mk hy119
                      clear hy119
                      replace H := Option.bind_eq_some_iff.mp H
                      obtain ⟨t122, A250, H⟩ := H
                      replace H : (culvertlaw11_LinkAll.j2 k2 a0 a1 a2 a3 (t122 != a0) x112000_2 x112001_2 x112002_2) = some r := H
                      have A25 := Aside0.mk A250
                      clear A250
                      have H' := Aside0.mk H
                      clear H
                      have hcz26_0 : wr.cell? ⟨gb111, 0, none⟩ = some (.int .u16 x112000_2) := (blk_cell BK111.out 0).trans rfl
                      have hcz26_1 : wr.cell? ⟨gb111, 1, none⟩ = some (.int .u16 x112001_2) := (blk_cell BK111.out 1).trans rfl
                      have hcz26_2 : wr.cell? ⟨gb111, 2, none⟩ = some (.bool x112002_2) := (blk_cell BK111.out 2).trans rfl
                      have hfz26_0 := blk_frozen BK111.out 0
                      have hfz26_1 := blk_frozen BK111.out 1
                      have hfz26_2 := blk_frozen BK111.out 2
                      go_wp2_with (first | ((with_reducible refine gate_dst (N := 48) rfl ?_); (try (refine gate_guard (by rfl) ?_; dsimp only)); refine Kd.R_lit k24 _ 24 ?hg (N := 48) ?hd (xs := ([(⟨x112000_2, x112001_2, x112002_2⟩ : S24)] : List (S24))) (inner := [.int .u16 x112000_2, .int .u16 x112001_2, .bool x112002_2]) (ok := fun _ => True) (okp := fun _ => True) ?hr ?hp (fun _ hk => hk) trivial (Below.refl _ _) (Nat.le_refl _) (by simp) ?_; (case hd => rfl); (case hg => rfl); (case hr => first | (go_simp; done) | (go_simp; rfl)); (case hp => exact (Reps.c3 (show Kd.M k24 _ _ _ (⟨x112000_2, x112001_2, x112002_2⟩ : S24) [.int .u16 x112000_2, .int .u16 x112001_2, .bool x112002_2] from (k24_mkM _ _ _ (⟨x112000_2, x112001_2, x112002_2⟩ : S24) )) (Reps.none _ _))); intro v116 w27 ho28 hb hg_ hnew_; clear hg_ hnew_; (first | rw [← Ny115.out] at ho28 | (simp only [Int.reduceToNat] at ho28; rw [← Ny115.out] at ho28)); have n0_ := Aside0.mk (Kd.R_lower (Kd.R_newB ho28 (g := gb111) (o := .cells #[.int .u16 x112000_2, .int .u16 x112001_2, .bool x112002_2] 24 (0, 0)) (by (with_reducible repeat (first | refine blk_drewN ?_ _ | refine blk_drew ?_ | refine blk_alloc ?_ _)); exact BK111.out)) (below_size (by repeat (first | (with_reducible first | exact HB.out | apply below_alloc | apply pw_below_drewN | apply below_drew1 | refine below_set ?_ GE111.out) | exact HB.out)))); have n1_ := Aside0.mk (blk_below (g := gb111) (o := .cells #[.int .u16 x112000_2, .int .u16 x112001_2, .bool x112002_2] 24 (0, 0)) (by (with_reducible repeat (first | refine blk_drewN ?_ _ | refine blk_drew ?_ | refine blk_alloc ?_ _)); exact BK111.out) hb); have n2_ := Aside0.mk (below_step (by repeat (first | (with_reducible first | exact HB.out | apply below_alloc | apply pw_below_drewN | apply below_drew1 | refine below_set ?_ GE111.out) | exact HB.out)) hb); clear BK111; clear HB; have HO117 := n0_; have BK111 := n1_; have HB := n2_; clear n0_ n1_ n2_; clear hb ho28; obtain ⟨Ao29, co29, eo29⟩ := Kd.R_slice HO117.out; subst eo29) | ((with_reducible refine gate_callee (f := 13) rfl ?_); (with_reducible refine gate_dst (N := 49) rfl ?_); (refine gate_guard (by rfl) ?_; dsimp only); refine goesL_ (some 49) rfl rfl Try.func13 (by kernel_rfl) rfl #[.int .i64 0, .int .u16 a0, .slice Ao29 y115.length co29] rfl (by (try simp only [List.map_toArray, List.map_cons, List.map_nil]); first | done | rfl | (simp only [List.length_drop, List.length_take]; rfl)) ?_; (with_reducible refine (link_Rx.calls k2 0 a0 _ _ y115 t118 _ ?side1 ?side2 A22.out).mono ?_); (case side1 => repeat (first | exact (Kd.R_reads' HO117.out).2.2 | (with_reducible refine Kd.C_alloc ?_ _) | (with_reducible refine Kd.C_drewN ?_ _) | (with_reducible refine Kd.C_drew ?_))); (case side2 => exact (Kd.R_reads' HO117.out).2.1); rintro e w30 ⟨rfl, hb⟩; refine ⟨_, rfl, ?_⟩; have n0_ := Aside0.mk (Kd.R_below (by (with_reducible repeat (first | apply Kd.R_alloc | apply Kd.R_drewN | apply Kd.R_drew)); exact HO117.out) hb); have n1_ := Aside0.mk (blk_below (g := gb111) (o := .cells #[.int .u16 x112000_2, .int .u16 x112001_2, .bool x112002_2] 24 (0, 0)) (by (with_reducible repeat (first | refine blk_drewN ?_ _ | refine blk_drew ?_ | refine blk_alloc ?_ _)); exact BK111.out) hb); have n2_ := Aside0.mk (below_step (by repeat (first | (with_reducible first | exact HB.out | apply below_alloc | apply pw_below_drewN | apply below_drew1 | refine below_set ?_ GE111.out) | exact HB.out)) hb); clear HO117; clear BK111; clear HB; have HO117 := n0_; have BK111 := n1_; have HB := n2_; clear n0_ n1_ n2_; (try clear hb); (try clear hb2); (try clear hk); (try clear hi); have hcz31_0 : w30.cell? ⟨gb111, 0, none⟩ = some (.int .u16 x112000_2) := (blk_cell BK111.out 0).trans rfl; have hcz31_1 : w30.cell? ⟨gb111, 1, none⟩ = some (.int .u16 x112001_2) := (blk_cell BK111.out 1).trans rfl; have hcz31_2 : w30.cell? ⟨gb111, 2, none⟩ = some (.bool x112002_2) := (blk_cell BK111.out 2).trans rfl; have hfz31_0 := blk_frozen BK111.out 0; have hfz31_1 := blk_frozen BK111.out 1; have hfz31_2 := blk_frozen BK111.out 2) | ((with_reducible refine gate_dst (N := 59) rfl ?_); (try (refine gate_guard (by rfl) ?_; dsimp only)); refine Kd.R_lit k24 _ 24 ?hg (N := 59) ?hd (xs := ([(⟨x112000_2, x112001_2, x112002_2⟩ : S24)] : List (S24))) (inner := [.int .u16 x112000_2, .int .u16 x112001_2, .bool x112002_2]) (ok := fun _ => True) (okp := fun _ => True) ?hr ?hp (fun _ hk => hk) trivial (Below.refl _ _) (Nat.le_refl _) (by simp) ?_; (case hd => rfl); (case hg => rfl); (case hr => first | (go_simp; done) | (go_simp; rfl)); (case hp => exact (Reps.c3 (show Kd.M k24 _ _ _ (⟨x112000_2, x112001_2, x112002_2⟩ : S24) [.int .u16 x112000_2, .int .u16 x112001_2, .bool x112002_2] from (k24_mkM _ _ _ (⟨x112000_2, x112001_2, x112002_2⟩ : S24) )) (Reps.none _ _))); intro v120 w32 ho33 hb hg_ hnew_; clear hg_ hnew_; (first | rw [← Ny119.out] at ho33 | (simp only [Int.reduceToNat] at ho33; rw [← Ny119.out] at ho33)); have n0_ := Aside0.mk (Kd.R_elder' (by (with_reducible repeat (first | apply Kd.R_alloc | apply Kd.R_drewN | apply Kd.R_drew)); exact HO117.out) (Kd.R_base ho33) hb); have n1_ := Aside0.mk (Kd.R_lower (Kd.R_newB (Kd.R_new' ho33 (Kd.R_lt (by (with_reducible repeat (first | apply Kd.R_alloc | apply Kd.R_drewN | apply Kd.R_drew)); exact HO117.out))) (g := gb111) (o := .cells #[.int .u16 x112000_2, .int .u16 x112001_2, .bool x112002_2] 24 (0, 0)) (by (with_reducible repeat (first | refine blk_drewN ?_ _ | refine blk_drew ?_ | refine blk_alloc ?_ _)); exact BK111.out)) (below_size (by repeat (first | (with_reducible first | exact HB.out | apply below_alloc | apply pw_below_drewN | apply below_drew1 | refine below_set ?_ GE111.out) | exact HB.out)))); have n2_ := Aside0.mk (blk_below (g := gb111) (o := .cells #[.int .u16 x112000_2, .int .u16 x112001_2, .bool x112002_2] 24 (0, 0)) (by (with_reducible repeat (first | refine blk_drewN ?_ _ | refine blk_drew ?_ | refine blk_alloc ?_ _)); exact BK111.out) hb); have n3_ := Aside0.mk (below_step (by repeat (first | (with_reducible first | exact HB.out | apply below_alloc | apply pw_below_drewN | apply below_drew1 | refine below_set ?_ GE111.out) | exact HB.out)) hb); clear HO117; clear BK111; clear HB; have HO117 := n0_; have HO121 := n1_; have BK111 := n2_; have HB := n3_; clear n0_ n1_ n2_ n3_; clear hb ho33; obtain ⟨Ao34, co34, eo34⟩ := Kd.R_slice HO121.out; subst eo34) | ((with_reducible refine gate_callee (f := 13) rfl ?_); (with_reducible refine gate_dst (N := 60) rfl ?_); (refine gate_guard (by rfl) ?_; dsimp only); refine goesL_ (some 60) rfl rfl Try.func13 (by kernel_rfl) rfl #[.int .i64 1, .int .u16 a0, .slice Ao34 y119.length co34] rfl (by (try simp only [List.map_toArray, List.map_cons, List.map_nil]); first | done | rfl | (simp only [List.length_drop, List.length_take]; rfl)) ?_; (with_reducible refine (link_Rx.calls k2 1 a0 _ _ y119 t122 _ ?side1 ?side2 A25.out).mono ?_); (case side1 => repeat (first | exact (Kd.R_reads' HO121.out).2.2 | (with_reducible refine Kd.C_alloc ?_ _) | (with_reducible refine Kd.C_drewN ?_ _) | (with_reducible refine Kd.C_drew ?_))); (case side2 => exact (Kd.R_reads' HO121.out).2.1); rintro e w35 ⟨rfl, hb⟩; refine ⟨_, rfl, ?_⟩; have n0_ := Aside0.mk (Kd.R_below (by (with_reducible repeat (first | apply Kd.R_alloc | apply Kd.R_drewN | apply Kd.R_drew)); exact HO117.out) hb); have n1_ := Aside0.mk (Kd.R_below (by (with_reducible repeat (first | apply Kd.R_alloc | apply Kd.R_drewN | apply Kd.R_drew)); exact HO121.out) hb); have n2_ := Aside0.mk (blk_below (g := gb111) (o := .cells #[.int .u16 x112000_2, .int .u16 x112001_2, .bool x112002_2] 24 (0, 0)) (by (with_reducible repeat (first | refine blk_drewN ?_ _ | refine blk_drew ?_ | refine blk_alloc ?_ _)); exact BK111.out) hb); have n3_ := Aside0.mk (below_step (by repeat (first | (with_reducible first | exact HB.out | apply below_alloc | apply pw_below_drewN | apply below_drew1 | refine below_set ?_ GE111.out) | exact HB.out)) hb); clear HO117; clear HO121; clear BK111; clear HB; have HO117 := n0_; have HO121 := n1_; have BK111 := n2_; have HB := n3_; clear n0_ n1_ n2_ n3_; (try clear hb); (try clear hb2); (try clear hk); (try clear hi)))
                      go_meet
                      case rel => exact ⟨_, ((t122 != a0)), (by first | rfl | (simp; done) | (simp [*]; done)), H', ⟨by have := HJ4.out; have := HK2.out; first | omega | exact Nat.le_refl _⟩, ⟨by (with_reducible repeat (first | refine blk_drewN ?_ _ | refine blk_drew ?_ | refine blk_alloc ?_ _)); exact BK111.out⟩, ⟨by repeat (first | (with_reducible first | exact HB.out | apply below_alloc | apply pw_below_drewN | apply below_drew1 | refine below_set ?_ GE111.out) | exact HB.out)⟩⟩
                    · rw [if_neg c24] at H
                      have c24b0 : decide (16 ≤ a2) = false := decide_eq_false c24
                      clear c24
                      have H' := Aside0.mk H
                      clear H
                      have hcz36_0 : wr.cell? ⟨gb111, 0, none⟩ = some (.int .u16 x112000_2) := (blk_cell BK111.out 0).trans rfl
                      have hcz36_1 : wr.cell? ⟨gb111, 1, none⟩ = some (.int .u16 x112001_2) := (blk_cell BK111.out 1).trans rfl
                      have hcz36_2 : wr.cell? ⟨gb111, 2, none⟩ = some (.bool x112002_2) := (blk_cell BK111.out 2).trans rfl
                      have hfz36_0 := blk_frozen BK111.out 0
                      have hfz36_1 := blk_frozen BK111.out 1
                      have hfz36_2 := blk_frozen BK111.out 2
                      go_wp2_with (first | ((with_reducible refine gate_dst (N := 48) rfl ?_); (try (refine gate_guard (by rfl) ?_; dsimp only)); refine Kd.R_lit k24 _ 24 ?hg (N := 48) ?hd (xs := ([(⟨x112000_2, x112001_2, x112002_2⟩ : S24)] : List (S24))) (inner := [.int .u16 x112000_2, .int .u16 x112001_2, .bool x112002_2]) (ok := fun _ => True) (okp := fun _ => True) ?hr ?hp (fun _ hk => hk) trivial (Below.refl _ _) (Nat.le_refl _) (by simp) ?_; (case hd => rfl); (case hg => rfl); (case hr => first | (go_simp; done) | (go_simp; rfl)); (case hp => exact (Reps.c3 (show Kd.M k24 _ _ _ (⟨x112000_2, x112001_2, x112002_2⟩ : S24) [.int .u16 x112000_2, .int .u16 x112001_2, .bool x112002_2] from (k24_mkM _ _ _ (⟨x112000_2, x112001_2, x112002_2⟩ : S24) )) (Reps.none _ _))); intro v116 w37 ho38 hb hg_ hnew_; clear hg_ hnew_; (first | rw [← Ny115.out] at ho38 | (simp only [Int.reduceToNat] at ho38; rw [← Ny115.out] at ho38)); have n0_ := Aside0.mk (Kd.R_lower (Kd.R_newB ho38 (g := gb111) (o := .cells #[.int .u16 x112000_2, .int .u16 x112001_2, .bool x112002_2] 24 (0, 0)) (by (with_reducible repeat (first | refine blk_drewN ?_ _ | refine blk_drew ?_ | refine blk_alloc ?_ _)); exact BK111.out)) (below_size (by repeat (first | (with_reducible first | exact HB.out | apply below_alloc | apply pw_below_drewN | apply below_drew1 | refine below_set ?_ GE111.out) | exact HB.out)))); have n1_ := Aside0.mk (blk_below (g := gb111) (o := .cells #[.int .u16 x112000_2, .int .u16 x112001_2, .bool x112002_2] 24 (0, 0)) (by (with_reducible repeat (first | refine blk_drewN ?_ _ | refine blk_drew ?_ | refine blk_alloc ?_ _)); exact BK111.out) hb); have n2_ := Aside0.mk (below_step (by repeat (first | (with_reducible first | exact HB.out | apply below_alloc | apply pw_below_drewN | apply below_drew1 | refine below_set ?_ GE111.out) | exact HB.out)) hb); clear BK111; clear HB; have HO117 := n0_; have BK111 := n1_; have HB := n2_; clear n0_ n1_ n2_; clear hb ho38; obtain ⟨Ao39, co39, eo39⟩ := Kd.R_slice HO117.out; subst eo39) | ((with_reducible refine gate_callee (f := 13) rfl ?_); (with_reducible refine gate_dst (N := 49) rfl ?_); (refine gate_guard (by rfl) ?_; dsimp only); refine goesL_ (some 49) rfl rfl Try.func13 (by kernel_rfl) rfl #[.int .i64 0, .int .u16 a0, .slice Ao39 y115.length co39] rfl (by (try simp only [List.map_toArray, List.map_cons, List.map_nil]); first | done | rfl | (simp only [List.length_drop, List.length_take]; rfl)) ?_; (with_reducible refine (link_Rx.calls k2 0 a0 _ _ y115 t118 _ ?side1 ?side2 A22.out).mono ?_); (case side1 => repeat (first | exact (Kd.R_reads' HO117.out).2.2 | (with_reducible refine Kd.C_alloc ?_ _) | (with_reducible refine Kd.C_drewN ?_ _) | (with_reducible refine Kd.C_drew ?_))); (case side2 => exact (Kd.R_reads' HO117.out).2.1); rintro e w40 ⟨rfl, hb⟩; refine ⟨_, rfl, ?_⟩; have n0_ := Aside0.mk (Kd.R_below (by (with_reducible repeat (first | apply Kd.R_alloc | apply Kd.R_drewN | apply Kd.R_drew)); exact HO117.out) hb); have n1_ := Aside0.mk (blk_below (g := gb111) (o := .cells #[.int .u16 x112000_2, .int .u16 x112001_2, .bool x112002_2] 24 (0, 0)) (by (with_reducible repeat (first | refine blk_drewN ?_ _ | refine blk_drew ?_ | refine blk_alloc ?_ _)); exact BK111.out) hb); have n2_ := Aside0.mk (below_step (by repeat (first | (with_reducible first | exact HB.out | apply below_alloc | apply pw_below_drewN | apply below_drew1 | refine below_set ?_ GE111.out) | exact HB.out)) hb); clear HO117; clear BK111; clear HB; have HO117 := n0_; have BK111 := n1_; have HB := n2_; clear n0_ n1_ n2_; (try clear hb); (try clear hb2); (try clear hk); (try clear hi)))
                      go_meet
                      case rel => exact ⟨_, (false), (by first | rfl | (simp; done) | (simp [*]; done)), H', ⟨by have := HJ4.out; have := HK2.out; first | omega | exact Nat.le_refl _⟩, ⟨by (with_reducible repeat (first | refine blk_drewN ?_ _ | refine blk_drew ?_ | refine blk_alloc ?_ _)); exact BK111.out⟩, ⟨by repeat (first | (with_reducible first | exact HB.out | apply below_alloc | apply pw_below_drewN | apply below_drew1 | refine below_set ?_ GE111.out) | exact HB.out)⟩⟩
                  · rw [if_neg c23] at H
                    have c23b0 : (t118 == a0) = false := beq_eq_false_iff_ne.mpr c23
                    have c23b1 : (t118 != a0) = true := bne_iff_ne.mpr c23
                    have H' := Aside0.mk H
                    clear H
                    have hcz41_0 : wr.cell? ⟨gb111, 0, none⟩ = some (.int .u16 x112000_2) := (blk_cell BK111.out 0).trans rfl
                    have hcz41_1 : wr.cell? ⟨gb111, 1, none⟩ = some (.int .u16 x112001_2) := (blk_cell BK111.out 1).trans rfl
                    have hcz41_2 : wr.cell? ⟨gb111, 2, none⟩ = some (.bool x112002_2) := (blk_cell BK111.out 2).trans rfl
                    have hfz41_0 := blk_frozen BK111.out 0
                    have hfz41_1 := blk_frozen BK111.out 1
                    have hfz41_2 := blk_frozen BK111.out 2
                    go_wp2_with (first | ((with_reducible refine gate_dst (N := 48) rfl ?_); (try (refine gate_guard (by rfl) ?_; dsimp only)); refine Kd.R_lit k24 _ 24 ?hg (N := 48) ?hd (xs := ([(⟨x112000_2, x112001_2, x112002_2⟩ : S24)] : List (S24))) (inner := [.int .u16 x112000_2, .int .u16 x112001_2, .bool x112002_2]) (ok := fun _ => True) (okp := fun _ => True) ?hr ?hp (fun _ hk => hk) trivial (Below.refl _ _) (Nat.le_refl _) (by simp) ?_; (case hd => rfl); (case hg => rfl); (case hr => first | (go_simp; done) | (go_simp; rfl)); (case hp => exact (Reps.c3 (show Kd.M k24 _ _ _ (⟨x112000_2, x112001_2, x112002_2⟩ : S24) [.int .u16 x112000_2, .int .u16 x112001_2, .bool x112002_2] from (k24_mkM _ _ _ (⟨x112000_2, x112001_2, x112002_2⟩ : S24) )) (Reps.none _ _))); intro v116 w42 ho43 hb hg_ hnew_; clear hg_ hnew_; (first | rw [← Ny115.out] at ho43 | (simp only [Int.reduceToNat] at ho43; rw [← Ny115.out] at ho43)); have n0_ := Aside0.mk (Kd.R_lower (Kd.R_newB ho43 (g := gb111) (o := .cells #[.int .u16 x112000_2, .int .u16 x112001_2, .bool x112002_2] 24 (0, 0)) (by (with_reducible repeat (first | refine blk_drewN ?_ _ | refine blk_drew ?_ | refine blk_alloc ?_ _)); exact BK111.out)) (below_size (by repeat (first | (with_reducible first | exact HB.out | apply below_alloc | apply pw_below_drewN | apply below_drew1 | refine below_set ?_ GE111.out) | exact HB.out)))); have n1_ := Aside0.mk (blk_below (g := gb111) (o := .cells #[.int .u16 x112000_2, .int .u16 x112001_2, .bool x112002_2] 24 (0, 0)) (by (with_reducible repeat (first | refine blk_drewN ?_ _ | refine blk_drew ?_ | refine blk_alloc ?_ _)); exact BK111.out) hb); have n2_ := Aside0.mk (below_step (by repeat (first | (with_reducible first | exact HB.out | apply below_alloc | apply pw_below_drewN | apply below_drew1 | refine below_set ?_ GE111.out) | exact HB.out)) hb); clear BK111; clear HB; have HO117 := n0_; have BK111 := n1_; have HB := n2_; clear n0_ n1_ n2_; clear hb ho43; obtain ⟨Ao44, co44, eo44⟩ := Kd.R_slice HO117.out; subst eo44) | ((with_reducible refine gate_callee (f := 13) rfl ?_); (with_reducible refine gate_dst (N := 49) rfl ?_); (refine gate_guard (by rfl) ?_; dsimp only); refine goesL_ (some 49) rfl rfl Try.func13 (by kernel_rfl) rfl #[.int .i64 0, .int .u16 a0, .slice Ao44 y115.length co44] rfl (by (try simp only [List.map_toArray, List.map_cons, List.map_nil]); first | done | rfl | (simp only [List.length_drop, List.length_take]; rfl)) ?_; (with_reducible refine (link_Rx.calls k2 0 a0 _ _ y115 t118 _ ?side1 ?side2 A22.out).mono ?_); (case side1 => repeat (first | exact (Kd.R_reads' HO117.out).2.2 | (with_reducible refine Kd.C_alloc ?_ _) | (with_reducible refine Kd.C_drewN ?_ _) | (with_reducible refine Kd.C_drew ?_))); (case side2 => exact (Kd.R_reads' HO117.out).2.1); rintro e w45 ⟨rfl, hb⟩; refine ⟨_, rfl, ?_⟩; have n0_ := Aside0.mk (Kd.R_below (by (with_reducible repeat (first | apply Kd.R_alloc | apply Kd.R_drewN | apply Kd.R_drew)); exact HO117.out) hb); have n1_ := Aside0.mk (blk_below (g := gb111) (o := .cells #[.int .u16 x112000_2, .int .u16 x112001_2, .bool x112002_2] 24 (0, 0)) (by (with_reducible repeat (first | refine blk_drewN ?_ _ | refine blk_drew ?_ | refine blk_alloc ?_ _)); exact BK111.out) hb); have n2_ := Aside0.mk (below_step (by repeat (first | (with_reducible first | exact HB.out | apply below_alloc | apply pw_below_drewN | apply below_drew1 | refine below_set ?_ GE111.out) | exact HB.out)) hb); clear HO117; clear BK111; clear HB; have HO117 := n0_; have BK111 := n1_; have HB := n2_; clear n0_ n1_ n2_; (try clear hb); (try clear hb2); (try clear hk); (try clear hi)))
                    go_meet
                    case rel => exact ⟨_, (true), (by first | rfl | (simp; done) | (simp [*]; done)), H', ⟨by have := HJ4.out; have := HK2.out; first | omega | exact Nat.le_refl _⟩, ⟨by (with_reducible repeat (first | refine blk_drewN ?_ _ | refine blk_drew ?_ | refine blk_alloc ?_ _)); exact BK111.out⟩, ⟨by repeat (first | (with_reducible first | exact HB.out | apply below_alloc | apply pw_below_drewN | apply below_drew1 | refine below_set ?_ GE111.out) | exact HB.out)⟩⟩
                · rw [if_neg c21] at H
                  have c21b0 : decide (3 ≤ a2) = false := decide_eq_false c21
                  clear c21
                  (first | rw [c21b0] | (simp only [i64_w, i32_w]; rw [c21b0]) | skip)
                  by_cases c46 : a2 ≥ 16
                  · rw [if_pos c46] at H
                    have c46b0 : decide (16 ≤ a2) = true := decide_eq_true c46
                    clear c46
                    obtain ⟨y123, hy123⟩ : ∃ y_ : List (S24), y_ = (([(⟨x112000_2, x112001_2, x112002_2⟩ : S24)] : List (S24))) := ⟨_, rfl⟩
                    replace H : ((link_Rx.f k2 1 a0 y123).bind fun t126 => (culvertlaw11_LinkAll.j2 k2 a0 a1 a2 a3 (t126 != a0) x112000_2 x112001_2 x112002_2)) = some r := by first | (rw [hy123]; with_reducible exact H) | (have H2_ := (Option.bind_some _ _).symm.trans H; rw [hy123]; with_reducible exact H2_) | (have H2_ := (Option.bind_some _ _).symm.trans H; with_reducible exact H2_) | with_reducible exact H | (rw [hy123]; exact H) | exact H
                    have Ny123 := Aside0.mk hy123
                    clear hy123
                    replace H := Option.bind_eq_some_iff.mp H
                    obtain ⟨t126, A470, H⟩ := H
                    replace H : (culvertlaw11_LinkAll.j2 k2 a0 a1 a2 a3 (t126 != a0) x112000_2 x112001_2 x112002_2) = some r := H
                    have A47 := Aside0.mk A470
                    clear A470
                    have H' := Aside0.mk H
                    clear H
                    have hcz48_0 : wr.cell? ⟨gb111, 0, none⟩ = some (.int .u16 x112000_2) := (blk_cell BK111.out 0).trans rfl
                    have hcz48_1 : wr.cell? ⟨gb111, 1, none⟩ = some (.int .u16 x112001_2) := (blk_cell BK111.out 1).trans rfl
                    have hcz48_2 : wr.cell? ⟨gb111, 2, none⟩ = some (.bool x112002_2) := (blk_cell BK111.out 2).trans rfl
                    have hfz48_0 := blk_frozen BK111.out 0
                    have hfz48_1 := blk_frozen BK111.out 1
                    have hfz48_2 := blk_frozen BK111.out 2
                    go_wp2_with (first | ((with_reducible refine gate_dst (N := 59) rfl ?_); (try (refine gate_guard (by rfl) ?_; dsimp only)); refine Kd.R_lit k24 _ 24 ?hg (N := 59) ?hd (xs := ([(⟨x112000_2, x112001_2, x112002_2⟩ : S24)] : List (S24))) (inner := [.int .u16 x112000_2, .int .u16 x112001_2, .bool x112002_2]) (ok := fun _ => True) (okp := fun _ => True) ?hr ?hp (fun _ hk => hk) trivial (Below.refl _ _) (Nat.le_refl _) (by simp) ?_; (case hd => rfl); (case hg => rfl); (case hr => first | (go_simp; done) | (go_simp; rfl)); (case hp => exact (Reps.c3 (show Kd.M k24 _ _ _ (⟨x112000_2, x112001_2, x112002_2⟩ : S24) [.int .u16 x112000_2, .int .u16 x112001_2, .bool x112002_2] from (k24_mkM _ _ _ (⟨x112000_2, x112001_2, x112002_2⟩ : S24) )) (Reps.none _ _))); intro v124 w49 ho50 hb hg_ hnew_; clear hg_ hnew_; (first | rw [← Ny123.out] at ho50 | (simp only [Int.reduceToNat] at ho50; rw [← Ny123.out] at ho50)); have n0_ := Aside0.mk (Kd.R_lower (Kd.R_newB ho50 (g := gb111) (o := .cells #[.int .u16 x112000_2, .int .u16 x112001_2, .bool x112002_2] 24 (0, 0)) (by (with_reducible repeat (first | refine blk_drewN ?_ _ | refine blk_drew ?_ | refine blk_alloc ?_ _)); exact BK111.out)) (below_size (by repeat (first | (with_reducible first | exact HB.out | apply below_alloc | apply pw_below_drewN | apply below_drew1 | refine below_set ?_ GE111.out) | exact HB.out)))); have n1_ := Aside0.mk (blk_below (g := gb111) (o := .cells #[.int .u16 x112000_2, .int .u16 x112001_2, .bool x112002_2] 24 (0, 0)) (by (with_reducible repeat (first | refine blk_drewN ?_ _ | refine blk_drew ?_ | refine blk_alloc ?_ _)); exact BK111.out) hb); have n2_ := Aside0.mk (below_step (by repeat (first | (with_reducible first | exact HB.out | apply below_alloc | apply pw_below_drewN | apply below_drew1 | refine below_set ?_ GE111.out) | exact HB.out)) hb); clear BK111; clear HB; have HO125 := n0_; have BK111 := n1_; have HB := n2_; clear n0_ n1_ n2_; clear hb ho50; obtain ⟨Ao51, co51, eo51⟩ := Kd.R_slice HO125.out; subst eo51) | ((with_reducible refine gate_callee (f := 13) rfl ?_); (with_reducible refine gate_dst (N := 60) rfl ?_); (refine gate_guard (by rfl) ?_; dsimp only); refine goesL_ (some 60) rfl rfl Try.func13 (by kernel_rfl) rfl #[.int .i64 1, .int .u16 a0, .slice Ao51 y123.length co51] rfl (by (try simp only [List.map_toArray, List.map_cons, List.map_nil]); first | done | rfl | (simp only [List.length_drop, List.length_take]; rfl)) ?_; (with_reducible refine (link_Rx.calls k2 1 a0 _ _ y123 t126 _ ?side1 ?side2 A47.out).mono ?_); (case side1 => repeat (first | exact (Kd.R_reads' HO125.out).2.2 | (with_reducible refine Kd.C_alloc ?_ _) | (with_reducible refine Kd.C_drewN ?_ _) | (with_reducible refine Kd.C_drew ?_))); (case side2 => exact (Kd.R_reads' HO125.out).2.1); rintro e w52 ⟨rfl, hb⟩; refine ⟨_, rfl, ?_⟩; have n0_ := Aside0.mk (Kd.R_below (by (with_reducible repeat (first | apply Kd.R_alloc | apply Kd.R_drewN | apply Kd.R_drew)); exact HO125.out) hb); have n1_ := Aside0.mk (blk_below (g := gb111) (o := .cells #[.int .u16 x112000_2, .int .u16 x112001_2, .bool x112002_2] 24 (0, 0)) (by (with_reducible repeat (first | refine blk_drewN ?_ _ | refine blk_drew ?_ | refine blk_alloc ?_ _)); exact BK111.out) hb); have n2_ := Aside0.mk (below_step (by repeat (first | (with_reducible first | exact HB.out | apply below_alloc | apply pw_below_drewN | apply below_drew1 | refine below_set ?_ GE111.out) | exact HB.out)) hb); clear HO125; clear BK111; clear HB; have HO125 := n0_; have BK111 := n1_; have HB := n2_; clear n0_ n1_ n2_; (try clear hb); (try clear hb2); (try clear hk); (try clear hi)))
                    go_meet
                    case rel => exact ⟨_, ((t126 != a0)), (by first | rfl | (simp; done) | (simp [*]; done)), H', ⟨by have := HJ4.out; have := HK2.out; first | omega | exact Nat.le_refl _⟩, ⟨by (with_reducible repeat (first | refine blk_drewN ?_ _ | refine blk_drew ?_ | refine blk_alloc ?_ _)); exact BK111.out⟩, ⟨by repeat (first | (with_reducible first | exact HB.out | apply below_alloc | apply pw_below_drewN | apply below_drew1 | refine below_set ?_ GE111.out) | exact HB.out)⟩⟩
                  · rw [if_neg c46] at H
                    have c46b0 : decide (16 ≤ a2) = false := decide_eq_false c46
                    clear c46
                    have H' := Aside0.mk H
                    clear H
                    go_wp2
                    go_meet
                    case rel => exact ⟨_, (false), (by first | rfl | (simp; done) | (simp [*]; done)), H', ⟨by have := HJ4.out; have := HK2.out; first | omega | exact Nat.le_refl _⟩, ⟨by (with_reducible repeat (first | refine blk_drewN ?_ _ | refine blk_drew ?_ | refine blk_alloc ?_ _)); exact BK111.out⟩, ⟨by repeat (first | (with_reducible first | exact HB.out | apply below_alloc | apply pw_below_drewN | apply below_drew1 | refine below_set ?_ GE111.out) | exact HB.out)⟩⟩
              case rest =>
                clear HC20
                try clear c1
                try clear c2
                try clear p2
                try clear c3
                try clear c4
                try clear c5
                try clear c6
                try clear c6b0
                try clear p6
                try clear c7
                try clear c7b0
                try clear c8
                try clear c8b0
                try clear c9
                try clear c9b0
                try clear c10
                try clear c11
                try clear c13
                try clear c15
                try clear c15b0
                try clear c21
                try clear c21b0
                try clear c23
                try clear c23b0
                try clear c23b1
                try clear c24
                try clear c24b0
                try clear c46
                try clear c46b0
                try clear hcz14_0
                try clear hcz14_1
                try clear hcz14_2
                try clear hcz17_0
                try clear hcz17_1
                try clear hcz17_2
                try clear hcz19_0
                try clear hcz19_1
                try clear hcz19_2
                try clear hcz26_0
                try clear hcz26_1
                try clear hcz26_2
                try clear hcz31_0
                try clear hcz31_1
                try clear hcz31_2
                try clear hcz36_0
                try clear hcz36_1
                try clear hcz36_2
                try clear hcz41_0
                try clear hcz41_1
                try clear hcz41_2
                try clear hcz48_0
                try clear hcz48_1
                try clear hcz48_2
                try clear hfz14_0
                try clear hfz14_1
                try clear hfz14_2
                try clear hfz17_0
                try clear hfz17_1
                try clear hfz17_2
                try clear hfz19_0
                try clear hfz19_1
                try clear hfz19_2
                try clear hfz26_0
                try clear hfz26_1
                try clear hfz26_2
                try clear hfz31_0
                try clear hfz31_1
                try clear hfz31_2
                try clear hfz36_0
                try clear hfz36_1
                try clear hfz36_2
                try clear hfz41_0
                try clear hfz41_1
                try clear hfz41_2
                try clear hfz48_0
                try clear hfz48_1
                try clear hfz48_2
                try clear p2
                obtain ⟨kq, x64_19, rfl, HA, HJ19, BK111, HB⟩ := hcut
                cases kq with
                | zero => exact absurd HA.out (by simp [culvertlaw11_LinkAll.j2])
                | succ kj19 =>
                  have H := HA.out
                  clear HA
                  simp only [culvertlaw11_LinkAll.j2] at H
                  by_cases c53 : x64_19 = true
                  · subst c53
                    have H1 : (some false) = some r := by rw [if_pos rfl] at H; exact H
                    clear H
                    have H := H1
                    clear H1
                    obtain rfl := Option.some.inj H
                    go_wp2
                    go_ret
                    exact ⟨by first | rfl | (simp [errW_none, errW_some] <;> rfl) | (simp [*, errW_none, errW_some] <;> rfl), by repeat (first | (with_reducible first | exact HB.out | apply below_alloc | apply pw_below_drewN | apply below_drew1 | refine below_set ?_ GE111.out) | exact HB.out)⟩
                  · replace c53 := Bool.eq_false_iff.mpr c53
                    subst c53
                    have H1 : ((link_Miss.f x112000_2 x112001_2 x112002_2 a3).bind fun bt127 => (if a3 ≥ 16 then ((link_Rx.f kj19 1 a0 (([(⟨bt127.1, bt127.2.1, bt127.2.2⟩ : S24)] : List (S24)))).bind fun t134 => (if t134 = 65535 then (if bt127.1 = 0 then (if a3 ≥ 2 then ((link_Rx.f kj19 0 a0 (([(⟨bt127.1, bt127.2.1, bt127.2.2⟩ : S24)] : List (S24)))).bind fun t138 => (culvertlaw11_LinkAll.j3 kj19 a0 a1 a2 a3 (t138 != 65535) bt127.1 bt127.2.1 bt127.2.2)) else (culvertlaw11_LinkAll.j3 kj19 a0 a1 a2 a3 false bt127.1 bt127.2.1 bt127.2.2)) else (culvertlaw11_LinkAll.j3 kj19 a0 a1 a2 a3 true bt127.1 bt127.2.1 bt127.2.2)) else (culvertlaw11_LinkAll.j3 kj19 a0 a1 a2 a3 true bt127.1 bt127.2.1 bt127.2.2))) else (if a3 ≥ 2 then ((link_Rx.f kj19 0 a0 (([(⟨bt127.1, bt127.2.1, bt127.2.2⟩ : S24)] : List (S24)))).bind fun t142 => (culvertlaw11_LinkAll.j3 kj19 a0 a1 a2 a3 (t142 != 65535) bt127.1 bt127.2.1 bt127.2.2)) else (culvertlaw11_LinkAll.j3 kj19 a0 a1 a2 a3 false bt127.1 bt127.2.1 bt127.2.2)))) = some r := by rw [if_neg (show ¬ (false = true) by decide)] at H; exact H
                    clear H
                    have H := H1
                    clear H1
                    replace H := Option.bind_eq_some_iff.mp H
                    obtain ⟨⟨t127, t128, t129⟩, A540, H⟩ := H
                    replace H : (if a3 ≥ 16 then ((link_Rx.f kj19 1 a0 (([(⟨t127, t128, t129⟩ : S24)] : List (S24)))).bind fun t134 => (if t134 = 65535 then (if t127 = 0 then (if a3 ≥ 2 then ((link_Rx.f kj19 0 a0 (([(⟨t127, t128, t129⟩ : S24)] : List (S24)))).bind fun t138 => (culvertlaw11_LinkAll.j3 kj19 a0 a1 a2 a3 (t138 != 65535) t127 t128 t129)) else (culvertlaw11_LinkAll.j3 kj19 a0 a1 a2 a3 false t127 t128 t129)) else (culvertlaw11_LinkAll.j3 kj19 a0 a1 a2 a3 true t127 t128 t129)) else (culvertlaw11_LinkAll.j3 kj19 a0 a1 a2 a3 true t127 t128 t129))) else (if a3 ≥ 2 then ((link_Rx.f kj19 0 a0 (([(⟨t127, t128, t129⟩ : S24)] : List (S24)))).bind fun t142 => (culvertlaw11_LinkAll.j3 kj19 a0 a1 a2 a3 (t142 != 65535) t127 t128 t129)) else (culvertlaw11_LinkAll.j3 kj19 a0 a1 a2 a3 false t127 t128 t129))) = some r := H
                    have A54 := Aside0.mk A540
                    clear A540
                    have HC55 := Aside0.mk H
                    clear H
                    have hcz56_0 : wc.cell? ⟨gb111, 0, none⟩ = some (.int .u16 x112000_2) := (blk_cell BK111.out 0).trans rfl
                    have hcz56_1 : wc.cell? ⟨gb111, 1, none⟩ = some (.int .u16 x112001_2) := (blk_cell BK111.out 1).trans rfl
                    have hcz56_2 : wc.cell? ⟨gb111, 2, none⟩ = some (.bool x112002_2) := (blk_cell BK111.out 2).trans rfl
                    have hfz56_0 := blk_frozen BK111.out 0
                    have hfz56_1 := blk_frozen BK111.out 1
                    have hfz56_2 := blk_frozen BK111.out 2
                    go_upto_region 11 with (first | ((with_reducible refine gate_callee (f := 9) rfl ?_); refine goesL_ (some 67) rfl rfl Try.func9 (by kernel_rfl) rfl #[.agg #[.int .u16 x112000_2, .int .u16 x112001_2, .bool x112002_2], .int .i64 a3] rfl (by (try simp only [List.map_toArray, List.map_cons, List.map_nil]); first | done | rfl | (simp only [List.length_drop, List.length_take]; rfl)) ?_; (with_reducible refine (link_Miss.calls x112000_2 x112001_2 x112002_2 a3 t127 t128 t129 _ A54.out).mono ?_); rintro e w57 ⟨rfl, hb⟩; refine ⟨_, rfl, ?_⟩; have n0_ := Aside0.mk (blk_below (g := gb111) (o := .cells #[.int .u16 x112000_2, .int .u16 x112001_2, .bool x112002_2] 24 (0, 0)) (by (with_reducible repeat (first | refine blk_drewN ?_ _ | refine blk_drew ?_ | refine blk_alloc ?_ _)); exact BK111.out) hb); have n1_ := Aside0.mk (below_step (by repeat (first | (with_reducible first | exact HB.out | apply below_alloc | apply pw_below_drewN | apply below_drew1 | refine below_set ?_ GE111.out) | exact HB.out)) hb); clear BK111; clear HB; have BK111 := n0_; have HB := n1_; clear n0_ n1_; (try clear hb); (try clear hb2); (try clear hk); (try clear hi)) | ((with_reducible refine gate_dst (N := 11) rfl ?_); (try (refine gate_guard (by rfl) ?_; dsimp only)); refine box_event ?hg (N := 11) ?hd (cs := #[.int .u16 0, .int .u16 0, .bool false]) (t := 24) ?hr ?_; (case hd => rfl); (case hg => rfl); (case hr => first | (go_simp; done) | (go_simp; rfl)); intro gb130 hg w58 hbox hb; have n0_ := Aside0.mk (blk_below (g := gb111) (o := .cells #[.int .u16 x112000_2, .int .u16 x112001_2, .bool x112002_2] 24 (0, 0)) (by (with_reducible repeat (first | refine blk_drewN ?_ _ | refine blk_drew ?_ | refine blk_alloc ?_ _)); exact BK111.out) hb); have n1_ := Aside0.mk (below_step (by repeat (first | (with_reducible first | exact HB.out | apply below_alloc | apply pw_below_drewN | apply below_drew1 | refine below_set ?_ GE111.out) | exact HB.out)) hb); have n2_ := Aside0.mk (hbox); have n3_ := Aside0.mk ((by rw [hg]; exact (below_size (by repeat (first | (with_reducible first | exact HB.out | apply below_alloc | apply pw_below_drewN | apply below_drew1 | refine below_set ?_ GE111.out) | exact HB.out))) : w.heap.size ≤ gb130)); have n4_ := Aside0.mk ((by rw [hg]; exact (below_size (by repeat (first | (with_reducible first | exact HB.out | apply below_alloc | apply pw_below_drewN | apply below_drew1 | refine below_set ?_ GE111.out) | exact HB.out))) : w.heap.size ≤ gb130)); have n5_ := Aside0.mk ((by rw [hg]; exact Nat.ne_of_lt (blk_lt (g := gb111) (o := .cells #[.int .u16 x112000_2, .int .u16 x112001_2, .bool x112002_2] 24 (0, 0)) (by (with_reducible repeat (first | refine blk_drewN ?_ _ | refine blk_drew ?_ | refine blk_alloc ?_ _)); exact BK111.out)) : gb111 ≠ gb130)); have n6_ := Aside0.mk ((by rw [hg]; exact Nat.ne_of_gt (blk_lt (g := gb111) (o := .cells #[.int .u16 x112000_2, .int .u16 x112001_2, .bool x112002_2] 24 (0, 0)) (by (with_reducible repeat (first | refine blk_drewN ?_ _ | refine blk_drew ?_ | refine blk_alloc ?_ _)); exact BK111.out)) : gb130 ≠ gb111)); clear BK111; clear HB; have BK111 := n0_; have HB := n1_; have BK130 := n2_; have GW130 := n3_; have GE130 := n4_; have NB111_130 := n5_; have NB130_111 := n6_; clear n0_ n1_ n2_ n3_ n4_ n5_ n6_; clear hb hbox hg; have hnb59 := NB130_111.out; have hnc59 := NB111_130.out; have hcz60_0 : w58.cell? ⟨gb130, 0, none⟩ = some (.int .u16 0) := (blk_cell BK130.out 0).trans rfl; have hcz60_1 : w58.cell? ⟨gb130, 1, none⟩ = some (.int .u16 0) := (blk_cell BK130.out 1).trans rfl; have hcz60_2 : w58.cell? ⟨gb130, 2, none⟩ = some (.bool false) := (blk_cell BK130.out 2).trans rfl; have hfz60_0 := blk_frozen BK130.out 0; have hfz60_1 := blk_frozen BK130.out 1; have hfz60_2 := blk_frozen BK130.out 2))
                    (try simp only [Act.put, List.setIfInBounds_toArray, List.set_cons_zero, List.set_cons_succ])
                    go_cut [92] (fun v92 wc => ∃ (kq : Nat) (x92_54 : Bool), v92 = .bool x92_54 ∧ Aside0 (culvertlaw11_LinkAll.j3 kq a0 a1 a2 a3 x92_54 t127 t128 t129 = some r) ∧ Aside0 (kq ≤ kj19) ∧ Aside0 (wc.heap[gb111]? = some (.cells #[.int .u16 x112000_2, .int .u16 x112001_2, .bool x112002_2] 24 (0, 0))) ∧ Aside0 (wc.heap[gb130]? = some (.cells #[.int .u16 t127, .int .u16 t128, .bool t129] 24 (0, 0))) ∧ Aside0 (Below w.heap.size w wc))
                    case first =>
                      have H := HC55.out
                      clear HC55
                      by_cases c61 : a3 ≥ 16
                      · rw [if_pos c61] at H
                        have c61b0 : decide (16 ≤ a3) = true := decide_eq_true c61
                        clear c61
                        (first | rw [c61b0] | (simp only [i64_w, i32_w]; rw [c61b0]) | skip)
                        obtain ⟨y131, hy131⟩ : ∃ y_ : List (S24), y_ = (([(⟨t127, t128, t129⟩ : S24)] : List (S24))) := ⟨_, rfl⟩
                        replace H : ((link_Rx.f kj19 1 a0 y131).bind fun t134 => (if t134 = 65535 then (if t127 = 0 then (if a3 ≥ 2 then ((link_Rx.f kj19 0 a0 (([(⟨t127, t128, t129⟩ : S24)] : List (S24)))).bind fun t138 => (culvertlaw11_LinkAll.j3 kj19 a0 a1 a2 a3 (t138 != 65535) t127 t128 t129)) else (culvertlaw11_LinkAll.j3 kj19 a0 a1 a2 a3 false t127 t128 t129)) else (culvertlaw11_LinkAll.j3 kj19 a0 a1 a2 a3 true t127 t128 t129)) else (culvertlaw11_LinkAll.j3 kj19 a0 a1 a2 a3 true t127 t128 t129))) = some r := by first | (rw [hy131]; with_reducible exact H) | (have H2_ := (Option.bind_some _ _).symm.trans H; rw [hy131]; with_reducible exact H2_) | (have H2_ := (Option.bind_some _ _).symm.trans H; with_reducible exact H2_) | with_reducible exact H | (rw [hy131]; exact H) | exact H
                        have Ny131 := Aside0.mk hy131
                        clear hy131
                        replace H := Option.bind_eq_some_iff.mp H
                        obtain ⟨t134, A620, H⟩ := H
                        replace H : (if t134 = 65535 then (if t127 = 0 then (if a3 ≥ 2 then ((link_Rx.f kj19 0 a0 (([(⟨t127, t128, t129⟩ : S24)] : List (S24)))).bind fun t138 => (culvertlaw11_LinkAll.j3 kj19 a0 a1 a2 a3 (t138 != 65535) t127 t128 t129)) else (culvertlaw11_LinkAll.j3 kj19 a0 a1 a2 a3 false t127 t128 t129)) else (culvertlaw11_LinkAll.j3 kj19 a0 a1 a2 a3 true t127 t128 t129)) else (culvertlaw11_LinkAll.j3 kj19 a0 a1 a2 a3 true t127 t128 t129)) = some r := H
                        have A62 := Aside0.mk A620
                        clear A620
                        by_cases c63 : t134 = 65535
                        · rw [if_pos c63] at H
                          have c63b0 : (t134 == 65535) = true := beq_iff_eq.mpr c63
                          have c63b1 : (t134 != 65535) = false := bne_eq_false_iff_eq.mpr c63
                          clear c63
                          by_cases c64 : t127 = 0
                          · rw [if_pos c64] at H
                            have c64b0 : (t127 == 0) = true := beq_iff_eq.mpr c64
                            have c64b1 : (t127 != 0) = false := bne_eq_false_iff_eq.mpr c64
                            clear c64
                            by_cases c65 : a3 ≥ 2
                            · rw [if_pos c65] at H
                              have c65b0 : decide (2 ≤ a3) = true := decide_eq_true c65
                              clear c65
                              obtain ⟨y135, hy135⟩ : ∃ y_ : List (S24), y_ = (([(⟨t127, t128, t129⟩ : S24)] : List (S24))) := ⟨_, rfl⟩
                              replace H : ((link_Rx.f kj19 0 a0 y135).bind fun t138 => (culvertlaw11_LinkAll.j3 kj19 a0 a1 a2 a3 (t138 != 65535) t127 t128 t129)) = some r := by first | (rw [hy135]; with_reducible exact H) | (have H2_ := (Option.bind_some _ _).symm.trans H; rw [hy135]; with_reducible exact H2_) | (have H2_ := (Option.bind_some _ _).symm.trans H; with_reducible exact H2_) | with_reducible exact H | (rw [hy135]; exact H) | exact H
                              have Ny135 := Aside0.mk hy135
                              clear hy135
                              replace H := Option.bind_eq_some_iff.mp H
                              obtain ⟨t138, A660, H⟩ := H
                              replace H : (culvertlaw11_LinkAll.j3 kj19 a0 a1 a2 a3 (t138 != 65535) t127 t128 t129) = some r := H
                              have A66 := Aside0.mk A660
                              clear A660
                              have H' := Aside0.mk H
                              clear H
                              have hnb67 := NB130_111.out
                              have hnc67 := NB111_130.out
                              have hcz68_0 : w58.cell? ⟨gb130, 0, none⟩ = some (.int .u16 0) := (blk_cell BK130.out 0).trans rfl
                              have hcz68_1 : w58.cell? ⟨gb130, 1, none⟩ = some (.int .u16 0) := (blk_cell BK130.out 1).trans rfl
                              have hcz68_2 : w58.cell? ⟨gb130, 2, none⟩ = some (.bool false) := (blk_cell BK130.out 2).trans rfl
                              have hfz68_0 := blk_frozen BK130.out 0
                              have hfz68_1 := blk_frozen BK130.out 1
                              have hfz68_2 := blk_frozen BK130.out 2
                              go_wp2_with (first | ((with_reducible refine gate_dst (N := 73) rfl ?_); (try (refine gate_guard (by rfl) ?_; dsimp only)); refine Kd.R_lit k24 _ 24 ?hg (N := 73) ?hd (xs := ([(⟨t127, t128, t129⟩ : S24)] : List (S24))) (inner := [.int .u16 t127, .int .u16 t128, .bool t129]) (ok := fun _ => True) (okp := fun _ => True) ?hr ?hp (fun _ hk => hk) trivial (Below.refl _ _) (Nat.le_refl _) (by simp) ?_; (case hd => rfl); (case hg => rfl); (case hr => first | (go_simp; done) | (go_simp; rfl)); (case hp => exact (Reps.c3 (show Kd.M k24 _ _ _ (⟨t127, t128, t129⟩ : S24) [.int .u16 t127, .int .u16 t128, .bool t129] from (k24_mkM _ _ _ (⟨t127, t128, t129⟩ : S24) )) (Reps.none _ _))); intro v132 w69 ho70 hb hg_ hnew_; clear hg_ hnew_; (first | rw [← Ny131.out] at ho70 | (simp only [Int.reduceToNat] at ho70; rw [← Ny131.out] at ho70)); have n0_ := Aside0.mk (Kd.R_lower (Kd.R_newB (Kd.R_newB ho70 (g := gb111) (o := .cells #[.int .u16 x112000_2, .int .u16 x112001_2, .bool x112002_2] 24 (0, 0)) (by (with_reducible repeat (first | refine blk_drewN ?_ _ | refine blk_drew ?_ | refine blk_alloc ?_ _)); refine blk_far ?_ NB111_130.out _; (with_reducible repeat (first | refine blk_drewN ?_ _ | refine blk_drew ?_ | refine blk_alloc ?_ _)); refine blk_far ?_ NB111_130.out _; (with_reducible repeat (first | refine blk_drewN ?_ _ | refine blk_drew ?_ | refine blk_alloc ?_ _)); refine blk_far ?_ NB111_130.out _; (with_reducible repeat (first | refine blk_drewN ?_ _ | refine blk_drew ?_ | refine blk_alloc ?_ _)); exact BK111.out)) (g := gb130) (o := .cells #[.int .u16 t127, .int .u16 t128, .bool t129] 24 (0, 0)) (by (with_reducible repeat (first | refine blk_drewN ?_ _ | refine blk_drew ?_ | refine blk_alloc ?_ _)); refine blk_put (cs := #[.int .u16 t127, .int .u16 t128, .bool false]) ?_ 2 _ rfl; (with_reducible repeat (first | refine blk_drewN ?_ _ | refine blk_drew ?_ | refine blk_alloc ?_ _)); refine blk_put (cs := #[.int .u16 t127, .int .u16 0, .bool false]) ?_ 1 _ rfl; (with_reducible repeat (first | refine blk_drewN ?_ _ | refine blk_drew ?_ | refine blk_alloc ?_ _)); refine blk_put (cs := #[.int .u16 0, .int .u16 0, .bool false]) ?_ 0 _ rfl; (with_reducible repeat (first | refine blk_drewN ?_ _ | refine blk_drew ?_ | refine blk_alloc ?_ _)); exact BK130.out)) (below_size (by repeat (first | (with_reducible first | exact HB.out | apply below_alloc | apply pw_below_drewN | apply below_drew1 | refine below_set ?_ GE111.out | refine below_set ?_ GE130.out) | exact HB.out)))); have n1_ := Aside0.mk (blk_below (g := gb111) (o := .cells #[.int .u16 x112000_2, .int .u16 x112001_2, .bool x112002_2] 24 (0, 0)) (by (with_reducible repeat (first | refine blk_drewN ?_ _ | refine blk_drew ?_ | refine blk_alloc ?_ _)); refine blk_far ?_ NB111_130.out _; (with_reducible repeat (first | refine blk_drewN ?_ _ | refine blk_drew ?_ | refine blk_alloc ?_ _)); refine blk_far ?_ NB111_130.out _; (with_reducible repeat (first | refine blk_drewN ?_ _ | refine blk_drew ?_ | refine blk_alloc ?_ _)); refine blk_far ?_ NB111_130.out _; (with_reducible repeat (first | refine blk_drewN ?_ _ | refine blk_drew ?_ | refine blk_alloc ?_ _)); exact BK111.out) hb); have n2_ := Aside0.mk (blk_below (g := gb130) (o := .cells #[.int .u16 t127, .int .u16 t128, .bool t129] 24 (0, 0)) (by (with_reducible repeat (first | refine blk_drewN ?_ _ | refine blk_drew ?_ | refine blk_alloc ?_ _)); refine blk_put (cs := #[.int .u16 t127, .int .u16 t128, .bool false]) ?_ 2 _ rfl; (with_reducible repeat (first | refine blk_drewN ?_ _ | refine blk_drew ?_ | refine blk_alloc ?_ _)); refine blk_put (cs := #[.int .u16 t127, .int .u16 0, .bool false]) ?_ 1 _ rfl; (with_reducible repeat (first | refine blk_drewN ?_ _ | refine blk_drew ?_ | refine blk_alloc ?_ _)); refine blk_put (cs := #[.int .u16 0, .int .u16 0, .bool false]) ?_ 0 _ rfl; (with_reducible repeat (first | refine blk_drewN ?_ _ | refine blk_drew ?_ | refine blk_alloc ?_ _)); exact BK130.out) hb); have n3_ := Aside0.mk (below_step (by repeat (first | (with_reducible first | exact HB.out | apply below_alloc | apply pw_below_drewN | apply below_drew1 | refine below_set ?_ GE111.out | refine below_set ?_ GE130.out) | exact HB.out)) hb); clear BK111; clear BK130; clear HB; have HO133 := n0_; have BK111 := n1_; have BK130 := n2_; have HB := n3_; clear n0_ n1_ n2_ n3_; clear hb ho70; obtain ⟨Ao71, co71, eo71⟩ := Kd.R_slice HO133.out; subst eo71) | ((with_reducible refine gate_callee (f := 13) rfl ?_); (with_reducible refine gate_dst (N := 74) rfl ?_); (refine gate_guard (by rfl) ?_; dsimp only); refine goesL_ (some 74) rfl rfl Try.func13 (by kernel_rfl) rfl #[.int .i64 1, .int .u16 a0, .slice Ao71 y131.length co71] rfl (by (try simp only [List.map_toArray, List.map_cons, List.map_nil]); first | done | rfl | (simp only [List.length_drop, List.length_take]; rfl)) ?_; (with_reducible refine (link_Rx.calls kj19 1 a0 _ _ y131 t134 _ ?side1 ?side2 A62.out).mono ?_); (case side1 => repeat (first | exact (Kd.R_reads' HO133.out).2.2 | (with_reducible refine Kd.C_alloc ?_ _) | (with_reducible refine Kd.C_drewN ?_ _) | (with_reducible refine Kd.C_drew ?_))); (case side2 => exact (Kd.R_reads' HO133.out).2.1); rintro e w72 ⟨rfl, hb⟩; refine ⟨_, rfl, ?_⟩; have n0_ := Aside0.mk (Kd.R_below (by (with_reducible repeat (first | apply Kd.R_alloc | apply Kd.R_drewN | apply Kd.R_drew)); exact HO133.out) hb); have n1_ := Aside0.mk (blk_below (g := gb111) (o := .cells #[.int .u16 x112000_2, .int .u16 x112001_2, .bool x112002_2] 24 (0, 0)) (by (with_reducible repeat (first | refine blk_drewN ?_ _ | refine blk_drew ?_ | refine blk_alloc ?_ _)); exact BK111.out) hb); have n2_ := Aside0.mk (blk_below (g := gb130) (o := .cells #[.int .u16 t127, .int .u16 t128, .bool t129] 24 (0, 0)) (by (with_reducible repeat (first | refine blk_drewN ?_ _ | refine blk_drew ?_ | refine blk_alloc ?_ _)); exact BK130.out) hb); have n3_ := Aside0.mk (below_step (by repeat (first | (with_reducible first | exact HB.out | apply below_alloc | apply pw_below_drewN | apply below_drew1 | refine below_set ?_ GE111.out | refine below_set ?_ GE130.out) | exact HB.out)) hb); clear HO133; clear BK111; clear BK130; clear HB; have HO133 := n0_; have BK111 := n1_; have BK130 := n2_; have HB := n3_; clear n0_ n1_ n2_ n3_; (try clear hb); (try clear hb2); (try clear hk); (try clear hi); have hcz73_0 : w72.cell? ⟨gb130, 0, none⟩ = some (.int .u16 t127) := (blk_cell BK130.out 0).trans rfl; have hcz73_1 : w72.cell? ⟨gb130, 1, none⟩ = some (.int .u16 t128) := (blk_cell BK130.out 1).trans rfl; have hcz73_2 : w72.cell? ⟨gb130, 2, none⟩ = some (.bool t129) := (blk_cell BK130.out 2).trans rfl; have hfz73_0 := blk_frozen BK130.out 0; have hfz73_1 := blk_frozen BK130.out 1; have hfz73_2 := blk_frozen BK130.out 2) | ((with_reducible refine gate_dst (N := 88) rfl ?_); (try (refine gate_guard (by rfl) ?_; dsimp only)); refine Kd.R_lit k24 _ 24 ?hg (N := 88) ?hd (xs := ([(⟨t127, t128, t129⟩ : S24)] : List (S24))) (inner := [.int .u16 t127, .int .u16 t128, .bool t129]) (ok := fun _ => True) (okp := fun _ => True) ?hr ?hp (fun _ hk => hk) trivial (Below.refl _ _) (Nat.le_refl _) (by simp) ?_; (case hd => rfl); (case hg => rfl); (case hr => first | (go_simp; done) | (go_simp; rfl)); (case hp => exact (Reps.c3 (show Kd.M k24 _ _ _ (⟨t127, t128, t129⟩ : S24) [.int .u16 t127, .int .u16 t128, .bool t129] from (k24_mkM _ _ _ (⟨t127, t128, t129⟩ : S24) )) (Reps.none _ _))); intro v136 w74 ho75 hb hg_ hnew_; clear hg_ hnew_; (first | rw [← Ny135.out] at ho75 | (simp only [Int.reduceToNat] at ho75; rw [← Ny135.out] at ho75)); have n0_ := Aside0.mk (Kd.R_elder' (by (with_reducible repeat (first | apply Kd.R_alloc | apply Kd.R_drewN | apply Kd.R_drew)); exact HO133.out) (Kd.R_base ho75) hb); have n1_ := Aside0.mk (Kd.R_lower (Kd.R_newB (Kd.R_newB (Kd.R_new' ho75 (Kd.R_lt (by (with_reducible repeat (first | apply Kd.R_alloc | apply Kd.R_drewN | apply Kd.R_drew)); exact HO133.out))) (g := gb111) (o := .cells #[.int .u16 x112000_2, .int .u16 x112001_2, .bool x112002_2] 24 (0, 0)) (by (with_reducible repeat (first | refine blk_drewN ?_ _ | refine blk_drew ?_ | refine blk_alloc ?_ _)); exact BK111.out)) (g := gb130) (o := .cells #[.int .u16 t127, .int .u16 t128, .bool t129] 24 (0, 0)) (by (with_reducible repeat (first | refine blk_drewN ?_ _ | refine blk_drew ?_ | refine blk_alloc ?_ _)); exact BK130.out)) (below_size (by repeat (first | (with_reducible first | exact HB.out | apply below_alloc | apply pw_below_drewN | apply below_drew1 | refine below_set ?_ GE111.out | refine below_set ?_ GE130.out) | exact HB.out)))); have n2_ := Aside0.mk (blk_below (g := gb111) (o := .cells #[.int .u16 x112000_2, .int .u16 x112001_2, .bool x112002_2] 24 (0, 0)) (by (with_reducible repeat (first | refine blk_drewN ?_ _ | refine blk_drew ?_ | refine blk_alloc ?_ _)); exact BK111.out) hb); have n3_ := Aside0.mk (blk_below (g := gb130) (o := .cells #[.int .u16 t127, .int .u16 t128, .bool t129] 24 (0, 0)) (by (with_reducible repeat (first | refine blk_drewN ?_ _ | refine blk_drew ?_ | refine blk_alloc ?_ _)); exact BK130.out) hb); have n4_ := Aside0.mk (below_step (by repeat (first | (with_reducible first | exact HB.out | apply below_alloc | apply pw_below_drewN | apply below_drew1 | refine below_set ?_ GE111.out | refine below_set ?_ GE130.out) | exact HB.out)) hb); clear HO133; clear BK111; clear BK130; clear HB; have HO133 := n0_; have HO137 := n1_; have BK111 := n2_; have BK130 := n3_; have HB := n4_; clear n0_ n1_ n2_ n3_ n4_; clear hb ho75; obtain ⟨Ao76, co76, eo76⟩ := Kd.R_slice HO137.out; subst eo76) | ((with_reducible refine gate_callee (f := 13) rfl ?_); (with_reducible refine gate_dst (N := 89) rfl ?_); (refine gate_guard (by rfl) ?_; dsimp only); refine goesL_ (some 89) rfl rfl Try.func13 (by kernel_rfl) rfl #[.int .i64 0, .int .u16 a0, .slice Ao76 y135.length co76] rfl (by (try simp only [List.map_toArray, List.map_cons, List.map_nil]); first | done | rfl | (simp only [List.length_drop, List.length_take]; rfl)) ?_; (with_reducible refine (link_Rx.calls kj19 0 a0 _ _ y135 t138 _ ?side1 ?side2 A66.out).mono ?_); (case side1 => repeat (first | exact (Kd.R_reads' HO137.out).2.2 | (with_reducible refine Kd.C_alloc ?_ _) | (with_reducible refine Kd.C_drewN ?_ _) | (with_reducible refine Kd.C_drew ?_))); (case side2 => exact (Kd.R_reads' HO137.out).2.1); rintro e w77 ⟨rfl, hb⟩; refine ⟨_, rfl, ?_⟩; have n0_ := Aside0.mk (Kd.R_below (by (with_reducible repeat (first | apply Kd.R_alloc | apply Kd.R_drewN | apply Kd.R_drew)); exact HO133.out) hb); have n1_ := Aside0.mk (Kd.R_below (by (with_reducible repeat (first | apply Kd.R_alloc | apply Kd.R_drewN | apply Kd.R_drew)); exact HO137.out) hb); have n2_ := Aside0.mk (blk_below (g := gb111) (o := .cells #[.int .u16 x112000_2, .int .u16 x112001_2, .bool x112002_2] 24 (0, 0)) (by (with_reducible repeat (first | refine blk_drewN ?_ _ | refine blk_drew ?_ | refine blk_alloc ?_ _)); exact BK111.out) hb); have n3_ := Aside0.mk (blk_below (g := gb130) (o := .cells #[.int .u16 t127, .int .u16 t128, .bool t129] 24 (0, 0)) (by (with_reducible repeat (first | refine blk_drewN ?_ _ | refine blk_drew ?_ | refine blk_alloc ?_ _)); exact BK130.out) hb); have n4_ := Aside0.mk (below_step (by repeat (first | (with_reducible first | exact HB.out | apply below_alloc | apply pw_below_drewN | apply below_drew1 | refine below_set ?_ GE111.out | refine below_set ?_ GE130.out) | exact HB.out)) hb); clear HO133; clear HO137; clear BK111; clear BK130; clear HB; have HO133 := n0_; have HO137 := n1_; have BK111 := n2_; have BK130 := n3_; have HB := n4_; clear n0_ n1_ n2_ n3_ n4_; (try clear hb); (try clear hb2); (try clear hk); (try clear hi)))
                              go_meet
                              case rel => exact ⟨_, ((t138 != 65535)), (by first | rfl | (simp; done) | (simp [*]; done)), H', ⟨by have := HJ4.out; have := HK2.out; have := HJ19.out; first | omega | exact Nat.le_refl _⟩, ⟨by (with_reducible repeat (first | refine blk_drewN ?_ _ | refine blk_drew ?_ | refine blk_alloc ?_ _)); exact BK111.out⟩, ⟨by (with_reducible repeat (first | refine blk_drewN ?_ _ | refine blk_drew ?_ | refine blk_alloc ?_ _)); exact BK130.out⟩, ⟨by repeat (first | (with_reducible first | exact HB.out | apply below_alloc | apply pw_below_drewN | apply below_drew1 | refine below_set ?_ GE111.out | refine below_set ?_ GE130.out) | exact HB.out)⟩⟩
                            · rw [if_neg c65] at H
                              have c65b0 : decide (2 ≤ a3) = false := decide_eq_false c65
                              clear c65
                              have H' := Aside0.mk H
                              clear H
                              have hnb78 := NB130_111.out
                              have hnc78 := NB111_130.out
                              have hcz79_0 : w58.cell? ⟨gb130, 0, none⟩ = some (.int .u16 0) := (blk_cell BK130.out 0).trans rfl
                              have hcz79_1 : w58.cell? ⟨gb130, 1, none⟩ = some (.int .u16 0) := (blk_cell BK130.out 1).trans rfl
                              have hcz79_2 : w58.cell? ⟨gb130, 2, none⟩ = some (.bool false) := (blk_cell BK130.out 2).trans rfl
                              have hfz79_0 := blk_frozen BK130.out 0
                              have hfz79_1 := blk_frozen BK130.out 1
                              have hfz79_2 := blk_frozen BK130.out 2
                              go_wp2_with (first | ((with_reducible refine gate_dst (N := 73) rfl ?_); (try (refine gate_guard (by rfl) ?_; dsimp only)); refine Kd.R_lit k24 _ 24 ?hg (N := 73) ?hd (xs := ([(⟨t127, t128, t129⟩ : S24)] : List (S24))) (inner := [.int .u16 t127, .int .u16 t128, .bool t129]) (ok := fun _ => True) (okp := fun _ => True) ?hr ?hp (fun _ hk => hk) trivial (Below.refl _ _) (Nat.le_refl _) (by simp) ?_; (case hd => rfl); (case hg => rfl); (case hr => first | (go_simp; done) | (go_simp; rfl)); (case hp => exact (Reps.c3 (show Kd.M k24 _ _ _ (⟨t127, t128, t129⟩ : S24) [.int .u16 t127, .int .u16 t128, .bool t129] from (k24_mkM _ _ _ (⟨t127, t128, t129⟩ : S24) )) (Reps.none _ _))); intro v132 w80 ho81 hb hg_ hnew_; clear hg_ hnew_; (first | rw [← Ny131.out] at ho81 | (simp only [Int.reduceToNat] at ho81; rw [← Ny131.out] at ho81)); have n0_ := Aside0.mk (Kd.R_lower (Kd.R_newB (Kd.R_newB ho81 (g := gb111) (o := .cells #[.int .u16 x112000_2, .int .u16 x112001_2, .bool x112002_2] 24 (0, 0)) (by (with_reducible repeat (first | refine blk_drewN ?_ _ | refine blk_drew ?_ | refine blk_alloc ?_ _)); refine blk_far ?_ NB111_130.out _; (with_reducible repeat (first | refine blk_drewN ?_ _ | refine blk_drew ?_ | refine blk_alloc ?_ _)); refine blk_far ?_ NB111_130.out _; (with_reducible repeat (first | refine blk_drewN ?_ _ | refine blk_drew ?_ | refine blk_alloc ?_ _)); refine blk_far ?_ NB111_130.out _; (with_reducible repeat (first | refine blk_drewN ?_ _ | refine blk_drew ?_ | refine blk_alloc ?_ _)); exact BK111.out)) (g := gb130) (o := .cells #[.int .u16 t127, .int .u16 t128, .bool t129] 24 (0, 0)) (by (with_reducible repeat (first | refine blk_drewN ?_ _ | refine blk_drew ?_ | refine blk_alloc ?_ _)); refine blk_put (cs := #[.int .u16 t127, .int .u16 t128, .bool false]) ?_ 2 _ rfl; (with_reducible repeat (first | refine blk_drewN ?_ _ | refine blk_drew ?_ | refine blk_alloc ?_ _)); refine blk_put (cs := #[.int .u16 t127, .int .u16 0, .bool false]) ?_ 1 _ rfl; (with_reducible repeat (first | refine blk_drewN ?_ _ | refine blk_drew ?_ | refine blk_alloc ?_ _)); refine blk_put (cs := #[.int .u16 0, .int .u16 0, .bool false]) ?_ 0 _ rfl; (with_reducible repeat (first | refine blk_drewN ?_ _ | refine blk_drew ?_ | refine blk_alloc ?_ _)); exact BK130.out)) (below_size (by repeat (first | (with_reducible first | exact HB.out | apply below_alloc | apply pw_below_drewN | apply below_drew1 | refine below_set ?_ GE111.out | refine below_set ?_ GE130.out) | exact HB.out)))); have n1_ := Aside0.mk (blk_below (g := gb111) (o := .cells #[.int .u16 x112000_2, .int .u16 x112001_2, .bool x112002_2] 24 (0, 0)) (by (with_reducible repeat (first | refine blk_drewN ?_ _ | refine blk_drew ?_ | refine blk_alloc ?_ _)); refine blk_far ?_ NB111_130.out _; (with_reducible repeat (first | refine blk_drewN ?_ _ | refine blk_drew ?_ | refine blk_alloc ?_ _)); refine blk_far ?_ NB111_130.out _; (with_reducible repeat (first | refine blk_drewN ?_ _ | refine blk_drew ?_ | refine blk_alloc ?_ _)); refine blk_far ?_ NB111_130.out _; (with_reducible repeat (first | refine blk_drewN ?_ _ | refine blk_drew ?_ | refine blk_alloc ?_ _)); exact BK111.out) hb); have n2_ := Aside0.mk (blk_below (g := gb130) (o := .cells #[.int .u16 t127, .int .u16 t128, .bool t129] 24 (0, 0)) (by (with_reducible repeat (first | refine blk_drewN ?_ _ | refine blk_drew ?_ | refine blk_alloc ?_ _)); refine blk_put (cs := #[.int .u16 t127, .int .u16 t128, .bool false]) ?_ 2 _ rfl; (with_reducible repeat (first | refine blk_drewN ?_ _ | refine blk_drew ?_ | refine blk_alloc ?_ _)); refine blk_put (cs := #[.int .u16 t127, .int .u16 0, .bool false]) ?_ 1 _ rfl; (with_reducible repeat (first | refine blk_drewN ?_ _ | refine blk_drew ?_ | refine blk_alloc ?_ _)); refine blk_put (cs := #[.int .u16 0, .int .u16 0, .bool false]) ?_ 0 _ rfl; (with_reducible repeat (first | refine blk_drewN ?_ _ | refine blk_drew ?_ | refine blk_alloc ?_ _)); exact BK130.out) hb); have n3_ := Aside0.mk (below_step (by repeat (first | (with_reducible first | exact HB.out | apply below_alloc | apply pw_below_drewN | apply below_drew1 | refine below_set ?_ GE111.out | refine below_set ?_ GE130.out) | exact HB.out)) hb); clear BK111; clear BK130; clear HB; have HO133 := n0_; have BK111 := n1_; have BK130 := n2_; have HB := n3_; clear n0_ n1_ n2_ n3_; clear hb ho81; obtain ⟨Ao82, co82, eo82⟩ := Kd.R_slice HO133.out; subst eo82) | ((with_reducible refine gate_callee (f := 13) rfl ?_); (with_reducible refine gate_dst (N := 74) rfl ?_); (refine gate_guard (by rfl) ?_; dsimp only); refine goesL_ (some 74) rfl rfl Try.func13 (by kernel_rfl) rfl #[.int .i64 1, .int .u16 a0, .slice Ao82 y131.length co82] rfl (by (try simp only [List.map_toArray, List.map_cons, List.map_nil]); first | done | rfl | (simp only [List.length_drop, List.length_take]; rfl)) ?_; (with_reducible refine (link_Rx.calls kj19 1 a0 _ _ y131 t134 _ ?side1 ?side2 A62.out).mono ?_); (case side1 => repeat (first | exact (Kd.R_reads' HO133.out).2.2 | (with_reducible refine Kd.C_alloc ?_ _) | (with_reducible refine Kd.C_drewN ?_ _) | (with_reducible refine Kd.C_drew ?_))); (case side2 => exact (Kd.R_reads' HO133.out).2.1); rintro e w83 ⟨rfl, hb⟩; refine ⟨_, rfl, ?_⟩; have n0_ := Aside0.mk (Kd.R_below (by (with_reducible repeat (first | apply Kd.R_alloc | apply Kd.R_drewN | apply Kd.R_drew)); exact HO133.out) hb); have n1_ := Aside0.mk (blk_below (g := gb111) (o := .cells #[.int .u16 x112000_2, .int .u16 x112001_2, .bool x112002_2] 24 (0, 0)) (by (with_reducible repeat (first | refine blk_drewN ?_ _ | refine blk_drew ?_ | refine blk_alloc ?_ _)); exact BK111.out) hb); have n2_ := Aside0.mk (blk_below (g := gb130) (o := .cells #[.int .u16 t127, .int .u16 t128, .bool t129] 24 (0, 0)) (by (with_reducible repeat (first | refine blk_drewN ?_ _ | refine blk_drew ?_ | refine blk_alloc ?_ _)); exact BK130.out) hb); have n3_ := Aside0.mk (below_step (by repeat (first | (with_reducible first | exact HB.out | apply below_alloc | apply pw_below_drewN | apply below_drew1 | refine below_set ?_ GE111.out | refine below_set ?_ GE130.out) | exact HB.out)) hb); clear HO133; clear BK111; clear BK130; clear HB; have HO133 := n0_; have BK111 := n1_; have BK130 := n2_; have HB := n3_; clear n0_ n1_ n2_ n3_; (try clear hb); (try clear hb2); (try clear hk); (try clear hi); have hcz84_0 : w83.cell? ⟨gb130, 0, none⟩ = some (.int .u16 t127) := (blk_cell BK130.out 0).trans rfl; have hcz84_1 : w83.cell? ⟨gb130, 1, none⟩ = some (.int .u16 t128) := (blk_cell BK130.out 1).trans rfl; have hcz84_2 : w83.cell? ⟨gb130, 2, none⟩ = some (.bool t129) := (blk_cell BK130.out 2).trans rfl; have hfz84_0 := blk_frozen BK130.out 0; have hfz84_1 := blk_frozen BK130.out 1; have hfz84_2 := blk_frozen BK130.out 2))
                              go_meet
                              case rel => exact ⟨_, (false), (by first | rfl | (simp; done) | (simp [*]; done)), H', ⟨by have := HJ4.out; have := HK2.out; have := HJ19.out; first | omega | exact Nat.le_refl _⟩, ⟨by (with_reducible repeat (first | refine blk_drewN ?_ _ | refine blk_drew ?_ | refine blk_alloc ?_ _)); exact BK111.out⟩, ⟨by (with_reducible repeat (first | refine blk_drewN ?_ _ | refine blk_drew ?_ | refine blk_alloc ?_ _)); exact BK130.out⟩, ⟨by repeat (first | (with_reducible first | exact HB.out | apply below_alloc | apply pw_below_drewN | apply below_drew1 | refine below_set ?_ GE111.out | refine below_set ?_ GE130.out) | exact HB.out)⟩⟩
                          · rw [if_neg c64] at H
                            have c64b0 : (t127 == 0) = false := beq_eq_false_iff_ne.mpr c64
                            have c64b1 : (t127 != 0) = true := bne_iff_ne.mpr c64
                            have H' := Aside0.mk H
                            clear H
                            have hnb85 := NB130_111.out
                            have hnc85 := NB111_130.out
                            have hcz86_0 : w58.cell? ⟨gb130, 0, none⟩ = some (.int .u16 0) := (blk_cell BK130.out 0).trans rfl
                            have hcz86_1 : w58.cell? ⟨gb130, 1, none⟩ = some (.int .u16 0) := (blk_cell BK130.out 1).trans rfl
                            have hcz86_2 : w58.cell? ⟨gb130, 2, none⟩ = some (.bool false) := (blk_cell BK130.out 2).trans rfl
                            have hfz86_0 := blk_frozen BK130.out 0
                            have hfz86_1 := blk_frozen BK130.out 1
                            have hfz86_2 := blk_frozen BK130.out 2
                            go_wp2_with (first | ((with_reducible refine gate_dst (N := 73) rfl ?_); (try (refine gate_guard (by rfl) ?_; dsimp only)); refine Kd.R_lit k24 _ 24 ?hg (N := 73) ?hd (xs := ([(⟨t127, t128, t129⟩ : S24)] : List (S24))) (inner := [.int .u16 t127, .int .u16 t128, .bool t129]) (ok := fun _ => True) (okp := fun _ => True) ?hr ?hp (fun _ hk => hk) trivial (Below.refl _ _) (Nat.le_refl _) (by simp) ?_; (case hd => rfl); (case hg => rfl); (case hr => first | (go_simp; done) | (go_simp; rfl)); (case hp => exact (Reps.c3 (show Kd.M k24 _ _ _ (⟨t127, t128, t129⟩ : S24) [.int .u16 t127, .int .u16 t128, .bool t129] from (k24_mkM _ _ _ (⟨t127, t128, t129⟩ : S24) )) (Reps.none _ _))); intro v132 w87 ho88 hb hg_ hnew_; clear hg_ hnew_; (first | rw [← Ny131.out] at ho88 | (simp only [Int.reduceToNat] at ho88; rw [← Ny131.out] at ho88)); have n0_ := Aside0.mk (Kd.R_lower (Kd.R_newB (Kd.R_newB ho88 (g := gb111) (o := .cells #[.int .u16 x112000_2, .int .u16 x112001_2, .bool x112002_2] 24 (0, 0)) (by (with_reducible repeat (first | refine blk_drewN ?_ _ | refine blk_drew ?_ | refine blk_alloc ?_ _)); refine blk_far ?_ NB111_130.out _; (with_reducible repeat (first | refine blk_drewN ?_ _ | refine blk_drew ?_ | refine blk_alloc ?_ _)); refine blk_far ?_ NB111_130.out _; (with_reducible repeat (first | refine blk_drewN ?_ _ | refine blk_drew ?_ | refine blk_alloc ?_ _)); refine blk_far ?_ NB111_130.out _; (with_reducible repeat (first | refine blk_drewN ?_ _ | refine blk_drew ?_ | refine blk_alloc ?_ _)); exact BK111.out)) (g := gb130) (o := .cells #[.int .u16 t127, .int .u16 t128, .bool t129] 24 (0, 0)) (by (with_reducible repeat (first | refine blk_drewN ?_ _ | refine blk_drew ?_ | refine blk_alloc ?_ _)); refine blk_put (cs := #[.int .u16 t127, .int .u16 t128, .bool false]) ?_ 2 _ rfl; (with_reducible repeat (first | refine blk_drewN ?_ _ | refine blk_drew ?_ | refine blk_alloc ?_ _)); refine blk_put (cs := #[.int .u16 t127, .int .u16 0, .bool false]) ?_ 1 _ rfl; (with_reducible repeat (first | refine blk_drewN ?_ _ | refine blk_drew ?_ | refine blk_alloc ?_ _)); refine blk_put (cs := #[.int .u16 0, .int .u16 0, .bool false]) ?_ 0 _ rfl; (with_reducible repeat (first | refine blk_drewN ?_ _ | refine blk_drew ?_ | refine blk_alloc ?_ _)); exact BK130.out)) (below_size (by repeat (first | (with_reducible first | exact HB.out | apply below_alloc | apply pw_below_drewN | apply below_drew1 | refine below_set ?_ GE111.out | refine below_set ?_ GE130.out) | exact HB.out)))); have n1_ := Aside0.mk (blk_below (g := gb111) (o := .cells #[.int .u16 x112000_2, .int .u16 x112001_2, .bool x112002_2] 24 (0, 0)) (by (with_reducible repeat (first | refine blk_drewN ?_ _ | refine blk_drew ?_ | refine blk_alloc ?_ _)); refine blk_far ?_ NB111_130.out _; (with_reducible repeat (first | refine blk_drewN ?_ _ | refine blk_drew ?_ | refine blk_alloc ?_ _)); refine blk_far ?_ NB111_130.out _; (with_reducible repeat (first | refine blk_drewN ?_ _ | refine blk_drew ?_ | refine blk_alloc ?_ _)); refine blk_far ?_ NB111_130.out _; (with_reducible repeat (first | refine blk_drewN ?_ _ | refine blk_drew ?_ | refine blk_alloc ?_ _)); exact BK111.out) hb); have n2_ := Aside0.mk (blk_below (g := gb130) (o := .cells #[.int .u16 t127, .int .u16 t128, .bool t129] 24 (0, 0)) (by (with_reducible repeat (first | refine blk_drewN ?_ _ | refine blk_drew ?_ | refine blk_alloc ?_ _)); refine blk_put (cs := #[.int .u16 t127, .int .u16 t128, .bool false]) ?_ 2 _ rfl; (with_reducible repeat (first | refine blk_drewN ?_ _ | refine blk_drew ?_ | refine blk_alloc ?_ _)); refine blk_put (cs := #[.int .u16 t127, .int .u16 0, .bool false]) ?_ 1 _ rfl; (with_reducible repeat (first | refine blk_drewN ?_ _ | refine blk_drew ?_ | refine blk_alloc ?_ _)); refine blk_put (cs := #[.int .u16 0, .int .u16 0, .bool false]) ?_ 0 _ rfl; (with_reducible repeat (first | refine blk_drewN ?_ _ | refine blk_drew ?_ | refine blk_alloc ?_ _)); exact BK130.out) hb); have n3_ := Aside0.mk (below_step (by repeat (first | (with_reducible first | exact HB.out | apply below_alloc | apply pw_below_drewN | apply below_drew1 | refine below_set ?_ GE111.out | refine below_set ?_ GE130.out) | exact HB.out)) hb); clear BK111; clear BK130; clear HB; have HO133 := n0_; have BK111 := n1_; have BK130 := n2_; have HB := n3_; clear n0_ n1_ n2_ n3_; clear hb ho88; obtain ⟨Ao89, co89, eo89⟩ := Kd.R_slice HO133.out; subst eo89) | ((with_reducible refine gate_callee (f := 13) rfl ?_); (with_reducible refine gate_dst (N := 74) rfl ?_); (refine gate_guard (by rfl) ?_; dsimp only); refine goesL_ (some 74) rfl rfl Try.func13 (by kernel_rfl) rfl #[.int .i64 1, .int .u16 a0, .slice Ao89 y131.length co89] rfl (by (try simp only [List.map_toArray, List.map_cons, List.map_nil]); first | done | rfl | (simp only [List.length_drop, List.length_take]; rfl)) ?_; (with_reducible refine (link_Rx.calls kj19 1 a0 _ _ y131 t134 _ ?side1 ?side2 A62.out).mono ?_); (case side1 => repeat (first | exact (Kd.R_reads' HO133.out).2.2 | (with_reducible refine Kd.C_alloc ?_ _) | (with_reducible refine Kd.C_drewN ?_ _) | (with_reducible refine Kd.C_drew ?_))); (case side2 => exact (Kd.R_reads' HO133.out).2.1); rintro e w90 ⟨rfl, hb⟩; refine ⟨_, rfl, ?_⟩; have n0_ := Aside0.mk (Kd.R_below (by (with_reducible repeat (first | apply Kd.R_alloc | apply Kd.R_drewN | apply Kd.R_drew)); exact HO133.out) hb); have n1_ := Aside0.mk (blk_below (g := gb111) (o := .cells #[.int .u16 x112000_2, .int .u16 x112001_2, .bool x112002_2] 24 (0, 0)) (by (with_reducible repeat (first | refine blk_drewN ?_ _ | refine blk_drew ?_ | refine blk_alloc ?_ _)); exact BK111.out) hb); have n2_ := Aside0.mk (blk_below (g := gb130) (o := .cells #[.int .u16 t127, .int .u16 t128, .bool t129] 24 (0, 0)) (by (with_reducible repeat (first | refine blk_drewN ?_ _ | refine blk_drew ?_ | refine blk_alloc ?_ _)); exact BK130.out) hb); have n3_ := Aside0.mk (below_step (by repeat (first | (with_reducible first | exact HB.out | apply below_alloc | apply pw_below_drewN | apply below_drew1 | refine below_set ?_ GE111.out | refine below_set ?_ GE130.out) | exact HB.out)) hb); clear HO133; clear BK111; clear BK130; clear HB; have HO133 := n0_; have BK111 := n1_; have BK130 := n2_; have HB := n3_; clear n0_ n1_ n2_ n3_; (try clear hb); (try clear hb2); (try clear hk); (try clear hi); have hcz91_0 : w90.cell? ⟨gb130, 0, none⟩ = some (.int .u16 t127) := (blk_cell BK130.out 0).trans rfl; have hcz91_1 : w90.cell? ⟨gb130, 1, none⟩ = some (.int .u16 t128) := (blk_cell BK130.out 1).trans rfl; have hcz91_2 : w90.cell? ⟨gb130, 2, none⟩ = some (.bool t129) := (blk_cell BK130.out 2).trans rfl; have hfz91_0 := blk_frozen BK130.out 0; have hfz91_1 := blk_frozen BK130.out 1; have hfz91_2 := blk_frozen BK130.out 2))
                            go_meet
                            case rel => exact ⟨_, (true), (by first | rfl | (simp; done) | (simp [*]; done)), H', ⟨by have := HJ4.out; have := HK2.out; have := HJ19.out; first | omega | exact Nat.le_refl _⟩, ⟨by (with_reducible repeat (first | refine blk_drewN ?_ _ | refine blk_drew ?_ | refine blk_alloc ?_ _)); exact BK111.out⟩, ⟨by (with_reducible repeat (first | refine blk_drewN ?_ _ | refine blk_drew ?_ | refine blk_alloc ?_ _)); exact BK130.out⟩, ⟨by repeat (first | (with_reducible first | exact HB.out | apply below_alloc | apply pw_below_drewN | apply below_drew1 | refine below_set ?_ GE111.out | refine below_set ?_ GE130.out) | exact HB.out)⟩⟩
                        · rw [if_neg c63] at H
                          have c63b0 : (t134 == 65535) = false := beq_eq_false_iff_ne.mpr c63
                          have c63b1 : (t134 != 65535) = true := bne_iff_ne.mpr c63
                          have H' := Aside0.mk H
                          clear H
                          have hnb92 := NB130_111.out
                          have hnc92 := NB111_130.out
                          have hcz93_0 : w58.cell? ⟨gb130, 0, none⟩ = some (.int .u16 0) := (blk_cell BK130.out 0).trans rfl
                          have hcz93_1 : w58.cell? ⟨gb130, 1, none⟩ = some (.int .u16 0) := (blk_cell BK130.out 1).trans rfl
                          have hcz93_2 : w58.cell? ⟨gb130, 2, none⟩ = some (.bool false) := (blk_cell BK130.out 2).trans rfl
                          have hfz93_0 := blk_frozen BK130.out 0
                          have hfz93_1 := blk_frozen BK130.out 1
                          have hfz93_2 := blk_frozen BK130.out 2
                          go_wp2_with (first | ((with_reducible refine gate_dst (N := 73) rfl ?_); (try (refine gate_guard (by rfl) ?_; dsimp only)); refine Kd.R_lit k24 _ 24 ?hg (N := 73) ?hd (xs := ([(⟨t127, t128, t129⟩ : S24)] : List (S24))) (inner := [.int .u16 t127, .int .u16 t128, .bool t129]) (ok := fun _ => True) (okp := fun _ => True) ?hr ?hp (fun _ hk => hk) trivial (Below.refl _ _) (Nat.le_refl _) (by simp) ?_; (case hd => rfl); (case hg => rfl); (case hr => first | (go_simp; done) | (go_simp; rfl)); (case hp => exact (Reps.c3 (show Kd.M k24 _ _ _ (⟨t127, t128, t129⟩ : S24) [.int .u16 t127, .int .u16 t128, .bool t129] from (k24_mkM _ _ _ (⟨t127, t128, t129⟩ : S24) )) (Reps.none _ _))); intro v132 w94 ho95 hb hg_ hnew_; clear hg_ hnew_; (first | rw [← Ny131.out] at ho95 | (simp only [Int.reduceToNat] at ho95; rw [← Ny131.out] at ho95)); have n0_ := Aside0.mk (Kd.R_lower (Kd.R_newB (Kd.R_newB ho95 (g := gb111) (o := .cells #[.int .u16 x112000_2, .int .u16 x112001_2, .bool x112002_2] 24 (0, 0)) (by (with_reducible repeat (first | refine blk_drewN ?_ _ | refine blk_drew ?_ | refine blk_alloc ?_ _)); refine blk_far ?_ NB111_130.out _; (with_reducible repeat (first | refine blk_drewN ?_ _ | refine blk_drew ?_ | refine blk_alloc ?_ _)); refine blk_far ?_ NB111_130.out _; (with_reducible repeat (first | refine blk_drewN ?_ _ | refine blk_drew ?_ | refine blk_alloc ?_ _)); refine blk_far ?_ NB111_130.out _; (with_reducible repeat (first | refine blk_drewN ?_ _ | refine blk_drew ?_ | refine blk_alloc ?_ _)); exact BK111.out)) (g := gb130) (o := .cells #[.int .u16 t127, .int .u16 t128, .bool t129] 24 (0, 0)) (by (with_reducible repeat (first | refine blk_drewN ?_ _ | refine blk_drew ?_ | refine blk_alloc ?_ _)); refine blk_put (cs := #[.int .u16 t127, .int .u16 t128, .bool false]) ?_ 2 _ rfl; (with_reducible repeat (first | refine blk_drewN ?_ _ | refine blk_drew ?_ | refine blk_alloc ?_ _)); refine blk_put (cs := #[.int .u16 t127, .int .u16 0, .bool false]) ?_ 1 _ rfl; (with_reducible repeat (first | refine blk_drewN ?_ _ | refine blk_drew ?_ | refine blk_alloc ?_ _)); refine blk_put (cs := #[.int .u16 0, .int .u16 0, .bool false]) ?_ 0 _ rfl; (with_reducible repeat (first | refine blk_drewN ?_ _ | refine blk_drew ?_ | refine blk_alloc ?_ _)); exact BK130.out)) (below_size (by repeat (first | (with_reducible first | exact HB.out | apply below_alloc | apply pw_below_drewN | apply below_drew1 | refine below_set ?_ GE111.out | refine below_set ?_ GE130.out) | exact HB.out)))); have n1_ := Aside0.mk (blk_below (g := gb111) (o := .cells #[.int .u16 x112000_2, .int .u16 x112001_2, .bool x112002_2] 24 (0, 0)) (by (with_reducible repeat (first | refine blk_drewN ?_ _ | refine blk_drew ?_ | refine blk_alloc ?_ _)); refine blk_far ?_ NB111_130.out _; (with_reducible repeat (first | refine blk_drewN ?_ _ | refine blk_drew ?_ | refine blk_alloc ?_ _)); refine blk_far ?_ NB111_130.out _; (with_reducible repeat (first | refine blk_drewN ?_ _ | refine blk_drew ?_ | refine blk_alloc ?_ _)); refine blk_far ?_ NB111_130.out _; (with_reducible repeat (first | refine blk_drewN ?_ _ | refine blk_drew ?_ | refine blk_alloc ?_ _)); exact BK111.out) hb); have n2_ := Aside0.mk (blk_below (g := gb130) (o := .cells #[.int .u16 t127, .int .u16 t128, .bool t129] 24 (0, 0)) (by (with_reducible repeat (first | refine blk_drewN ?_ _ | refine blk_drew ?_ | refine blk_alloc ?_ _)); refine blk_put (cs := #[.int .u16 t127, .int .u16 t128, .bool false]) ?_ 2 _ rfl; (with_reducible repeat (first | refine blk_drewN ?_ _ | refine blk_drew ?_ | refine blk_alloc ?_ _)); refine blk_put (cs := #[.int .u16 t127, .int .u16 0, .bool false]) ?_ 1 _ rfl; (with_reducible repeat (first | refine blk_drewN ?_ _ | refine blk_drew ?_ | refine blk_alloc ?_ _)); refine blk_put (cs := #[.int .u16 0, .int .u16 0, .bool false]) ?_ 0 _ rfl; (with_reducible repeat (first | refine blk_drewN ?_ _ | refine blk_drew ?_ | refine blk_alloc ?_ _)); exact BK130.out) hb); have n3_ := Aside0.mk (below_step (by repeat (first | (with_reducible first | exact HB.out | apply below_alloc | apply pw_below_drewN | apply below_drew1 | refine below_set ?_ GE111.out | refine below_set ?_ GE130.out) | exact HB.out)) hb); clear BK111; clear BK130; clear HB; have HO133 := n0_; have BK111 := n1_; have BK130 := n2_; have HB := n3_; clear n0_ n1_ n2_ n3_; clear hb ho95; obtain ⟨Ao96, co96, eo96⟩ := Kd.R_slice HO133.out; subst eo96) | ((with_reducible refine gate_callee (f := 13) rfl ?_); (with_reducible refine gate_dst (N := 74) rfl ?_); (refine gate_guard (by rfl) ?_; dsimp only); refine goesL_ (some 74) rfl rfl Try.func13 (by kernel_rfl) rfl #[.int .i64 1, .int .u16 a0, .slice Ao96 y131.length co96] rfl (by (try simp only [List.map_toArray, List.map_cons, List.map_nil]); first | done | rfl | (simp only [List.length_drop, List.length_take]; rfl)) ?_; (with_reducible refine (link_Rx.calls kj19 1 a0 _ _ y131 t134 _ ?side1 ?side2 A62.out).mono ?_); (case side1 => repeat (first | exact (Kd.R_reads' HO133.out).2.2 | (with_reducible refine Kd.C_alloc ?_ _) | (with_reducible refine Kd.C_drewN ?_ _) | (with_reducible refine Kd.C_drew ?_))); (case side2 => exact (Kd.R_reads' HO133.out).2.1); rintro e w97 ⟨rfl, hb⟩; refine ⟨_, rfl, ?_⟩; have n0_ := Aside0.mk (Kd.R_below (by (with_reducible repeat (first | apply Kd.R_alloc | apply Kd.R_drewN | apply Kd.R_drew)); exact HO133.out) hb); have n1_ := Aside0.mk (blk_below (g := gb111) (o := .cells #[.int .u16 x112000_2, .int .u16 x112001_2, .bool x112002_2] 24 (0, 0)) (by (with_reducible repeat (first | refine blk_drewN ?_ _ | refine blk_drew ?_ | refine blk_alloc ?_ _)); exact BK111.out) hb); have n2_ := Aside0.mk (blk_below (g := gb130) (o := .cells #[.int .u16 t127, .int .u16 t128, .bool t129] 24 (0, 0)) (by (with_reducible repeat (first | refine blk_drewN ?_ _ | refine blk_drew ?_ | refine blk_alloc ?_ _)); exact BK130.out) hb); have n3_ := Aside0.mk (below_step (by repeat (first | (with_reducible first | exact HB.out | apply below_alloc | apply pw_below_drewN | apply below_drew1 | refine below_set ?_ GE111.out | refine below_set ?_ GE130.out) | exact HB.out)) hb); clear HO133; clear BK111; clear BK130; clear HB; have HO133 := n0_; have BK111 := n1_; have BK130 := n2_; have HB := n3_; clear n0_ n1_ n2_ n3_; (try clear hb); (try clear hb2); (try clear hk); (try clear hi)))
                          go_meet
                          case rel => exact ⟨_, (true), (by first | rfl | (simp; done) | (simp [*]; done)), H', ⟨by have := HJ4.out; have := HK2.out; have := HJ19.out; first | omega | exact Nat.le_refl _⟩, ⟨by (with_reducible repeat (first | refine blk_drewN ?_ _ | refine blk_drew ?_ | refine blk_alloc ?_ _)); exact BK111.out⟩, ⟨by (with_reducible repeat (first | refine blk_drewN ?_ _ | refine blk_drew ?_ | refine blk_alloc ?_ _)); exact BK130.out⟩, ⟨by repeat (first | (with_reducible first | exact HB.out | apply below_alloc | apply pw_below_drewN | apply below_drew1 | refine below_set ?_ GE111.out | refine below_set ?_ GE130.out) | exact HB.out)⟩⟩
                      · rw [if_neg c61] at H
                        have c61b0 : decide (16 ≤ a3) = false := decide_eq_false c61
                        clear c61
                        (first | rw [c61b0] | (simp only [i64_w, i32_w]; rw [c61b0]) | skip)
                        by_cases c98 : a3 ≥ 2
                        · rw [if_pos c98] at H
                          have c98b0 : decide (2 ≤ a3) = true := decide_eq_true c98
                          clear c98
                          obtain ⟨y139, hy139⟩ : ∃ y_ : List (S24), y_ = (([(⟨t127, t128, t129⟩ : S24)] : List (S24))) := ⟨_, rfl⟩
                          replace H : ((link_Rx.f kj19 0 a0 y139).bind fun t142 => (culvertlaw11_LinkAll.j3 kj19 a0 a1 a2 a3 (t142 != 65535) t127 t128 t129)) = some r := by first | (rw [hy139]; with_reducible exact H) | (have H2_ := (Option.bind_some _ _).symm.trans H; rw [hy139]; with_reducible exact H2_) | (have H2_ := (Option.bind_some _ _).symm.trans H; with_reducible exact H2_) | with_reducible exact H | (rw [hy139]; exact H) | exact H
                          have Ny139 := Aside0.mk hy139
                          clear hy139
                          replace H := Option.bind_eq_some_iff.mp H
                          obtain ⟨t142, A990, H⟩ := H
                          replace H : (culvertlaw11_LinkAll.j3 kj19 a0 a1 a2 a3 (t142 != 65535) t127 t128 t129) = some r := H
                          have A99 := Aside0.mk A990
                          clear A990
                          have H' := Aside0.mk H
                          clear H
                          have hnb100 := NB130_111.out
                          have hnc100 := NB111_130.out
                          have hcz101_0 : w58.cell? ⟨gb130, 0, none⟩ = some (.int .u16 0) := (blk_cell BK130.out 0).trans rfl
                          have hcz101_1 : w58.cell? ⟨gb130, 1, none⟩ = some (.int .u16 0) := (blk_cell BK130.out 1).trans rfl
                          have hcz101_2 : w58.cell? ⟨gb130, 2, none⟩ = some (.bool false) := (blk_cell BK130.out 2).trans rfl
                          have hfz101_0 := blk_frozen BK130.out 0
                          have hfz101_1 := blk_frozen BK130.out 1
                          have hfz101_2 := blk_frozen BK130.out 2
                          go_wp2_with (first | ((with_reducible refine gate_dst (N := 88) rfl ?_); (try (refine gate_guard (by rfl) ?_; dsimp only)); refine Kd.R_lit k24 _ 24 ?hg (N := 88) ?hd (xs := ([(⟨t127, t128, t129⟩ : S24)] : List (S24))) (inner := [.int .u16 t127, .int .u16 t128, .bool t129]) (ok := fun _ => True) (okp := fun _ => True) ?hr ?hp (fun _ hk => hk) trivial (Below.refl _ _) (Nat.le_refl _) (by simp) ?_; (case hd => rfl); (case hg => rfl); (case hr => first | (go_simp; done) | (go_simp; rfl)); (case hp => exact (Reps.c3 (show Kd.M k24 _ _ _ (⟨t127, t128, t129⟩ : S24) [.int .u16 t127, .int .u16 t128, .bool t129] from (k24_mkM _ _ _ (⟨t127, t128, t129⟩ : S24) )) (Reps.none _ _))); intro v140 w102 ho103 hb hg_ hnew_; clear hg_ hnew_; (first | rw [← Ny139.out] at ho103 | (simp only [Int.reduceToNat] at ho103; rw [← Ny139.out] at ho103)); have n0_ := Aside0.mk (Kd.R_lower (Kd.R_newB (Kd.R_newB ho103 (g := gb111) (o := .cells #[.int .u16 x112000_2, .int .u16 x112001_2, .bool x112002_2] 24 (0, 0)) (by (with_reducible repeat (first | refine blk_drewN ?_ _ | refine blk_drew ?_ | refine blk_alloc ?_ _)); refine blk_far ?_ NB111_130.out _; (with_reducible repeat (first | refine blk_drewN ?_ _ | refine blk_drew ?_ | refine blk_alloc ?_ _)); refine blk_far ?_ NB111_130.out _; (with_reducible repeat (first | refine blk_drewN ?_ _ | refine blk_drew ?_ | refine blk_alloc ?_ _)); refine blk_far ?_ NB111_130.out _; (with_reducible repeat (first | refine blk_drewN ?_ _ | refine blk_drew ?_ | refine blk_alloc ?_ _)); exact BK111.out)) (g := gb130) (o := .cells #[.int .u16 t127, .int .u16 t128, .bool t129] 24 (0, 0)) (by (with_reducible repeat (first | refine blk_drewN ?_ _ | refine blk_drew ?_ | refine blk_alloc ?_ _)); refine blk_put (cs := #[.int .u16 t127, .int .u16 t128, .bool false]) ?_ 2 _ rfl; (with_reducible repeat (first | refine blk_drewN ?_ _ | refine blk_drew ?_ | refine blk_alloc ?_ _)); refine blk_put (cs := #[.int .u16 t127, .int .u16 0, .bool false]) ?_ 1 _ rfl; (with_reducible repeat (first | refine blk_drewN ?_ _ | refine blk_drew ?_ | refine blk_alloc ?_ _)); refine blk_put (cs := #[.int .u16 0, .int .u16 0, .bool false]) ?_ 0 _ rfl; (with_reducible repeat (first | refine blk_drewN ?_ _ | refine blk_drew ?_ | refine blk_alloc ?_ _)); exact BK130.out)) (below_size (by repeat (first | (with_reducible first | exact HB.out | apply below_alloc | apply pw_below_drewN | apply below_drew1 | refine below_set ?_ GE111.out | refine below_set ?_ GE130.out) | exact HB.out)))); have n1_ := Aside0.mk (blk_below (g := gb111) (o := .cells #[.int .u16 x112000_2, .int .u16 x112001_2, .bool x112002_2] 24 (0, 0)) (by (with_reducible repeat (first | refine blk_drewN ?_ _ | refine blk_drew ?_ | refine blk_alloc ?_ _)); refine blk_far ?_ NB111_130.out _; (with_reducible repeat (first | refine blk_drewN ?_ _ | refine blk_drew ?_ | refine blk_alloc ?_ _)); refine blk_far ?_ NB111_130.out _; (with_reducible repeat (first | refine blk_drewN ?_ _ | refine blk_drew ?_ | refine blk_alloc ?_ _)); refine blk_far ?_ NB111_130.out _; (with_reducible repeat (first | refine blk_drewN ?_ _ | refine blk_drew ?_ | refine blk_alloc ?_ _)); exact BK111.out) hb); have n2_ := Aside0.mk (blk_below (g := gb130) (o := .cells #[.int .u16 t127, .int .u16 t128, .bool t129] 24 (0, 0)) (by (with_reducible repeat (first | refine blk_drewN ?_ _ | refine blk_drew ?_ | refine blk_alloc ?_ _)); refine blk_put (cs := #[.int .u16 t127, .int .u16 t128, .bool false]) ?_ 2 _ rfl; (with_reducible repeat (first | refine blk_drewN ?_ _ | refine blk_drew ?_ | refine blk_alloc ?_ _)); refine blk_put (cs := #[.int .u16 t127, .int .u16 0, .bool false]) ?_ 1 _ rfl; (with_reducible repeat (first | refine blk_drewN ?_ _ | refine blk_drew ?_ | refine blk_alloc ?_ _)); refine blk_put (cs := #[.int .u16 0, .int .u16 0, .bool false]) ?_ 0 _ rfl; (with_reducible repeat (first | refine blk_drewN ?_ _ | refine blk_drew ?_ | refine blk_alloc ?_ _)); exact BK130.out) hb); have n3_ := Aside0.mk (below_step (by repeat (first | (with_reducible first | exact HB.out | apply below_alloc | apply pw_below_drewN | apply below_drew1 | refine below_set ?_ GE111.out | refine below_set ?_ GE130.out) | exact HB.out)) hb); clear BK111; clear BK130; clear HB; have HO141 := n0_; have BK111 := n1_; have BK130 := n2_; have HB := n3_; clear n0_ n1_ n2_ n3_; clear hb ho103; obtain ⟨Ao104, co104, eo104⟩ := Kd.R_slice HO141.out; subst eo104) | ((with_reducible refine gate_callee (f := 13) rfl ?_); (with_reducible refine gate_dst (N := 89) rfl ?_); (refine gate_guard (by rfl) ?_; dsimp only); refine goesL_ (some 89) rfl rfl Try.func13 (by kernel_rfl) rfl #[.int .i64 0, .int .u16 a0, .slice Ao104 y139.length co104] rfl (by (try simp only [List.map_toArray, List.map_cons, List.map_nil]); first | done | rfl | (simp only [List.length_drop, List.length_take]; rfl)) ?_; (with_reducible refine (link_Rx.calls kj19 0 a0 _ _ y139 t142 _ ?side1 ?side2 A99.out).mono ?_); (case side1 => repeat (first | exact (Kd.R_reads' HO141.out).2.2 | (with_reducible refine Kd.C_alloc ?_ _) | (with_reducible refine Kd.C_drewN ?_ _) | (with_reducible refine Kd.C_drew ?_))); (case side2 => exact (Kd.R_reads' HO141.out).2.1); rintro e w105 ⟨rfl, hb⟩; refine ⟨_, rfl, ?_⟩; have n0_ := Aside0.mk (Kd.R_below (by (with_reducible repeat (first | apply Kd.R_alloc | apply Kd.R_drewN | apply Kd.R_drew)); exact HO141.out) hb); have n1_ := Aside0.mk (blk_below (g := gb111) (o := .cells #[.int .u16 x112000_2, .int .u16 x112001_2, .bool x112002_2] 24 (0, 0)) (by (with_reducible repeat (first | refine blk_drewN ?_ _ | refine blk_drew ?_ | refine blk_alloc ?_ _)); exact BK111.out) hb); have n2_ := Aside0.mk (blk_below (g := gb130) (o := .cells #[.int .u16 t127, .int .u16 t128, .bool t129] 24 (0, 0)) (by (with_reducible repeat (first | refine blk_drewN ?_ _ | refine blk_drew ?_ | refine blk_alloc ?_ _)); exact BK130.out) hb); have n3_ := Aside0.mk (below_step (by repeat (first | (with_reducible first | exact HB.out | apply below_alloc | apply pw_below_drewN | apply below_drew1 | refine below_set ?_ GE111.out | refine below_set ?_ GE130.out) | exact HB.out)) hb); clear HO141; clear BK111; clear BK130; clear HB; have HO141 := n0_; have BK111 := n1_; have BK130 := n2_; have HB := n3_; clear n0_ n1_ n2_ n3_; (try clear hb); (try clear hb2); (try clear hk); (try clear hi)))
                          go_meet
                          case rel => exact ⟨_, ((t142 != 65535)), (by first | rfl | (simp; done) | (simp [*]; done)), H', ⟨by have := HJ4.out; have := HK2.out; have := HJ19.out; first | omega | exact Nat.le_refl _⟩, ⟨by (with_reducible repeat (first | refine blk_drewN ?_ _ | refine blk_drew ?_ | refine blk_alloc ?_ _)); exact BK111.out⟩, ⟨by (with_reducible repeat (first | refine blk_drewN ?_ _ | refine blk_drew ?_ | refine blk_alloc ?_ _)); exact BK130.out⟩, ⟨by repeat (first | (with_reducible first | exact HB.out | apply below_alloc | apply pw_below_drewN | apply below_drew1 | refine below_set ?_ GE111.out | refine below_set ?_ GE130.out) | exact HB.out)⟩⟩
                        · rw [if_neg c98] at H
                          have c98b0 : decide (2 ≤ a3) = false := decide_eq_false c98
                          clear c98
                          have H' := Aside0.mk H
                          clear H
                          go_wp2
                          go_meet
                          case rel => exact ⟨_, (false), (by first | rfl | (simp; done) | (simp [*]; done)), H', ⟨by have := HJ4.out; have := HK2.out; have := HJ19.out; first | omega | exact Nat.le_refl _⟩, ⟨by (with_reducible repeat (first | refine blk_drewN ?_ _ | refine blk_drew ?_ | refine blk_alloc ?_ _)); refine blk_far ?_ NB111_130.out _; (with_reducible repeat (first | refine blk_drewN ?_ _ | refine blk_drew ?_ | refine blk_alloc ?_ _)); refine blk_far ?_ NB111_130.out _; (with_reducible repeat (first | refine blk_drewN ?_ _ | refine blk_drew ?_ | refine blk_alloc ?_ _)); refine blk_far ?_ NB111_130.out _; (with_reducible repeat (first | refine blk_drewN ?_ _ | refine blk_drew ?_ | refine blk_alloc ?_ _)); exact BK111.out⟩, ⟨by (with_reducible repeat (first | refine blk_drewN ?_ _ | refine blk_drew ?_ | refine blk_alloc ?_ _)); refine blk_put (cs := #[.int .u16 t127, .int .u16 t128, .bool false]) ?_ 2 _ rfl; (with_reducible repeat (first | refine blk_drewN ?_ _ | refine blk_drew ?_ | refine blk_alloc ?_ _)); refine blk_put (cs := #[.int .u16 t127, .int .u16 0, .bool false]) ?_ 1 _ rfl; (with_reducible repeat (first | refine blk_drewN ?_ _ | refine blk_drew ?_ | refine blk_alloc ?_ _)); refine blk_put (cs := #[.int .u16 0, .int .u16 0, .bool false]) ?_ 0 _ rfl; (with_reducible repeat (first | refine blk_drewN ?_ _ | refine blk_drew ?_ | refine blk_alloc ?_ _)); exact BK130.out⟩, ⟨by repeat (first | (with_reducible first | exact HB.out | apply below_alloc | apply pw_below_drewN | apply below_drew1 | refine below_set ?_ GE111.out | refine below_set ?_ GE130.out) | exact HB.out)⟩⟩
                    case rest =>
                      clear HC55
                      try clear c1
                      try clear c2
                      try clear p2
                      try clear c3
                      try clear c4
                      try clear c5
                      try clear c6
                      try clear c6b0
                      try clear p6
                      try clear c7
                      try clear c7b0
                      try clear c8
                      try clear c8b0
                      try clear c9
                      try clear c9b0
                      try clear c10
                      try clear c11
                      try clear c13
                      try clear c15
                      try clear c15b0
                      try clear c21
                      try clear c21b0
                      try clear c23
                      try clear c23b0
                      try clear c23b1
                      try clear c24
                      try clear c24b0
                      try clear c46
                      try clear c46b0
                      try clear c53
                      try clear c59
                      try clear c61
                      try clear c61b0
                      try clear c63
                      try clear c63b0
                      try clear c63b1
                      try clear c64
                      try clear c64b0
                      try clear c64b1
                      try clear p64
                      try clear c65
                      try clear c65b0
                      try clear c67
                      try clear c78
                      try clear c85
                      try clear c92
                      try clear c98
                      try clear c98b0
                      try clear c100
                      try clear hcz101_0
                      try clear hcz101_1
                      try clear hcz101_2
                      try clear hcz14_0
                      try clear hcz14_1
                      try clear hcz14_2
                      try clear hcz17_0
                      try clear hcz17_1
                      try clear hcz17_2
                      try clear hcz19_0
                      try clear hcz19_1
                      try clear hcz19_2
                      try clear hcz26_0
                      try clear hcz26_1
                      try clear hcz26_2
                      try clear hcz31_0
                      try clear hcz31_1
                      try clear hcz31_2
                      try clear hcz36_0
                      try clear hcz36_1
                      try clear hcz36_2
                      try clear hcz41_0
                      try clear hcz41_1
                      try clear hcz41_2
                      try clear hcz48_0
                      try clear hcz48_1
                      try clear hcz48_2
                      try clear hcz56_0
                      try clear hcz56_1
                      try clear hcz56_2
                      try clear hcz60_0
                      try clear hcz60_1
                      try clear hcz60_2
                      try clear hcz68_0
                      try clear hcz68_1
                      try clear hcz68_2
                      try clear hcz73_0
                      try clear hcz73_1
                      try clear hcz73_2
                      try clear hcz79_0
                      try clear hcz79_1
                      try clear hcz79_2
                      try clear hcz84_0
                      try clear hcz84_1
                      try clear hcz84_2
                      try clear hcz86_0
                      try clear hcz86_1
                      try clear hcz86_2
                      try clear hcz91_0
                      try clear hcz91_1
                      try clear hcz91_2
                      try clear hcz93_0
                      try clear hcz93_1
                      try clear hcz93_2
                      try clear hfz101_0
                      try clear hfz101_1
                      try clear hfz101_2
                      try clear hfz14_0
                      try clear hfz14_1
                      try clear hfz14_2
                      try clear hfz17_0
                      try clear hfz17_1
                      try clear hfz17_2
                      try clear hfz19_0
                      try clear hfz19_1
                      try clear hfz19_2
                      try clear hfz26_0
                      try clear hfz26_1
                      try clear hfz26_2
                      try clear hfz31_0
                      try clear hfz31_1
                      try clear hfz31_2
                      try clear hfz36_0
                      try clear hfz36_1
                      try clear hfz36_2
                      try clear hfz41_0
                      try clear hfz41_1
                      try clear hfz41_2
                      try clear hfz48_0
                      try clear hfz48_1
                      try clear hfz48_2
                      try clear hfz56_0
                      try clear hfz56_1
                      try clear hfz56_2
                      try clear hfz60_0
                      try clear hfz60_1
                      try clear hfz60_2
                      try clear hfz68_0
                      try clear hfz68_1
                      try clear hfz68_2
                      try clear hfz73_0
                      try clear hfz73_1
                      try clear hfz73_2
                      try clear hfz79_0
                      try clear hfz79_1
                      try clear hfz79_2
                      try clear hfz84_0
                      try clear hfz84_1
                      try clear hfz84_2
                      try clear hfz86_0
                      try clear hfz86_1
                      try clear hfz86_2
                      try clear hfz91_0
                      try clear hfz91_1
                      try clear hfz91_2
                      try clear hfz93_0
                      try clear hfz93_1
                      try clear hfz93_2
                      try clear p2
                      try clear p6
                      obtain ⟨kq, x92_54, rfl, HA, HJ54, BK111, BK130, HB⟩ := hcut
                      cases kq with
                      | zero => exact absurd HA.out (by simp [culvertlaw11_LinkAll.j3])
                      | succ kj54 =>
                        have H := HA.out
                        clear HA
                        simp only [culvertlaw11_LinkAll.j3] at H
                        by_cases c106 : x92_54 = true
                        · subst c106
                          have H1 : (some false) = some r := by rw [if_pos rfl] at H; exact H
                          clear H
                          have H := H1
                          clear H1
                          obtain rfl := Option.some.inj H
                          go_wp2
                          go_ret
                          exact ⟨by first | rfl | (simp [errW_none, errW_some] <;> rfl) | (simp [*, errW_none, errW_some] <;> rfl), by repeat (first | (with_reducible first | exact HB.out | apply below_alloc | apply pw_below_drewN | apply below_drew1 | refine below_set ?_ GE111.out | refine below_set ?_ GE130.out) | exact HB.out)⟩
                        · replace c106 := Bool.eq_false_iff.mpr c106
                          subst c106
                          have H1 : ((link_Rx.f kj54 0 a0 ([] : List (S24))).bind fun t143 => (if t143 = 65535 then (if a2 = 0 then ((culvertlaw11_live.f).bind fun t144 => (some t144)) else (if t128 = (IntKind.u16.wrap (a1 + (IntKind.u16.wrap (wrap64 (a2 + a3))))) then ((culvertlaw11_live.f).bind fun t145 => (some t145)) else (some false))) else (some false))) = some r := by rw [if_neg (show ¬ (false = true) by decide)] at H; exact H
                          clear H
                          have H := H1
                          clear H1
                          replace H := Option.bind_eq_some_iff.mp H
                          obtain ⟨t143, A1070, H⟩ := H
                          replace H : (if t143 = 65535 then (if a2 = 0 then ((culvertlaw11_live.f).bind fun t144 => (some t144)) else (if t128 = (IntKind.u16.wrap (a1 + (IntKind.u16.wrap (wrap64 (a2 + a3))))) then ((culvertlaw11_live.f).bind fun t145 => (some t145)) else (some false))) else (some false)) = some r := H
                          have A107 := Aside0.mk A1070
                          clear A1070
                          by_cases c108 : t143 = 65535
                          · rw [if_pos c108] at H
                            have c108b0 : (t143 == 65535) = true := beq_iff_eq.mpr c108
                            have c108b1 : (t143 != 65535) = false := bne_eq_false_iff_eq.mpr c108
                            clear c108
                            by_cases c109 : a2 = 0
                            · rw [if_pos c109] at H
                              have c109b0 : (a2 == 0) = true := beq_iff_eq.mpr c109
                              have c109b1 : (a2 != 0) = false := bne_eq_false_iff_eq.mpr c109
                              clear c109
                              replace H := Option.bind_eq_some_iff.mp H
                              obtain ⟨t144, A1100, H⟩ := H
                              replace H : (some t144) = some r := H
                              have A110 := Aside0.mk A1100
                              clear A1100
                              obtain rfl := Option.some.inj H
                              go_wp2_with (first | ((with_reducible refine gate_callee (f := 13) rfl ?_); refine goesL_ (some 94) rfl rfl Try.func13 (by kernel_rfl) rfl #[.int .i64 0, .int .u16 a0, .slice none 0 0] rfl (by (try simp only [List.map_toArray, List.map_cons, List.map_nil]); first | done | rfl | (simp only [List.length_drop, List.length_take]; rfl)) ?_; (refine (link_Rx.calls kj54 0 a0 _ _ ([] : List (S24)) t143 _ ?side1 ?side2 A107.out).mono ?_); (case side1 => exact Kd.C_nil _ _); (case side2 => exact Nat.le_refl _); rintro e w111 ⟨rfl, hb⟩; refine ⟨_, rfl, ?_⟩; have n0_ := Aside0.mk (blk_below (g := gb111) (o := .cells #[.int .u16 x112000_2, .int .u16 x112001_2, .bool x112002_2] 24 (0, 0)) (by (with_reducible repeat (first | refine blk_drewN ?_ _ | refine blk_drew ?_ | refine blk_alloc ?_ _)); exact BK111.out) hb); have n1_ := Aside0.mk (blk_below (g := gb130) (o := .cells #[.int .u16 t127, .int .u16 t128, .bool t129] 24 (0, 0)) (by (with_reducible repeat (first | refine blk_drewN ?_ _ | refine blk_drew ?_ | refine blk_alloc ?_ _)); exact BK130.out) hb); have n2_ := Aside0.mk (below_step (by repeat (first | (with_reducible first | exact HB.out | apply below_alloc | apply pw_below_drewN | apply below_drew1 | refine below_set ?_ GE111.out | refine below_set ?_ GE130.out) | exact HB.out)) hb); clear BK111; clear BK130; clear HB; have BK111 := n0_; have BK130 := n1_; have HB := n2_; clear n0_ n1_ n2_; (try clear hb); (try clear hb2); (try clear hk); (try clear hi)) | ((with_reducible refine gate_callee (f := 8) rfl ?_); (with_reducible refine gate_dst (N := 112) rfl ?_); (refine gate_guard (by rfl) ?_; dsimp only); refine goesL_ (some 112) rfl rfl Try.func8 (by kernel_rfl) rfl #[] rfl (by (try simp only [List.map_toArray, List.map_cons, List.map_nil]); first | done | rfl | (simp only [List.length_drop, List.length_take]; rfl)) ?_; (with_reducible refine (culvertlaw11_live.calls  t144 _ A110.out).mono ?_); rintro e w112 ⟨rfl, hb⟩; refine ⟨_, rfl, ?_⟩; have n0_ := Aside0.mk (blk_below (g := gb111) (o := .cells #[.int .u16 x112000_2, .int .u16 x112001_2, .bool x112002_2] 24 (0, 0)) (by (with_reducible repeat (first | refine blk_drewN ?_ _ | refine blk_drew ?_ | refine blk_alloc ?_ _)); exact BK111.out) hb); have n1_ := Aside0.mk (blk_below (g := gb130) (o := .cells #[.int .u16 t127, .int .u16 t128, .bool t129] 24 (0, 0)) (by (with_reducible repeat (first | refine blk_drewN ?_ _ | refine blk_drew ?_ | refine blk_alloc ?_ _)); exact BK130.out) hb); have n2_ := Aside0.mk (below_step (by repeat (first | (with_reducible first | exact HB.out | apply below_alloc | apply pw_below_drewN | apply below_drew1 | refine below_set ?_ GE111.out | refine below_set ?_ GE130.out) | exact HB.out)) hb); clear BK111; clear BK130; clear HB; have BK111 := n0_; have BK130 := n1_; have HB := n2_; clear n0_ n1_ n2_; (try clear hb); (try clear hb2); (try clear hk); (try clear hi)))
                              go_ret
                              exact ⟨by first | rfl | (simp [errW_none, errW_some] <;> rfl) | (simp [*, errW_none, errW_some] <;> rfl), by repeat (first | (with_reducible first | exact HB.out | apply below_alloc | apply pw_below_drewN | apply below_drew1 | refine below_set ?_ GE111.out | refine below_set ?_ GE130.out) | exact HB.out)⟩
                            · rw [if_neg c109] at H
                              have c109b0 : (a2 == 0) = false := beq_eq_false_iff_ne.mpr c109
                              have c109b1 : (a2 != 0) = true := bne_iff_ne.mpr c109
                              by_cases c113 : t128 = (IntKind.u16.wrap (a1 + (IntKind.u16.wrap (wrap64 (a2 + a3)))))
                              · rw [if_pos c113] at H
                                have c113b0 : (t128 == (IntKind.u16.wrap (a1 + (IntKind.u16.wrap (wrap64 (a2 + a3)))))) = true := beq_iff_eq.mpr c113
                                have c113b1 : (t128 != (IntKind.u16.wrap (a1 + (IntKind.u16.wrap (wrap64 (a2 + a3)))))) = false := bne_eq_false_iff_eq.mpr c113
                                clear c113
                                replace H := Option.bind_eq_some_iff.mp H
                                obtain ⟨t145, A1140, H⟩ := H
                                replace H : (some t145) = some r := H
                                have A114 := Aside0.mk A1140
                                clear A1140
                                obtain rfl := Option.some.inj H
                                go_wp2_with (first | ((with_reducible refine gate_callee (f := 13) rfl ?_); refine goesL_ (some 94) rfl rfl Try.func13 (by kernel_rfl) rfl #[.int .i64 0, .int .u16 a0, .slice none 0 0] rfl (by (try simp only [List.map_toArray, List.map_cons, List.map_nil]); first | done | rfl | (simp only [List.length_drop, List.length_take]; rfl)) ?_; (refine (link_Rx.calls kj54 0 a0 _ _ ([] : List (S24)) t143 _ ?side1 ?side2 A107.out).mono ?_); (case side1 => exact Kd.C_nil _ _); (case side2 => exact Nat.le_refl _); rintro e w115 ⟨rfl, hb⟩; refine ⟨_, rfl, ?_⟩; have n0_ := Aside0.mk (blk_below (g := gb111) (o := .cells #[.int .u16 x112000_2, .int .u16 x112001_2, .bool x112002_2] 24 (0, 0)) (by (with_reducible repeat (first | refine blk_drewN ?_ _ | refine blk_drew ?_ | refine blk_alloc ?_ _)); exact BK111.out) hb); have n1_ := Aside0.mk (blk_below (g := gb130) (o := .cells #[.int .u16 t127, .int .u16 t128, .bool t129] 24 (0, 0)) (by (with_reducible repeat (first | refine blk_drewN ?_ _ | refine blk_drew ?_ | refine blk_alloc ?_ _)); exact BK130.out) hb); have n2_ := Aside0.mk (below_step (by repeat (first | (with_reducible first | exact HB.out | apply below_alloc | apply pw_below_drewN | apply below_drew1 | refine below_set ?_ GE111.out | refine below_set ?_ GE130.out) | exact HB.out)) hb); clear BK111; clear BK130; clear HB; have BK111 := n0_; have BK130 := n1_; have HB := n2_; clear n0_ n1_ n2_; (try clear hb); (try clear hb2); (try clear hk); (try clear hi); have hnb116 := NB130_111.out; have hnc116 := NB111_130.out; have hcz117_0 : w115.cell? ⟨gb130, 0, none⟩ = some (.int .u16 t127) := (blk_cell BK130.out 0).trans rfl; have hcz117_1 : w115.cell? ⟨gb130, 1, none⟩ = some (.int .u16 t128) := (blk_cell BK130.out 1).trans rfl; have hcz117_2 : w115.cell? ⟨gb130, 2, none⟩ = some (.bool t129) := (blk_cell BK130.out 2).trans rfl; have hfz117_0 := blk_frozen BK130.out 0; have hfz117_1 := blk_frozen BK130.out 1; have hfz117_2 := blk_frozen BK130.out 2) | ((with_reducible refine gate_callee (f := 8) rfl ?_); (with_reducible refine gate_dst (N := 112) rfl ?_); (refine gate_guard (by rfl) ?_; dsimp only); refine goesL_ (some 112) rfl rfl Try.func8 (by kernel_rfl) rfl #[] rfl (by (try simp only [List.map_toArray, List.map_cons, List.map_nil]); first | done | rfl | (simp only [List.length_drop, List.length_take]; rfl)) ?_; (with_reducible refine (culvertlaw11_live.calls  t145 _ A114.out).mono ?_); rintro e w118 ⟨rfl, hb⟩; refine ⟨_, rfl, ?_⟩; have n0_ := Aside0.mk (blk_below (g := gb111) (o := .cells #[.int .u16 x112000_2, .int .u16 x112001_2, .bool x112002_2] 24 (0, 0)) (by (with_reducible repeat (first | refine blk_drewN ?_ _ | refine blk_drew ?_ | refine blk_alloc ?_ _)); exact BK111.out) hb); have n1_ := Aside0.mk (blk_below (g := gb130) (o := .cells #[.int .u16 t127, .int .u16 t128, .bool t129] 24 (0, 0)) (by (with_reducible repeat (first | refine blk_drewN ?_ _ | refine blk_drew ?_ | refine blk_alloc ?_ _)); exact BK130.out) hb); have n2_ := Aside0.mk (below_step (by repeat (first | (with_reducible first | exact HB.out | apply below_alloc | apply pw_below_drewN | apply below_drew1 | refine below_set ?_ GE111.out | refine below_set ?_ GE130.out) | exact HB.out)) hb); clear BK111; clear BK130; clear HB; have BK111 := n0_; have BK130 := n1_; have HB := n2_; clear n0_ n1_ n2_; (try clear hb); (try clear hb2); (try clear hk); (try clear hi)))
                                go_ret
                                exact ⟨by first | rfl | (simp [errW_none, errW_some] <;> rfl) | (simp [*, errW_none, errW_some] <;> rfl), by repeat (first | (with_reducible first | exact HB.out | apply below_alloc | apply pw_below_drewN | apply below_drew1 | refine below_set ?_ GE111.out | refine below_set ?_ GE130.out) | exact HB.out)⟩
                              · rw [if_neg c113] at H
                                have c113b0 : (t128 == (IntKind.u16.wrap (a1 + (IntKind.u16.wrap (wrap64 (a2 + a3)))))) = false := beq_eq_false_iff_ne.mpr c113
                                have c113b1 : (t128 != (IntKind.u16.wrap (a1 + (IntKind.u16.wrap (wrap64 (a2 + a3)))))) = true := bne_iff_ne.mpr c113
                                obtain rfl := Option.some.inj H
                                go_wp2_with (first | ((with_reducible refine gate_callee (f := 13) rfl ?_); refine goesL_ (some 94) rfl rfl Try.func13 (by kernel_rfl) rfl #[.int .i64 0, .int .u16 a0, .slice none 0 0] rfl (by (try simp only [List.map_toArray, List.map_cons, List.map_nil]); first | done | rfl | (simp only [List.length_drop, List.length_take]; rfl)) ?_; (refine (link_Rx.calls kj54 0 a0 _ _ ([] : List (S24)) t143 _ ?side1 ?side2 A107.out).mono ?_); (case side1 => exact Kd.C_nil _ _); (case side2 => exact Nat.le_refl _); rintro e w119 ⟨rfl, hb⟩; refine ⟨_, rfl, ?_⟩; have n0_ := Aside0.mk (blk_below (g := gb111) (o := .cells #[.int .u16 x112000_2, .int .u16 x112001_2, .bool x112002_2] 24 (0, 0)) (by (with_reducible repeat (first | refine blk_drewN ?_ _ | refine blk_drew ?_ | refine blk_alloc ?_ _)); exact BK111.out) hb); have n1_ := Aside0.mk (blk_below (g := gb130) (o := .cells #[.int .u16 t127, .int .u16 t128, .bool t129] 24 (0, 0)) (by (with_reducible repeat (first | refine blk_drewN ?_ _ | refine blk_drew ?_ | refine blk_alloc ?_ _)); exact BK130.out) hb); have n2_ := Aside0.mk (below_step (by repeat (first | (with_reducible first | exact HB.out | apply below_alloc | apply pw_below_drewN | apply below_drew1 | refine below_set ?_ GE111.out | refine below_set ?_ GE130.out) | exact HB.out)) hb); clear BK111; clear BK130; clear HB; have BK111 := n0_; have BK130 := n1_; have HB := n2_; clear n0_ n1_ n2_; (try clear hb); (try clear hb2); (try clear hk); (try clear hi); have hnb120 := NB130_111.out; have hnc120 := NB111_130.out; have hcz121_0 : w119.cell? ⟨gb130, 0, none⟩ = some (.int .u16 t127) := (blk_cell BK130.out 0).trans rfl; have hcz121_1 : w119.cell? ⟨gb130, 1, none⟩ = some (.int .u16 t128) := (blk_cell BK130.out 1).trans rfl; have hcz121_2 : w119.cell? ⟨gb130, 2, none⟩ = some (.bool t129) := (blk_cell BK130.out 2).trans rfl; have hfz121_0 := blk_frozen BK130.out 0; have hfz121_1 := blk_frozen BK130.out 1; have hfz121_2 := blk_frozen BK130.out 2))
                                go_ret
                                exact ⟨by first | rfl | (simp [errW_none, errW_some] <;> rfl) | (simp [*, errW_none, errW_some] <;> rfl), by repeat (first | (with_reducible first | exact HB.out | apply below_alloc | apply pw_below_drewN | apply below_drew1 | refine below_set ?_ GE111.out | refine below_set ?_ GE130.out) | exact HB.out)⟩
                          · rw [if_neg c108] at H
                            have c108b0 : (t143 == 65535) = false := beq_eq_false_iff_ne.mpr c108
                            have c108b1 : (t143 != 65535) = true := bne_iff_ne.mpr c108
                            obtain rfl := Option.some.inj H
                            go_wp2_with (first | ((with_reducible refine gate_callee (f := 13) rfl ?_); refine goesL_ (some 94) rfl rfl Try.func13 (by kernel_rfl) rfl #[.int .i64 0, .int .u16 a0, .slice none 0 0] rfl (by (try simp only [List.map_toArray, List.map_cons, List.map_nil]); first | done | rfl | (simp only [List.length_drop, List.length_take]; rfl)) ?_; (refine (link_Rx.calls kj54 0 a0 _ _ ([] : List (S24)) t143 _ ?side1 ?side2 A107.out).mono ?_); (case side1 => exact Kd.C_nil _ _); (case side2 => exact Nat.le_refl _); rintro e w122 ⟨rfl, hb⟩; refine ⟨_, rfl, ?_⟩; have n0_ := Aside0.mk (blk_below (g := gb111) (o := .cells #[.int .u16 x112000_2, .int .u16 x112001_2, .bool x112002_2] 24 (0, 0)) (by (with_reducible repeat (first | refine blk_drewN ?_ _ | refine blk_drew ?_ | refine blk_alloc ?_ _)); exact BK111.out) hb); have n1_ := Aside0.mk (blk_below (g := gb130) (o := .cells #[.int .u16 t127, .int .u16 t128, .bool t129] 24 (0, 0)) (by (with_reducible repeat (first | refine blk_drewN ?_ _ | refine blk_drew ?_ | refine blk_alloc ?_ _)); exact BK130.out) hb); have n2_ := Aside0.mk (below_step (by repeat (first | (with_reducible first | exact HB.out | apply below_alloc | apply pw_below_drewN | apply below_drew1 | refine below_set ?_ GE111.out | refine below_set ?_ GE130.out) | exact HB.out)) hb); clear BK111; clear BK130; clear HB; have BK111 := n0_; have BK130 := n1_; have HB := n2_; clear n0_ n1_ n2_; (try clear hb); (try clear hb2); (try clear hk); (try clear hi)))
                            go_ret
                            exact ⟨by first | rfl | (simp [errW_none, errW_some] <;> rfl) | (simp [*, errW_none, errW_some] <;> rfl), by repeat (first | (with_reducible first | exact HB.out | apply below_alloc | apply pw_below_drewN | apply below_drew1 | refine below_set ?_ GE111.out | refine below_set ?_ GE130.out) | exact HB.out)⟩

/-- THE ONE PURE STATEMENT of culvertlaw11_LinkAll: yours. -/
def culvertlaw11_LinkAll.Pure : Prop := ∀ (a0 : Int) (a1 : Int) (a2 : Int) (a3 : Int), (Lit.int .u16 a0).wf = true → (Lit.int .u16 a1).wf = true → (Lit.int .i64 a2).wf = true → (Lit.int .i64 a3).wf = true → ∃ k, culvertlaw11_LinkAll.f k a0 a1 a2 a3 = some true
theorem culvertlaw11_LinkAll.walk (P : culvertlaw11_LinkAll.Pure) (a0 : Int) (a1 : Int) (a2 : Int) (a3 : Int) (w : World) (w0 : (Lit.int .u16 a0).wf = true) (w1 : (Lit.int .u16 a1).wf = true) (w2 : (Lit.int .i64 a2).wf = true) (w3 : (Lit.int .i64 a3).wf = true) :
    Calls Try.prog 5 #[.int .u16 a0, .int .u16 a1, .int .i64 a2, .int .i64 a3] w fun e w' => e = .returned (.bool true) ∧ Below w.heap.size w w' := by
  obtain ⟨k, h⟩ := P a0 a1 a2 a3 w0 w1 w2 w3
  refine (culvertlaw11_LinkAll.calls k a0 a1 a2 a3 true w h).mono ?_
  rintro e w' ⟨rfl, hd⟩
  exact ⟨rfl, hd⟩

end Go.Proofs.Ytlhlghmpcimdlaa.MLn
