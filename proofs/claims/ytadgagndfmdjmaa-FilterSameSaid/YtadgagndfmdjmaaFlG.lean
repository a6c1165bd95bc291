/- The walk of the document's Matches. -/
import Derived.Test.YtadgagndfmdjmaaFlF
import Derived.Deep.Cut
namespace Go.Proofs.Ytadgagndfmdjmaa.Fl
open Go.RowKit Go.Proofs.YtadgagndfmdjmaaW.PrintWords Go.Proofs.YtadgagndfmdjmaaW.PrintLast
open Extern.Stop (cell)

theorem ref_covers_ (p : Pfx) (hp : p.Ok) (q : Pfx) (hq : q.Ok) (w : World) (b : Bool) (hb : cov p q = b) :
    Calls Try.prog 23 #[.agg (pc p).toArray, .agg (pc q).toArray] w fun e w' => e = .returned (.bool b) ∧ Below w.heap.size w w' := hb ▸ ref_covers p hp q hq w
theorem ref_bits_ (p : Pfx) (hp : p.Ok) (hL : In64 p.L) (w : World) (n : Int) (hn : nbits p = n) :
    Calls Try.prog 25 #[.agg (pc p).toArray] w fun e w' => e = .returned (.int .i64 n) ∧ Below w.heap.size w w' := hn ▸ ref_bits p hp hL.2 w
/-- The rule's destination does not fit. -/
def dstB (r : Rul) (p : Pfx) : Bool := r.HD && (!cov r.D p || (!(pfam r.D == pfam p) || (decide (nbits p < r.G) || decide (r.E < nbits p))))
def srcB (r : Rul) (p : Pfx) : Bool := !r.HS || cov r.S p
def badB (r : Rul) (chain : Int) (name : ByteArray) (id : List UInt8) : Bool := !decide (r.C = chain) || (ifB r name || idB r id)
def rmatB (r : Rul) (chain : Int) (name : ByteArray) (q : Par) (id : List UInt8) : Bool := !badB r chain name id && (!dstB r q.D && srcB r q.S)
theorem bad_C {r : Rul} {chain : Int} {name : ByteArray} {id : List UInt8} (h : ¬ r.C = chain) : badB r chain name id = true := by unfold badB; rw [decide_eq_false h]; rfl
theorem bad_if {r : Rul} {chain : Int} {name : ByteArray} {id : List UInt8} (h : ifB r name = true) : badB r chain name id = true := by unfold badB; rw [h]; simp
theorem bad_id {r : Rul} {chain : Int} {name : ByteArray} {id : List UInt8} (h : idB r id = true) : badB r chain name id = true := by unfold badB; rw [h]; simp
theorem bad_no {r : Rul} {chain : Int} {name : ByteArray} {id : List UInt8} (h0 : r.C = chain) (h1 : ifB r name = false) (h2 : idB r id = false) : badB r chain name id = false := by unfold badB; rw [decide_eq_true h0, h1, h2]; rfl
set_option maxHeartbeats 4000000 in
theorem ref_matches (r : Rul) (hr : r.Ok) (chain : Int) (name : ByteArray) (q : Par) (hq : q.Ok) (hL : In64 q.D.L) (id : List UInt8) (hid : id.length = 8) (w : World) :
    Calls Try.prog 14 #[.agg (rc r).toArray, .int .i64 chain, .string name, .agg (qc q).toArray, .agg (bs id).toArray] w fun e w' => e = .returned (.bool (rmatB r chain name q id)) ∧ Below w.heap.size w w' := by
  have hR8 := hr.2.2
  have h08 : no8.length = 8 := rfl
  have hrS := hr.2.1
  have hqS := hq.2
  have hqD := hq.1
  have hD := hr.1
  go_enter Try.func14, Try.ntmps14
  go_upto_region 1 with (first | ((with_reducible refine gate_dst (N := 5) rfl ?_); refine box_gen 41 _ rfl rfl (rc r).toArray ?hx ?_; (case hx => rfl); intro w1 g1 b1; (try simp only [Act.put, List.setIfInBounds_toArray, List.set_cons_zero, List.set_cons_succ])) | ((with_reducible refine gate_dst (N := 8) rfl ?_); refine box_gen 28 _ rfl rfl (qc q).toArray ?hx ?_; (case hx => rfl); intro w2 g2 b2; (try simp only [Act.put, List.setIfInBounds_toArray, List.set_cons_zero, List.set_cons_succ])) | (((with_reducible refine gate_dst (N := 9) rfl ?_); refine box_gen 30 _ rfl rfl (bs id).toArray ?hx ?_; (case hx => rfl); intro w3 g3 b3; (try simp only [Act.put, List.setIfInBounds_toArray, List.set_cons_zero, List.set_cons_succ])); have hb0 := blk_below (blk_below g1.out b2.out.1) b3.out.1; have hb1 := blk_below g2.out b3.out.1; have hb2 := g3.out; have HB0 := Aside0.mk (below_then (below_then b1.out.1 b1.out.1.size b2.out.1) (below_then b1.out.1 b1.out.1.size b2.out.1).size b3.out.1); obtain ⟨lD, lS, lR, l41⟩ := rul_blk hr hb0; obtain ⟨qD, qS⟩ := par_blk hq hb1; have lI := arr_blk (ty := 30) hid hb2 Try.underlying30 rfl (by kernel_rfl); obtain ⟨c0, c1, _, _, _, _, _, _⟩ := rul_cell hr hb0; clear g1 g2 g3 b1 b2 b3))
  go_cut [37] from 11 (fun v w' => v = .bool (badB r chain name id) ∧ w3 = w')
  case first =>
    by_cases hC : r.C = chain
    · have dC : (r.C != chain) = false := by rw [bne_eq_false_iff_eq]; exact hC
      by_cases hI : r.I.toList = []
      · have hif : ifB r name = false := if_pos hI
        cases e0 : (!(r.R == no8)) with
        | false =>
          have hidB : idB r id = false := by unfold idB; rw [e0]; rfl
          have E0 := Aside0.mk e0
          clear e0
          have HR := Aside0.mk (bad_no hC hif hidB)
          go_wp2_with (first | ((with_reducible refine gate_dst (N := 28) rfl ?_); (try (refine gate_guard (by rfl) ?_; dsimp only)); refine load_step 30 _ rfl rfl _ lR ?_; (try simp only [Act.put, List.setIfInBounds_toArray, List.set_cons_zero, List.set_cons_succ])) | ((with_reducible refine gate_dst (N := 30) rfl ?_); (try (refine gate_guard (by rfl) ?_; dsimp only)); refine neq30_step 30 rfl rfl _ _ _ rfl r.R no8 hR8 h08 ?hx ?hy _ E0.out ?_; (case hx => rfl); (case hy => rfl); (try simp only [Act.put, List.setIfInBounds_toArray, List.set_cons_zero, List.set_cons_succ])))
          go_meet
          case rel => exact ⟨by rw [HR.out], rfl⟩
        | true =>
          cases e1 : (!(r.R == id)) with
          | false =>
            have hidB : idB r id = false := by unfold idB; rw [e0, e1]; rfl
            have E0 := Aside0.mk e0
            have E1 := Aside0.mk e1
            clear e0 e1
            have HR := Aside0.mk (bad_no hC hif hidB)
            go_wp2_with (first | ((with_reducible refine gate_dst (N := 28) rfl ?_); (try (refine gate_guard (by rfl) ?_; dsimp only)); refine load_step 30 _ rfl rfl _ lR ?_; (try simp only [Act.put, List.setIfInBounds_toArray, List.set_cons_zero, List.set_cons_succ])) | ((with_reducible refine gate_dst (N := 30) rfl ?_); (try (refine gate_guard (by rfl) ?_; dsimp only)); refine neq30_step 30 rfl rfl _ _ _ rfl r.R no8 hR8 h08 ?hx ?hy _ E0.out ?_; (case hx => rfl); (case hy => rfl); (try simp only [Act.put, List.setIfInBounds_toArray, List.set_cons_zero, List.set_cons_succ])) | ((with_reducible refine gate_dst (N := 33) rfl ?_); (try (refine gate_guard (by rfl) ?_; dsimp only)); refine load_step 30 _ rfl rfl _ lR ?_; (try simp only [Act.put, List.setIfInBounds_toArray, List.set_cons_zero, List.set_cons_succ])) | ((with_reducible refine gate_dst (N := 34) rfl ?_); (try (refine gate_guard (by rfl) ?_; dsimp only)); refine load_step 30 _ rfl rfl _ lI ?_; (try simp only [Act.put, List.setIfInBounds_toArray, List.set_cons_zero, List.set_cons_succ])) | ((with_reducible refine gate_dst (N := 35) rfl ?_); (try (refine gate_guard (by rfl) ?_; dsimp only)); refine neq30_step 35 rfl rfl _ _ _ rfl r.R id hR8 hid ?hx ?hy _ E1.out ?_; (case hx => rfl); (case hy => rfl); (try simp only [Act.put, List.setIfInBounds_toArray, List.set_cons_zero, List.set_cons_succ])))
            go_meet
            case rel => exact ⟨by rw [HR.out], rfl⟩
          | true =>
            have hidB : idB r id = true := by unfold idB; rw [e0, e1]; rfl
            have E0 := Aside0.mk e0
            have E1 := Aside0.mk e1
            clear e0 e1
            have HR := Aside0.mk (bad_id (chain := chain) (name := name) hidB)
            go_wp2_with (first | ((with_reducible refine gate_dst (N := 28) rfl ?_); (try (refine gate_guard (by rfl) ?_; dsimp only)); refine load_step 30 _ rfl rfl _ lR ?_; (try simp only [Act.put, List.setIfInBounds_toArray, List.set_cons_zero, List.set_cons_succ])) | ((with_reducible refine gate_dst (N := 30) rfl ?_); (try (refine gate_guard (by rfl) ?_; dsimp only)); refine neq30_step 30 rfl rfl _ _ _ rfl r.R no8 hR8 h08 ?hx ?hy _ E0.out ?_; (case hx => rfl); (case hy => rfl); (try simp only [Act.put, List.setIfInBounds_toArray, List.set_cons_zero, List.set_cons_succ])) | ((with_reducible refine gate_dst (N := 33) rfl ?_); (try (refine gate_guard (by rfl) ?_; dsimp only)); refine load_step 30 _ rfl rfl _ lR ?_; (try simp only [Act.put, List.setIfInBounds_toArray, List.set_cons_zero, List.set_cons_succ])) | ((with_reducible refine gate_dst (N := 34) rfl ?_); (try (refine gate_guard (by rfl) ?_; dsimp only)); refine load_step 30 _ rfl rfl _ lI ?_; (try simp only [Act.put, List.setIfInBounds_toArray, List.set_cons_zero, List.set_cons_succ])) | ((with_reducible refine gate_dst (N := 35) rfl ?_); (try (refine gate_guard (by rfl) ?_; dsimp only)); refine neq30_step 35 rfl rfl _ _ _ rfl r.R id hR8 hid ?hx ?hy _ E1.out ?_; (case hx => rfl); (case hy => rfl); (try simp only [Act.put, List.setIfInBounds_toArray, List.set_cons_zero, List.set_cons_succ])))
            go_meet
            case rel => exact ⟨by rw [HR.out], rfl⟩
      · have hN : r.I.toList.isEmpty = false := by cases hx : r.I.toList with | nil => exact absurd hx hI | cons _ _ => rfl
        cases hE : (r.I.toList == name.toList) with
        | false =>
          have hif : ifB r name = true := by unfold ifB; rw [if_neg hI, hE]; rfl
          have HR := Aside0.mk (bad_if (chain := chain) (id := id) hif)
          go_wp2_with (fail)
          go_meet
          case rel => exact ⟨by rw [HR.out], rfl⟩
        | true =>
          have hif : ifB r name = false := by unfold ifB; rw [if_neg hI, hE]; rfl
          cases e0 : (!(r.R == no8)) with
          | false =>
            have hidB : idB r id = false := by unfold idB; rw [e0]; rfl
            have E0 := Aside0.mk e0
            clear e0
            have HR := Aside0.mk (bad_no hC hif hidB)
            go_wp2_with (first | ((with_reducible refine gate_dst (N := 28) rfl ?_); (try (refine gate_guard (by rfl) ?_; dsimp only)); refine load_step 30 _ rfl rfl _ lR ?_; (try simp only [Act.put, List.setIfInBounds_toArray, List.set_cons_zero, List.set_cons_succ])) | ((with_reducible refine gate_dst (N := 30) rfl ?_); (try (refine gate_guard (by rfl) ?_; dsimp only)); refine neq30_step 30 rfl rfl _ _ _ rfl r.R no8 hR8 h08 ?hx ?hy _ E0.out ?_; (case hx => rfl); (case hy => rfl); (try simp only [Act.put, List.setIfInBounds_toArray, List.set_cons_zero, List.set_cons_succ])))
            go_meet
            case rel => exact ⟨by rw [HR.out], rfl⟩
          | true =>
            cases e1 : (!(r.R == id)) with
            | false =>
              have hidB : idB r id = false := by unfold idB; rw [e0, e1]; rfl
              have E0 := Aside0.mk e0
              have E1 := Aside0.mk e1
              clear e0 e1
              have HR := Aside0.mk (bad_no hC hif hidB)
              go_wp2_with (first | ((with_reducible refine gate_dst (N := 28) rfl ?_); (try (refine gate_guard (by rfl) ?_; dsimp only)); refine load_step 30 _ rfl rfl _ lR ?_; (try simp only [Act.put, List.setIfInBounds_toArray, List.set_cons_zero, List.set_cons_succ])) | ((with_reducible refine gate_dst (N := 30) rfl ?_); (try (refine gate_guard (by rfl) ?_; dsimp only)); refine neq30_step 30 rfl rfl _ _ _ rfl r.R no8 hR8 h08 ?hx ?hy _ E0.out ?_; (case hx => rfl); (case hy => rfl); (try simp only [Act.put, List.setIfInBounds_toArray, List.set_cons_zero, List.set_cons_succ])) | ((with_reducible refine gate_dst (N := 33) rfl ?_); (try (refine gate_guard (by rfl) ?_; dsimp only)); refine load_step 30 _ rfl rfl _ lR ?_; (try simp only [Act.put, List.setIfInBounds_toArray, List.set_cons_zero, List.set_cons_succ])) | ((with_reducible refine gate_dst (N := 34) rfl ?_); (try (refine gate_guard (by rfl) ?_; dsimp only)); refine load_step 30 _ rfl rfl _ lI ?_; (try simp only [Act.put, List.setIfInBounds_toArray, List.set_cons_zero, List.set_cons_succ])) | ((with_reducible refine gate_dst (N := 35) rfl ?_); (try (refine gate_guard (by rfl) ?_; dsimp only)); refine neq30_step 35 rfl rfl _ _ _ rfl r.R id hR8 hid ?hx ?hy _ E1.out ?_; (case hx => rfl); (case hy => rfl); (try simp only [Act.put, List.setIfInBounds_toArray, List.set_cons_zero, List.set_cons_succ])))
              go_meet
              case rel => exact ⟨by rw [HR.out], rfl⟩
            | true =>
              have hidB : idB r id = true := by unfold idB; rw [e0, e1]; rfl
              have E0 := Aside0.mk e0
              have E1 := Aside0.mk e1
              clear e0 e1
              have HR := Aside0.mk (bad_id (chain := chain) (name := name) hidB)
              go_wp2_with (first | ((with_reducible refine gate_dst (N := 28) rfl ?_); (try (refine gate_guard (by rfl) ?_; dsimp only)); refine load_step 30 _ rfl rfl _ lR ?_; (try simp only [Act.put, List.setIfInBounds_toArray, List.set_cons_zero, List.set_cons_succ])) | ((with_reducible refine gate_dst (N := 30) rfl ?_); (try (refine gate_guard (by rfl) ?_; dsimp only)); refine neq30_step 30 rfl rfl _ _ _ rfl r.R no8 hR8 h08 ?hx ?hy _ E0.out ?_; (case hx => rfl); (case hy => rfl); (try simp only [Act.put, List.setIfInBounds_toArray, List.set_cons_zero, List.set_cons_succ])) | ((with_reducible refine gate_dst (N := 33) rfl ?_); (try (refine gate_guard (by rfl) ?_; dsimp only)); refine load_step 30 _ rfl rfl _ lR ?_; (try simp only [Act.put, List.setIfInBounds_toArray, List.set_cons_zero, List.set_cons_succ])) | ((with_reducible refine gate_dst (N := 34) rfl ?_); (try (refine gate_guard (by rfl) ?_; dsimp only)); refine load_step 30 _ rfl rfl _ lI ?_; (try simp only [Act.put, List.setIfInBounds_toArray, List.set_cons_zero, List.set_cons_succ])) | ((with_reducible refine gate_dst (N := 35) rfl ?_); (try (refine gate_guard (by rfl) ?_; dsimp only)); refine neq30_step 35 rfl rfl _ _ _ rfl r.R id hR8 hid ?hx ?hy _ E1.out ?_; (case hx => rfl); (case hy => rfl); (try simp only [Act.put, List.setIfInBounds_toArray, List.set_cons_zero, List.set_cons_succ])))
              go_meet
              case rel => exact ⟨by rw [HR.out], rfl⟩
    · have dC : (r.C != chain) = true := by rw [bne_iff_ne]; exact hC
      have HR := Aside0.mk (bad_C (name := name) (id := id) hC)
      go_wp2_with (fail)
      go_meet
      case rel => exact ⟨by rw [HR.out], rfl⟩
  case rest =>
    obtain ⟨rfl, rfl⟩ := hcut
    clear lR lI l41 hb2 c0 c1
    cases hB1 : badB r chain name id with
    | true =>
      have HR := Aside0.mk (show rmatB r chain name q id = false by unfold rmatB; rw [hB1]; rfl)
      go_wp2_with (fail)
      go_ret
      exact ⟨by rw [HR.out]; rfl, HB0.out⟩
    | false =>
      have HR0 := Aside0.mk (show rmatB r chain name q id = (!dstB r q.D && srcB r q.S) by unfold rmatB; rw [hB1]; rfl)
      clear hB1
      go_upto_region 3 with (fail)
      go_cut [72] from 11 (fun v w' => v = .bool (dstB r q.D) ∧ Below w3.heap.size w3 w')
      case first =>
        obtain ⟨n, hn⟩ : ∃ n, nbits q.D = n := ⟨_, rfl⟩
        refine region_quietB (by kernel_rfl) (by kernel_rfl) ?_
        intro X F _ HB HN
        have lD : ∀ y, _ := fun y => (rul_blk hr (blk_below hb0 (HB.out y))).1
        have lP : ∀ y, _ := fun y => (par_blk hq (blk_below hb1 (HB.out y))).1
        have c19 : ∀ y, _ := fun y => (rul_cell hr (blk_below hb0 (HB.out y))).2.2.1
        have c20 : ∀ y, _ := fun y => (rul_cell hr (blk_below hb0 (HB.out y))).2.2.2.1
        have c21 : ∀ y, _ := fun y => (rul_cell hr (blk_below hb0 (HB.out y))).2.2.2.2.1
        cases hHD : r.HD with
        | false =>
          have HR := Aside0.mk (show dstB r q.D = false by unfold dstB; rw [hHD]; rfl)
          simp only [hHD] at c19
          repeat (first | (go_big_quiet_step (fail)))
          refine wpQuiet_nil ?_
          rintro w' ⟨x, rfl⟩
          have HB3 := HB.out x
          clear lD lP c19 c20 c21 HB HN
          go_wp2_with (fail)
          go_meet
          case rel => exact ⟨by rw [HR.out], HB3⟩
        | true =>
          simp only [hHD] at c19
          have key : ∀ (fd fp : Int) (cv dg de : Bool), pfam r.D = fd → pfam q.D = fp → cov r.D q.D = cv → decide (n < r.G) = dg → decide (r.E < n) = de → Aside0 (dstB r q.D = (!cv || (!(fd == fp) || (dg || de)))) := by
            intro fd fp cv dg de hfd hfp hcv hdg hde
            exact ⟨by unfold dstB; rw [hHD, hfd, hfp, hcv, hn, hdg, hde]; rfl⟩
          clear hHD
          have hnn := Aside0.mk hn
          clear hn
          cases hcv : cov r.D q.D with
          | false =>
            have hfd := Eq.refl (pfam r.D)
            have hfp := Eq.refl (pfam q.D)
            have hdg := Eq.refl (decide (n < r.G))
            have hde := Eq.refl (decide (r.E < n))
            have HR := key _ _ _ _ _ hfd hfp hcv hdg hde
            clear key
            repeat (first | (go_big_quiet_want; refine quiet_loadF 42 rfl 26 _ rfl _ lD ?_; (simp only [Act.put, List.setIfInBounds_toArray, List.set_cons_zero, List.set_cons_succ]); go_big_quiet_on) | (go_big_quiet_want; refine quiet_loadF 44 rfl 26 _ rfl _ lP ?_; (simp only [Act.put, List.setIfInBounds_toArray, List.set_cons_zero, List.set_cons_succ]); go_big_quiet_on) | (go_big_quiet_want; refine quiet_loadF 49 rfl 26 _ rfl _ lD ?_; (simp only [Act.put, List.setIfInBounds_toArray, List.set_cons_zero, List.set_cons_succ]); go_big_quiet_on) | (go_big_quiet_want; refine quiet_loadF 52 rfl 26 _ rfl _ lP ?_; (simp only [Act.put, List.setIfInBounds_toArray, List.set_cons_zero, List.set_cons_succ]); go_big_quiet_on) | (go_big_quiet_want; refine quiet_loadF 58 rfl 26 _ rfl _ lP ?_; (simp only [Act.put, List.setIfInBounds_toArray, List.set_cons_zero, List.set_cons_succ]); go_big_quiet_on) | (go_big_quiet_want; refine quiet_loadF 66 rfl 26 _ rfl _ lP ?_; (simp only [Act.put, List.setIfInBounds_toArray, List.set_cons_zero, List.set_cons_succ]); go_big_quiet_on) | (go_big_quiet_step (((first | with_reducible refine (ref_covers_ r.D hD q.D hqD _ _ hcv).mono ?_ | with_reducible refine (ref_pfam_ r.D hD _ _ hfd).mono ?_ | with_reducible refine (ref_pfam_ q.D hqD _ _ hfp).mono ?_ | with_reducible refine (ref_bits_ q.D hqD hL _ n hnn.out).mono ?_); rintro e w2 ⟨rfl, hb2⟩; exact ⟨rfl, HN.out _ _ hb2⟩))))
            refine wpQuiet_nil ?_
            rintro w' ⟨x, rfl⟩
            have HB3 := HB.out x
            clear lD lP c19 c20 c21 HB HN hdg hde
            go_wp2_with (fail)
            go_meet
            case rel => exact ⟨by rw [HR.out]; rfl, HB3⟩
          | true =>
            rcases pfam_two r.D with hfd | hfd <;> rcases pfam_two q.D with hfp | hfp
            · cases hdg : decide (n < r.G) with
              | true =>
                have hde := Eq.refl (decide (r.E < n))
                have HR := key _ _ _ _ _ hfd hfp hcv hdg hde
                clear key
                repeat (first | (go_big_quiet_want; refine quiet_loadF 42 rfl 26 _ rfl _ lD ?_; (simp only [Act.put, List.setIfInBounds_toArray, List.set_cons_zero, List.set_cons_succ]); go_big_quiet_on) | (go_big_quiet_want; refine quiet_loadF 44 rfl 26 _ rfl _ lP ?_; (simp only [Act.put, List.setIfInBounds_toArray, List.set_cons_zero, List.set_cons_succ]); go_big_quiet_on) | (go_big_quiet_want; refine quiet_loadF 49 rfl 26 _ rfl _ lD ?_; (simp only [Act.put, List.setIfInBounds_toArray, List.set_cons_zero, List.set_cons_succ]); go_big_quiet_on) | (go_big_quiet_want; refine quiet_loadF 52 rfl 26 _ rfl _ lP ?_; (simp only [Act.put, List.setIfInBounds_toArray, List.set_cons_zero, List.set_cons_succ]); go_big_quiet_on) | (go_big_quiet_want; refine quiet_loadF 58 rfl 26 _ rfl _ lP ?_; (simp only [Act.put, List.setIfInBounds_toArray, List.set_cons_zero, List.set_cons_succ]); go_big_quiet_on) | (go_big_quiet_want; refine quiet_loadF 66 rfl 26 _ rfl _ lP ?_; (simp only [Act.put, List.setIfInBounds_toArray, List.set_cons_zero, List.set_cons_succ]); go_big_quiet_on) | (go_big_quiet_step (((first | with_reducible refine (ref_covers_ r.D hD q.D hqD _ _ hcv).mono ?_ | with_reducible refine (ref_pfam_ r.D hD _ _ hfd).mono ?_ | with_reducible refine (ref_pfam_ q.D hqD _ _ hfp).mono ?_ | with_reducible refine (ref_bits_ q.D hqD hL _ n hnn.out).mono ?_); rintro e w2 ⟨rfl, hb2⟩; exact ⟨rfl, HN.out _ _ hb2⟩))))
                refine wpQuiet_nil ?_
                rintro w' ⟨x, rfl⟩
                have HB3 := HB.out x
                clear lD lP c19 c20 c21 HB HN hdg hde
                go_wp2_with (fail)
                go_meet
                case rel => exact ⟨by rw [HR.out]; rfl, HB3⟩
              | false =>
                cases hde : decide (r.E < n) with
                | true =>
                  have HR := key _ _ _ _ _ hfd hfp hcv hdg hde
                  clear key
                  repeat (first | (go_big_quiet_want; refine quiet_loadF 42 rfl 26 _ rfl _ lD ?_; (simp only [Act.put, List.setIfInBounds_toArray, List.set_cons_zero, List.set_cons_succ]); go_big_quiet_on) | (go_big_quiet_want; refine quiet_loadF 44 rfl 26 _ rfl _ lP ?_; (simp only [Act.put, List.setIfInBounds_toArray, List.set_cons_zero, List.set_cons_succ]); go_big_quiet_on) | (go_big_quiet_want; refine quiet_loadF 49 rfl 26 _ rfl _ lD ?_; (simp only [Act.put, List.setIfInBounds_toArray, List.set_cons_zero, List.set_cons_succ]); go_big_quiet_on) | (go_big_quiet_want; refine quiet_loadF 52 rfl 26 _ rfl _ lP ?_; (simp only [Act.put, List.setIfInBounds_toArray, List.set_cons_zero, List.set_cons_succ]); go_big_quiet_on) | (go_big_quiet_want; refine quiet_loadF 58 rfl 26 _ rfl _ lP ?_; (simp only [Act.put, List.setIfInBounds_toArray, List.set_cons_zero, List.set_cons_succ]); go_big_quiet_on) | (go_big_quiet_want; refine quiet_loadF 66 rfl 26 _ rfl _ lP ?_; (simp only [Act.put, List.setIfInBounds_toArray, List.set_cons_zero, List.set_cons_succ]); go_big_quiet_on) | (go_big_quiet_step (((first | with_reducible refine (ref_covers_ r.D hD q.D hqD _ _ hcv).mono ?_ | with_reducible refine (ref_pfam_ r.D hD _ _ hfd).mono ?_ | with_reducible refine (ref_pfam_ q.D hqD _ _ hfp).mono ?_ | with_reducible refine (ref_bits_ q.D hqD hL _ n hnn.out).mono ?_); rintro e w2 ⟨rfl, hb2⟩; exact ⟨rfl, HN.out _ _ hb2⟩))))
                  refine wpQuiet_nil ?_
                  rintro w' ⟨x, rfl⟩
                  have HB3 := HB.out x
                  clear lD lP c19 c20 c21 HB HN hdg hde
                  go_wp2_with (fail)
                  go_meet
                  case rel => exact ⟨by rw [HR.out]; rfl, HB3⟩
                | false =>
                  have HR := key _ _ _ _ _ hfd hfp hcv hdg hde
                  clear key
                  repeat (first | (go_big_quiet_want; refine quiet_loadF 42 rfl 26 _ rfl _ lD ?_; (simp only [Act.put, List.setIfInBounds_toArray, List.set_cons_zero, List.set_cons_succ]); go_big_quiet_on) | (go_big_quiet_want; refine quiet_loadF 44 rfl 26 _ rfl _ lP ?_; (simp only [Act.put, List.setIfInBounds_toArray, List.set_cons_zero, List.set_cons_succ]); go_big_quiet_on) | (go_big_quiet_want; refine quiet_loadF 49 rfl 26 _ rfl _ lD ?_; (simp only [Act.put, List.setIfInBounds_toArray, List.set_cons_zero, List.set_cons_succ]); go_big_quiet_on) | (go_big_quiet_want; refine quiet_loadF 52 rfl 26 _ rfl _ lP ?_; (simp only [Act.put, List.setIfInBounds_toArray, List.set_cons_zero, List.set_cons_succ]); go_big_quiet_on) | (go_big_quiet_want; refine quiet_loadF 58 rfl 26 _ rfl _ lP ?_; (simp only [Act.put, List.setIfInBounds_toArray, List.set_cons_zero, List.set_cons_succ]); go_big_quiet_on) | (go_big_quiet_want; refine quiet_loadF 66 rfl 26 _ rfl _ lP ?_; (simp only [Act.put, List.setIfInBounds_toArray, List.set_cons_zero, List.set_cons_succ]); go_big_quiet_on) | (go_big_quiet_step (((first | with_reducible refine (ref_covers_ r.D hD q.D hqD _ _ hcv).mono ?_ | with_reducible refine (ref_pfam_ r.D hD _ _ hfd).mono ?_ | with_reducible refine (ref_pfam_ q.D hqD _ _ hfp).mono ?_ | with_reducible refine (ref_bits_ q.D hqD hL _ n hnn.out).mono ?_); rintro e w2 ⟨rfl, hb2⟩; exact ⟨rfl, HN.out _ _ hb2⟩))))
                  refine wpQuiet_nil ?_
                  rintro w' ⟨x, rfl⟩
                  have HB3 := HB.out x
                  clear lD lP c19 c20 c21 HB HN hdg hde
                  go_wp2_with (fail)
                  go_meet
                  case rel => exact ⟨by rw [HR.out]; rfl, HB3⟩
            · have hdg := Eq.refl (decide (n < r.G))
              have hde := Eq.refl (decide (r.E < n))
              have HR := key _ _ _ _ _ hfd hfp hcv hdg hde
              clear key
              repeat (first | (go_big_quiet_want; refine quiet_loadF 42 rfl 26 _ rfl _ lD ?_; (simp only [Act.put, List.setIfInBounds_toArray, List.set_cons_zero, List.set_cons_succ]); go_big_quiet_on) | (go_big_quiet_want; refine quiet_loadF 44 rfl 26 _ rfl _ lP ?_; (simp only [Act.put, List.setIfInBounds_toArray, List.set_cons_zero, List.set_cons_succ]); go_big_quiet_on) | (go_big_quiet_want; refine quiet_loadF 49 rfl 26 _ rfl _ lD ?_; (simp only [Act.put, List.setIfInBounds_toArray, List.set_cons_zero, List.set_cons_succ]); go_big_quiet_on) | (go_big_quiet_want; refine quiet_loadF 52 rfl 26 _ rfl _ lP ?_; (simp only [Act.put, List.setIfInBounds_toArray, List.set_cons_zero, List.set_cons_succ]); go_big_quiet_on) | (go_big_quiet_want; refine quiet_loadF 58 rfl 26 _ rfl _ lP ?_; (simp only [Act.put, List.setIfInBounds_toArray, List.set_cons_zero, List.set_cons_succ]); go_big_quiet_on) | (go_big_quiet_want; refine quiet_loadF 66 rfl 26 _ rfl _ lP ?_; (simp only [Act.put, List.setIfInBounds_toArray, List.set_cons_zero, List.set_cons_succ]); go_big_quiet_on) | (go_big_quiet_step (((first | with_reducible refine (ref_covers_ r.D hD q.D hqD _ _ hcv).mono ?_ | with_reducible refine (ref_pfam_ r.D hD _ _ hfd).mono ?_ | with_reducible refine (ref_pfam_ q.D hqD _ _ hfp).mono ?_ | with_reducible refine (ref_bits_ q.D hqD hL _ n hnn.out).mono ?_); rintro e w2 ⟨rfl, hb2⟩; exact ⟨rfl, HN.out _ _ hb2⟩))))
              refine wpQuiet_nil ?_
              rintro w' ⟨x, rfl⟩
              have HB3 := HB.out x
              clear lD lP c19 c20 c21 HB HN hdg hde
              go_wp2_with (fail)
              go_meet
              case rel => exact ⟨by rw [HR.out]; rfl, HB3⟩
            · have hdg := Eq.refl (decide (n < r.G))
              have hde := Eq.refl (decide (r.E < n))
              have HR := key _ _ _ _ _ hfd hfp hcv hdg hde
              clear key
              repeat (first | (go_big_quiet_want; refine quiet_loadF 42 rfl 26 _ rfl _ lD ?_; (simp only [Act.put, List.setIfInBounds_toArray, List.set_cons_zero, List.set_cons_succ]); go_big_quiet_on) | (go_big_quiet_want; refine quiet_loadF 44 rfl 26 _ rfl _ lP ?_; (simp only [Act.put, List.setIfInBounds_toArray, List.set_cons_zero, List.set_cons_succ]); go_big_quiet_on) | (go_big_quiet_want; refine quiet_loadF 49 rfl 26 _ rfl _ lD ?_; (simp only [Act.put, List.setIfInBounds_toArray, List.set_cons_zero, List.set_cons_succ]); go_big_quiet_on) | (go_big_quiet_want; refine quiet_loadF 52 rfl 26 _ rfl _ lP ?_; (simp only [Act.put, List.setIfInBounds_toArray, List.set_cons_zero, List.set_cons_succ]); go_big_quiet_on) | (go_big_quiet_want; refine quiet_loadF 58 rfl 26 _ rfl _ lP ?_; (simp only [Act.put, List.setIfInBounds_toArray, List.set_cons_zero, List.set_cons_succ]); go_big_quiet_on) | (go_big_quiet_want; refine quiet_loadF 66 rfl 26 _ rfl _ lP ?_; (simp only [Act.put, List.setIfInBounds_toArray, List.set_cons_zero, List.set_cons_succ]); go_big_quiet_on) | (go_big_quiet_step (((first | with_reducible refine (ref_covers_ r.D hD q.D hqD _ _ hcv).mono ?_ | with_reducible refine (ref_pfam_ r.D hD _ _ hfd).mono ?_ | with_reducible refine (ref_pfam_ q.D hqD _ _ hfp).mono ?_ | with_reducible refine (ref_bits_ q.D hqD hL _ n hnn.out).mono ?_); rintro e w2 ⟨rfl, hb2⟩; exact ⟨rfl, HN.out _ _ hb2⟩))))
              refine wpQuiet_nil ?_
              rintro w' ⟨x, rfl⟩
              have HB3 := HB.out x
              clear lD lP c19 c20 c21 HB HN hdg hde
              go_wp2_with (fail)
              go_meet
              case rel => exact ⟨by rw [HR.out]; rfl, HB3⟩
            · cases hdg : decide (n < r.G) with
              | true =>
                have hde := Eq.refl (decide (r.E < n))
                have HR := key _ _ _ _ _ hfd hfp hcv hdg hde
                clear key
                repeat (first | (go_big_quiet_want; refine quiet_loadF 42 rfl 26 _ rfl _ lD ?_; (simp only [Act.put, List.setIfInBounds_toArray, List.set_cons_zero, List.set_cons_succ]); go_big_quiet_on) | (go_big_quiet_want; refine quiet_loadF 44 rfl 26 _ rfl _ lP ?_; (simp only [Act.put, List.setIfInBounds_toArray, List.set_cons_zero, List.set_cons_succ]); go_big_quiet_on) | (go_big_quiet_want; refine quiet_loadF 49 rfl 26 _ rfl _ lD ?_; (simp only [Act.put, List.setIfInBounds_toArray, List.set_cons_zero, List.set_cons_succ]); go_big_quiet_on) | (go_big_quiet_want; refine quiet_loadF 52 rfl 26 _ rfl _ lP ?_; (simp only [Act.put, List.setIfInBounds_toArray, List.set_cons_zero, List.set_cons_succ]); go_big_quiet_on) | (go_big_quiet_want; refine quiet_loadF 58 rfl 26 _ rfl _ lP ?_; (simp only [Act.put, List.setIfInBounds_toArray, List.set_cons_zero, List.set_cons_succ]); go_big_quiet_on) | (go_big_quiet_want; refine quiet_loadF 66 rfl 26 _ rfl _ lP ?_; (simp only [Act.put, List.setIfInBounds_toArray, List.set_cons_zero, List.set_cons_succ]); go_big_quiet_on) | (go_big_quiet_step (((first | with_reducible refine (ref_covers_ r.D hD q.D hqD _ _ hcv).mono ?_ | with_reducible refine (ref_pfam_ r.D hD _ _ hfd).mono ?_ | with_reducible refine (ref_pfam_ q.D hqD _ _ hfp).mono ?_ | with_reducible refine (ref_bits_ q.D hqD hL _ n hnn.out).mono ?_); rintro e w2 ⟨rfl, hb2⟩; exact ⟨rfl, HN.out _ _ hb2⟩))))
                refine wpQuiet_nil ?_
                rintro w' ⟨x, rfl⟩
                have HB3 := HB.out x
                clear lD lP c19 c20 c21 HB HN hdg hde
                go_wp2_with (fail)
                go_meet
                case rel => exact ⟨by rw [HR.out]; rfl, HB3⟩
              | false =>
                cases hde : decide (r.E < n) with
                | true =>
                  have HR := key _ _ _ _ _ hfd hfp hcv hdg hde
                  clear key
                  repeat (first | (go_big_quiet_want; refine quiet_loadF 42 rfl 26 _ rfl _ lD ?_; (simp only [Act.put, List.setIfInBounds_toArray, List.set_cons_zero, List.set_cons_succ]); go_big_quiet_on) | (go_big_quiet_want; refine quiet_loadF 44 rfl 26 _ rfl _ lP ?_; (simp only [Act.put, List.setIfInBounds_toArray, List.set_cons_zero, List.set_cons_succ]); go_big_quiet_on) | (go_big_quiet_want; refine quiet_loadF 49 rfl 26 _ rfl _ lD ?_; (simp only [Act.put, List.setIfInBounds_toArray, List.set_cons_zero, List.set_cons_succ]); go_big_quiet_on) | (go_big_quiet_want; refine quiet_loadF 52 rfl 26 _ rfl _ lP ?_; (simp only [Act.put, List.setIfInBounds_toArray, List.set_cons_zero, List.set_cons_succ]); go_big_quiet_on) | (go_big_quiet_want; refine quiet_loadF 58 rfl 26 _ rfl _ lP ?_; (simp only [Act.put, List.setIfInBounds_toArray, List.set_cons_zero, List.set_cons_succ]); go_big_quiet_on) | (go_big_quiet_want; refine quiet_loadF 66 rfl 26 _ rfl _ lP ?_; (simp only [Act.put, List.setIfInBounds_toArray, List.set_cons_zero, List.set_cons_succ]); go_big_quiet_on) | (go_big_quiet_step (((first | with_reducible refine (ref_covers_ r.D hD q.D hqD _ _ hcv).mono ?_ | with_reducible refine (ref_pfam_ r.D hD _ _ hfd).mono ?_ | with_reducible refine (ref_pfam_ q.D hqD _ _ hfp).mono ?_ | with_reducible refine (ref_bits_ q.D hqD hL _ n hnn.out).mono ?_); rintro e w2 ⟨rfl, hb2⟩; exact ⟨rfl, HN.out _ _ hb2⟩))))
                  refine wpQuiet_nil ?_
                  rintro w' ⟨x, rfl⟩
                  have HB3 := HB.out x
                  clear lD lP c19 c20 c21 HB HN hdg hde
                  go_wp2_with (fail)
                  go_meet
                  case rel => exact ⟨by rw [HR.out]; rfl, HB3⟩
                | false =>
                  have HR := key _ _ _ _ _ hfd hfp hcv hdg hde
                  clear key
                  repeat (first | (go_big_quiet_want; refine quiet_loadF 42 rfl 26 _ rfl _ lD ?_; (simp only [Act.put, List.setIfInBounds_toArray, List.set_cons_zero, List.set_cons_succ]); go_big_quiet_on) | (go_big_quiet_want; refine quiet_loadF 44 rfl 26 _ rfl _ lP ?_; (simp only [Act.put, List.setIfInBounds_toArray, List.set_cons_zero, List.set_cons_succ]); go_big_quiet_on) | (go_big_quiet_want; refine quiet_loadF 49 rfl 26 _ rfl _ lD ?_; (simp only [Act.put, List.setIfInBounds_toArray, List.set_cons_zero, List.set_cons_succ]); go_big_quiet_on) | (go_big_quiet_want; refine quiet_loadF 52 rfl 26 _ rfl _ lP ?_; (simp only [Act.put, List.setIfInBounds_toArray, List.set_cons_zero, List.set_cons_succ]); go_big_quiet_on) | (go_big_quiet_want; refine quiet_loadF 58 rfl 26 _ rfl _ lP ?_; (simp only [Act.put, List.setIfInBounds_toArray, List.set_cons_zero, List.set_cons_succ]); go_big_quiet_on) | (go_big_quiet_want; refine quiet_loadF 66 rfl 26 _ rfl _ lP ?_; (simp only [Act.put, List.setIfInBounds_toArray, List.set_cons_zero, List.set_cons_succ]); go_big_quiet_on) | (go_big_quiet_step (((first | with_reducible refine (ref_covers_ r.D hD q.D hqD _ _ hcv).mono ?_ | with_reducible refine (ref_pfam_ r.D hD _ _ hfd).mono ?_ | with_reducible refine (ref_pfam_ q.D hqD _ _ hfp).mono ?_ | with_reducible refine (ref_bits_ q.D hqD hL _ n hnn.out).mono ?_); rintro e w2 ⟨rfl, hb2⟩; exact ⟨rfl, HN.out _ _ hb2⟩))))
                  refine wpQuiet_nil ?_
                  rintro w' ⟨x, rfl⟩
                  have HB3 := HB.out x
                  clear lD lP c19 c20 c21 HB HN hdg hde
                  go_wp2_with (fail)
                  go_meet
                  case rel => exact ⟨by rw [HR.out]; rfl, HB3⟩
      case rest =>
        obtain ⟨rfl, HB1⟩ := hcut
        cases hB2 : dstB r q.D with
        | true =>
          have HR := Aside0.mk (show rmatB r chain name q id = false by rw [HR0.out, hB2]; rfl)
          have HB2 := Aside0.mk (below_then HB0.out HB0.out.size HB1)
          clear HB1 lD lS qD qS
          go_wp2_with (fail)
          go_ret
          exact ⟨by rw [HR.out]; rfl, HB2.out⟩
        | false =>
          have HR1 := Aside0.mk (show rmatB r chain name q id = srcB r q.S by rw [HR0.out, hB2]; rfl)
          have HB2 := Aside0.mk (below_then HB0.out HB0.out.size HB1)
          have hb0' := blk_below hb0 HB1
          have hb1' := blk_below hb1 HB1
          obtain ⟨_, _, _, _, _, c39, _, _⟩ := rul_cell hr hb0'
          obtain ⟨_, kS, _, _⟩ := rul_blk hr hb0'
          obtain ⟨_, kQ⟩ := par_blk hq hb1'
          clear HB1 lD lS qD qS hb0 hb1 hB2
          cases hHS : r.HS with
          | false =>
            rw [hHS] at c39
            have HR := Aside0.mk (show rmatB r chain name q id = true by rw [HR1.out]; unfold srcB; rw [hHS]; rfl)
            go_wp2_with (fail)
            go_ret
            exact ⟨by rw [HR.out]; rfl, HB2.out⟩
          | true =>
            rw [hHS] at c39
            obtain ⟨cs, hcs⟩ : ∃ cs, cov r.S q.S = cs := ⟨_, rfl⟩
            have HR := Aside0.mk (show rmatB r chain name q id = cs by rw [HR1.out]; unfold srcB; rw [hHS, hcs]; rfl)
            go_wp2_with (first | ((with_reducible refine gate_dst (N := 78) rfl ?_); (try (refine gate_guard (by rfl) ?_; dsimp only)); refine load_step 26 _ rfl rfl _ kS ?_; (try simp only [Act.put, List.setIfInBounds_toArray, List.set_cons_zero, List.set_cons_succ])) | ((with_reducible refine gate_dst (N := 80) rfl ?_); (try (refine gate_guard (by rfl) ?_; dsimp only)); refine load_step 26 _ rfl rfl _ kQ ?_; (try simp only [Act.put, List.setIfInBounds_toArray, List.set_cons_zero, List.set_cons_succ])))
            refine (ref_covers_ r.S hrS q.S hqS _ _ hcs).mono ?_; rintro e w4 ⟨rfl, hbb⟩
            have HB3 := Aside0.mk (below_then HB2.out HB2.out.size hbb)
            clear hbb
            go_wp2_with (fail)
            go_ret
            exact ⟨by rw [HR.out]; rfl, HB3.out⟩
end Go.Proofs.Ytadgagndfmdjmaa.Fl
