/- The walk of culvertlaw10.FilterChains. -/
import Derived.Test.YtadgagndfmdjmaaFlN
import Derived.Test.YtadgagndfmdjmaaFlV
import Derived.Deep.CutRange
namespace Go.Proofs.Ytadgagndfmdjmaa.Fl
open Go.RowKit Go.Proofs.Ytadgagndfmdjmaa.MFi Go.Proofs.YtadgagndfmdjmaaW.PrintWords Go.Proofs.YtadgagndfmdjmaaW.PrintLast Go.Proofs.YtadgagndfmdjmaaW.PrintMore
open Extern.Stop (cell)

/-- Is a rule of this chain, and of this interface? -/
def selB (chain : Int) (name : ByteArray) (r : Rul) : Bool := decide (r.C = chain) && !ifB r name
theorem sel_of {chain : Int} {name : ByteArray} {r : Rul} {q : Par} {id : List UInt8} (h : matB r chain name q id = true) : selB chain name r = true := by
  unfold matB at h
  unfold selB
  by_cases hC : r.C = chain
  · rw [if_pos hC] at h
    rw [decide_eq_true hC]
    cases hi : ifB r name with
    | true => rw [hi, if_pos rfl] at h; cases h
    | false => rfl
  · rw [if_neg hC] at h; cases h
theorem met_sel (chain : Int) (name : ByteArray) (q : Par) (id : List UInt8) (l : List Rul) (m : Int) : metV (fun r => matB r chain name q id) (l.filter (selB chain name)) m = metV (fun r => matB r chain name q id) l m := by
  induction l with
  | nil => rfl
  | cons x l ih =>
    rw [List.filter_cons]
    by_cases h : matB x chain name q id = true
    · rw [if_pos (sel_of h), metV, metV, if_pos h, if_pos h]
    · split
      · rw [metV, metV, if_neg h, if_neg h, ih]
      · rw [metV, if_neg h, ih]
theorem RD_nil (w : World) : RD w none [] := ⟨rfl, Nat.zero_le _, fun h => absurd h (Nat.lt_irrefl 0)⟩
theorem met_nil (p : Rul → Bool) (m : Int) : metV p [] m = m := rfl
theorem filter_snoc (chain : Int) (name : ByteArray) {l : List Rul} {k : Nat} {x : Rul} (hx : l[k]? = some x) : (l.take (k + 1)).filter (selB chain name) = if selB chain name x = true then (l.take k).filter (selB chain name) ++ [x] else (l.take k).filter (selB chain name) := by
  obtain ⟨hk, rfl⟩ := List.getElem?_eq_some_iff.1 hx
  rw [List.take_succ_eq_append_getElem hk, List.filter_append]
  split
  · rename_i h; rw [List.filter_cons, if_pos h, List.filter_nil]
  · rename_i h; rw [List.filter_cons, if_neg h, List.filter_nil, List.append_nil]
theorem filter_ok {chain : Int} {name : ByteArray} {l : List Rul} (h : ∀ r ∈ l, r.Ok) : ∀ r ∈ l.filter (selB chain name), r.Ok := fun r hr => h r (List.mem_filter.1 hr).1
set_option maxRecDepth 100000 in
set_option maxHeartbeats 4000000 in
theorem law_chains (A : Option Addr) (c : Nat) (l : List Rul) (chain : Int) (name : ByteArray) (q : Par) (hq : q.Ok) (hL : In64 q.D.L) (id : List UInt8) (hid : id.length = 8) (m : Int) (hm : 0 ≤ m ∧ m ≤ 65535) (w : World) (hr : RD w A l) :
    Calls Try.prog 5 #[.slice A l.length c, .int .i64 chain, .string name, .agg (qc q).toArray, .agg (bs id).toArray, .int .u16 m] w fun e w' => e = .returned (.bool true) ∧ Below w.heap.size w w' := by
  have HR := Aside0.mk hr
  have hmx := hr.2.1
  clear hr
  go_enter Try.func5, Try.ntmps5
  go_wp2_with (first | ((with_reducible refine gate_dst (N := 9) rfl ?_); refine box_gen 28 _ rfl rfl (qc q).toArray ?hx ?_; (case hx => rfl); intro w1 g1 b1; (try simp only [Act.put, List.setIfInBounds_toArray, List.set_cons_zero, List.set_cons_succ])) | (((with_reducible refine gate_dst (N := 10) rfl ?_); refine box_gen 30 _ rfl rfl (bs id).toArray ?hx ?_; (case hx => rfl); intro w2 g2 b2; (try simp only [Act.put, List.setIfInBounds_toArray, List.set_cons_zero, List.set_cons_succ])); have HB0 := Aside0.mk (below_then b1.out.1 b1.out.1.size b2.out.1); have HP := Aside0.mk (blk_below g1.out b2.out.1); have HD := Aside0.mk g2.out; have kP := par_all hq HP.out; clear g1 g2 b1 b2) | ((with_reducible refine gate_dst (N := 16) rfl ?_); (try (refine gate_guard (by rfl) ?_; dsimp only)); refine load_step 28 _ rfl rfl _ kP ?_; (try simp only [Act.put, List.setIfInBounds_toArray, List.set_cons_zero, List.set_cons_succ])))
  refine (law_right A c l q hq _ (RD.below HR.out HB0.out)).mono ?_; rintro e w3 ⟨⟨b, rfl, hb3⟩, hbb⟩
  have HB3 := Aside0.mk (below_then HB0.out HB0.out.size hbb)
  have HP3 := Aside0.mk (blk_below HP.out hbb)
  have HD3 := Aside0.mk (blk_below HD.out hbb)
  clear hbb kP HP HD HB0
  cases b with
  | false =>
    go_wp2_with (fail)
    refine (law_live _).mono ?_; rintro e w4 ⟨rfl, hbb⟩
    have HB4 := Aside0.mk (below_then HB3.out HB3.out.size hbb)
    clear hbb
    go_wp2_with (fail)
    go_ret
    exact ⟨rfl, HB4.out⟩
  | true =>
    have h300 : l.length ≤ 300 := hb3 rfl
    clear hb3
    go_wp2_with (fail)
    go_loopw [13, 14] (fun v i wr => ∃ k : Nat, k ≤ l.length ∧ i = .int .i64 k ∧ Aside0 (OW wr w3.heap.size v ((l.take k).filter (selB chain name))) ∧ Aside0 (Below w3.heap.size w3 wr)) (fun _ i _ => l.length - (intOf i).toNat)
    case atStart => exact ⟨0, Nat.zero_le _, rfl, ⟨OwnRow.none_ _ _ _ _ _⟩, ⟨Below.refl _ _⟩⟩
    case round =>
      obtain ⟨k, hk, rfl, HO, HB⟩ := hrel
      have HB7 := Aside0.mk (below_then HB3.out HB3.out.size HB.out)
      by_cases hlt : k < l.length
      · obtain ⟨ad, x, rfl, hx, hxok, l41, c0, c1, _, _⟩ := RD.at (RD.below HR.out HB7.out) k hlt
        go_upto_region 7 with (fail)
        go_cut [49] from 20 to 56 (fun v w' => v = .bool (selB chain name x) ∧ wr = w')
        case first =>
          by_cases hC : x.C = chain
          · have dC : (x.C == chain) = true := by rw [beq_iff_eq]; exact hC
            by_cases hI : x.I.toList = []
            · have hE : (x.I.toList == ([] : List UInt8)) = true := by rw [hI]; rfl
              have HR' := Aside0.mk (show selB chain name x = true by unfold selB ifB; rw [decide_eq_true hC, if_pos hI]; rfl)
              go_wp2_with (fail)
              go_meet
              case rel => exact ⟨by rw [HR'.out], rfl⟩
            · have hE : (x.I.toList == ([] : List UInt8)) = false := by rw [beq_eq_false_iff_ne]; exact hI
              have hE2 : x.I.toList.isEmpty = false := by cases hx : x.I.toList with | nil => exact absurd hx hI | cons _ _ => rfl
              cases hE3 : (x.I.toList == name.toList) with
              | true =>
                have HR' := Aside0.mk (show selB chain name x = true by unfold selB ifB; rw [decide_eq_true hC, if_neg hI, hE3]; rfl)
                go_wp2_with (fail)
                go_meet
                case rel => exact ⟨by rw [HR'.out], rfl⟩
              | false =>
                have HR' := Aside0.mk (show selB chain name x = false by unfold selB ifB; rw [decide_eq_true hC, if_neg hI, hE3]; rfl)
                go_wp2_with (fail)
                go_meet
                case rel => exact ⟨by rw [HR'.out], rfl⟩
          · have dC : (x.C == chain) = false := by rw [beq_eq_false_iff_ne]; exact hC
            have HR' := Aside0.mk (show selB chain name x = false by unfold selB; rw [decide_eq_false hC]; rfl)
            go_wp2_with (fail)
            go_meet
            case rel => exact ⟨by rw [HR'.out], rfl⟩
        case rest =>
          obtain ⟨rfl, rfl⟩ := hcut
          clear c0 c1
          have HF := Aside0.mk (filter_snoc chain name hx)
          cases hs : selB chain name x with
          | false =>
            have HO2 := Aside0.mk (show OW wr w3.heap.size u13 ((l.take (k + 1)).filter (selB chain name)) by rw [HF.out, if_neg (by rw [hs]; decide)]; exact HO.out)
            clear hs l41
            go_wp2_with (fail)
            go_roundw
            case rel => exact ⟨k + 1, by omega, by go_num, HO2, HB⟩
            case measure => simp [intOf]; omega
          | true =>
            have hlen : ((l.take k).filter (selB chain name)).length ≤ 300 := by
              have := List.length_filter_le (selB chain name) (l.take k)
              rw [List.length_take] at this
              omega
            have HS := Aside0.mk (show (l.take (k + 1)).filter (selB chain name) = (l.take k).filter (selB chain name) ++ [x] by rw [HF.out, if_pos hs])
            clear hs
            have hl50 : (rc x).length = 50 := rc_len hxok
            go_wp2_with (first | ((with_reducible refine gate_dst (N := 54) rfl ?_); (try (refine gate_guard (by rfl) ?_; dsimp only)); refine load_step 41 _ rfl rfl _ l41 ?_; (try simp only [Act.put, List.setIfInBounds_toArray, List.set_cons_zero, List.set_cons_succ])) | ((with_reducible refine gate_builtin (b := .append) (xs := #[.tmp 50, .tmp 55]) rfl ?_); (try (refine gate_guard (by rfl) ?_; dsimp only)); at_builtin; rw [fold_row (rc x) _ (by rw [rc_len hxok]; rfl)]; refine OwnRow.append (R := KR) (w0 := w3) w3.heap.size rfl (.tmp 50) (.tmp 55) 22 41 (.agg (rc zrul).toArray) 50 120 rfl Try.underlying22 (by kernel_rfl) rfl (by omega) (by omega) _ _ x (rc x) rfl rfl ⟨rfl, hxok⟩ (rc_len hxok) rc_one HO.out HB.out HB.out.size (by omega) ?_; intro v8 w8 hO8 hB8 hg8 ha8; clear hg8 ha8; (try simp only [Act.put, List.setIfInBounds_toArray, List.set_cons_zero, List.set_cons_succ])))
            have HO8 := Aside0.mk (HS.out ▸ hO8)
            have HB8 := Aside0.mk hB8
            clear hO8 hB8
            go_roundw
            case rel => exact ⟨k + 1, by omega, by go_num, HO8, HB8⟩
            case measure => simp [intOf]; omega
      · obtain rfl : k = l.length := by omega
        rw [List.take_length] at HO
        obtain ⟨V, hV⟩ : ∃ V, metV (fun r => matB r chain name q id) l m = V := ⟨_, rfl⟩
        have HV := Aside0.mk hV
        have HV2 := Aside0.mk ((met_sel chain name q id l m).trans hV)
        have hVV : (V == V) = true := by simp
        have hmm : (m == m) = true := by simp
        obtain ⟨A2, c2, rfl, hc2, HC⟩ := HO.out.reads
        have HC2 := Aside0.mk HC
        have HP7 := Aside0.mk (blk_below HP3.out HB.out)
        have HD7 := Aside0.mk (blk_below HD3.out HB.out)
        clear HC HO hV HP3 HD3
        go_upto_region 9 with (fail)
        refine region_quietB (by kernel_rfl) (by kernel_rfl) ?_
        intro X F _ HB' HN
        have kP : ∀ y, _ := fun y => par_all hq (blk_below HP7.out (HB'.out y))
        have kD : ∀ y, _ := fun y => arr_blk (ty := 30) hid (blk_below HD7.out (HB'.out y)) Try.underlying30 rfl (by kernel_rfl)
        repeat (first | (go_big_quiet_want; refine quiet_loadF 59 rfl 28 _ rfl _ kP ?_; (simp only [Act.put, List.setIfInBounds_toArray, List.set_cons_zero, List.set_cons_succ]); go_big_quiet_on) | (go_big_quiet_want; refine quiet_loadF 60 rfl 30 _ rfl _ kD ?_; (simp only [Act.put, List.setIfInBounds_toArray, List.set_cons_zero, List.set_cons_succ]); go_big_quiet_on) | (go_big_quiet_want; refine quiet_loadF 66 rfl 28 _ rfl _ kP ?_; (simp only [Act.put, List.setIfInBounds_toArray, List.set_cons_zero, List.set_cons_succ]); go_big_quiet_on) | (go_big_quiet_want; refine quiet_loadF 67 rfl 30 _ rfl _ kD ?_; (simp only [Act.put, List.setIfInBounds_toArray, List.set_cons_zero, List.set_cons_succ]); go_big_quiet_on) | (go_big_quiet_want; refine quiet_loadF 75 rfl 28 _ rfl _ kP ?_; (simp only [Act.put, List.setIfInBounds_toArray, List.set_cons_zero, List.set_cons_succ]); go_big_quiet_on) | (go_big_quiet_want; refine quiet_loadF 76 rfl 30 _ rfl _ kD ?_; (simp only [Act.put, List.setIfInBounds_toArray, List.set_cons_zero, List.set_cons_succ]); go_big_quiet_on) | (go_big_quiet_step (((first | with_reducible refine (fil_metric_ A c l l.length rfl chain name q hq hL id hid m hm _ (RD.below HR.out ?hw1) V HV.out).mono ?_ | with_reducible refine (fil_metric_ A2 c2 _ _ rfl chain name q hq hL id hid m hm _ (RD.below HC2.out ?hw1) V HV2.out).mono ?_ | with_reducible refine (fil_metric_ none 0 [] 0 List.length_nil chain name q hq hL id hid m hm _ (RD_nil _) m (met_nil _ _)).mono ?_ | with_reducible refine (law_live _).mono ?_); (try (case hw1 => first | exact below_then HB7.out HB7.out.size (HB'.out _) | exact HB'.out _)); rintro e w2 ⟨rfl, hb2⟩; exact ⟨rfl, HN.out _ _ hb2⟩))))
        refine wpQuiet_nil ?_
        rintro w' ⟨y, rfl⟩
        have HB8 := Aside0.mk (below_then HB7.out HB7.out.size (HB'.out y))
        clear kP kD HB' HN
        go_wp2_with (fail)
        go_ret
        exact ⟨rfl, HB8.out⟩
end Go.Proofs.Ytadgagndfmdjmaa.Fl
