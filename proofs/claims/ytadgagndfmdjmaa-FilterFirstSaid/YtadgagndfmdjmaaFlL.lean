/- Literal slices of rules. -/
import Derived.Test.YtadgagndfmdjmaaFlK
namespace Go.Proofs.Ytadgagndfmdjmaa.Fl
open Go.RowKit Go.Proofs.Ytadgagndfmdjmaa.MFi Go.Proofs.YtadgagndfmdjmaaW.PrintWords Go.Proofs.YtadgagndfmdjmaaW.PrintLast
open Extern.Stop (cell)

theorem fold_at : ∀ (cs : List Value) (k : Nat) (zs : Array Value), k + cs.length ≤ zs.size →
    (List.foldl (fun (cs : Array Value) (x : Value × Nat) => cs.setIfInBounds x.snd x.fst) zs (cs.zipIdx k)).toList = zs.toList.take k ++ (cs ++ zs.toList.drop (k + cs.length))
  | [], k, zs, _ => by simp
  | c :: cs, k, zs, h => by
    rw [List.length_cons] at h
    have hk : k < zs.toList.length := by rw [Array.length_toList]; omega
    rw [List.zipIdx_cons, List.foldl_cons, fold_at cs (k + 1) (zs.setIfInBounds k c) (by rw [Array.size_setIfInBounds]; omega), List.length_cons, show k + 1 + cs.length = k + (cs.length + 1) by omega]
    have e : (zs.setIfInBounds k c).toList = zs.toList.set k c := by simp
    rw [e, List.take_set, List.drop_set_of_lt (by omega)]
    have h2 : (zs.toList.take (k + 1)).set k c = zs.toList.take k ++ [c] := by
      rw [List.take_succ_eq_append_getElem hk, List.set_append_right _ _ (by rw [List.length_take]; omega), List.length_take, show k - min k zs.toList.length = 0 by omega]; rfl
    rw [h2]
    simp
theorem fold_row (cs : List Value) (zs : Array Value) (h : cs.length = zs.size) : List.foldl (fun (cs : Array Value) (x : Value × Nat) => cs.setIfInBounds x.snd x.fst) zs cs.zipIdx = cs.toArray := by
  apply Array.toList_inj.1
  rw [fold_at cs 0 zs (by omega)]
  simp [h]
theorem RD_one {r : Rul} (hr : r.Ok) {w : World} {g : Nat} {T : TypeId} (hg : w.heap[g]? = some (.cells (rc r).toArray T (0, 0))) : RD w (some ⟨g, 0, none⟩) [r] := by
  refine ⟨rfl, by simp, fun _ => ⟨_, rfl, fun j p hj => ?_⟩⟩
  obtain ⟨hj1, rfl⟩ := List.getElem?_eq_some_iff.1 hj
  have : j = 0 := by simpa using hj1
  subst this
  refine ⟨rc r, rc_len hr, ⟨rfl, hr⟩, fun i u hi => ?_⟩
  rw [show 0 * 50 + i = i by omega, Addr.add_mid, Nat.zero_add, blk_cell hg, List.getElem?_toArray]
  exact hi
theorem RD_two {r s : Rul} (hr : r.Ok) (hs : s.Ok) {w : World} {g : Nat} {T : TypeId} (hg : w.heap[g]? = some (.cells (rc r ++ rc s).toArray T (0, 0))) : RD w (some ⟨g, 0, none⟩) [r, s] := by
  refine ⟨rfl, by simp, fun _ => ⟨_, rfl, fun j p hj => ?_⟩⟩
  match j, hj with
  | 0, hj =>
    obtain rfl : r = p := by simpa using hj
    refine ⟨rc r, rc_len hr, ⟨rfl, hr⟩, fun i u hi => ?_⟩
    have hi1 := (List.getElem?_eq_some_iff.1 hi).1
    rw [show 0 * 50 + i = i by omega, Addr.add_mid, Nat.zero_add, blk_cell hg, List.getElem?_toArray, List.getElem?_append_left hi1]
    exact hi
  | 1, hj =>
    obtain rfl : s = p := by simpa using hj
    refine ⟨rc s, rc_len hs, ⟨rfl, hs⟩, fun i u hi => ?_⟩
    rw [Addr.add_mid, Nat.zero_add, blk_cell hg, List.getElem?_toArray, List.getElem?_append_right (by rw [rc_len hr]; omega), rc_len hr, show 1 * 50 + i - 50 = i by omega]
    exact hi
theorem fil_metric_ (A : Option Addr) (c : Nat) (l : List Rul) (n : Nat) (hn : l.length = n) (chain : Int) (name : ByteArray) (q : Par) (hq : q.Ok) (hL : In64 q.D.L) (id : List UInt8) (hid : id.length = 8) (m : Int) (hm : 0 ≤ m ∧ m ≤ 65535) (w : World) (hr : RD w A l) (v : Int) (hv : metV (fun r => matB r chain name q id) l m = v) :
    Calls Try.prog 11 #[.int .i64 chain, .string name, .agg (qc q).toArray, .agg (bs id).toArray, .int .u16 m, .slice A n c] w fun e w' => e = .returned (.int .u16 v) ∧ Below w.heap.size w w' := by
  subst hn hv
  exact fil_metric A c l chain name q hq hL id hid m hm w hr
theorem ref_metric_ (A : Option Addr) (c : Nat) (l : List Rul) (chain : Int) (name : ByteArray) (q : Par) (hq : q.Ok) (hL : In64 q.D.L) (id : List UInt8) (hid : id.length = 8) (m : Int) (hm : 0 ≤ m ∧ m ≤ 65535) (w : World) (hr : RD w A l) (v : Int) (hv : metV (fun r => rmatB r chain name q id) l m = v) :
    Calls Try.prog 12 #[.int .i64 chain, .string name, .agg (qc q).toArray, .agg (bs id).toArray, .int .u16 m, .slice A l.length c] w fun e w' => e = .returned (.int .u16 v) ∧ Below w.heap.size w w' := by
  subst hv
  exact ref_metric A c l chain name q hq hL id hid m hm w hr
end Go.Proofs.Ytadgagndfmdjmaa.Fl
