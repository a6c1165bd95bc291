/-
  No cell of these rows narrows 'for every input' (looked for: loops, veiled, ifaces, maps, wideKeys, modest, calm, conditions, laid).
  DERIVED. THE GIVEN ROWS OF THIS SEAT. 5 by the template 'for every input the law returns true; each argument reads behind the call as it read before'; 0 by the template 'total and deterministic' (their statements: YtlhlghmpcimdlaaTotals.lean).
  GIVEN WITH THE SEED: the statements are not yours to turn. If you find one false, say at which input.
  Laid BY PROGRAM, IN A SANDBOX (cutbox-rows.mjs): the forced cells as the released guide's own fill.sh prints them over the translation 53141d1d561b950e… (all of the seat's roots in one cut). By AI agents, Wed Nov 11 2026. No macro, syntax, notation, axiom, sorry.
-/
import Derived.Test.YtlhlghmpcimdlaaChecked
import GoSem.Claim
import GoSem.ClaimJoined
import GoSem.ClaimMapViews
import Derived.JoinedTies
import Derived.KernelRfl
namespace Go.Proofs.Ytlhlghmpcimdlaa
/- THE CELL 'sum', in the pinned program and in every row, IS THE sha256 OF THE DUMP (.gsa) THAT YtlhlghmpcimdlaaProg.lean LOADS. Nothing in Lean hashes anything: it is a label: what it is worth is what the hold of that sum in a sandbox is worth. -/
noncomputable def Try.pinned : Pinned := { name := "ytlhlghmpcimdlaa", sum := "53141d1d561b950e961970e69dd0f1f2c0ac911b2ea3c178dbaabaaa2a99eb90", checked := Try.checked }
namespace Rows
def none {H : Type} : Left H := { results := [], args := [] }

/-- 'culvertlaw11.LinkHears': WHATEVER THE INPUT: true; the input reads as it did. -/
def linkHearsSpec : ChangeSpec := { name := "linkHears", fn := fun _ => fun
  | [d1, d2] => { results := [.lit (.bool true)], args := [d1, d2] }
  | _ => none }
def linkHearsRow : OpenClaim := { program := "ytlhlghmpcimdlaa", sum := "53141d1d561b950e961970e69dd0f1f2c0ac911b2ea3c178dbaabaaa2a99eb90", func := "culvert/culvertlaw11.LinkHears", spec := "linkHears", apart := false }
def LinkHearsSaid : Prop := linkHearsRow.holds Try.pinned (OpenSpec.ofChange linkHearsSpec)

/-- ITS FALSE NEIGHBOUR: 'it returns false'. Refute it at one input. -/
def linkHearsWrong : ChangeSpec := { name := "linkHears", fn := fun _ => fun
  | [d1, d2] => { results := [.lit (.bool false)], args := [d1, d2] }
  | _ => none }
def LinkHearsWrongFalsely : Prop := linkHearsRow.holds Try.pinned (OpenSpec.ofChange linkHearsWrong)

/-- 'culvertlaw11.LinkCosts': WHATEVER THE INPUT: true; the input reads as it did. -/
def linkCostsSpec : ChangeSpec := { name := "linkCosts", fn := fun _ => fun
  | [d1, d2, d3, d4, d5] => { results := [.lit (.bool true)], args := [d1, d2, d3, d4, d5] }
  | _ => none }
def linkCostsRow : OpenClaim := { program := "ytlhlghmpcimdlaa", sum := "53141d1d561b950e961970e69dd0f1f2c0ac911b2ea3c178dbaabaaa2a99eb90", func := "culvert/culvertlaw11.LinkCosts", spec := "linkCosts", apart := false }
def LinkCostsSaid : Prop := linkCostsRow.holds Try.pinned (OpenSpec.ofChange linkCostsSpec)

/-- ITS FALSE NEIGHBOUR: 'it returns false'. Refute it at one input. -/
def linkCostsWrong : ChangeSpec := { name := "linkCosts", fn := fun _ => fun
  | [d1, d2, d3, d4, d5] => { results := [.lit (.bool false)], args := [d1, d2, d3, d4, d5] }
  | _ => none }
def LinkCostsWrongFalsely : Prop := linkCostsRow.holds Try.pinned (OpenSpec.ofChange linkCostsWrong)

/-- 'culvertlaw11.LinkAll': WHATEVER THE INPUT: true; the input reads as it did. -/
def linkAllSpec : ChangeSpec := { name := "linkAll", fn := fun _ => fun
  | [d1, d2, d3, d4] => { results := [.lit (.bool true)], args := [d1, d2, d3, d4] }
  | _ => none }
def linkAllRow : OpenClaim := { program := "ytlhlghmpcimdlaa", sum := "53141d1d561b950e961970e69dd0f1f2c0ac911b2ea3c178dbaabaaa2a99eb90", func := "culvert/culvertlaw11.LinkAll", spec := "linkAll", apart := false }
def LinkAllSaid : Prop := linkAllRow.holds Try.pinned (OpenSpec.ofChange linkAllSpec)

/-- ITS FALSE NEIGHBOUR: 'it returns false'. Refute it at one input. -/
def linkAllWrong : ChangeSpec := { name := "linkAll", fn := fun _ => fun
  | [d1, d2, d3, d4] => { results := [.lit (.bool false)], args := [d1, d2, d3, d4] }
  | _ => none }
def LinkAllWrongFalsely : Prop := linkAllRow.holds Try.pinned (OpenSpec.ofChange linkAllWrong)

/-- 'culvertlaw11.LinkBits': WHATEVER THE INPUT: true; the input reads as it did. -/
def linkBitsSpec : ChangeSpec := { name := "linkBits", fn := fun _ => fun
  | [d1, d2, d3] => { results := [.lit (.bool true)], args := [d1, d2, d3] }
  | _ => none }
def linkBitsRow : OpenClaim := { program := "ytlhlghmpcimdlaa", sum := "53141d1d561b950e961970e69dd0f1f2c0ac911b2ea3c178dbaabaaa2a99eb90", func := "culvert/culvertlaw11.LinkBits", spec := "linkBits", apart := false }
def LinkBitsSaid : Prop := linkBitsRow.holds Try.pinned (OpenSpec.ofChange linkBitsSpec)

/-- ITS FALSE NEIGHBOUR: 'it returns false'. Refute it at one input. -/
def linkBitsWrong : ChangeSpec := { name := "linkBits", fn := fun _ => fun
  | [d1, d2, d3] => { results := [.lit (.bool false)], args := [d1, d2, d3] }
  | _ => none }
def LinkBitsWrongFalsely : Prop := linkBitsRow.holds Try.pinned (OpenSpec.ofChange linkBitsWrong)

/-- 'culvertlaw11.LinkWired': WHATEVER THE INPUT: true; the input reads as it did. -/
def linkWiredSpec : ChangeSpec := { name := "linkWired", fn := fun _ => fun
  | [d1, d2, d3, d4] => { results := [.lit (.bool true)], args := [d1, d2, d3, d4] }
  | _ => none }
def linkWiredRow : OpenClaim := { program := "ytlhlghmpcimdlaa", sum := "53141d1d561b950e961970e69dd0f1f2c0ac911b2ea3c178dbaabaaa2a99eb90", func := "culvert/culvertlaw11.LinkWired", spec := "linkWired", apart := false }
def LinkWiredSaid : Prop := linkWiredRow.holds Try.pinned (OpenSpec.ofChange linkWiredSpec)

/-- ITS FALSE NEIGHBOUR: 'it returns false'. Refute it at one input. -/
def linkWiredWrong : ChangeSpec := { name := "linkWired", fn := fun _ => fun
  | [d1, d2, d3, d4] => { results := [.lit (.bool false)], args := [d1, d2, d3, d4] }
  | _ => none }
def LinkWiredWrongFalsely : Prop := linkWiredRow.holds Try.pinned (OpenSpec.ofChange linkWiredWrong)

/- THE SECOND FORM. 'bulk': how many values and letters a reading holds, each counted each time it is reached (what is shared counts as often as it is met; a slice's spare places count too). A statement '..UptoSaid' is the law's where the arguments, and the package variables that the reading takes, are together of bulk at most 1048576: NARROWER than '..Said'. Prove '..Said' where nothing that the law and all that it calls make is longer than what came in: it says more and counts as full. Else prove '..UptoSaid'. A law counts once. -/
mutual
def uptoBulk {H : Type} : DataW H → Nat
  | .lit (.string bytes) => bytes.length + 1
  | .lit _ => 1
  | .nil => 1
  | .ptr d => uptoBulk d + 1
  | .slice elems spare => uptoBulkAll elems + uptoBulkAll spare + 1
  | .agg parts => uptoBulkAll parts + 1
  | .iface _ d => uptoBulk d + 1
  | .map entries => uptoBulkEntries entries + 1
  | .held _ => 1
def uptoBulkAll {H : Type} : List (DataW H) → Nat
  | [] => 0
  | d :: r => uptoBulk d + uptoBulkAll r
def uptoBulkEntries {H : Type} : List (Lit × DataW H) → Nat
  | [] => 0
  | x :: r => uptoBulkEntry x + uptoBulkEntries r
def uptoBulkEntry {H : Type} : Lit × DataW H → Nat
  | (.string bytes, d) => bytes.length + uptoBulk d + 1
  | (_, d) => uptoBulk d + 1
 end
def uptoSmall : (H : Type) → List (DataW H) → Bool := fun _ ds => decide (uptoBulkAll ds ≤ 1048576)
def OpenSpec.upto (s : _root_.Go.ChangeSpec) : _root_.Go.OpenSpec := { _root_.Go.OpenSpec.ofChange s with cond := some uptoSmall }

/-- 'culvertlaw11.LinkHears', WHERE WHAT IT READS IS OF BULK AT MOST 1048576: true; the input reads as it did. -/
def linkHearsUptoRow : OpenClaim := { program := "ytlhlghmpcimdlaa", sum := "53141d1d561b950e961970e69dd0f1f2c0ac911b2ea3c178dbaabaaa2a99eb90", func := "culvert/culvertlaw11.LinkHears", spec := "linkHears", apart := false, narrowed := true }
def LinkHearsUptoSaid : Prop := linkHearsUptoRow.holds Try.pinned (OpenSpec.upto linkHearsSpec)

/-- 'culvertlaw11.LinkCosts', WHERE WHAT IT READS IS OF BULK AT MOST 1048576: true; the input reads as it did. -/
def linkCostsUptoRow : OpenClaim := { program := "ytlhlghmpcimdlaa", sum := "53141d1d561b950e961970e69dd0f1f2c0ac911b2ea3c178dbaabaaa2a99eb90", func := "culvert/culvertlaw11.LinkCosts", spec := "linkCosts", apart := false, narrowed := true }
def LinkCostsUptoSaid : Prop := linkCostsUptoRow.holds Try.pinned (OpenSpec.upto linkCostsSpec)

/-- 'culvertlaw11.LinkAll', WHERE WHAT IT READS IS OF BULK AT MOST 1048576: true; the input reads as it did. -/
def linkAllUptoRow : OpenClaim := { program := "ytlhlghmpcimdlaa", sum := "53141d1d561b950e961970e69dd0f1f2c0ac911b2ea3c178dbaabaaa2a99eb90", func := "culvert/culvertlaw11.LinkAll", spec := "linkAll", apart := false, narrowed := true }
def LinkAllUptoSaid : Prop := linkAllUptoRow.holds Try.pinned (OpenSpec.upto linkAllSpec)

/-- 'culvertlaw11.LinkBits', WHERE WHAT IT READS IS OF BULK AT MOST 1048576: true; the input reads as it did. -/
def linkBitsUptoRow : OpenClaim := { program := "ytlhlghmpcimdlaa", sum := "53141d1d561b950e961970e69dd0f1f2c0ac911b2ea3c178dbaabaaa2a99eb90", func := "culvert/culvertlaw11.LinkBits", spec := "linkBits", apart := false, narrowed := true }
def LinkBitsUptoSaid : Prop := linkBitsUptoRow.holds Try.pinned (OpenSpec.upto linkBitsSpec)

/-- 'culvertlaw11.LinkWired', WHERE WHAT IT READS IS OF BULK AT MOST 1048576: true; the input reads as it did. -/
def linkWiredUptoRow : OpenClaim := { program := "ytlhlghmpcimdlaa", sum := "53141d1d561b950e961970e69dd0f1f2c0ac911b2ea3c178dbaabaaa2a99eb90", func := "culvert/culvertlaw11.LinkWired", spec := "linkWired", apart := false, narrowed := true }
def LinkWiredUptoSaid : Prop := linkWiredUptoRow.holds Try.pinned (OpenSpec.upto linkWiredSpec)

end Rows
end Go.Proofs.Ytlhlghmpcimdlaa
