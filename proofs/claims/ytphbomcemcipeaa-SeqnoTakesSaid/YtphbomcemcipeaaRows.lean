/-
  No cell of these rows narrows 'for every input' (looked for: loops, veiled, ifaces, maps, wideKeys, modest, calm, conditions, laid).
  DERIVED. THE GIVEN ROWS OF THIS SEAT. 5 by the template 'for every input the law returns true; each argument reads behind the call as it read before'; 0 by the template 'total and deterministic' (their statements: YtphbomcemcipeaaTotals.lean).
  GIVEN WITH THE SEED: the statements are not yours to turn. If you find one false, say at which input.
  Laid BY PROGRAM, IN A SANDBOX (cutbox-rows.mjs): the forced cells as the released guide's own fill.sh prints them over the translation e8579d76881af447… (all of the seat's roots in one cut). By AI agents, Wed Nov 11 2026. No macro, syntax, notation, axiom, sorry.
-/
import Derived.Test.YtphbomcemcipeaaChecked
import GoSem.Claim
import GoSem.ClaimJoined
import GoSem.ClaimMapViews
import Derived.JoinedTies
import Derived.KernelRfl
namespace Go.Proofs.Ytphbomcemcipeaa
/- THE CELL 'sum', in the pinned program and in every row, IS THE sha256 OF THE DUMP (.gsa) THAT YtphbomcemcipeaaProg.lean LOADS. Nothing in Lean hashes anything: it is a label: what it is worth is what the hold of that sum in a sandbox is worth. -/
noncomputable def Try.pinned : Pinned := { name := "ytphbomcemcipeaa", sum := "e8579d76881af4479503eb002ad74338056383c51ac47eb8550bc176d7b40a42", checked := Try.checked }
namespace Rows
def none {H : Type} : Left H := { results := [], args := [] }

/-- 'culvertlaw03.SeqnoCounts': WHATEVER THE INPUT: true; the input reads as it did. -/
def seqnoCountsSpec : ChangeSpec := { name := "seqnoCounts", fn := fun _ => fun
  | [d1, d2, d3, d4, d5, d6] => { results := [.lit (.bool true)], args := [d1, d2, d3, d4, d5, d6] }
  | _ => none }
def seqnoCountsRow : OpenClaim := { program := "ytphbomcemcipeaa", sum := "e8579d76881af4479503eb002ad74338056383c51ac47eb8550bc176d7b40a42", func := "culvert/culvertlaw03.SeqnoCounts", spec := "seqnoCounts", apart := false }
def SeqnoCountsSaid : Prop := seqnoCountsRow.holds Try.pinned (OpenSpec.ofChange seqnoCountsSpec)

/-- ITS FALSE NEIGHBOUR: 'it returns false'. Refute it at one input. -/
def seqnoCountsWrong : ChangeSpec := { name := "seqnoCounts", fn := fun _ => fun
  | [d1, d2, d3, d4, d5, d6] => { results := [.lit (.bool false)], args := [d1, d2, d3, d4, d5, d6] }
  | _ => none }
def SeqnoCountsWrongFalsely : Prop := seqnoCountsRow.holds Try.pinned (OpenSpec.ofChange seqnoCountsWrong)

/-- 'culvertlaw03.SeqnoOnce': WHATEVER THE INPUT: true; the input reads as it did. -/
def seqnoOnceSpec : ChangeSpec := { name := "seqnoOnce", fn := fun _ => fun
  | [d1, d2] => { results := [.lit (.bool true)], args := [d1, d2] }
  | _ => none }
def seqnoOnceRow : OpenClaim := { program := "ytphbomcemcipeaa", sum := "e8579d76881af4479503eb002ad74338056383c51ac47eb8550bc176d7b40a42", func := "culvert/culvertlaw03.SeqnoOnce", spec := "seqnoOnce", apart := false }
def SeqnoOnceSaid : Prop := seqnoOnceRow.holds Try.pinned (OpenSpec.ofChange seqnoOnceSpec)

/-- ITS FALSE NEIGHBOUR: 'it returns false'. Refute it at one input. -/
def seqnoOnceWrong : ChangeSpec := { name := "seqnoOnce", fn := fun _ => fun
  | [d1, d2] => { results := [.lit (.bool false)], args := [d1, d2] }
  | _ => none }
def SeqnoOnceWrongFalsely : Prop := seqnoOnceRow.holds Try.pinned (OpenSpec.ofChange seqnoOnceWrong)

/-- 'culvertlaw03.SeqnoSums': WHATEVER THE INPUT: true; the input reads as it did. -/
def seqnoSumsSpec : ChangeSpec := { name := "seqnoSums", fn := fun _ => fun
  | [d1, d2] => { results := [.lit (.bool true)], args := [d1, d2] }
  | _ => none }
def seqnoSumsRow : OpenClaim := { program := "ytphbomcemcipeaa", sum := "e8579d76881af4479503eb002ad74338056383c51ac47eb8550bc176d7b40a42", func := "culvert/culvertlaw03.SeqnoSums", spec := "seqnoSums", apart := false }
def SeqnoSumsSaid : Prop := seqnoSumsRow.holds Try.pinned (OpenSpec.ofChange seqnoSumsSpec)

/-- ITS FALSE NEIGHBOUR: 'it returns false'. Refute it at one input. -/
def seqnoSumsWrong : ChangeSpec := { name := "seqnoSums", fn := fun _ => fun
  | [d1, d2] => { results := [.lit (.bool false)], args := [d1, d2] }
  | _ => none }
def SeqnoSumsWrongFalsely : Prop := seqnoSumsRow.holds Try.pinned (OpenSpec.ofChange seqnoSumsWrong)

/-- 'culvertlaw03.SeqnoKept': WHATEVER THE INPUT: true; the input reads as it did. -/
def seqnoKeptSpec : ChangeSpec := { name := "seqnoKept", fn := fun _ => fun
  | [d1, d2] => { results := [.lit (.bool true)], args := [d1, d2] }
  | _ => none }
def seqnoKeptRow : OpenClaim := { program := "ytphbomcemcipeaa", sum := "e8579d76881af4479503eb002ad74338056383c51ac47eb8550bc176d7b40a42", func := "culvert/culvertlaw03.SeqnoKept", spec := "seqnoKept", apart := false }
def SeqnoKeptSaid : Prop := seqnoKeptRow.holds Try.pinned (OpenSpec.ofChange seqnoKeptSpec)

/-- ITS FALSE NEIGHBOUR: 'it returns false'. Refute it at one input. -/
def seqnoKeptWrong : ChangeSpec := { name := "seqnoKept", fn := fun _ => fun
  | [d1, d2] => { results := [.lit (.bool false)], args := [d1, d2] }
  | _ => none }
def SeqnoKeptWrongFalsely : Prop := seqnoKeptRow.holds Try.pinned (OpenSpec.ofChange seqnoKeptWrong)

/-- 'culvertlaw03.SeqnoTakes': WHATEVER THE INPUT: true; the input reads as it did. -/
def seqnoTakesSpec : ChangeSpec := { name := "seqnoTakes", fn := fun _ => fun
  | [d1, d2] => { results := [.lit (.bool true)], args := [d1, d2] }
  | _ => none }
def seqnoTakesRow : OpenClaim := { program := "ytphbomcemcipeaa", sum := "e8579d76881af4479503eb002ad74338056383c51ac47eb8550bc176d7b40a42", func := "culvert/culvertlaw03.SeqnoTakes", spec := "seqnoTakes", apart := false }
def SeqnoTakesSaid : Prop := seqnoTakesRow.holds Try.pinned (OpenSpec.ofChange seqnoTakesSpec)

/-- ITS FALSE NEIGHBOUR: 'it returns false'. Refute it at one input. -/
def seqnoTakesWrong : ChangeSpec := { name := "seqnoTakes", fn := fun _ => fun
  | [d1, d2] => { results := [.lit (.bool false)], args := [d1, d2] }
  | _ => none }
def SeqnoTakesWrongFalsely : Prop := seqnoTakesRow.holds Try.pinned (OpenSpec.ofChange seqnoTakesWrong)

/- THE SECOND FORM. 'bulk': how many values and letters a reading holds, each counted each time it is reached (what is shared counts as often as it is met; a slice's spare places count too). A statement '..UptoSaid' is the law's where the arguments, and the package variables that the reading takes, are together of bulk at most 1048576: NARROWER than '..Said'. Prove '..Said' where nothing that the law and all that it calls make is longer than what came in: it says more and counts as full. Else prove '..UptoSaid'. A law counts once. -/
mutual
def uptoBulk {H : Type} : DataW H → Nat
  | .lit (.string bytes) => bytes.length + 1
  | .lit _ => 1
  | .nil => 1
  | .ptr d => uptoBulk d + 1
  | .slice elems spare => uptoBulkAll elems + uptoBulkAll spare + 1
  | .agg parts => uptoBulkAll parts + 1
  | .iface _ d => uptoBulk d + 1
  | .map entries => uptoBulkEntries entries + 1
  | .held _ => 1
def uptoBulkAll {H : Type} : List (DataW H) → Nat
  | [] => 0
  | d :: r => uptoBulk d + uptoBulkAll r
def uptoBulkEntries {H : Type} : List (Lit × DataW H) → Nat
  | [] => 0
  | x :: r => uptoBulkEntry x + uptoBulkEntries r
def uptoBulkEntry {H : Type} : Lit × DataW H → Nat
  | (.string bytes, d) => bytes.length + uptoBulk d + 1
  | (_, d) => uptoBulk d + 1
 end
def uptoSmall : (H : Type) → List (DataW H) → Bool := fun _ ds => decide (uptoBulkAll ds ≤ 1048576)
def OpenSpec.upto (s : _root_.Go.ChangeSpec) : _root_.Go.OpenSpec := { _root_.Go.OpenSpec.ofChange s with cond := some uptoSmall }

/-- 'culvertlaw03.SeqnoCounts', WHERE WHAT IT READS IS OF BULK AT MOST 1048576: true; the input reads as it did. -/
def seqnoCountsUptoRow : OpenClaim := { program := "ytphbomcemcipeaa", sum := "e8579d76881af4479503eb002ad74338056383c51ac47eb8550bc176d7b40a42", func := "culvert/culvertlaw03.SeqnoCounts", spec := "seqnoCounts", apart := false, narrowed := true }
def SeqnoCountsUptoSaid : Prop := seqnoCountsUptoRow.holds Try.pinned (OpenSpec.upto seqnoCountsSpec)

/-- 'culvertlaw03.SeqnoOnce', WHERE WHAT IT READS IS OF BULK AT MOST 1048576: true; the input reads as it did. -/
def seqnoOnceUptoRow : OpenClaim := { program := "ytphbomcemcipeaa", sum := "e8579d76881af4479503eb002ad74338056383c51ac47eb8550bc176d7b40a42", func := "culvert/culvertlaw03.SeqnoOnce", spec := "seqnoOnce", apart := false, narrowed := true }
def SeqnoOnceUptoSaid : Prop := seqnoOnceUptoRow.holds Try.pinned (OpenSpec.upto seqnoOnceSpec)

/-- 'culvertlaw03.SeqnoSums', WHERE WHAT IT READS IS OF BULK AT MOST 1048576: true; the input reads as it did. -/
def seqnoSumsUptoRow : OpenClaim := { program := "ytphbomcemcipeaa", sum := "e8579d76881af4479503eb002ad74338056383c51ac47eb8550bc176d7b40a42", func := "culvert/culvertlaw03.SeqnoSums", spec := "seqnoSums", apart := false, narrowed := true }
def SeqnoSumsUptoSaid : Prop := seqnoSumsUptoRow.holds Try.pinned (OpenSpec.upto seqnoSumsSpec)

/-- 'culvertlaw03.SeqnoKept', WHERE WHAT IT READS IS OF BULK AT MOST 1048576: true; the input reads as it did. -/
def seqnoKeptUptoRow : OpenClaim := { program := "ytphbomcemcipeaa", sum := "e8579d76881af4479503eb002ad74338056383c51ac47eb8550bc176d7b40a42", func := "culvert/culvertlaw03.SeqnoKept", spec := "seqnoKept", apart := false, narrowed := true }
def SeqnoKeptUptoSaid : Prop := seqnoKeptUptoRow.holds Try.pinned (OpenSpec.upto seqnoKeptSpec)

/-- 'culvertlaw03.SeqnoTakes', WHERE WHAT IT READS IS OF BULK AT MOST 1048576: true; the input reads as it did. -/
def seqnoTakesUptoRow : OpenClaim := { program := "ytphbomcemcipeaa", sum := "e8579d76881af4479503eb002ad74338056383c51ac47eb8550bc176d7b40a42", func := "culvert/culvertlaw03.SeqnoTakes", spec := "seqnoTakes", apart := false, narrowed := true }
def SeqnoTakesUptoSaid : Prop := seqnoTakesUptoRow.holds Try.pinned (OpenSpec.upto seqnoTakesSpec)

end Rows
end Go.Proofs.Ytphbomcemcipeaa
