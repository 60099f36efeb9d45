/-
  No cell of these rows narrows 'for every input' (looked for: loops, veiled, ifaces, maps, wideKeys, modest, calm, conditions, laid).
  DERIVED. THE GIVEN ROWS OF THIS SEAT. 12 by the template 'for every input the law returns true; each argument reads behind the call as it read before'; 0 by the template 'total and deterministic' (their statements: YthideehlhhpkjaaTotals.lean).
  GIVEN WITH THE SEED: the statements are not yours to turn. If you find one false, say at which input.
  Laid BY PROGRAM, IN A SANDBOX (cutbox-rows.mjs): the forced cells as the released guide's own fill.sh prints them over the translation a0758e9b5050501e… (all of the seat's roots in one cut). By AI agents, Wed Nov 11 2026. No macro, syntax, notation, axiom, sorry.
-/
import Derived.Test.YthideehlhhpkjaaChecked
import GoSem.Claim
import GoSem.ClaimJoined
import GoSem.ClaimMapViews
import Derived.JoinedTies
import Derived.KernelRfl
namespace Go.Proofs.Ythideehlhhpkjaa
/- THE CELL 'sum', in the pinned program and in every row, IS THE sha256 OF THE DUMP (.gsa) THAT YthideehlhhpkjaaProg.lean LOADS. Nothing in Lean hashes anything: it is a label: what it is worth is what the hold of that sum in a sandbox is worth. -/
noncomputable def Try.pinned : Pinned := { name := "ythideehlhhpkjaa", sum := "a0758e9b5050501e864001b47fec7d57e46bf4b9aa86fbe6debeeda87acf6e77", checked := Try.checked }
namespace Rows
def none {H : Type} : Left H := { results := [], args := [] }

/-- 'laws.FnExactQueueAt': WHATEVER THE INPUT: true; the input reads as it did. -/
def fnExactQueueAtSpec : ChangeSpec := { name := "fnExactQueueAt", fn := fun _ => fun
  | [d1, d2] => { results := [.lit (.bool true)], args := [d1, d2] }
  | _ => none }
def fnExactQueueAtRow : OpenClaim := { program := "ythideehlhhpkjaa", sum := "a0758e9b5050501e864001b47fec7d57e46bf4b9aa86fbe6debeeda87acf6e77", func := "loop.example/g00494/laws.FnExactQueueAt", spec := "fnExactQueueAt", unfollowed := true, recurses := true, apart := false }
def FnExactQueueAtSaid : Prop := fnExactQueueAtRow.holds Try.pinned (OpenSpec.ofChange fnExactQueueAtSpec)

/-- ITS FALSE NEIGHBOUR: 'it returns false'. Refute it at one input. -/
def fnExactQueueAtWrong : ChangeSpec := { name := "fnExactQueueAt", fn := fun _ => fun
  | [d1, d2] => { results := [.lit (.bool false)], args := [d1, d2] }
  | _ => none }
def FnExactQueueAtWrongFalsely : Prop := fnExactQueueAtRow.holds Try.pinned (OpenSpec.ofChange fnExactQueueAtWrong)

/-- 'laws.FnExactFirstFit': WHATEVER THE INPUT: true; the input reads as it did. -/
def fnExactFirstFitSpec : ChangeSpec := { name := "fnExactFirstFit", fn := fun _ => fun
  | [d1, d2, d3] => { results := [.lit (.bool true)], args := [d1, d2, d3] }
  | _ => none }
def fnExactFirstFitRow : OpenClaim := { program := "ythideehlhhpkjaa", sum := "a0758e9b5050501e864001b47fec7d57e46bf4b9aa86fbe6debeeda87acf6e77", func := "loop.example/g00494/laws.FnExactFirstFit", spec := "fnExactFirstFit", unfollowed := true, recurses := true, apart := false }
def FnExactFirstFitSaid : Prop := fnExactFirstFitRow.holds Try.pinned (OpenSpec.ofChange fnExactFirstFitSpec)

/-- ITS FALSE NEIGHBOUR: 'it returns false'. Refute it at one input. -/
def fnExactFirstFitWrong : ChangeSpec := { name := "fnExactFirstFit", fn := fun _ => fun
  | [d1, d2, d3] => { results := [.lit (.bool false)], args := [d1, d2, d3] }
  | _ => none }
def FnExactFirstFitWrongFalsely : Prop := fnExactFirstFitRow.holds Try.pinned (OpenSpec.ofChange fnExactFirstFitWrong)

/-- 'laws.FnExactQueueCut': WHATEVER THE INPUT: true; the input reads as it did. -/
def fnExactQueueCutSpec : ChangeSpec := { name := "fnExactQueueCut", fn := fun _ => fun
  | [d1, d2] => { results := [.lit (.bool true)], args := [d1, d2] }
  | _ => none }
def fnExactQueueCutRow : OpenClaim := { program := "ythideehlhhpkjaa", sum := "a0758e9b5050501e864001b47fec7d57e46bf4b9aa86fbe6debeeda87acf6e77", func := "loop.example/g00494/laws.FnExactQueueCut", spec := "fnExactQueueCut", unfollowed := true, recurses := true, apart := false }
def FnExactQueueCutSaid : Prop := fnExactQueueCutRow.holds Try.pinned (OpenSpec.ofChange fnExactQueueCutSpec)

/-- ITS FALSE NEIGHBOUR: 'it returns false'. Refute it at one input. -/
def fnExactQueueCutWrong : ChangeSpec := { name := "fnExactQueueCut", fn := fun _ => fun
  | [d1, d2] => { results := [.lit (.bool false)], args := [d1, d2] }
  | _ => none }
def FnExactQueueCutWrongFalsely : Prop := fnExactQueueCutRow.holds Try.pinned (OpenSpec.ofChange fnExactQueueCutWrong)

/-- 'laws.FnExactQueueOk': WHATEVER THE INPUT: true; the input reads as it did. -/
def fnExactQueueOkSpec : ChangeSpec := { name := "fnExactQueueOk", fn := fun _ => fun
  | [d] => { results := [.lit (.bool true)], args := [d] }
  | _ => none }
def fnExactQueueOkRow : OpenClaim := { program := "ythideehlhhpkjaa", sum := "a0758e9b5050501e864001b47fec7d57e46bf4b9aa86fbe6debeeda87acf6e77", func := "loop.example/g00494/laws.FnExactQueueOk", spec := "fnExactQueueOk", unfollowed := true, recurses := true, apart := false }
def FnExactQueueOkSaid : Prop := fnExactQueueOkRow.holds Try.pinned (OpenSpec.ofChange fnExactQueueOkSpec)

/-- ITS FALSE NEIGHBOUR: 'it returns false'. Refute it at one input. -/
def fnExactQueueOkWrong : ChangeSpec := { name := "fnExactQueueOk", fn := fun _ => fun
  | [d] => { results := [.lit (.bool false)], args := [d] }
  | _ => none }
def FnExactQueueOkWrongFalsely : Prop := fnExactQueueOkRow.holds Try.pinned (OpenSpec.ofChange fnExactQueueOkWrong)

/-- 'laws.FnExactQueuePut': WHATEVER THE INPUT: true; the input reads as it did. -/
def fnExactQueuePutSpec : ChangeSpec := { name := "fnExactQueuePut", fn := fun _ => fun
  | [d1, d2] => { results := [.lit (.bool true)], args := [d1, d2] }
  | _ => none }
def fnExactQueuePutRow : OpenClaim := { program := "ythideehlhhpkjaa", sum := "a0758e9b5050501e864001b47fec7d57e46bf4b9aa86fbe6debeeda87acf6e77", func := "loop.example/g00494/laws.FnExactQueuePut", spec := "fnExactQueuePut", inPlace := ["slices.overlaps[loop.example/g00494/impl.Entry]"], unfollowed := true, recurses := true, apart := false }
def FnExactQueuePutSaid : Prop := fnExactQueuePutRow.holds Try.pinned (OpenSpec.ofChange fnExactQueuePutSpec)

/-- ITS FALSE NEIGHBOUR: 'it returns false'. Refute it at one input. -/
def fnExactQueuePutWrong : ChangeSpec := { name := "fnExactQueuePut", fn := fun _ => fun
  | [d1, d2] => { results := [.lit (.bool false)], args := [d1, d2] }
  | _ => none }
def FnExactQueuePutWrongFalsely : Prop := fnExactQueuePutRow.holds Try.pinned (OpenSpec.ofChange fnExactQueuePutWrong)

/-- 'laws.FnFirst': WHATEVER THE INPUT: true; the input reads as it did. -/
def fnFirstSpec : ChangeSpec := { name := "fnFirst", fn := fun _ => fun
  | [d] => { results := [.lit (.bool true)], args := [d] }
  | _ => none }
def fnFirstRow : OpenClaim := { program := "ythideehlhhpkjaa", sum := "a0758e9b5050501e864001b47fec7d57e46bf4b9aa86fbe6debeeda87acf6e77", func := "loop.example/g00494/laws.FnFirst", spec := "fnFirst", unfollowed := true, recurses := true, apart := false }
def FnFirstSaid : Prop := fnFirstRow.holds Try.pinned (OpenSpec.ofChange fnFirstSpec)

/-- ITS FALSE NEIGHBOUR: 'it returns false'. Refute it at one input. -/
def fnFirstWrong : ChangeSpec := { name := "fnFirst", fn := fun _ => fun
  | [d] => { results := [.lit (.bool false)], args := [d] }
  | _ => none }
def FnFirstWrongFalsely : Prop := fnFirstRow.holds Try.pinned (OpenSpec.ofChange fnFirstWrong)

/-- 'laws.FnPureRow': WHATEVER THE INPUT: true; the input reads as it did. -/
def fnPureRowSpec : ChangeSpec := { name := "fnPureRow", fn := fun _ => fun
  | [d] => { results := [.lit (.bool true)], args := [d] }
  | _ => none }
def fnPureRowRow : OpenClaim := { program := "ythideehlhhpkjaa", sum := "a0758e9b5050501e864001b47fec7d57e46bf4b9aa86fbe6debeeda87acf6e77", func := "loop.example/g00494/laws.FnPureRow", spec := "fnPureRow", inPlace := ["slices.overlaps[loop.example/g00494/impl.Entry]"], unfollowed := true, recurses := true, apart := false }
def FnPureRowSaid : Prop := fnPureRowRow.holds Try.pinned (OpenSpec.ofChange fnPureRowSpec)

/-- ITS FALSE NEIGHBOUR: 'it returns false'. Refute it at one input. -/
def fnPureRowWrong : ChangeSpec := { name := "fnPureRow", fn := fun _ => fun
  | [d] => { results := [.lit (.bool false)], args := [d] }
  | _ => none }
def FnPureRowWrongFalsely : Prop := fnPureRowRow.holds Try.pinned (OpenSpec.ofChange fnPureRowWrong)

/-- 'laws.FnExactTodoPut': WHATEVER THE INPUT: true; the input reads as it did. -/
def fnExactTodoPutSpec : ChangeSpec := { name := "fnExactTodoPut", fn := fun _ => fun
  | [d1, d2] => { results := [.lit (.bool true)], args := [d1, d2] }
  | _ => none }
def fnExactTodoPutRow : OpenClaim := { program := "ythideehlhhpkjaa", sum := "a0758e9b5050501e864001b47fec7d57e46bf4b9aa86fbe6debeeda87acf6e77", func := "loop.example/g00494/laws.FnExactTodoPut", spec := "fnExactTodoPut", apart := false }
def FnExactTodoPutSaid : Prop := fnExactTodoPutRow.holds Try.pinned (OpenSpec.ofChange fnExactTodoPutSpec)

/-- ITS FALSE NEIGHBOUR: 'it returns false'. Refute it at one input. -/
def fnExactTodoPutWrong : ChangeSpec := { name := "fnExactTodoPut", fn := fun _ => fun
  | [d1, d2] => { results := [.lit (.bool false)], args := [d1, d2] }
  | _ => none }
def FnExactTodoPutWrongFalsely : Prop := fnExactTodoPutRow.holds Try.pinned (OpenSpec.ofChange fnExactTodoPutWrong)

/-- 'laws.FnExactCountIn': WHATEVER THE INPUT: true; the input reads as it did. -/
def fnExactCountInSpec : ChangeSpec := { name := "fnExactCountIn", fn := fun _ => fun
  | [d1, d2] => { results := [.lit (.bool true)], args := [d1, d2] }
  | _ => none }
def fnExactCountInRow : OpenClaim := { program := "ythideehlhhpkjaa", sum := "a0758e9b5050501e864001b47fec7d57e46bf4b9aa86fbe6debeeda87acf6e77", func := "loop.example/g00494/laws.FnExactCountIn", spec := "fnExactCountIn", apart := false }
def FnExactCountInSaid : Prop := fnExactCountInRow.holds Try.pinned (OpenSpec.ofChange fnExactCountInSpec)

/-- ITS FALSE NEIGHBOUR: 'it returns false'. Refute it at one input. -/
def fnExactCountInWrong : ChangeSpec := { name := "fnExactCountIn", fn := fun _ => fun
  | [d1, d2] => { results := [.lit (.bool false)], args := [d1, d2] }
  | _ => none }
def FnExactCountInWrongFalsely : Prop := fnExactCountInRow.holds Try.pinned (OpenSpec.ofChange fnExactCountInWrong)

/-- 'laws.FnExactHeldIn': WHATEVER THE INPUT: true; the input reads as it did. -/
def fnExactHeldInSpec : ChangeSpec := { name := "fnExactHeldIn", fn := fun _ => fun
  | [d1, d2] => { results := [.lit (.bool true)], args := [d1, d2] }
  | _ => none }
def fnExactHeldInRow : OpenClaim := { program := "ythideehlhhpkjaa", sum := "a0758e9b5050501e864001b47fec7d57e46bf4b9aa86fbe6debeeda87acf6e77", func := "loop.example/g00494/laws.FnExactHeldIn", spec := "fnExactHeldIn", apart := false }
def FnExactHeldInSaid : Prop := fnExactHeldInRow.holds Try.pinned (OpenSpec.ofChange fnExactHeldInSpec)

/-- ITS FALSE NEIGHBOUR: 'it returns false'. Refute it at one input. -/
def fnExactHeldInWrong : ChangeSpec := { name := "fnExactHeldIn", fn := fun _ => fun
  | [d1, d2] => { results := [.lit (.bool false)], args := [d1, d2] }
  | _ => none }
def FnExactHeldInWrongFalsely : Prop := fnExactHeldInRow.holds Try.pinned (OpenSpec.ofChange fnExactHeldInWrong)

/-- 'laws.FnExactTiedIn': WHATEVER THE INPUT: true; the input reads as it did. -/
def fnExactTiedInSpec : ChangeSpec := { name := "fnExactTiedIn", fn := fun _ => fun
  | [d1, d2] => { results := [.lit (.bool true)], args := [d1, d2] }
  | _ => none }
def fnExactTiedInRow : OpenClaim := { program := "ythideehlhhpkjaa", sum := "a0758e9b5050501e864001b47fec7d57e46bf4b9aa86fbe6debeeda87acf6e77", func := "loop.example/g00494/laws.FnExactTiedIn", spec := "fnExactTiedIn", apart := false }
def FnExactTiedInSaid : Prop := fnExactTiedInRow.holds Try.pinned (OpenSpec.ofChange fnExactTiedInSpec)

/-- ITS FALSE NEIGHBOUR: 'it returns false'. Refute it at one input. -/
def fnExactTiedInWrong : ChangeSpec := { name := "fnExactTiedIn", fn := fun _ => fun
  | [d1, d2] => { results := [.lit (.bool false)], args := [d1, d2] }
  | _ => none }
def FnExactTiedInWrongFalsely : Prop := fnExactTiedInRow.holds Try.pinned (OpenSpec.ofChange fnExactTiedInWrong)

/-- 'laws.FnExactPartyCut': WHATEVER THE INPUT: true; the input reads as it did. -/
def fnExactPartyCutSpec : ChangeSpec := { name := "fnExactPartyCut", fn := fun _ => fun
  | [d1, d2] => { results := [.lit (.bool true)], args := [d1, d2] }
  | _ => none }
def fnExactPartyCutRow : OpenClaim := { program := "ythideehlhhpkjaa", sum := "a0758e9b5050501e864001b47fec7d57e46bf4b9aa86fbe6debeeda87acf6e77", func := "loop.example/g00494/laws.FnExactPartyCut", spec := "fnExactPartyCut", unfollowed := true, recurses := true, apart := false }
def FnExactPartyCutSaid : Prop := fnExactPartyCutRow.holds Try.pinned (OpenSpec.ofChange fnExactPartyCutSpec)

/-- ITS FALSE NEIGHBOUR: 'it returns false'. Refute it at one input. -/
def fnExactPartyCutWrong : ChangeSpec := { name := "fnExactPartyCut", fn := fun _ => fun
  | [d1, d2] => { results := [.lit (.bool false)], args := [d1, d2] }
  | _ => none }
def FnExactPartyCutWrongFalsely : Prop := fnExactPartyCutRow.holds Try.pinned (OpenSpec.ofChange fnExactPartyCutWrong)

/- THE SECOND FORM. 'bulk': how many values and letters a reading holds, each counted each time it is reached (what is shared counts as often as it is met; a slice's spare places count too). A statement '..UptoSaid' is the law's where the arguments, and the package variables that the reading takes, are together of bulk at most 1048576: NARROWER than '..Said'. Prove '..Said' where nothing that the law and all that it calls make is longer than what came in: it says more and counts as full. Else prove '..UptoSaid'. A law counts once. -/
mutual
def uptoBulk {H : Type} : DataW H → Nat
  | .lit (.string bytes) => bytes.length + 1
  | .lit _ => 1
  | .nil => 1
  | .ptr d => uptoBulk d + 1
  | .slice elems spare => uptoBulkAll elems + uptoBulkAll spare + 1
  | .agg parts => uptoBulkAll parts + 1
  | .iface _ d => uptoBulk d + 1
  | .map entries => uptoBulkEntries entries + 1
  | .held _ => 1
def uptoBulkAll {H : Type} : List (DataW H) → Nat
  | [] => 0
  | d :: r => uptoBulk d + uptoBulkAll r
def uptoBulkEntries {H : Type} : List (Lit × DataW H) → Nat
  | [] => 0
  | x :: r => uptoBulkEntry x + uptoBulkEntries r
def uptoBulkEntry {H : Type} : Lit × DataW H → Nat
  | (.string bytes, d) => bytes.length + uptoBulk d + 1
  | (_, d) => uptoBulk d + 1
 end
def uptoSmall : (H : Type) → List (DataW H) → Bool := fun _ ds => decide (uptoBulkAll ds ≤ 1048576)
def OpenSpec.upto (s : _root_.Go.ChangeSpec) : _root_.Go.OpenSpec := { _root_.Go.OpenSpec.ofChange s with cond := some uptoSmall }

/-- 'laws.FnExactQueueAt', WHERE WHAT IT READS IS OF BULK AT MOST 1048576: true; the input reads as it did. -/
def fnExactQueueAtUptoRow : OpenClaim := { program := "ythideehlhhpkjaa", sum := "a0758e9b5050501e864001b47fec7d57e46bf4b9aa86fbe6debeeda87acf6e77", func := "loop.example/g00494/laws.FnExactQueueAt", spec := "fnExactQueueAt", unfollowed := true, recurses := true, apart := false, narrowed := true }
def FnExactQueueAtUptoSaid : Prop := fnExactQueueAtUptoRow.holds Try.pinned (OpenSpec.upto fnExactQueueAtSpec)

/-- 'laws.FnExactFirstFit', WHERE WHAT IT READS IS OF BULK AT MOST 1048576: true; the input reads as it did. -/
def fnExactFirstFitUptoRow : OpenClaim := { program := "ythideehlhhpkjaa", sum := "a0758e9b5050501e864001b47fec7d57e46bf4b9aa86fbe6debeeda87acf6e77", func := "loop.example/g00494/laws.FnExactFirstFit", spec := "fnExactFirstFit", unfollowed := true, recurses := true, apart := false, narrowed := true }
def FnExactFirstFitUptoSaid : Prop := fnExactFirstFitUptoRow.holds Try.pinned (OpenSpec.upto fnExactFirstFitSpec)

/-- 'laws.FnExactQueueCut', WHERE WHAT IT READS IS OF BULK AT MOST 1048576: true; the input reads as it did. -/
def fnExactQueueCutUptoRow : OpenClaim := { program := "ythideehlhhpkjaa", sum := "a0758e9b5050501e864001b47fec7d57e46bf4b9aa86fbe6debeeda87acf6e77", func := "loop.example/g00494/laws.FnExactQueueCut", spec := "fnExactQueueCut", unfollowed := true, recurses := true, apart := false, narrowed := true }
def FnExactQueueCutUptoSaid : Prop := fnExactQueueCutUptoRow.holds Try.pinned (OpenSpec.upto fnExactQueueCutSpec)

/-- 'laws.FnExactQueueOk', WHERE WHAT IT READS IS OF BULK AT MOST 1048576: true; the input reads as it did. -/
def fnExactQueueOkUptoRow : OpenClaim := { program := "ythideehlhhpkjaa", sum := "a0758e9b5050501e864001b47fec7d57e46bf4b9aa86fbe6debeeda87acf6e77", func := "loop.example/g00494/laws.FnExactQueueOk", spec := "fnExactQueueOk", unfollowed := true, recurses := true, apart := false, narrowed := true }
def FnExactQueueOkUptoSaid : Prop := fnExactQueueOkUptoRow.holds Try.pinned (OpenSpec.upto fnExactQueueOkSpec)

/-- 'laws.FnExactQueuePut', WHERE WHAT IT READS IS OF BULK AT MOST 1048576: true; the input reads as it did. -/
def fnExactQueuePutUptoRow : OpenClaim := { program := "ythideehlhhpkjaa", sum := "a0758e9b5050501e864001b47fec7d57e46bf4b9aa86fbe6debeeda87acf6e77", func := "loop.example/g00494/laws.FnExactQueuePut", spec := "fnExactQueuePut", inPlace := ["slices.overlaps[loop.example/g00494/impl.Entry]"], unfollowed := true, recurses := true, apart := false, narrowed := true }
def FnExactQueuePutUptoSaid : Prop := fnExactQueuePutUptoRow.holds Try.pinned (OpenSpec.upto fnExactQueuePutSpec)

/-- 'laws.FnFirst', WHERE WHAT IT READS IS OF BULK AT MOST 1048576: true; the input reads as it did. -/
def fnFirstUptoRow : OpenClaim := { program := "ythideehlhhpkjaa", sum := "a0758e9b5050501e864001b47fec7d57e46bf4b9aa86fbe6debeeda87acf6e77", func := "loop.example/g00494/laws.FnFirst", spec := "fnFirst", unfollowed := true, recurses := true, apart := false, narrowed := true }
def FnFirstUptoSaid : Prop := fnFirstUptoRow.holds Try.pinned (OpenSpec.upto fnFirstSpec)

/-- 'laws.FnPureRow', WHERE WHAT IT READS IS OF BULK AT MOST 1048576: true; the input reads as it did. -/
def fnPureRowUptoRow : OpenClaim := { program := "ythideehlhhpkjaa", sum := "a0758e9b5050501e864001b47fec7d57e46bf4b9aa86fbe6debeeda87acf6e77", func := "loop.example/g00494/laws.FnPureRow", spec := "fnPureRow", inPlace := ["slices.overlaps[loop.example/g00494/impl.Entry]"], unfollowed := true, recurses := true, apart := false, narrowed := true }
def FnPureRowUptoSaid : Prop := fnPureRowUptoRow.holds Try.pinned (OpenSpec.upto fnPureRowSpec)

/-- 'laws.FnExactTodoPut', WHERE WHAT IT READS IS OF BULK AT MOST 1048576: true; the input reads as it did. -/
def fnExactTodoPutUptoRow : OpenClaim := { program := "ythideehlhhpkjaa", sum := "a0758e9b5050501e864001b47fec7d57e46bf4b9aa86fbe6debeeda87acf6e77", func := "loop.example/g00494/laws.FnExactTodoPut", spec := "fnExactTodoPut", apart := false, narrowed := true }
def FnExactTodoPutUptoSaid : Prop := fnExactTodoPutUptoRow.holds Try.pinned (OpenSpec.upto fnExactTodoPutSpec)

/-- 'laws.FnExactCountIn', WHERE WHAT IT READS IS OF BULK AT MOST 1048576: true; the input reads as it did. -/
def fnExactCountInUptoRow : OpenClaim := { program := "ythideehlhhpkjaa", sum := "a0758e9b5050501e864001b47fec7d57e46bf4b9aa86fbe6debeeda87acf6e77", func := "loop.example/g00494/laws.FnExactCountIn", spec := "fnExactCountIn", apart := false, narrowed := true }
def FnExactCountInUptoSaid : Prop := fnExactCountInUptoRow.holds Try.pinned (OpenSpec.upto fnExactCountInSpec)

/-- 'laws.FnExactHeldIn', WHERE WHAT IT READS IS OF BULK AT MOST 1048576: true; the input reads as it did. -/
def fnExactHeldInUptoRow : OpenClaim := { program := "ythideehlhhpkjaa", sum := "a0758e9b5050501e864001b47fec7d57e46bf4b9aa86fbe6debeeda87acf6e77", func := "loop.example/g00494/laws.FnExactHeldIn", spec := "fnExactHeldIn", apart := false, narrowed := true }
def FnExactHeldInUptoSaid : Prop := fnExactHeldInUptoRow.holds Try.pinned (OpenSpec.upto fnExactHeldInSpec)

/-- 'laws.FnExactTiedIn', WHERE WHAT IT READS IS OF BULK AT MOST 1048576: true; the input reads as it did. -/
def fnExactTiedInUptoRow : OpenClaim := { program := "ythideehlhhpkjaa", sum := "a0758e9b5050501e864001b47fec7d57e46bf4b9aa86fbe6debeeda87acf6e77", func := "loop.example/g00494/laws.FnExactTiedIn", spec := "fnExactTiedIn", apart := false, narrowed := true }
def FnExactTiedInUptoSaid : Prop := fnExactTiedInUptoRow.holds Try.pinned (OpenSpec.upto fnExactTiedInSpec)

/-- 'laws.FnExactPartyCut', WHERE WHAT IT READS IS OF BULK AT MOST 1048576: true; the input reads as it did. -/
def fnExactPartyCutUptoRow : OpenClaim := { program := "ythideehlhhpkjaa", sum := "a0758e9b5050501e864001b47fec7d57e46bf4b9aa86fbe6debeeda87acf6e77", func := "loop.example/g00494/laws.FnExactPartyCut", spec := "fnExactPartyCut", unfollowed := true, recurses := true, apart := false, narrowed := true }
def FnExactPartyCutUptoSaid : Prop := fnExactPartyCutUptoRow.holds Try.pinned (OpenSpec.upto fnExactPartyCutSpec)

end Rows
end Go.Proofs.Ythideehlhhpkjaa
