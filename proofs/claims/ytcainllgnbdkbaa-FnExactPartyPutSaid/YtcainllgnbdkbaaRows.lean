/-
  No cell of these rows narrows 'for every input' (looked for: loops, veiled, ifaces, maps, wideKeys, modest, calm, conditions, laid).
  DERIVED. THE GIVEN ROWS OF THIS SEAT. 12 by the template 'for every input the law returns true; each argument reads behind the call as it read before'; 0 by the template 'total and deterministic' (their statements: YtcainllgnbdkbaaTotals.lean).
  GIVEN WITH THE SEED: the statements are not yours to turn. If you find one false, say at which input.
  Laid BY PROGRAM, IN A SANDBOX (cutbox-rows.mjs): the forced cells as the released guide's own fill.sh prints them over the translation ec1aaa22d5cd12f4… (all of the seat's roots in one cut). By AI agents, Wed Nov 11 2026. No macro, syntax, notation, axiom, sorry.
-/
import Derived.Test.YtcainllgnbdkbaaChecked
import GoSem.Claim
import GoSem.ClaimJoined
import GoSem.ClaimMapViews
import Derived.JoinedTies
import Derived.KernelRfl
namespace Go.Proofs.Ytcainllgnbdkbaa
/- THE CELL 'sum', in the pinned program and in every row, IS THE sha256 OF THE DUMP (.gsa) THAT YtcainllgnbdkbaaProg.lean LOADS. Nothing in Lean hashes anything: it is a label: what it is worth is what the hold of that sum in a sandbox is worth. -/
noncomputable def Try.pinned : Pinned := { name := "ytcainllgnbdkbaa", sum := "ec1aaa22d5cd12f47dfe7fdc309a408d1ad8db2653eabaadaf7c9ad1fb4d9722", checked := Try.checked }
namespace Rows
def none {H : Type} : Left H := { results := [], args := [] }

/-- 'laws.FnExactLevelOf': WHATEVER THE INPUT: true; the input reads as it did. -/
def fnExactLevelOfSpec : ChangeSpec := { name := "fnExactLevelOf", fn := fun _ => fun
  | [d1, d2, d3] => { results := [.lit (.bool true)], args := [d1, d2, d3] }
  | _ => none }
def fnExactLevelOfRow : OpenClaim := { program := "ytcainllgnbdkbaa", sum := "ec1aaa22d5cd12f47dfe7fdc309a408d1ad8db2653eabaadaf7c9ad1fb4d9722", func := "loop.example/g00494/laws.FnExactLevelOf", spec := "fnExactLevelOf", apart := false }
def FnExactLevelOfSaid : Prop := fnExactLevelOfRow.holds Try.pinned (OpenSpec.ofChange fnExactLevelOfSpec)

/-- ITS FALSE NEIGHBOUR: 'it returns false'. Refute it at one input. -/
def fnExactLevelOfWrong : ChangeSpec := { name := "fnExactLevelOf", fn := fun _ => fun
  | [d1, d2, d3] => { results := [.lit (.bool false)], args := [d1, d2, d3] }
  | _ => none }
def FnExactLevelOfWrongFalsely : Prop := fnExactLevelOfRow.holds Try.pinned (OpenSpec.ofChange fnExactLevelOfWrong)

/-- 'laws.FnExactBefore': WHATEVER THE INPUT: true; the input reads as it did. -/
def fnExactBeforeSpec : ChangeSpec := { name := "fnExactBefore", fn := fun _ => fun
  | [d1, d2, d3, d4] => { results := [.lit (.bool true)], args := [d1, d2, d3, d4] }
  | _ => none }
def fnExactBeforeRow : OpenClaim := { program := "ytcainllgnbdkbaa", sum := "ec1aaa22d5cd12f47dfe7fdc309a408d1ad8db2653eabaadaf7c9ad1fb4d9722", func := "loop.example/g00494/laws.FnExactBefore", spec := "fnExactBefore", apart := false }
def FnExactBeforeSaid : Prop := fnExactBeforeRow.holds Try.pinned (OpenSpec.ofChange fnExactBeforeSpec)

/-- ITS FALSE NEIGHBOUR: 'it returns false'. Refute it at one input. -/
def fnExactBeforeWrong : ChangeSpec := { name := "fnExactBefore", fn := fun _ => fun
  | [d1, d2, d3, d4] => { results := [.lit (.bool false)], args := [d1, d2, d3, d4] }
  | _ => none }
def FnExactBeforeWrongFalsely : Prop := fnExactBeforeRow.holds Try.pinned (OpenSpec.ofChange fnExactBeforeWrong)

/-- 'laws.FnExactFailed': WHATEVER THE INPUT: true; the input reads as it did. -/
def fnExactFailedSpec : ChangeSpec := { name := "fnExactFailed", fn := fun _ => fun
  | [d1, d2, d3] => { results := [.lit (.bool true)], args := [d1, d2, d3] }
  | _ => none }
def fnExactFailedRow : OpenClaim := { program := "ytcainllgnbdkbaa", sum := "ec1aaa22d5cd12f47dfe7fdc309a408d1ad8db2653eabaadaf7c9ad1fb4d9722", func := "loop.example/g00494/laws.FnExactFailed", spec := "fnExactFailed", apart := false }
def FnExactFailedSaid : Prop := fnExactFailedRow.holds Try.pinned (OpenSpec.ofChange fnExactFailedSpec)

/-- ITS FALSE NEIGHBOUR: 'it returns false'. Refute it at one input. -/
def fnExactFailedWrong : ChangeSpec := { name := "fnExactFailed", fn := fun _ => fun
  | [d1, d2, d3] => { results := [.lit (.bool false)], args := [d1, d2, d3] }
  | _ => none }
def FnExactFailedWrongFalsely : Prop := fnExactFailedRow.holds Try.pinned (OpenSpec.ofChange fnExactFailedWrong)

/-- 'laws.FnExactEntryOf': WHATEVER THE INPUT: true; the input reads as it did. -/
def fnExactEntryOfSpec : ChangeSpec := { name := "fnExactEntryOf", fn := fun _ => fun
  | [d1, d2, d3] => { results := [.lit (.bool true)], args := [d1, d2, d3] }
  | _ => none }
def fnExactEntryOfRow : OpenClaim := { program := "ytcainllgnbdkbaa", sum := "ec1aaa22d5cd12f47dfe7fdc309a408d1ad8db2653eabaadaf7c9ad1fb4d9722", func := "loop.example/g00494/laws.FnExactEntryOf", spec := "fnExactEntryOf", apart := false }
def FnExactEntryOfSaid : Prop := fnExactEntryOfRow.holds Try.pinned (OpenSpec.ofChange fnExactEntryOfSpec)

/-- ITS FALSE NEIGHBOUR: 'it returns false'. Refute it at one input. -/
def fnExactEntryOfWrong : ChangeSpec := { name := "fnExactEntryOf", fn := fun _ => fun
  | [d1, d2, d3] => { results := [.lit (.bool false)], args := [d1, d2, d3] }
  | _ => none }
def FnExactEntryOfWrongFalsely : Prop := fnExactEntryOfRow.holds Try.pinned (OpenSpec.ofChange fnExactEntryOfWrong)

/-- 'laws.FnFailed': WHATEVER THE INPUT: true; the input reads as it did. -/
def fnFailedSpec : ChangeSpec := { name := "fnFailed", fn := fun _ => fun
  | [d] => { results := [.lit (.bool true)], args := [d] }
  | _ => none }
def fnFailedRow : OpenClaim := { program := "ytcainllgnbdkbaa", sum := "ec1aaa22d5cd12f47dfe7fdc309a408d1ad8db2653eabaadaf7c9ad1fb4d9722", func := "loop.example/g00494/laws.FnFailed", spec := "fnFailed", apart := false }
def FnFailedSaid : Prop := fnFailedRow.holds Try.pinned (OpenSpec.ofChange fnFailedSpec)

/-- ITS FALSE NEIGHBOUR: 'it returns false'. Refute it at one input. -/
def fnFailedWrong : ChangeSpec := { name := "fnFailed", fn := fun _ => fun
  | [d] => { results := [.lit (.bool false)], args := [d] }
  | _ => none }
def FnFailedWrongFalsely : Prop := fnFailedRow.holds Try.pinned (OpenSpec.ofChange fnFailedWrong)

/-- 'laws.FnOneTier': WHATEVER THE INPUT: true; the input reads as it did. -/
def fnOneTierSpec : ChangeSpec := { name := "fnOneTier", fn := fun _ => fun
  | [d] => { results := [.lit (.bool true)], args := [d] }
  | _ => none }
def fnOneTierRow : OpenClaim := { program := "ytcainllgnbdkbaa", sum := "ec1aaa22d5cd12f47dfe7fdc309a408d1ad8db2653eabaadaf7c9ad1fb4d9722", func := "loop.example/g00494/laws.FnOneTier", spec := "fnOneTier", apart := false }
def FnOneTierSaid : Prop := fnOneTierRow.holds Try.pinned (OpenSpec.ofChange fnOneTierSpec)

/-- ITS FALSE NEIGHBOUR: 'it returns false'. Refute it at one input. -/
def fnOneTierWrong : ChangeSpec := { name := "fnOneTier", fn := fun _ => fun
  | [d] => { results := [.lit (.bool false)], args := [d] }
  | _ => none }
def FnOneTierWrongFalsely : Prop := fnOneTierRow.holds Try.pinned (OpenSpec.ofChange fnOneTierWrong)

/-- 'laws.FnExactPartyPut': WHATEVER THE INPUT: true; the input reads as it did. -/
def fnExactPartyPutSpec : ChangeSpec := { name := "fnExactPartyPut", fn := fun _ => fun
  | [d1, d2] => { results := [.lit (.bool true)], args := [d1, d2] }
  | _ => none }
def fnExactPartyPutRow : OpenClaim := { program := "ytcainllgnbdkbaa", sum := "ec1aaa22d5cd12f47dfe7fdc309a408d1ad8db2653eabaadaf7c9ad1fb4d9722", func := "loop.example/g00494/laws.FnExactPartyPut", spec := "fnExactPartyPut", inPlace := ["slices.overlaps[loop.example/g00494/impl.Party]"], unfollowed := true, recurses := true, apart := false }
def FnExactPartyPutSaid : Prop := fnExactPartyPutRow.holds Try.pinned (OpenSpec.ofChange fnExactPartyPutSpec)

/-- ITS FALSE NEIGHBOUR: 'it returns false'. Refute it at one input. -/
def fnExactPartyPutWrong : ChangeSpec := { name := "fnExactPartyPut", fn := fun _ => fun
  | [d1, d2] => { results := [.lit (.bool false)], args := [d1, d2] }
  | _ => none }
def FnExactPartyPutWrongFalsely : Prop := fnExactPartyPutRow.holds Try.pinned (OpenSpec.ofChange fnExactPartyPutWrong)

/-- 'laws.FnExactPartyAt': WHATEVER THE INPUT: true; the input reads as it did. -/
def fnExactPartyAtSpec : ChangeSpec := { name := "fnExactPartyAt", fn := fun _ => fun
  | [d1, d2] => { results := [.lit (.bool true)], args := [d1, d2] }
  | _ => none }
def fnExactPartyAtRow : OpenClaim := { program := "ytcainllgnbdkbaa", sum := "ec1aaa22d5cd12f47dfe7fdc309a408d1ad8db2653eabaadaf7c9ad1fb4d9722", func := "loop.example/g00494/laws.FnExactPartyAt", spec := "fnExactPartyAt", unfollowed := true, recurses := true, apart := false }
def FnExactPartyAtSaid : Prop := fnExactPartyAtRow.holds Try.pinned (OpenSpec.ofChange fnExactPartyAtSpec)

/-- ITS FALSE NEIGHBOUR: 'it returns false'. Refute it at one input. -/
def fnExactPartyAtWrong : ChangeSpec := { name := "fnExactPartyAt", fn := fun _ => fun
  | [d1, d2] => { results := [.lit (.bool false)], args := [d1, d2] }
  | _ => none }
def FnExactPartyAtWrongFalsely : Prop := fnExactPartyAtRow.holds Try.pinned (OpenSpec.ofChange fnExactPartyAtWrong)

/-- 'laws.FnExactQueueOf': WHATEVER THE INPUT: true; the input reads as it did. -/
def fnExactQueueOfSpec : ChangeSpec := { name := "fnExactQueueOf", fn := fun _ => fun
  | [d1, d2, d3, d4] => { results := [.lit (.bool true)], args := [d1, d2, d3, d4] }
  | _ => none }
def fnExactQueueOfRow : OpenClaim := { program := "ytcainllgnbdkbaa", sum := "ec1aaa22d5cd12f47dfe7fdc309a408d1ad8db2653eabaadaf7c9ad1fb4d9722", func := "loop.example/g00494/laws.FnExactQueueOf", spec := "fnExactQueueOf", unfollowed := true, recurses := true, apart := false }
def FnExactQueueOfSaid : Prop := fnExactQueueOfRow.holds Try.pinned (OpenSpec.ofChange fnExactQueueOfSpec)

/-- ITS FALSE NEIGHBOUR: 'it returns false'. Refute it at one input. -/
def fnExactQueueOfWrong : ChangeSpec := { name := "fnExactQueueOf", fn := fun _ => fun
  | [d1, d2, d3, d4] => { results := [.lit (.bool false)], args := [d1, d2, d3, d4] }
  | _ => none }
def FnExactQueueOfWrongFalsely : Prop := fnExactQueueOfRow.holds Try.pinned (OpenSpec.ofChange fnExactQueueOfWrong)

/-- 'laws.FnQueueKept': WHATEVER THE INPUT: true; the input reads as it did. -/
def fnQueueKeptSpec : ChangeSpec := { name := "fnQueueKept", fn := fun _ => fun
  | [d] => { results := [.lit (.bool true)], args := [d] }
  | _ => none }
def fnQueueKeptRow : OpenClaim := { program := "ytcainllgnbdkbaa", sum := "ec1aaa22d5cd12f47dfe7fdc309a408d1ad8db2653eabaadaf7c9ad1fb4d9722", func := "loop.example/g00494/laws.FnQueueKept", spec := "fnQueueKept", inPlace := ["slices.overlaps[loop.example/g00494/impl.Entry]"], unfollowed := true, recurses := true, apart := false }
def FnQueueKeptSaid : Prop := fnQueueKeptRow.holds Try.pinned (OpenSpec.ofChange fnQueueKeptSpec)

/-- ITS FALSE NEIGHBOUR: 'it returns false'. Refute it at one input. -/
def fnQueueKeptWrong : ChangeSpec := { name := "fnQueueKept", fn := fun _ => fun
  | [d] => { results := [.lit (.bool false)], args := [d] }
  | _ => none }
def FnQueueKeptWrongFalsely : Prop := fnQueueKeptRow.holds Try.pinned (OpenSpec.ofChange fnQueueKeptWrong)

/-- 'laws.FnQueueOf': WHATEVER THE INPUT: true; the input reads as it did. -/
def fnQueueOfSpec : ChangeSpec := { name := "fnQueueOf", fn := fun _ => fun
  | [d] => { results := [.lit (.bool true)], args := [d] }
  | _ => none }
def fnQueueOfRow : OpenClaim := { program := "ytcainllgnbdkbaa", sum := "ec1aaa22d5cd12f47dfe7fdc309a408d1ad8db2653eabaadaf7c9ad1fb4d9722", func := "loop.example/g00494/laws.FnQueueOf", spec := "fnQueueOf", unfollowed := true, recurses := true, apart := false }
def FnQueueOfSaid : Prop := fnQueueOfRow.holds Try.pinned (OpenSpec.ofChange fnQueueOfSpec)

/-- ITS FALSE NEIGHBOUR: 'it returns false'. Refute it at one input. -/
def fnQueueOfWrong : ChangeSpec := { name := "fnQueueOf", fn := fun _ => fun
  | [d] => { results := [.lit (.bool false)], args := [d] }
  | _ => none }
def FnQueueOfWrongFalsely : Prop := fnQueueOfRow.holds Try.pinned (OpenSpec.ofChange fnQueueOfWrong)

/-- 'laws.FnExactPinsIn': WHATEVER THE INPUT: true; the input reads as it did. -/
def fnExactPinsInSpec : ChangeSpec := { name := "fnExactPinsIn", fn := fun _ => fun
  | [d1, d2] => { results := [.lit (.bool true)], args := [d1, d2] }
  | _ => none }
def fnExactPinsInRow : OpenClaim := { program := "ytcainllgnbdkbaa", sum := "ec1aaa22d5cd12f47dfe7fdc309a408d1ad8db2653eabaadaf7c9ad1fb4d9722", func := "loop.example/g00494/laws.FnExactPinsIn", spec := "fnExactPinsIn", unfollowed := true, recurses := true, apart := false }
def FnExactPinsInSaid : Prop := fnExactPinsInRow.holds Try.pinned (OpenSpec.ofChange fnExactPinsInSpec)

/-- ITS FALSE NEIGHBOUR: 'it returns false'. Refute it at one input. -/
def fnExactPinsInWrong : ChangeSpec := { name := "fnExactPinsIn", fn := fun _ => fun
  | [d1, d2] => { results := [.lit (.bool false)], args := [d1, d2] }
  | _ => none }
def FnExactPinsInWrongFalsely : Prop := fnExactPinsInRow.holds Try.pinned (OpenSpec.ofChange fnExactPinsInWrong)

/- THE SECOND FORM. 'bulk': how many values and letters a reading holds, each counted each time it is reached (what is shared counts as often as it is met; a slice's spare places count too). A statement '..UptoSaid' is the law's where the arguments, and the package variables that the reading takes, are together of bulk at most 1048576: NARROWER than '..Said'. Prove '..Said' where nothing that the law and all that it calls make is longer than what came in: it says more and counts as full. Else prove '..UptoSaid'. A law counts once. -/
mutual
def uptoBulk {H : Type} : DataW H → Nat
  | .lit (.string bytes) => bytes.length + 1
  | .lit _ => 1
  | .nil => 1
  | .ptr d => uptoBulk d + 1
  | .slice elems spare => uptoBulkAll elems + uptoBulkAll spare + 1
  | .agg parts => uptoBulkAll parts + 1
  | .iface _ d => uptoBulk d + 1
  | .map entries => uptoBulkEntries entries + 1
  | .held _ => 1
def uptoBulkAll {H : Type} : List (DataW H) → Nat
  | [] => 0
  | d :: r => uptoBulk d + uptoBulkAll r
def uptoBulkEntries {H : Type} : List (Lit × DataW H) → Nat
  | [] => 0
  | x :: r => uptoBulkEntry x + uptoBulkEntries r
def uptoBulkEntry {H : Type} : Lit × DataW H → Nat
  | (.string bytes, d) => bytes.length + uptoBulk d + 1
  | (_, d) => uptoBulk d + 1
 end
def uptoSmall : (H : Type) → List (DataW H) → Bool := fun _ ds => decide (uptoBulkAll ds ≤ 1048576)
def OpenSpec.upto (s : _root_.Go.ChangeSpec) : _root_.Go.OpenSpec := { _root_.Go.OpenSpec.ofChange s with cond := some uptoSmall }

/-- 'laws.FnExactLevelOf', WHERE WHAT IT READS IS OF BULK AT MOST 1048576: true; the input reads as it did. -/
def fnExactLevelOfUptoRow : OpenClaim := { program := "ytcainllgnbdkbaa", sum := "ec1aaa22d5cd12f47dfe7fdc309a408d1ad8db2653eabaadaf7c9ad1fb4d9722", func := "loop.example/g00494/laws.FnExactLevelOf", spec := "fnExactLevelOf", apart := false, narrowed := true }
def FnExactLevelOfUptoSaid : Prop := fnExactLevelOfUptoRow.holds Try.pinned (OpenSpec.upto fnExactLevelOfSpec)

/-- 'laws.FnExactBefore', WHERE WHAT IT READS IS OF BULK AT MOST 1048576: true; the input reads as it did. -/
def fnExactBeforeUptoRow : OpenClaim := { program := "ytcainllgnbdkbaa", sum := "ec1aaa22d5cd12f47dfe7fdc309a408d1ad8db2653eabaadaf7c9ad1fb4d9722", func := "loop.example/g00494/laws.FnExactBefore", spec := "fnExactBefore", apart := false, narrowed := true }
def FnExactBeforeUptoSaid : Prop := fnExactBeforeUptoRow.holds Try.pinned (OpenSpec.upto fnExactBeforeSpec)

/-- 'laws.FnExactFailed', WHERE WHAT IT READS IS OF BULK AT MOST 1048576: true; the input reads as it did. -/
def fnExactFailedUptoRow : OpenClaim := { program := "ytcainllgnbdkbaa", sum := "ec1aaa22d5cd12f47dfe7fdc309a408d1ad8db2653eabaadaf7c9ad1fb4d9722", func := "loop.example/g00494/laws.FnExactFailed", spec := "fnExactFailed", apart := false, narrowed := true }
def FnExactFailedUptoSaid : Prop := fnExactFailedUptoRow.holds Try.pinned (OpenSpec.upto fnExactFailedSpec)

/-- 'laws.FnExactEntryOf', WHERE WHAT IT READS IS OF BULK AT MOST 1048576: true; the input reads as it did. -/
def fnExactEntryOfUptoRow : OpenClaim := { program := "ytcainllgnbdkbaa", sum := "ec1aaa22d5cd12f47dfe7fdc309a408d1ad8db2653eabaadaf7c9ad1fb4d9722", func := "loop.example/g00494/laws.FnExactEntryOf", spec := "fnExactEntryOf", apart := false, narrowed := true }
def FnExactEntryOfUptoSaid : Prop := fnExactEntryOfUptoRow.holds Try.pinned (OpenSpec.upto fnExactEntryOfSpec)

/-- 'laws.FnFailed', WHERE WHAT IT READS IS OF BULK AT MOST 1048576: true; the input reads as it did. -/
def fnFailedUptoRow : OpenClaim := { program := "ytcainllgnbdkbaa", sum := "ec1aaa22d5cd12f47dfe7fdc309a408d1ad8db2653eabaadaf7c9ad1fb4d9722", func := "loop.example/g00494/laws.FnFailed", spec := "fnFailed", apart := false, narrowed := true }
def FnFailedUptoSaid : Prop := fnFailedUptoRow.holds Try.pinned (OpenSpec.upto fnFailedSpec)

/-- 'laws.FnOneTier', WHERE WHAT IT READS IS OF BULK AT MOST 1048576: true; the input reads as it did. -/
def fnOneTierUptoRow : OpenClaim := { program := "ytcainllgnbdkbaa", sum := "ec1aaa22d5cd12f47dfe7fdc309a408d1ad8db2653eabaadaf7c9ad1fb4d9722", func := "loop.example/g00494/laws.FnOneTier", spec := "fnOneTier", apart := false, narrowed := true }
def FnOneTierUptoSaid : Prop := fnOneTierUptoRow.holds Try.pinned (OpenSpec.upto fnOneTierSpec)

/-- 'laws.FnExactPartyPut', WHERE WHAT IT READS IS OF BULK AT MOST 1048576: true; the input reads as it did. -/
def fnExactPartyPutUptoRow : OpenClaim := { program := "ytcainllgnbdkbaa", sum := "ec1aaa22d5cd12f47dfe7fdc309a408d1ad8db2653eabaadaf7c9ad1fb4d9722", func := "loop.example/g00494/laws.FnExactPartyPut", spec := "fnExactPartyPut", inPlace := ["slices.overlaps[loop.example/g00494/impl.Party]"], unfollowed := true, recurses := true, apart := false, narrowed := true }
def FnExactPartyPutUptoSaid : Prop := fnExactPartyPutUptoRow.holds Try.pinned (OpenSpec.upto fnExactPartyPutSpec)

/-- 'laws.FnExactPartyAt', WHERE WHAT IT READS IS OF BULK AT MOST 1048576: true; the input reads as it did. -/
def fnExactPartyAtUptoRow : OpenClaim := { program := "ytcainllgnbdkbaa", sum := "ec1aaa22d5cd12f47dfe7fdc309a408d1ad8db2653eabaadaf7c9ad1fb4d9722", func := "loop.example/g00494/laws.FnExactPartyAt", spec := "fnExactPartyAt", unfollowed := true, recurses := true, apart := false, narrowed := true }
def FnExactPartyAtUptoSaid : Prop := fnExactPartyAtUptoRow.holds Try.pinned (OpenSpec.upto fnExactPartyAtSpec)

/-- 'laws.FnExactQueueOf', WHERE WHAT IT READS IS OF BULK AT MOST 1048576: true; the input reads as it did. -/
def fnExactQueueOfUptoRow : OpenClaim := { program := "ytcainllgnbdkbaa", sum := "ec1aaa22d5cd12f47dfe7fdc309a408d1ad8db2653eabaadaf7c9ad1fb4d9722", func := "loop.example/g00494/laws.FnExactQueueOf", spec := "fnExactQueueOf", unfollowed := true, recurses := true, apart := false, narrowed := true }
def FnExactQueueOfUptoSaid : Prop := fnExactQueueOfUptoRow.holds Try.pinned (OpenSpec.upto fnExactQueueOfSpec)

/-- 'laws.FnQueueKept', WHERE WHAT IT READS IS OF BULK AT MOST 1048576: true; the input reads as it did. -/
def fnQueueKeptUptoRow : OpenClaim := { program := "ytcainllgnbdkbaa", sum := "ec1aaa22d5cd12f47dfe7fdc309a408d1ad8db2653eabaadaf7c9ad1fb4d9722", func := "loop.example/g00494/laws.FnQueueKept", spec := "fnQueueKept", inPlace := ["slices.overlaps[loop.example/g00494/impl.Entry]"], unfollowed := true, recurses := true, apart := false, narrowed := true }
def FnQueueKeptUptoSaid : Prop := fnQueueKeptUptoRow.holds Try.pinned (OpenSpec.upto fnQueueKeptSpec)

/-- 'laws.FnQueueOf', WHERE WHAT IT READS IS OF BULK AT MOST 1048576: true; the input reads as it did. -/
def fnQueueOfUptoRow : OpenClaim := { program := "ytcainllgnbdkbaa", sum := "ec1aaa22d5cd12f47dfe7fdc309a408d1ad8db2653eabaadaf7c9ad1fb4d9722", func := "loop.example/g00494/laws.FnQueueOf", spec := "fnQueueOf", unfollowed := true, recurses := true, apart := false, narrowed := true }
def FnQueueOfUptoSaid : Prop := fnQueueOfUptoRow.holds Try.pinned (OpenSpec.upto fnQueueOfSpec)

/-- 'laws.FnExactPinsIn', WHERE WHAT IT READS IS OF BULK AT MOST 1048576: true; the input reads as it did. -/
def fnExactPinsInUptoRow : OpenClaim := { program := "ytcainllgnbdkbaa", sum := "ec1aaa22d5cd12f47dfe7fdc309a408d1ad8db2653eabaadaf7c9ad1fb4d9722", func := "loop.example/g00494/laws.FnExactPinsIn", spec := "fnExactPinsIn", unfollowed := true, recurses := true, apart := false, narrowed := true }
def FnExactPinsInUptoSaid : Prop := fnExactPinsInUptoRow.holds Try.pinned (OpenSpec.upto fnExactPinsInSpec)

end Rows
end Go.Proofs.Ytcainllgnbdkbaa
