/-
  No cell of these rows narrows 'for every input' (looked for: loops, veiled, ifaces, maps, wideKeys, modest, calm, conditions, laid).
  DERIVED. THE GIVEN ROWS OF THIS SEAT. 2 by the template 'for every input the law returns true; each argument reads behind the call as it read before'; 0 by the template 'total and deterministic' (their statements: YtbpohbcbmicchaaTotals.lean).
  GIVEN WITH THE SEED: the statements are not yours to turn. If you find one false, say at which input.
  Laid BY PROGRAM, IN A SANDBOX (cutbox-rows.mjs): the forced cells as the released guide's own fill.sh prints them over the translation 5d586bb9c96227aa… (all of the seat's roots in one cut). By AI agents, Wed Nov 11 2026. No macro, syntax, notation, axiom, sorry.
-/
import Derived.Test.YtbpohbcbmicchaaChecked
import GoSem.Claim
import GoSem.ClaimJoined
import GoSem.ClaimMapViews
import Derived.JoinedTies
import Derived.KernelRfl
namespace Go.Proofs.Ytbpohbcbmicchaa
/- THE CELL 'sum', in the pinned program and in every row, IS THE sha256 OF THE DUMP (.gsa) THAT YtbpohbcbmicchaaProg.lean LOADS. Nothing in Lean hashes anything: it is a label: what it is worth is what the hold of that sum in a sandbox is worth. -/
noncomputable def Try.pinned : Pinned := { name := "ytbpohbcbmicchaa", sum := "5d586bb9c96227aacbae4266e31fd4dc803469b63bfc72058150da381335fb5c", checked := Try.checked }
namespace Rows
def none {H : Type} : Left H := { results := [], args := [] }

/-- 'laws.FnFailed': WHATEVER THE INPUT: true; the input reads as it did. -/
def fnFailedSpec : ChangeSpec := { name := "fnFailed", fn := fun _ => fun
  | [d] => { results := [.lit (.bool true)], args := [d] }
  | _ => none }
def fnFailedRow : OpenClaim := { program := "ytbpohbcbmicchaa", sum := "5d586bb9c96227aacbae4266e31fd4dc803469b63bfc72058150da381335fb5c", func := "loop.example/g00494/laws.FnFailed", spec := "fnFailed", apart := false }
def FnFailedSaid : Prop := fnFailedRow.holds Try.pinned (OpenSpec.ofChange fnFailedSpec)

/-- ITS FALSE NEIGHBOUR: 'it returns false'. Refute it at one input. -/
def fnFailedWrong : ChangeSpec := { name := "fnFailed", fn := fun _ => fun
  | [d] => { results := [.lit (.bool false)], args := [d] }
  | _ => none }
def FnFailedWrongFalsely : Prop := fnFailedRow.holds Try.pinned (OpenSpec.ofChange fnFailedWrong)

/-- 'laws.FnOneTier': WHATEVER THE INPUT: true; the input reads as it did. -/
def fnOneTierSpec : ChangeSpec := { name := "fnOneTier", fn := fun _ => fun
  | [d] => { results := [.lit (.bool true)], args := [d] }
  | _ => none }
def fnOneTierRow : OpenClaim := { program := "ytbpohbcbmicchaa", sum := "5d586bb9c96227aacbae4266e31fd4dc803469b63bfc72058150da381335fb5c", func := "loop.example/g00494/laws.FnOneTier", spec := "fnOneTier", apart := false }
def FnOneTierSaid : Prop := fnOneTierRow.holds Try.pinned (OpenSpec.ofChange fnOneTierSpec)

/-- ITS FALSE NEIGHBOUR: 'it returns false'. Refute it at one input. -/
def fnOneTierWrong : ChangeSpec := { name := "fnOneTier", fn := fun _ => fun
  | [d] => { results := [.lit (.bool false)], args := [d] }
  | _ => none }
def FnOneTierWrongFalsely : Prop := fnOneTierRow.holds Try.pinned (OpenSpec.ofChange fnOneTierWrong)

/- THE SECOND FORM. 'bulk': how many values and letters a reading holds, each counted each time it is reached (what is shared counts as often as it is met; a slice's spare places count too). A statement '..UptoSaid' is the law's where the arguments, and the package variables that the reading takes, are together of bulk at most 1048576: NARROWER than '..Said'. Prove '..Said' where nothing that the law and all that it calls make is longer than what came in: it says more and counts as full. Else prove '..UptoSaid'. A law counts once. -/
mutual
def uptoBulk {H : Type} : DataW H → Nat
  | .lit (.string bytes) => bytes.length + 1
  | .lit _ => 1
  | .nil => 1
  | .ptr d => uptoBulk d + 1
  | .slice elems spare => uptoBulkAll elems + uptoBulkAll spare + 1
  | .agg parts => uptoBulkAll parts + 1
  | .iface _ d => uptoBulk d + 1
  | .map entries => uptoBulkEntries entries + 1
  | .held _ => 1
def uptoBulkAll {H : Type} : List (DataW H) → Nat
  | [] => 0
  | d :: r => uptoBulk d + uptoBulkAll r
def uptoBulkEntries {H : Type} : List (Lit × DataW H) → Nat
  | [] => 0
  | x :: r => uptoBulkEntry x + uptoBulkEntries r
def uptoBulkEntry {H : Type} : Lit × DataW H → Nat
  | (.string bytes, d) => bytes.length + uptoBulk d + 1
  | (_, d) => uptoBulk d + 1
 end
def uptoSmall : (H : Type) → List (DataW H) → Bool := fun _ ds => decide (uptoBulkAll ds ≤ 1048576)
def OpenSpec.upto (s : _root_.Go.ChangeSpec) : _root_.Go.OpenSpec := { _root_.Go.OpenSpec.ofChange s with cond := some uptoSmall }

/-- 'laws.FnFailed', WHERE WHAT IT READS IS OF BULK AT MOST 1048576: true; the input reads as it did. -/
def fnFailedUptoRow : OpenClaim := { program := "ytbpohbcbmicchaa", sum := "5d586bb9c96227aacbae4266e31fd4dc803469b63bfc72058150da381335fb5c", func := "loop.example/g00494/laws.FnFailed", spec := "fnFailed", apart := false, narrowed := true }
def FnFailedUptoSaid : Prop := fnFailedUptoRow.holds Try.pinned (OpenSpec.upto fnFailedSpec)

/-- 'laws.FnOneTier', WHERE WHAT IT READS IS OF BULK AT MOST 1048576: true; the input reads as it did. -/
def fnOneTierUptoRow : OpenClaim := { program := "ytbpohbcbmicchaa", sum := "5d586bb9c96227aacbae4266e31fd4dc803469b63bfc72058150da381335fb5c", func := "loop.example/g00494/laws.FnOneTier", spec := "fnOneTier", apart := false, narrowed := true }
def FnOneTierUptoSaid : Prop := fnOneTierUptoRow.holds Try.pinned (OpenSpec.upto fnOneTierSpec)

end Rows
end Go.Proofs.Ytbpohbcbmicchaa
