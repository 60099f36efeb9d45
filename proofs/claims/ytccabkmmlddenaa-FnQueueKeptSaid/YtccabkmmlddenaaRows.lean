/-
  No cell of these rows narrows 'for every input' (looked for: loops, veiled, ifaces, maps, wideKeys, modest, calm, conditions, laid).
  DERIVED. THE GIVEN ROWS OF THIS SEAT. 3 by the template 'for every input the law returns true; each argument reads behind the call as it read before'; 0 by the template 'total and deterministic' (their statements: YtccabkmmlddenaaTotals.lean).
  GIVEN WITH THE SEED: the statements are not yours to turn. If you find one false, say at which input.
  Laid BY PROGRAM, IN A SANDBOX (cutbox-rows.mjs): the forced cells as the released guide's own fill.sh prints them over the translation 3dde209e5b9b2fe1… (all of the seat's roots in one cut). By AI agents, Wed Nov 11 2026. No macro, syntax, notation, axiom, sorry.
-/
import Derived.Test.YtccabkmmlddenaaChecked
import GoSem.Claim
import GoSem.ClaimJoined
import GoSem.ClaimMapViews
import Derived.JoinedTies
import Derived.KernelRfl
namespace Go.Proofs.Ytccabkmmlddenaa
/- THE CELL 'sum', in the pinned program and in every row, IS THE sha256 OF THE DUMP (.gsa) THAT YtccabkmmlddenaaProg.lean LOADS. Nothing in Lean hashes anything: it is a label: what it is worth is what the hold of that sum in a sandbox is worth. -/
noncomputable def Try.pinned : Pinned := { name := "ytccabkmmlddenaa", sum := "3dde209e5b9b2fe139c5f8fca919faf83c582da78fe05b030b4330cb3041dfbf", checked := Try.checked }
namespace Rows
def none {H : Type} : Left H := { results := [], args := [] }

/-- 'laws.FnExactQueueOf': WHATEVER THE INPUT: true; the input reads as it did. -/
def fnExactQueueOfSpec : ChangeSpec := { name := "fnExactQueueOf", fn := fun _ => fun
  | [d1, d2, d3, d4] => { results := [.lit (.bool true)], args := [d1, d2, d3, d4] }
  | _ => none }
def fnExactQueueOfRow : OpenClaim := { program := "ytccabkmmlddenaa", sum := "3dde209e5b9b2fe139c5f8fca919faf83c582da78fe05b030b4330cb3041dfbf", func := "loop.example/g00494/laws.FnExactQueueOf", spec := "fnExactQueueOf", unfollowed := true, recurses := true, apart := false }
def FnExactQueueOfSaid : Prop := fnExactQueueOfRow.holds Try.pinned (OpenSpec.ofChange fnExactQueueOfSpec)

/-- ITS FALSE NEIGHBOUR: 'it returns false'. Refute it at one input. -/
def fnExactQueueOfWrong : ChangeSpec := { name := "fnExactQueueOf", fn := fun _ => fun
  | [d1, d2, d3, d4] => { results := [.lit (.bool false)], args := [d1, d2, d3, d4] }
  | _ => none }
def FnExactQueueOfWrongFalsely : Prop := fnExactQueueOfRow.holds Try.pinned (OpenSpec.ofChange fnExactQueueOfWrong)

/-- 'laws.FnQueueOf': WHATEVER THE INPUT: true; the input reads as it did. -/
def fnQueueOfSpec : ChangeSpec := { name := "fnQueueOf", fn := fun _ => fun
  | [d] => { results := [.lit (.bool true)], args := [d] }
  | _ => none }
def fnQueueOfRow : OpenClaim := { program := "ytccabkmmlddenaa", sum := "3dde209e5b9b2fe139c5f8fca919faf83c582da78fe05b030b4330cb3041dfbf", func := "loop.example/g00494/laws.FnQueueOf", spec := "fnQueueOf", unfollowed := true, recurses := true, apart := false }
def FnQueueOfSaid : Prop := fnQueueOfRow.holds Try.pinned (OpenSpec.ofChange fnQueueOfSpec)

/-- ITS FALSE NEIGHBOUR: 'it returns false'. Refute it at one input. -/
def fnQueueOfWrong : ChangeSpec := { name := "fnQueueOf", fn := fun _ => fun
  | [d] => { results := [.lit (.bool false)], args := [d] }
  | _ => none }
def FnQueueOfWrongFalsely : Prop := fnQueueOfRow.holds Try.pinned (OpenSpec.ofChange fnQueueOfWrong)

/-- 'laws.FnQueueKept': WHATEVER THE INPUT: true; the input reads as it did. -/
def fnQueueKeptSpec : ChangeSpec := { name := "fnQueueKept", fn := fun _ => fun
  | [d] => { results := [.lit (.bool true)], args := [d] }
  | _ => none }
def fnQueueKeptRow : OpenClaim := { program := "ytccabkmmlddenaa", sum := "3dde209e5b9b2fe139c5f8fca919faf83c582da78fe05b030b4330cb3041dfbf", func := "loop.example/g00494/laws.FnQueueKept", spec := "fnQueueKept", inPlace := ["slices.overlaps[loop.example/g00494/impl.Entry]"], unfollowed := true, recurses := true, apart := false }
def FnQueueKeptSaid : Prop := fnQueueKeptRow.holds Try.pinned (OpenSpec.ofChange fnQueueKeptSpec)

/-- ITS FALSE NEIGHBOUR: 'it returns false'. Refute it at one input. -/
def fnQueueKeptWrong : ChangeSpec := { name := "fnQueueKept", fn := fun _ => fun
  | [d] => { results := [.lit (.bool false)], args := [d] }
  | _ => none }
def FnQueueKeptWrongFalsely : Prop := fnQueueKeptRow.holds Try.pinned (OpenSpec.ofChange fnQueueKeptWrong)

/- THE SECOND FORM. 'bulk': how many values and letters a reading holds, each counted each time it is reached (what is shared counts as often as it is met; a slice's spare places count too). A statement '..UptoSaid' is the law's where the arguments, and the package variables that the reading takes, are together of bulk at most 1048576: NARROWER than '..Said'. Prove '..Said' where nothing that the law and all that it calls make is longer than what came in: it says more and counts as full. Else prove '..UptoSaid'. A law counts once. -/
mutual
def uptoBulk {H : Type} : DataW H → Nat
  | .lit (.string bytes) => bytes.length + 1
  | .lit _ => 1
  | .nil => 1
  | .ptr d => uptoBulk d + 1
  | .slice elems spare => uptoBulkAll elems + uptoBulkAll spare + 1
  | .agg parts => uptoBulkAll parts + 1
  | .iface _ d => uptoBulk d + 1
  | .map entries => uptoBulkEntries entries + 1
  | .held _ => 1
def uptoBulkAll {H : Type} : List (DataW H) → Nat
  | [] => 0
  | d :: r => uptoBulk d + uptoBulkAll r
def uptoBulkEntries {H : Type} : List (Lit × DataW H) → Nat
  | [] => 0
  | x :: r => uptoBulkEntry x + uptoBulkEntries r
def uptoBulkEntry {H : Type} : Lit × DataW H → Nat
  | (.string bytes, d) => bytes.length + uptoBulk d + 1
  | (_, d) => uptoBulk d + 1
 end
def uptoSmall : (H : Type) → List (DataW H) → Bool := fun _ ds => decide (uptoBulkAll ds ≤ 1048576)
def OpenSpec.upto (s : _root_.Go.ChangeSpec) : _root_.Go.OpenSpec := { _root_.Go.OpenSpec.ofChange s with cond := some uptoSmall }

/-- 'laws.FnExactQueueOf', WHERE WHAT IT READS IS OF BULK AT MOST 1048576: true; the input reads as it did. -/
def fnExactQueueOfUptoRow : OpenClaim := { program := "ytccabkmmlddenaa", sum := "3dde209e5b9b2fe139c5f8fca919faf83c582da78fe05b030b4330cb3041dfbf", func := "loop.example/g00494/laws.FnExactQueueOf", spec := "fnExactQueueOf", unfollowed := true, recurses := true, apart := false, narrowed := true }
def FnExactQueueOfUptoSaid : Prop := fnExactQueueOfUptoRow.holds Try.pinned (OpenSpec.upto fnExactQueueOfSpec)

/-- 'laws.FnQueueOf', WHERE WHAT IT READS IS OF BULK AT MOST 1048576: true; the input reads as it did. -/
def fnQueueOfUptoRow : OpenClaim := { program := "ytccabkmmlddenaa", sum := "3dde209e5b9b2fe139c5f8fca919faf83c582da78fe05b030b4330cb3041dfbf", func := "loop.example/g00494/laws.FnQueueOf", spec := "fnQueueOf", unfollowed := true, recurses := true, apart := false, narrowed := true }
def FnQueueOfUptoSaid : Prop := fnQueueOfUptoRow.holds Try.pinned (OpenSpec.upto fnQueueOfSpec)

/-- 'laws.FnQueueKept', WHERE WHAT IT READS IS OF BULK AT MOST 1048576: true; the input reads as it did. -/
def fnQueueKeptUptoRow : OpenClaim := { program := "ytccabkmmlddenaa", sum := "3dde209e5b9b2fe139c5f8fca919faf83c582da78fe05b030b4330cb3041dfbf", func := "loop.example/g00494/laws.FnQueueKept", spec := "fnQueueKept", inPlace := ["slices.overlaps[loop.example/g00494/impl.Entry]"], unfollowed := true, recurses := true, apart := false, narrowed := true }
def FnQueueKeptUptoSaid : Prop := fnQueueKeptUptoRow.holds Try.pinned (OpenSpec.upto fnQueueKeptSpec)

end Rows
end Go.Proofs.Ytccabkmmlddenaa
