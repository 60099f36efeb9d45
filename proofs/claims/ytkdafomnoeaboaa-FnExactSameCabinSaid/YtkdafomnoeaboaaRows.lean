/-
  No cell of these rows narrows 'for every input' (looked for: loops, veiled, ifaces, maps, wideKeys, modest, calm, conditions, laid).
  DERIVED. THE GIVEN ROWS OF THIS SEAT. 2 by the template 'for every input the law returns true; each argument reads behind the call as it read before'; 0 by the template 'total and deterministic' (their statements: YtkdafomnoeaboaaTotals.lean).
  GIVEN WITH THE SEED: the statements are not yours to turn. If you find one false, say at which input.
  Laid BY PROGRAM, IN A SANDBOX (cutbox-rows.mjs): the forced cells as the released guide's own fill.sh prints them over the translation 959294147781642c… (all of the seat's roots in one cut). By AI agents, Wed Nov 11 2026. No macro, syntax, notation, axiom, sorry.
-/
import Derived.Test.YtkdafomnoeaboaaChecked
import GoSem.Claim
import GoSem.ClaimJoined
import GoSem.ClaimMapViews
import Derived.JoinedTies
import Derived.KernelRfl
namespace Go.Proofs.Ytkdafomnoeaboaa
/- THE CELL 'sum', in the pinned program and in every row, IS THE sha256 OF THE DUMP (.gsa) THAT YtkdafomnoeaboaaProg.lean LOADS. Nothing in Lean hashes anything: it is a label: what it is worth is what the hold of that sum in a sandbox is worth. -/
noncomputable def Try.pinned : Pinned := { name := "ytkdafomnoeaboaa", sum := "959294147781642c7ede1d2a75562da8a2b037fc7701be509102d72d3e0d6f7e", checked := Try.checked }
namespace Rows
def none {H : Type} : Left H := { results := [], args := [] }

/-- 'laws.FnExactCabinOk': WHATEVER THE INPUT: true; the input reads as it did. -/
def fnExactCabinOkSpec : ChangeSpec := { name := "fnExactCabinOk", fn := fun _ => fun
  | [d] => { results := [.lit (.bool true)], args := [d] }
  | _ => none }
def fnExactCabinOkRow : OpenClaim := { program := "ytkdafomnoeaboaa", sum := "959294147781642c7ede1d2a75562da8a2b037fc7701be509102d72d3e0d6f7e", func := "loop.example/g00494/laws.FnExactCabinOk", spec := "fnExactCabinOk", unfollowed := true, recurses := true, apart := false }
def FnExactCabinOkSaid : Prop := fnExactCabinOkRow.holds Try.pinned (OpenSpec.ofChange fnExactCabinOkSpec)

/-- ITS FALSE NEIGHBOUR: 'it returns false'. Refute it at one input. -/
def fnExactCabinOkWrong : ChangeSpec := { name := "fnExactCabinOk", fn := fun _ => fun
  | [d] => { results := [.lit (.bool false)], args := [d] }
  | _ => none }
def FnExactCabinOkWrongFalsely : Prop := fnExactCabinOkRow.holds Try.pinned (OpenSpec.ofChange fnExactCabinOkWrong)

/-- 'laws.FnExactSameCabin': WHATEVER THE INPUT: true; the input reads as it did. -/
def fnExactSameCabinSpec : ChangeSpec := { name := "fnExactSameCabin", fn := fun _ => fun
  | [d1, d2] => { results := [.lit (.bool true)], args := [d1, d2] }
  | _ => none }
def fnExactSameCabinRow : OpenClaim := { program := "ytkdafomnoeaboaa", sum := "959294147781642c7ede1d2a75562da8a2b037fc7701be509102d72d3e0d6f7e", func := "loop.example/g00494/laws.FnExactSameCabin", spec := "fnExactSameCabin", unfollowed := true, recurses := true, apart := false }
def FnExactSameCabinSaid : Prop := fnExactSameCabinRow.holds Try.pinned (OpenSpec.ofChange fnExactSameCabinSpec)

/-- ITS FALSE NEIGHBOUR: 'it returns false'. Refute it at one input. -/
def fnExactSameCabinWrong : ChangeSpec := { name := "fnExactSameCabin", fn := fun _ => fun
  | [d1, d2] => { results := [.lit (.bool false)], args := [d1, d2] }
  | _ => none }
def FnExactSameCabinWrongFalsely : Prop := fnExactSameCabinRow.holds Try.pinned (OpenSpec.ofChange fnExactSameCabinWrong)

/- THE SECOND FORM. 'bulk': how many values and letters a reading holds, each counted each time it is reached (what is shared counts as often as it is met; a slice's spare places count too). A statement '..UptoSaid' is the law's where the arguments, and the package variables that the reading takes, are together of bulk at most 1048576: NARROWER than '..Said'. Prove '..Said' where nothing that the law and all that it calls make is longer than what came in: it says more and counts as full. Else prove '..UptoSaid'. A law counts once. -/
mutual
def uptoBulk {H : Type} : DataW H → Nat
  | .lit (.string bytes) => bytes.length + 1
  | .lit _ => 1
  | .nil => 1
  | .ptr d => uptoBulk d + 1
  | .slice elems spare => uptoBulkAll elems + uptoBulkAll spare + 1
  | .agg parts => uptoBulkAll parts + 1
  | .iface _ d => uptoBulk d + 1
  | .map entries => uptoBulkEntries entries + 1
  | .held _ => 1
def uptoBulkAll {H : Type} : List (DataW H) → Nat
  | [] => 0
  | d :: r => uptoBulk d + uptoBulkAll r
def uptoBulkEntries {H : Type} : List (Lit × DataW H) → Nat
  | [] => 0
  | x :: r => uptoBulkEntry x + uptoBulkEntries r
def uptoBulkEntry {H : Type} : Lit × DataW H → Nat
  | (.string bytes, d) => bytes.length + uptoBulk d + 1
  | (_, d) => uptoBulk d + 1
 end
def uptoSmall : (H : Type) → List (DataW H) → Bool := fun _ ds => decide (uptoBulkAll ds ≤ 1048576)
def OpenSpec.upto (s : _root_.Go.ChangeSpec) : _root_.Go.OpenSpec := { _root_.Go.OpenSpec.ofChange s with cond := some uptoSmall }

/-- 'laws.FnExactCabinOk', WHERE WHAT IT READS IS OF BULK AT MOST 1048576: true; the input reads as it did. -/
def fnExactCabinOkUptoRow : OpenClaim := { program := "ytkdafomnoeaboaa", sum := "959294147781642c7ede1d2a75562da8a2b037fc7701be509102d72d3e0d6f7e", func := "loop.example/g00494/laws.FnExactCabinOk", spec := "fnExactCabinOk", unfollowed := true, recurses := true, apart := false, narrowed := true }
def FnExactCabinOkUptoSaid : Prop := fnExactCabinOkUptoRow.holds Try.pinned (OpenSpec.upto fnExactCabinOkSpec)

/-- 'laws.FnExactSameCabin', WHERE WHAT IT READS IS OF BULK AT MOST 1048576: true; the input reads as it did. -/
def fnExactSameCabinUptoRow : OpenClaim := { program := "ytkdafomnoeaboaa", sum := "959294147781642c7ede1d2a75562da8a2b037fc7701be509102d72d3e0d6f7e", func := "loop.example/g00494/laws.FnExactSameCabin", spec := "fnExactSameCabin", unfollowed := true, recurses := true, apart := false, narrowed := true }
def FnExactSameCabinUptoSaid : Prop := fnExactSameCabinUptoRow.holds Try.pinned (OpenSpec.upto fnExactSameCabinSpec)

end Rows
end Go.Proofs.Ytkdafomnoeaboaa
