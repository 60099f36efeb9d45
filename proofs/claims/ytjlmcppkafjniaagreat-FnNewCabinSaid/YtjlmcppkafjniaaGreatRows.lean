/-
  No cell of these rows narrows 'for every input' (looked for: loops, veiled, ifaces, maps, wideKeys, modest, calm, conditions, laid).
  DERIVED. THE GIVEN ROWS OF THIS SEAT. 2 by the template 'for every input the law returns true; each argument reads behind the call as it read before'; 0 by the template 'total and deterministic' (their statements: YtjlmcppkafjniaaGreatTotals.lean).
  GIVEN WITH THE SEED: the statements are not yours to turn. If you find one false, say at which input.
  Laid BY PROGRAM, IN A SANDBOX (cutbox-rows.mjs): the forced cells as the released guide's own fill.sh prints them over the translation e941e83b34b1a118… (all of the seat's roots in one cut). By AI agents, Wed Nov 11 2026. No macro, syntax, notation, axiom, sorry.
-/
import Derived.Test.YtjlmcppkafjniaaGreatChecked
import GoSem.Claim
import GoSem.ClaimJoined
import GoSem.ClaimMapViews
import Derived.JoinedTies
import Derived.KernelRfl
namespace Go.Proofs.YtjlmcppkafjniaaGreat
/- THE CELL 'sum', in the pinned program and in every row, IS THE sha256 OF THE DUMP (.gsa) THAT YtjlmcppkafjniaaGreatProg.lean LOADS. Nothing in Lean hashes anything: it is a label: what it is worth is what the hold of that sum in a sandbox is worth. -/
noncomputable def Tryz.pinned : Pinned := { name := "ytjlmcppkafjniaagreat", sum := "e941e83b34b1a11846d413dc9e04891a7a5fd731a179d3066c78ddcd03fee70b", checked := Tryz.checked }
namespace Rows
def none {H : Type} : Left H := { results := [], args := [] }

/-- 'laws.FnNewCabin': WHATEVER THE INPUT: true; the input reads as it did. -/
def fnNewCabinSpec : ChangeSpec := { name := "fnNewCabin", fn := fun _ => fun
  | [d] => { results := [.lit (.bool true)], args := [d] }
  | _ => none }
def fnNewCabinRow : OpenClaim := { program := "ytjlmcppkafjniaagreat", sum := "e941e83b34b1a11846d413dc9e04891a7a5fd731a179d3066c78ddcd03fee70b", func := "loop.example/g00494/laws.FnNewCabin", spec := "fnNewCabin", unfollowed := true, recurses := true, apart := false }
def FnNewCabinSaid : Prop := fnNewCabinRow.holds Tryz.pinned (OpenSpec.ofChange fnNewCabinSpec)

/-- ITS FALSE NEIGHBOUR: 'it returns false'. Refute it at one input. -/
def fnNewCabinWrong : ChangeSpec := { name := "fnNewCabin", fn := fun _ => fun
  | [d] => { results := [.lit (.bool false)], args := [d] }
  | _ => none }
def FnNewCabinWrongFalsely : Prop := fnNewCabinRow.holds Tryz.pinned (OpenSpec.ofChange fnNewCabinWrong)

/-- 'laws.FnExactAgrees': WHATEVER THE INPUT: true; the input reads as it did. -/
def fnExactAgreesSpec : ChangeSpec := { name := "fnExactAgrees", fn := fun _ => fun
  | [d1, d2, d3, d4, d5] => { results := [.lit (.bool true)], args := [d1, d2, d3, d4, d5] }
  | _ => none }
def fnExactAgreesRow : OpenClaim := { program := "ytjlmcppkafjniaagreat", sum := "e941e83b34b1a11846d413dc9e04891a7a5fd731a179d3066c78ddcd03fee70b", func := "loop.example/g00494/laws.FnExactAgrees", spec := "fnExactAgrees", unfollowed := true, recurses := true, apart := false }
def FnExactAgreesSaid : Prop := fnExactAgreesRow.holds Tryz.pinned (OpenSpec.ofChange fnExactAgreesSpec)

/-- ITS FALSE NEIGHBOUR: 'it returns false'. Refute it at one input. -/
def fnExactAgreesWrong : ChangeSpec := { name := "fnExactAgrees", fn := fun _ => fun
  | [d1, d2, d3, d4, d5] => { results := [.lit (.bool false)], args := [d1, d2, d3, d4, d5] }
  | _ => none }
def FnExactAgreesWrongFalsely : Prop := fnExactAgreesRow.holds Tryz.pinned (OpenSpec.ofChange fnExactAgreesWrong)

/- THE SECOND FORM. 'bulk': how many values and letters a reading holds, each counted each time it is reached (what is shared counts as often as it is met; a slice's spare places count too). A statement '..UptoSaid' is the law's where the arguments, and the package variables that the reading takes, are together of bulk at most 1048576: NARROWER than '..Said'. Prove '..Said' where nothing that the law and all that it calls make is longer than what came in: it says more and counts as full. Else prove '..UptoSaid'. A law counts once. -/
mutual
def uptoBulk {H : Type} : DataW H → Nat
  | .lit (.string bytes) => bytes.length + 1
  | .lit _ => 1
  | .nil => 1
  | .ptr d => uptoBulk d + 1
  | .slice elems spare => uptoBulkAll elems + uptoBulkAll spare + 1
  | .agg parts => uptoBulkAll parts + 1
  | .iface _ d => uptoBulk d + 1
  | .map entries => uptoBulkEntries entries + 1
  | .held _ => 1
def uptoBulkAll {H : Type} : List (DataW H) → Nat
  | [] => 0
  | d :: r => uptoBulk d + uptoBulkAll r
def uptoBulkEntries {H : Type} : List (Lit × DataW H) → Nat
  | [] => 0
  | x :: r => uptoBulkEntry x + uptoBulkEntries r
def uptoBulkEntry {H : Type} : Lit × DataW H → Nat
  | (.string bytes, d) => bytes.length + uptoBulk d + 1
  | (_, d) => uptoBulk d + 1
 end
def uptoSmall : (H : Type) → List (DataW H) → Bool := fun _ ds => decide (uptoBulkAll ds ≤ 1048576)
def OpenSpec.upto (s : _root_.Go.ChangeSpec) : _root_.Go.OpenSpec := { _root_.Go.OpenSpec.ofChange s with cond := some uptoSmall }

/-- 'laws.FnNewCabin', WHERE WHAT IT READS IS OF BULK AT MOST 1048576: true; the input reads as it did. -/
def fnNewCabinUptoRow : OpenClaim := { program := "ytjlmcppkafjniaagreat", sum := "e941e83b34b1a11846d413dc9e04891a7a5fd731a179d3066c78ddcd03fee70b", func := "loop.example/g00494/laws.FnNewCabin", spec := "fnNewCabin", unfollowed := true, recurses := true, apart := false, narrowed := true }
def FnNewCabinUptoSaid : Prop := fnNewCabinUptoRow.holds Tryz.pinned (OpenSpec.upto fnNewCabinSpec)

/-- 'laws.FnExactAgrees', WHERE WHAT IT READS IS OF BULK AT MOST 1048576: true; the input reads as it did. -/
def fnExactAgreesUptoRow : OpenClaim := { program := "ytjlmcppkafjniaagreat", sum := "e941e83b34b1a11846d413dc9e04891a7a5fd731a179d3066c78ddcd03fee70b", func := "loop.example/g00494/laws.FnExactAgrees", spec := "fnExactAgrees", unfollowed := true, recurses := true, apart := false, narrowed := true }
def FnExactAgreesUptoSaid : Prop := fnExactAgreesUptoRow.holds Tryz.pinned (OpenSpec.upto fnExactAgreesSpec)

end Rows
end Go.Proofs.YtjlmcppkafjniaaGreat
