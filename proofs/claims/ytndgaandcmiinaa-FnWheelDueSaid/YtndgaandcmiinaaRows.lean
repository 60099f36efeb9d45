/-
  No cell of these rows narrows 'for every input' (looked for: loops, veiled, ifaces, maps, wideKeys, modest, calm, conditions, laid).
  DERIVED. THE GIVEN ROWS OF THIS SEAT. 12 by the template 'for every input the law returns true; each argument reads behind the call as it read before'; 0 by the template 'total and deterministic' (their statements: YtndgaandcmiinaaTotals.lean).
  GIVEN WITH THE SEED: the statements are not yours to turn. If you find one false, say at which input.
  Laid BY PROGRAM, IN A SANDBOX (cutbox-rows.mjs): the forced cells as the released guide's own fill.sh prints them over the translation ee13341ea68b198f… (all of the seat's roots in one cut). By AI agents, Wed Nov 11 2026. No macro, syntax, notation, axiom, sorry.
-/
import Derived.Test.YtndgaandcmiinaaChecked
import GoSem.Claim
import GoSem.ClaimJoined
import GoSem.ClaimMapViews
import Derived.JoinedTies
import Derived.KernelRfl
namespace Go.Proofs.Ytndgaandcmiinaa
/- THE CELL 'sum', in the pinned program and in every row, IS THE sha256 OF THE DUMP (.gsa) THAT YtndgaandcmiinaaProg.lean LOADS. Nothing in Lean hashes anything: it is a label: what it is worth is what the hold of that sum in a sandbox is worth. -/
noncomputable def Try.pinned : Pinned := { name := "ytndgaandcmiinaa", sum := "ee13341ea68b198f3e332ca279fbdff385bc17c3c2eafe319a67fcbe66846f6c", checked := Try.checked }
namespace Rows
def none {H : Type} : Left H := { results := [], args := [] }

/-- 'laws.FnExactWheelNew': WHATEVER THE INPUT: true; the input reads as it did. -/
def fnExactWheelNewSpec : ChangeSpec := { name := "fnExactWheelNew", fn := fun _ => fun
  | [] => { results := [.lit (.bool true)], args := [] }
  | _ => none }
def fnExactWheelNewRow : OpenClaim := { program := "ytndgaandcmiinaa", sum := "ee13341ea68b198f3e332ca279fbdff385bc17c3c2eafe319a67fcbe66846f6c", func := "loop.example/g00494/laws.FnExactWheelNew", spec := "fnExactWheelNew", apart := false }
def FnExactWheelNewSaid : Prop := fnExactWheelNewRow.holds Try.pinned (OpenSpec.ofChange fnExactWheelNewSpec)

/-- ITS FALSE NEIGHBOUR: 'it returns false'. Refute it at one input. -/
def fnExactWheelNewWrong : ChangeSpec := { name := "fnExactWheelNew", fn := fun _ => fun
  | [] => { results := [.lit (.bool false)], args := [] }
  | _ => none }
def FnExactWheelNewWrongFalsely : Prop := fnExactWheelNewRow.holds Try.pinned (OpenSpec.ofChange fnExactWheelNewWrong)

/-- 'laws.FnExactWheelOk': WHATEVER THE INPUT: true; the input reads as it did. -/
def fnExactWheelOkSpec : ChangeSpec := { name := "fnExactWheelOk", fn := fun _ => fun
  | [d] => { results := [.lit (.bool true)], args := [d] }
  | _ => none }
def fnExactWheelOkRow : OpenClaim := { program := "ytndgaandcmiinaa", sum := "ee13341ea68b198f3e332ca279fbdff385bc17c3c2eafe319a67fcbe66846f6c", func := "loop.example/g00494/laws.FnExactWheelOk", spec := "fnExactWheelOk", apart := false }
def FnExactWheelOkSaid : Prop := fnExactWheelOkRow.holds Try.pinned (OpenSpec.ofChange fnExactWheelOkSpec)

/-- ITS FALSE NEIGHBOUR: 'it returns false'. Refute it at one input. -/
def fnExactWheelOkWrong : ChangeSpec := { name := "fnExactWheelOk", fn := fun _ => fun
  | [d] => { results := [.lit (.bool false)], args := [d] }
  | _ => none }
def FnExactWheelOkWrongFalsely : Prop := fnExactWheelOkRow.holds Try.pinned (OpenSpec.ofChange fnExactWheelOkWrong)

/-- 'laws.FnExactWheelCut': WHATEVER THE INPUT: true; the input reads as it did. -/
def fnExactWheelCutSpec : ChangeSpec := { name := "fnExactWheelCut", fn := fun _ => fun
  | [d1, d2] => { results := [.lit (.bool true)], args := [d1, d2] }
  | _ => none }
def fnExactWheelCutRow : OpenClaim := { program := "ytndgaandcmiinaa", sum := "ee13341ea68b198f3e332ca279fbdff385bc17c3c2eafe319a67fcbe66846f6c", func := "loop.example/g00494/laws.FnExactWheelCut", spec := "fnExactWheelCut", apart := false }
def FnExactWheelCutSaid : Prop := fnExactWheelCutRow.holds Try.pinned (OpenSpec.ofChange fnExactWheelCutSpec)

/-- ITS FALSE NEIGHBOUR: 'it returns false'. Refute it at one input. -/
def fnExactWheelCutWrong : ChangeSpec := { name := "fnExactWheelCut", fn := fun _ => fun
  | [d1, d2] => { results := [.lit (.bool false)], args := [d1, d2] }
  | _ => none }
def FnExactWheelCutWrongFalsely : Prop := fnExactWheelCutRow.holds Try.pinned (OpenSpec.ofChange fnExactWheelCutWrong)

/-- 'laws.FnExactWheelPut': WHATEVER THE INPUT: true; the input reads as it did. -/
def fnExactWheelPutSpec : ChangeSpec := { name := "fnExactWheelPut", fn := fun _ => fun
  | [d1, d2] => { results := [.lit (.bool true)], args := [d1, d2] }
  | _ => none }
def fnExactWheelPutRow : OpenClaim := { program := "ytndgaandcmiinaa", sum := "ee13341ea68b198f3e332ca279fbdff385bc17c3c2eafe319a67fcbe66846f6c", func := "loop.example/g00494/laws.FnExactWheelPut", spec := "fnExactWheelPut", inPlace := ["slices.overlaps[loop.example/g00494/impl.Pin]"], apart := false }
def FnExactWheelPutSaid : Prop := fnExactWheelPutRow.holds Try.pinned (OpenSpec.ofChange fnExactWheelPutSpec)

/-- ITS FALSE NEIGHBOUR: 'it returns false'. Refute it at one input. -/
def fnExactWheelPutWrong : ChangeSpec := { name := "fnExactWheelPut", fn := fun _ => fun
  | [d1, d2] => { results := [.lit (.bool false)], args := [d1, d2] }
  | _ => none }
def FnExactWheelPutWrongFalsely : Prop := fnExactWheelPutRow.holds Try.pinned (OpenSpec.ofChange fnExactWheelPutWrong)

/-- 'laws.FnExactWheelOf': WHATEVER THE INPUT: true; the input reads as it did. -/
def fnExactWheelOfSpec : ChangeSpec := { name := "fnExactWheelOf", fn := fun _ => fun
  | [d] => { results := [.lit (.bool true)], args := [d] }
  | _ => none }
def fnExactWheelOfRow : OpenClaim := { program := "ytndgaandcmiinaa", sum := "ee13341ea68b198f3e332ca279fbdff385bc17c3c2eafe319a67fcbe66846f6c", func := "loop.example/g00494/laws.FnExactWheelOf", spec := "fnExactWheelOf", inPlace := ["slices.overlaps[loop.example/g00494/impl.Pin]"], apart := false }
def FnExactWheelOfSaid : Prop := fnExactWheelOfRow.holds Try.pinned (OpenSpec.ofChange fnExactWheelOfSpec)

/-- ITS FALSE NEIGHBOUR: 'it returns false'. Refute it at one input. -/
def fnExactWheelOfWrong : ChangeSpec := { name := "fnExactWheelOf", fn := fun _ => fun
  | [d] => { results := [.lit (.bool false)], args := [d] }
  | _ => none }
def FnExactWheelOfWrongFalsely : Prop := fnExactWheelOfRow.holds Try.pinned (OpenSpec.ofChange fnExactWheelOfWrong)

/-- 'laws.FnExactPinsOf': WHATEVER THE INPUT: true; the input reads as it did. -/
def fnExactPinsOfSpec : ChangeSpec := { name := "fnExactPinsOf", fn := fun _ => fun
  | [d] => { results := [.lit (.bool true)], args := [d] }
  | _ => none }
def fnExactPinsOfRow : OpenClaim := { program := "ytndgaandcmiinaa", sum := "ee13341ea68b198f3e332ca279fbdff385bc17c3c2eafe319a67fcbe66846f6c", func := "loop.example/g00494/laws.FnExactPinsOf", spec := "fnExactPinsOf", unfollowed := true, recurses := true, apart := false }
def FnExactPinsOfSaid : Prop := fnExactPinsOfRow.holds Try.pinned (OpenSpec.ofChange fnExactPinsOfSpec)

/-- ITS FALSE NEIGHBOUR: 'it returns false'. Refute it at one input. -/
def fnExactPinsOfWrong : ChangeSpec := { name := "fnExactPinsOf", fn := fun _ => fun
  | [d] => { results := [.lit (.bool false)], args := [d] }
  | _ => none }
def FnExactPinsOfWrongFalsely : Prop := fnExactPinsOfRow.holds Try.pinned (OpenSpec.ofChange fnExactPinsOfWrong)

/-- 'laws.FnExactPinsDue': WHATEVER THE INPUT: true; the input reads as it did. -/
def fnExactPinsDueSpec : ChangeSpec := { name := "fnExactPinsDue", fn := fun _ => fun
  | [d1, d2] => { results := [.lit (.bool true)], args := [d1, d2] }
  | _ => none }
def fnExactPinsDueRow : OpenClaim := { program := "ytndgaandcmiinaa", sum := "ee13341ea68b198f3e332ca279fbdff385bc17c3c2eafe319a67fcbe66846f6c", func := "loop.example/g00494/laws.FnExactPinsDue", spec := "fnExactPinsDue", unfollowed := true, recurses := true, apart := false }
def FnExactPinsDueSaid : Prop := fnExactPinsDueRow.holds Try.pinned (OpenSpec.ofChange fnExactPinsDueSpec)

/-- ITS FALSE NEIGHBOUR: 'it returns false'. Refute it at one input. -/
def fnExactPinsDueWrong : ChangeSpec := { name := "fnExactPinsDue", fn := fun _ => fun
  | [d1, d2] => { results := [.lit (.bool false)], args := [d1, d2] }
  | _ => none }
def FnExactPinsDueWrongFalsely : Prop := fnExactPinsDueRow.holds Try.pinned (OpenSpec.ofChange fnExactPinsDueWrong)

/-- 'laws.FnExactSameWheel': WHATEVER THE INPUT: true; the input reads as it did. -/
def fnExactSameWheelSpec : ChangeSpec := { name := "fnExactSameWheel", fn := fun _ => fun
  | [d1, d2] => { results := [.lit (.bool true)], args := [d1, d2] }
  | _ => none }
def fnExactSameWheelRow : OpenClaim := { program := "ytndgaandcmiinaa", sum := "ee13341ea68b198f3e332ca279fbdff385bc17c3c2eafe319a67fcbe66846f6c", func := "loop.example/g00494/laws.FnExactSameWheel", spec := "fnExactSameWheel", unfollowed := true, recurses := true, apart := false }
def FnExactSameWheelSaid : Prop := fnExactSameWheelRow.holds Try.pinned (OpenSpec.ofChange fnExactSameWheelSpec)

/-- ITS FALSE NEIGHBOUR: 'it returns false'. Refute it at one input. -/
def fnExactSameWheelWrong : ChangeSpec := { name := "fnExactSameWheel", fn := fun _ => fun
  | [d1, d2] => { results := [.lit (.bool false)], args := [d1, d2] }
  | _ => none }
def FnExactSameWheelWrongFalsely : Prop := fnExactSameWheelRow.holds Try.pinned (OpenSpec.ofChange fnExactSameWheelWrong)

/-- 'laws.FnWheelDue': WHATEVER THE INPUT: true; the input reads as it did. -/
def fnWheelDueSpec : ChangeSpec := { name := "fnWheelDue", fn := fun _ => fun
  | [d] => { results := [.lit (.bool true)], args := [d] }
  | _ => none }
def fnWheelDueRow : OpenClaim := { program := "ytndgaandcmiinaa", sum := "ee13341ea68b198f3e332ca279fbdff385bc17c3c2eafe319a67fcbe66846f6c", func := "loop.example/g00494/laws.FnWheelDue", spec := "fnWheelDue", unfollowed := true, recurses := true, apart := false }
def FnWheelDueSaid : Prop := fnWheelDueRow.holds Try.pinned (OpenSpec.ofChange fnWheelDueSpec)

/-- ITS FALSE NEIGHBOUR: 'it returns false'. Refute it at one input. -/
def fnWheelDueWrong : ChangeSpec := { name := "fnWheelDue", fn := fun _ => fun
  | [d] => { results := [.lit (.bool false)], args := [d] }
  | _ => none }
def FnWheelDueWrongFalsely : Prop := fnWheelDueRow.holds Try.pinned (OpenSpec.ofChange fnWheelDueWrong)

/-- 'laws.FnWheelOf': WHATEVER THE INPUT: true; the input reads as it did. -/
def fnWheelOfSpec : ChangeSpec := { name := "fnWheelOf", fn := fun _ => fun
  | [d] => { results := [.lit (.bool true)], args := [d] }
  | _ => none }
def fnWheelOfRow : OpenClaim := { program := "ytndgaandcmiinaa", sum := "ee13341ea68b198f3e332ca279fbdff385bc17c3c2eafe319a67fcbe66846f6c", func := "loop.example/g00494/laws.FnWheelOf", spec := "fnWheelOf", inPlace := ["slices.overlaps[loop.example/g00494/impl.Pin]"], unfollowed := true, recurses := true, apart := false }
def FnWheelOfSaid : Prop := fnWheelOfRow.holds Try.pinned (OpenSpec.ofChange fnWheelOfSpec)

/-- ITS FALSE NEIGHBOUR: 'it returns false'. Refute it at one input. -/
def fnWheelOfWrong : ChangeSpec := { name := "fnWheelOf", fn := fun _ => fun
  | [d] => { results := [.lit (.bool false)], args := [d] }
  | _ => none }
def FnWheelOfWrongFalsely : Prop := fnWheelOfRow.holds Try.pinned (OpenSpec.ofChange fnWheelOfWrong)

/-- 'laws.FnWheelBack': WHATEVER THE INPUT: true; the input reads as it did. -/
def fnWheelBackSpec : ChangeSpec := { name := "fnWheelBack", fn := fun _ => fun
  | [d] => { results := [.lit (.bool true)], args := [d] }
  | _ => none }
def fnWheelBackRow : OpenClaim := { program := "ytndgaandcmiinaa", sum := "ee13341ea68b198f3e332ca279fbdff385bc17c3c2eafe319a67fcbe66846f6c", func := "loop.example/g00494/laws.FnWheelBack", spec := "fnWheelBack", inPlace := ["slices.overlaps[loop.example/g00494/impl.Pin]"], unfollowed := true, recurses := true, apart := false }
def FnWheelBackSaid : Prop := fnWheelBackRow.holds Try.pinned (OpenSpec.ofChange fnWheelBackSpec)

/-- ITS FALSE NEIGHBOUR: 'it returns false'. Refute it at one input. -/
def fnWheelBackWrong : ChangeSpec := { name := "fnWheelBack", fn := fun _ => fun
  | [d] => { results := [.lit (.bool false)], args := [d] }
  | _ => none }
def FnWheelBackWrongFalsely : Prop := fnWheelBackRow.holds Try.pinned (OpenSpec.ofChange fnWheelBackWrong)

/-- 'laws.FnExactCabinNew': WHATEVER THE INPUT: true; the input reads as it did. -/
def fnExactCabinNewSpec : ChangeSpec := { name := "fnExactCabinNew", fn := fun _ => fun
  | [d] => { results := [.lit (.bool true)], args := [d] }
  | _ => none }
def fnExactCabinNewRow : OpenClaim := { program := "ytndgaandcmiinaa", sum := "ee13341ea68b198f3e332ca279fbdff385bc17c3c2eafe319a67fcbe66846f6c", func := "loop.example/g00494/laws.FnExactCabinNew", spec := "fnExactCabinNew", apart := false }
def FnExactCabinNewSaid : Prop := fnExactCabinNewRow.holds Try.pinned (OpenSpec.ofChange fnExactCabinNewSpec)

/-- ITS FALSE NEIGHBOUR: 'it returns false'. Refute it at one input. -/
def fnExactCabinNewWrong : ChangeSpec := { name := "fnExactCabinNew", fn := fun _ => fun
  | [d] => { results := [.lit (.bool false)], args := [d] }
  | _ => none }
def FnExactCabinNewWrongFalsely : Prop := fnExactCabinNewRow.holds Try.pinned (OpenSpec.ofChange fnExactCabinNewWrong)

/- THE SECOND FORM. 'bulk': how many values and letters a reading holds, each counted each time it is reached (what is shared counts as often as it is met; a slice's spare places count too). A statement '..UptoSaid' is the law's where the arguments, and the package variables that the reading takes, are together of bulk at most 1048576: NARROWER than '..Said'. Prove '..Said' where nothing that the law and all that it calls make is longer than what came in: it says more and counts as full. Else prove '..UptoSaid'. A law counts once. -/
mutual
def uptoBulk {H : Type} : DataW H → Nat
  | .lit (.string bytes) => bytes.length + 1
  | .lit _ => 1
  | .nil => 1
  | .ptr d => uptoBulk d + 1
  | .slice elems spare => uptoBulkAll elems + uptoBulkAll spare + 1
  | .agg parts => uptoBulkAll parts + 1
  | .iface _ d => uptoBulk d + 1
  | .map entries => uptoBulkEntries entries + 1
  | .held _ => 1
def uptoBulkAll {H : Type} : List (DataW H) → Nat
  | [] => 0
  | d :: r => uptoBulk d + uptoBulkAll r
def uptoBulkEntries {H : Type} : List (Lit × DataW H) → Nat
  | [] => 0
  | x :: r => uptoBulkEntry x + uptoBulkEntries r
def uptoBulkEntry {H : Type} : Lit × DataW H → Nat
  | (.string bytes, d) => bytes.length + uptoBulk d + 1
  | (_, d) => uptoBulk d + 1
 end
def uptoSmall : (H : Type) → List (DataW H) → Bool := fun _ ds => decide (uptoBulkAll ds ≤ 1048576)
def OpenSpec.upto (s : _root_.Go.ChangeSpec) : _root_.Go.OpenSpec := { _root_.Go.OpenSpec.ofChange s with cond := some uptoSmall }

/-- 'laws.FnExactWheelNew', WHERE WHAT IT READS IS OF BULK AT MOST 1048576: true; the input reads as it did. -/
def fnExactWheelNewUptoRow : OpenClaim := { program := "ytndgaandcmiinaa", sum := "ee13341ea68b198f3e332ca279fbdff385bc17c3c2eafe319a67fcbe66846f6c", func := "loop.example/g00494/laws.FnExactWheelNew", spec := "fnExactWheelNew", apart := false, narrowed := true }
def FnExactWheelNewUptoSaid : Prop := fnExactWheelNewUptoRow.holds Try.pinned (OpenSpec.upto fnExactWheelNewSpec)

/-- 'laws.FnExactWheelOk', WHERE WHAT IT READS IS OF BULK AT MOST 1048576: true; the input reads as it did. -/
def fnExactWheelOkUptoRow : OpenClaim := { program := "ytndgaandcmiinaa", sum := "ee13341ea68b198f3e332ca279fbdff385bc17c3c2eafe319a67fcbe66846f6c", func := "loop.example/g00494/laws.FnExactWheelOk", spec := "fnExactWheelOk", apart := false, narrowed := true }
def FnExactWheelOkUptoSaid : Prop := fnExactWheelOkUptoRow.holds Try.pinned (OpenSpec.upto fnExactWheelOkSpec)

/-- 'laws.FnExactWheelCut', WHERE WHAT IT READS IS OF BULK AT MOST 1048576: true; the input reads as it did. -/
def fnExactWheelCutUptoRow : OpenClaim := { program := "ytndgaandcmiinaa", sum := "ee13341ea68b198f3e332ca279fbdff385bc17c3c2eafe319a67fcbe66846f6c", func := "loop.example/g00494/laws.FnExactWheelCut", spec := "fnExactWheelCut", apart := false, narrowed := true }
def FnExactWheelCutUptoSaid : Prop := fnExactWheelCutUptoRow.holds Try.pinned (OpenSpec.upto fnExactWheelCutSpec)

/-- 'laws.FnExactWheelPut', WHERE WHAT IT READS IS OF BULK AT MOST 1048576: true; the input reads as it did. -/
def fnExactWheelPutUptoRow : OpenClaim := { program := "ytndgaandcmiinaa", sum := "ee13341ea68b198f3e332ca279fbdff385bc17c3c2eafe319a67fcbe66846f6c", func := "loop.example/g00494/laws.FnExactWheelPut", spec := "fnExactWheelPut", inPlace := ["slices.overlaps[loop.example/g00494/impl.Pin]"], apart := false, narrowed := true }
def FnExactWheelPutUptoSaid : Prop := fnExactWheelPutUptoRow.holds Try.pinned (OpenSpec.upto fnExactWheelPutSpec)

/-- 'laws.FnExactWheelOf', WHERE WHAT IT READS IS OF BULK AT MOST 1048576: true; the input reads as it did. -/
def fnExactWheelOfUptoRow : OpenClaim := { program := "ytndgaandcmiinaa", sum := "ee13341ea68b198f3e332ca279fbdff385bc17c3c2eafe319a67fcbe66846f6c", func := "loop.example/g00494/laws.FnExactWheelOf", spec := "fnExactWheelOf", inPlace := ["slices.overlaps[loop.example/g00494/impl.Pin]"], apart := false, narrowed := true }
def FnExactWheelOfUptoSaid : Prop := fnExactWheelOfUptoRow.holds Try.pinned (OpenSpec.upto fnExactWheelOfSpec)

/-- 'laws.FnExactPinsOf', WHERE WHAT IT READS IS OF BULK AT MOST 1048576: true; the input reads as it did. -/
def fnExactPinsOfUptoRow : OpenClaim := { program := "ytndgaandcmiinaa", sum := "ee13341ea68b198f3e332ca279fbdff385bc17c3c2eafe319a67fcbe66846f6c", func := "loop.example/g00494/laws.FnExactPinsOf", spec := "fnExactPinsOf", unfollowed := true, recurses := true, apart := false, narrowed := true }
def FnExactPinsOfUptoSaid : Prop := fnExactPinsOfUptoRow.holds Try.pinned (OpenSpec.upto fnExactPinsOfSpec)

/-- 'laws.FnExactPinsDue', WHERE WHAT IT READS IS OF BULK AT MOST 1048576: true; the input reads as it did. -/
def fnExactPinsDueUptoRow : OpenClaim := { program := "ytndgaandcmiinaa", sum := "ee13341ea68b198f3e332ca279fbdff385bc17c3c2eafe319a67fcbe66846f6c", func := "loop.example/g00494/laws.FnExactPinsDue", spec := "fnExactPinsDue", unfollowed := true, recurses := true, apart := false, narrowed := true }
def FnExactPinsDueUptoSaid : Prop := fnExactPinsDueUptoRow.holds Try.pinned (OpenSpec.upto fnExactPinsDueSpec)

/-- 'laws.FnExactSameWheel', WHERE WHAT IT READS IS OF BULK AT MOST 1048576: true; the input reads as it did. -/
def fnExactSameWheelUptoRow : OpenClaim := { program := "ytndgaandcmiinaa", sum := "ee13341ea68b198f3e332ca279fbdff385bc17c3c2eafe319a67fcbe66846f6c", func := "loop.example/g00494/laws.FnExactSameWheel", spec := "fnExactSameWheel", unfollowed := true, recurses := true, apart := false, narrowed := true }
def FnExactSameWheelUptoSaid : Prop := fnExactSameWheelUptoRow.holds Try.pinned (OpenSpec.upto fnExactSameWheelSpec)

/-- 'laws.FnWheelDue', WHERE WHAT IT READS IS OF BULK AT MOST 1048576: true; the input reads as it did. -/
def fnWheelDueUptoRow : OpenClaim := { program := "ytndgaandcmiinaa", sum := "ee13341ea68b198f3e332ca279fbdff385bc17c3c2eafe319a67fcbe66846f6c", func := "loop.example/g00494/laws.FnWheelDue", spec := "fnWheelDue", unfollowed := true, recurses := true, apart := false, narrowed := true }
def FnWheelDueUptoSaid : Prop := fnWheelDueUptoRow.holds Try.pinned (OpenSpec.upto fnWheelDueSpec)

/-- 'laws.FnWheelOf', WHERE WHAT IT READS IS OF BULK AT MOST 1048576: true; the input reads as it did. -/
def fnWheelOfUptoRow : OpenClaim := { program := "ytndgaandcmiinaa", sum := "ee13341ea68b198f3e332ca279fbdff385bc17c3c2eafe319a67fcbe66846f6c", func := "loop.example/g00494/laws.FnWheelOf", spec := "fnWheelOf", inPlace := ["slices.overlaps[loop.example/g00494/impl.Pin]"], unfollowed := true, recurses := true, apart := false, narrowed := true }
def FnWheelOfUptoSaid : Prop := fnWheelOfUptoRow.holds Try.pinned (OpenSpec.upto fnWheelOfSpec)

/-- 'laws.FnWheelBack', WHERE WHAT IT READS IS OF BULK AT MOST 1048576: true; the input reads as it did. -/
def fnWheelBackUptoRow : OpenClaim := { program := "ytndgaandcmiinaa", sum := "ee13341ea68b198f3e332ca279fbdff385bc17c3c2eafe319a67fcbe66846f6c", func := "loop.example/g00494/laws.FnWheelBack", spec := "fnWheelBack", inPlace := ["slices.overlaps[loop.example/g00494/impl.Pin]"], unfollowed := true, recurses := true, apart := false, narrowed := true }
def FnWheelBackUptoSaid : Prop := fnWheelBackUptoRow.holds Try.pinned (OpenSpec.upto fnWheelBackSpec)

/-- 'laws.FnExactCabinNew', WHERE WHAT IT READS IS OF BULK AT MOST 1048576: true; the input reads as it did. -/
def fnExactCabinNewUptoRow : OpenClaim := { program := "ytndgaandcmiinaa", sum := "ee13341ea68b198f3e332ca279fbdff385bc17c3c2eafe319a67fcbe66846f6c", func := "loop.example/g00494/laws.FnExactCabinNew", spec := "fnExactCabinNew", apart := false, narrowed := true }
def FnExactCabinNewUptoSaid : Prop := fnExactCabinNewUptoRow.holds Try.pinned (OpenSpec.upto fnExactCabinNewSpec)

end Rows
end Go.Proofs.Ytndgaandcmiinaa
