/-
  No cell of these rows narrows 'for every input' (looked for: loops, veiled, ifaces, maps, wideKeys, modest, calm, conditions, laid).
  DERIVED. THE GIVEN ROWS OF THIS SEAT. 11 by the template 'for every input the law returns true; each argument reads behind the call as it read before'; 0 by the template 'total and deterministic' (their statements: YthfkobbbijncnaaTotals.lean).
  GIVEN WITH THE SEED: the statements are not yours to turn. If you find one false, say at which input.
  Laid BY PROGRAM, IN A SANDBOX (cutbox-rows.mjs): the forced cells as the released guide's own fill.sh prints them over the translation 0c8ed24c15b4f131… (all of the seat's roots in one cut). By AI agents, Wed Nov 11 2026. No macro, syntax, notation, axiom, sorry.
-/
import Derived.Test.YthfkobbbijncnaaChecked
import GoSem.Claim
import GoSem.ClaimJoined
import GoSem.ClaimMapViews
import Derived.JoinedTies
import Derived.KernelRfl
namespace Go.Proofs.Ythfkobbbijncnaa
/- THE CELL 'sum', in the pinned program and in every row, IS THE sha256 OF THE DUMP (.gsa) THAT YthfkobbbijncnaaProg.lean LOADS. Nothing in Lean hashes anything: it is a label: what it is worth is what the hold of that sum in a sandbox is worth. -/
noncomputable def Try.pinned : Pinned := { name := "ythfkobbbijncnaa", sum := "0c8ed24c15b4f1314db34cb901fbc9faf1459cfe9b5ea76ee39b13e25002d7e6", checked := Try.checked }
namespace Rows
def none {H : Type} : Left H := { results := [], args := [] }

/-- 'laws.FnExactLedgerOk': WHATEVER THE INPUT: true; the input reads as it did. -/
def fnExactLedgerOkSpec : ChangeSpec := { name := "fnExactLedgerOk", fn := fun _ => fun
  | [d] => { results := [.lit (.bool true)], args := [d] }
  | _ => none }
def fnExactLedgerOkRow : OpenClaim := { program := "ythfkobbbijncnaa", sum := "0c8ed24c15b4f1314db34cb901fbc9faf1459cfe9b5ea76ee39b13e25002d7e6", func := "loop.example/g00494/laws.FnExactLedgerOk", spec := "fnExactLedgerOk", apart := false }
def FnExactLedgerOkSaid : Prop := fnExactLedgerOkRow.holds Try.pinned (OpenSpec.ofChange fnExactLedgerOkSpec)

/-- ITS FALSE NEIGHBOUR: 'it returns false'. Refute it at one input. -/
def fnExactLedgerOkWrong : ChangeSpec := { name := "fnExactLedgerOk", fn := fun _ => fun
  | [d] => { results := [.lit (.bool false)], args := [d] }
  | _ => none }
def FnExactLedgerOkWrongFalsely : Prop := fnExactLedgerOkRow.holds Try.pinned (OpenSpec.ofChange fnExactLedgerOkWrong)

/-- 'laws.FnExactLedgerNew': WHATEVER THE INPUT: true; the input reads as it did. -/
def fnExactLedgerNewSpec : ChangeSpec := { name := "fnExactLedgerNew", fn := fun _ => fun
  | [d] => { results := [.lit (.bool true)], args := [d] }
  | _ => none }
def fnExactLedgerNewRow : OpenClaim := { program := "ythfkobbbijncnaa", sum := "0c8ed24c15b4f1314db34cb901fbc9faf1459cfe9b5ea76ee39b13e25002d7e6", func := "loop.example/g00494/laws.FnExactLedgerNew", spec := "fnExactLedgerNew", apart := false }
def FnExactLedgerNewSaid : Prop := fnExactLedgerNewRow.holds Try.pinned (OpenSpec.ofChange fnExactLedgerNewSpec)

/-- ITS FALSE NEIGHBOUR: 'it returns false'. Refute it at one input. -/
def fnExactLedgerNewWrong : ChangeSpec := { name := "fnExactLedgerNew", fn := fun _ => fun
  | [d] => { results := [.lit (.bool false)], args := [d] }
  | _ => none }
def FnExactLedgerNewWrongFalsely : Prop := fnExactLedgerNewRow.holds Try.pinned (OpenSpec.ofChange fnExactLedgerNewWrong)

/-- 'laws.FnExactEntryLess': WHATEVER THE INPUT: true; the input reads as it did. -/
def fnExactEntryLessSpec : ChangeSpec := { name := "fnExactEntryLess", fn := fun _ => fun
  | [d1, d2] => { results := [.lit (.bool true)], args := [d1, d2] }
  | _ => none }
def fnExactEntryLessRow : OpenClaim := { program := "ythfkobbbijncnaa", sum := "0c8ed24c15b4f1314db34cb901fbc9faf1459cfe9b5ea76ee39b13e25002d7e6", func := "loop.example/g00494/laws.FnExactEntryLess", spec := "fnExactEntryLess", apart := false }
def FnExactEntryLessSaid : Prop := fnExactEntryLessRow.holds Try.pinned (OpenSpec.ofChange fnExactEntryLessSpec)

/-- ITS FALSE NEIGHBOUR: 'it returns false'. Refute it at one input. -/
def fnExactEntryLessWrong : ChangeSpec := { name := "fnExactEntryLess", fn := fun _ => fun
  | [d1, d2] => { results := [.lit (.bool false)], args := [d1, d2] }
  | _ => none }
def FnExactEntryLessWrongFalsely : Prop := fnExactEntryLessRow.holds Try.pinned (OpenSpec.ofChange fnExactEntryLessWrong)

/-- 'laws.FnExactSeatsTie': WHATEVER THE INPUT: true; the input reads as it did. -/
def fnExactSeatsTieSpec : ChangeSpec := { name := "fnExactSeatsTie", fn := fun _ => fun
  | [d1, d2] => { results := [.lit (.bool true)], args := [d1, d2] }
  | _ => none }
def fnExactSeatsTieRow : OpenClaim := { program := "ythfkobbbijncnaa", sum := "0c8ed24c15b4f1314db34cb901fbc9faf1459cfe9b5ea76ee39b13e25002d7e6", func := "loop.example/g00494/laws.FnExactSeatsTie", spec := "fnExactSeatsTie", unfollowed := true, recurses := true, apart := false }
def FnExactSeatsTieSaid : Prop := fnExactSeatsTieRow.holds Try.pinned (OpenSpec.ofChange fnExactSeatsTieSpec)

/-- ITS FALSE NEIGHBOUR: 'it returns false'. Refute it at one input. -/
def fnExactSeatsTieWrong : ChangeSpec := { name := "fnExactSeatsTie", fn := fun _ => fun
  | [d1, d2] => { results := [.lit (.bool false)], args := [d1, d2] }
  | _ => none }
def FnExactSeatsTieWrongFalsely : Prop := fnExactSeatsTieRow.holds Try.pinned (OpenSpec.ofChange fnExactSeatsTieWrong)

/-- 'laws.FnExactSeatsUntie': WHATEVER THE INPUT: true; the input reads as it did. -/
def fnExactSeatsUntieSpec : ChangeSpec := { name := "fnExactSeatsUntie", fn := fun _ => fun
  | [d1, d2] => { results := [.lit (.bool true)], args := [d1, d2] }
  | _ => none }
def fnExactSeatsUntieRow : OpenClaim := { program := "ythfkobbbijncnaa", sum := "0c8ed24c15b4f1314db34cb901fbc9faf1459cfe9b5ea76ee39b13e25002d7e6", func := "loop.example/g00494/laws.FnExactSeatsUntie", spec := "fnExactSeatsUntie", unfollowed := true, recurses := true, apart := false }
def FnExactSeatsUntieSaid : Prop := fnExactSeatsUntieRow.holds Try.pinned (OpenSpec.ofChange fnExactSeatsUntieSpec)

/-- ITS FALSE NEIGHBOUR: 'it returns false'. Refute it at one input. -/
def fnExactSeatsUntieWrong : ChangeSpec := { name := "fnExactSeatsUntie", fn := fun _ => fun
  | [d1, d2] => { results := [.lit (.bool false)], args := [d1, d2] }
  | _ => none }
def FnExactSeatsUntieWrongFalsely : Prop := fnExactSeatsUntieRow.holds Try.pinned (OpenSpec.ofChange fnExactSeatsUntieWrong)

/-- 'laws.FnSeats': WHATEVER THE INPUT: true; the input reads as it did. -/
def fnSeatsSpec : ChangeSpec := { name := "fnSeats", fn := fun _ => fun
  | [d] => { results := [.lit (.bool true)], args := [d] }
  | _ => none }
def fnSeatsRow : OpenClaim := { program := "ythfkobbbijncnaa", sum := "0c8ed24c15b4f1314db34cb901fbc9faf1459cfe9b5ea76ee39b13e25002d7e6", func := "loop.example/g00494/laws.FnSeats", spec := "fnSeats", unfollowed := true, recurses := true, apart := false }
def FnSeatsSaid : Prop := fnSeatsRow.holds Try.pinned (OpenSpec.ofChange fnSeatsSpec)

/-- ITS FALSE NEIGHBOUR: 'it returns false'. Refute it at one input. -/
def fnSeatsWrong : ChangeSpec := { name := "fnSeats", fn := fun _ => fun
  | [d] => { results := [.lit (.bool false)], args := [d] }
  | _ => none }
def FnSeatsWrongFalsely : Prop := fnSeatsRow.holds Try.pinned (OpenSpec.ofChange fnSeatsWrong)

/-- 'laws.FnExactSeatsDrop': WHATEVER THE INPUT: true; the input reads as it did. -/
def fnExactSeatsDropSpec : ChangeSpec := { name := "fnExactSeatsDrop", fn := fun _ => fun
  | [d1, d2] => { results := [.lit (.bool true)], args := [d1, d2] }
  | _ => none }
def fnExactSeatsDropRow : OpenClaim := { program := "ythfkobbbijncnaa", sum := "0c8ed24c15b4f1314db34cb901fbc9faf1459cfe9b5ea76ee39b13e25002d7e6", func := "loop.example/g00494/laws.FnExactSeatsDrop", spec := "fnExactSeatsDrop", unfollowed := true, recurses := true, apart := false }
def FnExactSeatsDropSaid : Prop := fnExactSeatsDropRow.holds Try.pinned (OpenSpec.ofChange fnExactSeatsDropSpec)

/-- ITS FALSE NEIGHBOUR: 'it returns false'. Refute it at one input. -/
def fnExactSeatsDropWrong : ChangeSpec := { name := "fnExactSeatsDrop", fn := fun _ => fun
  | [d1, d2] => { results := [.lit (.bool false)], args := [d1, d2] }
  | _ => none }
def FnExactSeatsDropWrongFalsely : Prop := fnExactSeatsDropRow.holds Try.pinned (OpenSpec.ofChange fnExactSeatsDropWrong)

/-- 'laws.FnExactSeatsFree': WHATEVER THE INPUT: true; the input reads as it did. -/
def fnExactSeatsFreeSpec : ChangeSpec := { name := "fnExactSeatsFree", fn := fun _ => fun
  | [d1, d2] => { results := [.lit (.bool true)], args := [d1, d2] }
  | _ => none }
def fnExactSeatsFreeRow : OpenClaim := { program := "ythfkobbbijncnaa", sum := "0c8ed24c15b4f1314db34cb901fbc9faf1459cfe9b5ea76ee39b13e25002d7e6", func := "loop.example/g00494/laws.FnExactSeatsFree", spec := "fnExactSeatsFree", unfollowed := true, recurses := true, apart := false }
def FnExactSeatsFreeSaid : Prop := fnExactSeatsFreeRow.holds Try.pinned (OpenSpec.ofChange fnExactSeatsFreeSpec)

/-- ITS FALSE NEIGHBOUR: 'it returns false'. Refute it at one input. -/
def fnExactSeatsFreeWrong : ChangeSpec := { name := "fnExactSeatsFree", fn := fun _ => fun
  | [d1, d2] => { results := [.lit (.bool false)], args := [d1, d2] }
  | _ => none }
def FnExactSeatsFreeWrongFalsely : Prop := fnExactSeatsFreeRow.holds Try.pinned (OpenSpec.ofChange fnExactSeatsFreeWrong)

/-- 'laws.FnExactSeatsHold': WHATEVER THE INPUT: true; the input reads as it did. -/
def fnExactSeatsHoldSpec : ChangeSpec := { name := "fnExactSeatsHold", fn := fun _ => fun
  | [d1, d2] => { results := [.lit (.bool true)], args := [d1, d2] }
  | _ => none }
def fnExactSeatsHoldRow : OpenClaim := { program := "ythfkobbbijncnaa", sum := "0c8ed24c15b4f1314db34cb901fbc9faf1459cfe9b5ea76ee39b13e25002d7e6", func := "loop.example/g00494/laws.FnExactSeatsHold", spec := "fnExactSeatsHold", unfollowed := true, recurses := true, apart := false }
def FnExactSeatsHoldSaid : Prop := fnExactSeatsHoldRow.holds Try.pinned (OpenSpec.ofChange fnExactSeatsHoldSpec)

/-- ITS FALSE NEIGHBOUR: 'it returns false'. Refute it at one input. -/
def fnExactSeatsHoldWrong : ChangeSpec := { name := "fnExactSeatsHold", fn := fun _ => fun
  | [d1, d2] => { results := [.lit (.bool false)], args := [d1, d2] }
  | _ => none }
def FnExactSeatsHoldWrongFalsely : Prop := fnExactSeatsHoldRow.holds Try.pinned (OpenSpec.ofChange fnExactSeatsHoldWrong)

/-- 'laws.FnExactSeatsSell': WHATEVER THE INPUT: true; the input reads as it did. -/
def fnExactSeatsSellSpec : ChangeSpec := { name := "fnExactSeatsSell", fn := fun _ => fun
  | [d1, d2] => { results := [.lit (.bool true)], args := [d1, d2] }
  | _ => none }
def fnExactSeatsSellRow : OpenClaim := { program := "ythfkobbbijncnaa", sum := "0c8ed24c15b4f1314db34cb901fbc9faf1459cfe9b5ea76ee39b13e25002d7e6", func := "loop.example/g00494/laws.FnExactSeatsSell", spec := "fnExactSeatsSell", unfollowed := true, recurses := true, apart := false }
def FnExactSeatsSellSaid : Prop := fnExactSeatsSellRow.holds Try.pinned (OpenSpec.ofChange fnExactSeatsSellSpec)

/-- ITS FALSE NEIGHBOUR: 'it returns false'. Refute it at one input. -/
def fnExactSeatsSellWrong : ChangeSpec := { name := "fnExactSeatsSell", fn := fun _ => fun
  | [d1, d2] => { results := [.lit (.bool false)], args := [d1, d2] }
  | _ => none }
def FnExactSeatsSellWrongFalsely : Prop := fnExactSeatsSellRow.holds Try.pinned (OpenSpec.ofChange fnExactSeatsSellWrong)

/-- 'laws.FnSeatsBack': WHATEVER THE INPUT: true; the input reads as it did. -/
def fnSeatsBackSpec : ChangeSpec := { name := "fnSeatsBack", fn := fun _ => fun
  | [d] => { results := [.lit (.bool true)], args := [d] }
  | _ => none }
def fnSeatsBackRow : OpenClaim := { program := "ythfkobbbijncnaa", sum := "0c8ed24c15b4f1314db34cb901fbc9faf1459cfe9b5ea76ee39b13e25002d7e6", func := "loop.example/g00494/laws.FnSeatsBack", spec := "fnSeatsBack", unfollowed := true, recurses := true, apart := false }
def FnSeatsBackSaid : Prop := fnSeatsBackRow.holds Try.pinned (OpenSpec.ofChange fnSeatsBackSpec)

/-- ITS FALSE NEIGHBOUR: 'it returns false'. Refute it at one input. -/
def fnSeatsBackWrong : ChangeSpec := { name := "fnSeatsBack", fn := fun _ => fun
  | [d] => { results := [.lit (.bool false)], args := [d] }
  | _ => none }
def FnSeatsBackWrongFalsely : Prop := fnSeatsBackRow.holds Try.pinned (OpenSpec.ofChange fnSeatsBackWrong)

/- THE SECOND FORM. 'bulk': how many values and letters a reading holds, each counted each time it is reached (what is shared counts as often as it is met; a slice's spare places count too). A statement '..UptoSaid' is the law's where the arguments, and the package variables that the reading takes, are together of bulk at most 1048576: NARROWER than '..Said'. Prove '..Said' where nothing that the law and all that it calls make is longer than what came in: it says more and counts as full. Else prove '..UptoSaid'. A law counts once. -/
mutual
def uptoBulk {H : Type} : DataW H → Nat
  | .lit (.string bytes) => bytes.length + 1
  | .lit _ => 1
  | .nil => 1
  | .ptr d => uptoBulk d + 1
  | .slice elems spare => uptoBulkAll elems + uptoBulkAll spare + 1
  | .agg parts => uptoBulkAll parts + 1
  | .iface _ d => uptoBulk d + 1
  | .map entries => uptoBulkEntries entries + 1
  | .held _ => 1
def uptoBulkAll {H : Type} : List (DataW H) → Nat
  | [] => 0
  | d :: r => uptoBulk d + uptoBulkAll r
def uptoBulkEntries {H : Type} : List (Lit × DataW H) → Nat
  | [] => 0
  | x :: r => uptoBulkEntry x + uptoBulkEntries r
def uptoBulkEntry {H : Type} : Lit × DataW H → Nat
  | (.string bytes, d) => bytes.length + uptoBulk d + 1
  | (_, d) => uptoBulk d + 1
 end
def uptoSmall : (H : Type) → List (DataW H) → Bool := fun _ ds => decide (uptoBulkAll ds ≤ 1048576)
def OpenSpec.upto (s : _root_.Go.ChangeSpec) : _root_.Go.OpenSpec := { _root_.Go.OpenSpec.ofChange s with cond := some uptoSmall }

/-- 'laws.FnExactLedgerOk', WHERE WHAT IT READS IS OF BULK AT MOST 1048576: true; the input reads as it did. -/
def fnExactLedgerOkUptoRow : OpenClaim := { program := "ythfkobbbijncnaa", sum := "0c8ed24c15b4f1314db34cb901fbc9faf1459cfe9b5ea76ee39b13e25002d7e6", func := "loop.example/g00494/laws.FnExactLedgerOk", spec := "fnExactLedgerOk", apart := false, narrowed := true }
def FnExactLedgerOkUptoSaid : Prop := fnExactLedgerOkUptoRow.holds Try.pinned (OpenSpec.upto fnExactLedgerOkSpec)

/-- 'laws.FnExactLedgerNew', WHERE WHAT IT READS IS OF BULK AT MOST 1048576: true; the input reads as it did. -/
def fnExactLedgerNewUptoRow : OpenClaim := { program := "ythfkobbbijncnaa", sum := "0c8ed24c15b4f1314db34cb901fbc9faf1459cfe9b5ea76ee39b13e25002d7e6", func := "loop.example/g00494/laws.FnExactLedgerNew", spec := "fnExactLedgerNew", apart := false, narrowed := true }
def FnExactLedgerNewUptoSaid : Prop := fnExactLedgerNewUptoRow.holds Try.pinned (OpenSpec.upto fnExactLedgerNewSpec)

/-- 'laws.FnExactEntryLess', WHERE WHAT IT READS IS OF BULK AT MOST 1048576: true; the input reads as it did. -/
def fnExactEntryLessUptoRow : OpenClaim := { program := "ythfkobbbijncnaa", sum := "0c8ed24c15b4f1314db34cb901fbc9faf1459cfe9b5ea76ee39b13e25002d7e6", func := "loop.example/g00494/laws.FnExactEntryLess", spec := "fnExactEntryLess", apart := false, narrowed := true }
def FnExactEntryLessUptoSaid : Prop := fnExactEntryLessUptoRow.holds Try.pinned (OpenSpec.upto fnExactEntryLessSpec)

/-- 'laws.FnExactSeatsTie', WHERE WHAT IT READS IS OF BULK AT MOST 1048576: true; the input reads as it did. -/
def fnExactSeatsTieUptoRow : OpenClaim := { program := "ythfkobbbijncnaa", sum := "0c8ed24c15b4f1314db34cb901fbc9faf1459cfe9b5ea76ee39b13e25002d7e6", func := "loop.example/g00494/laws.FnExactSeatsTie", spec := "fnExactSeatsTie", unfollowed := true, recurses := true, apart := false, narrowed := true }
def FnExactSeatsTieUptoSaid : Prop := fnExactSeatsTieUptoRow.holds Try.pinned (OpenSpec.upto fnExactSeatsTieSpec)

/-- 'laws.FnExactSeatsUntie', WHERE WHAT IT READS IS OF BULK AT MOST 1048576: true; the input reads as it did. -/
def fnExactSeatsUntieUptoRow : OpenClaim := { program := "ythfkobbbijncnaa", sum := "0c8ed24c15b4f1314db34cb901fbc9faf1459cfe9b5ea76ee39b13e25002d7e6", func := "loop.example/g00494/laws.FnExactSeatsUntie", spec := "fnExactSeatsUntie", unfollowed := true, recurses := true, apart := false, narrowed := true }
def FnExactSeatsUntieUptoSaid : Prop := fnExactSeatsUntieUptoRow.holds Try.pinned (OpenSpec.upto fnExactSeatsUntieSpec)

/-- 'laws.FnSeats', WHERE WHAT IT READS IS OF BULK AT MOST 1048576: true; the input reads as it did. -/
def fnSeatsUptoRow : OpenClaim := { program := "ythfkobbbijncnaa", sum := "0c8ed24c15b4f1314db34cb901fbc9faf1459cfe9b5ea76ee39b13e25002d7e6", func := "loop.example/g00494/laws.FnSeats", spec := "fnSeats", unfollowed := true, recurses := true, apart := false, narrowed := true }
def FnSeatsUptoSaid : Prop := fnSeatsUptoRow.holds Try.pinned (OpenSpec.upto fnSeatsSpec)

/-- 'laws.FnExactSeatsDrop', WHERE WHAT IT READS IS OF BULK AT MOST 1048576: true; the input reads as it did. -/
def fnExactSeatsDropUptoRow : OpenClaim := { program := "ythfkobbbijncnaa", sum := "0c8ed24c15b4f1314db34cb901fbc9faf1459cfe9b5ea76ee39b13e25002d7e6", func := "loop.example/g00494/laws.FnExactSeatsDrop", spec := "fnExactSeatsDrop", unfollowed := true, recurses := true, apart := false, narrowed := true }
def FnExactSeatsDropUptoSaid : Prop := fnExactSeatsDropUptoRow.holds Try.pinned (OpenSpec.upto fnExactSeatsDropSpec)

/-- 'laws.FnExactSeatsFree', WHERE WHAT IT READS IS OF BULK AT MOST 1048576: true; the input reads as it did. -/
def fnExactSeatsFreeUptoRow : OpenClaim := { program := "ythfkobbbijncnaa", sum := "0c8ed24c15b4f1314db34cb901fbc9faf1459cfe9b5ea76ee39b13e25002d7e6", func := "loop.example/g00494/laws.FnExactSeatsFree", spec := "fnExactSeatsFree", unfollowed := true, recurses := true, apart := false, narrowed := true }
def FnExactSeatsFreeUptoSaid : Prop := fnExactSeatsFreeUptoRow.holds Try.pinned (OpenSpec.upto fnExactSeatsFreeSpec)

/-- 'laws.FnExactSeatsHold', WHERE WHAT IT READS IS OF BULK AT MOST 1048576: true; the input reads as it did. -/
def fnExactSeatsHoldUptoRow : OpenClaim := { program := "ythfkobbbijncnaa", sum := "0c8ed24c15b4f1314db34cb901fbc9faf1459cfe9b5ea76ee39b13e25002d7e6", func := "loop.example/g00494/laws.FnExactSeatsHold", spec := "fnExactSeatsHold", unfollowed := true, recurses := true, apart := false, narrowed := true }
def FnExactSeatsHoldUptoSaid : Prop := fnExactSeatsHoldUptoRow.holds Try.pinned (OpenSpec.upto fnExactSeatsHoldSpec)

/-- 'laws.FnExactSeatsSell', WHERE WHAT IT READS IS OF BULK AT MOST 1048576: true; the input reads as it did. -/
def fnExactSeatsSellUptoRow : OpenClaim := { program := "ythfkobbbijncnaa", sum := "0c8ed24c15b4f1314db34cb901fbc9faf1459cfe9b5ea76ee39b13e25002d7e6", func := "loop.example/g00494/laws.FnExactSeatsSell", spec := "fnExactSeatsSell", unfollowed := true, recurses := true, apart := false, narrowed := true }
def FnExactSeatsSellUptoSaid : Prop := fnExactSeatsSellUptoRow.holds Try.pinned (OpenSpec.upto fnExactSeatsSellSpec)

/-- 'laws.FnSeatsBack', WHERE WHAT IT READS IS OF BULK AT MOST 1048576: true; the input reads as it did. -/
def fnSeatsBackUptoRow : OpenClaim := { program := "ythfkobbbijncnaa", sum := "0c8ed24c15b4f1314db34cb901fbc9faf1459cfe9b5ea76ee39b13e25002d7e6", func := "loop.example/g00494/laws.FnSeatsBack", spec := "fnSeatsBack", unfollowed := true, recurses := true, apart := false, narrowed := true }
def FnSeatsBackUptoSaid : Prop := fnSeatsBackUptoRow.holds Try.pinned (OpenSpec.upto fnSeatsBackSpec)

end Rows
end Go.Proofs.Ythfkobbbijncnaa
