/-
  DERIVED. GIVEN WITH THE SEED: THE CARDS: each row of YtbnkdoilpidfaaaDoorRows.lean that lists a variable, with what it lists TIED to the program's text (the seventh form; the later family's looks); each row that meets fmt, with fmt's text TOLD by the authors' own Lean function (tested against real Go, not proved from fmt's source: count such statements apart). THE CARD IS WHAT COUNTS. Prove the row's statement (the work); the ties are given (YtbnkdoilpidfaaaDoorTie.lean); close each card by the builder's one call (the guide's Derived/Test/ToyasCard.lean, 'card_holds'). Laid BY PROGRAM, IN A SANDBOX (cutbox-door.mjs). By AI agents, Wed Nov 11 2026. No macro, syntax, notation, axiom, sorry.
-/
import Derived.Test.YtbnkdoilpidfaaaDoorRows
import GoSem.ClaimSeven
namespace Go.Proofs.YtbnkdoilpidfaaaDoor
namespace Rows

/-- THE TIED CARD OF 'laws.FnExactLedgerLine'. -/
def fnExactLedgerLineCard : Claim7 := { stood := { row := fnExactLedgerLineRow, standIns := [], harness := (true, "4deebcd3fbfc30772a1e7fd1b9b5bb43221e4958e7e25584abab11bbc75ccd08"), looks := false }, kinds := [], alts := [], laidByText := true, laidKinds := [.data, .data, .data], laidTests := true, laidLooks := .later }
def FnExactLedgerLineCardSaid : Prop := Claim7.holds Tryd.pinned (.plain (OpenSpec.ofChange fnExactLedgerLineSpec)) fnExactLedgerLineCard

/-- THE SECOND FORM's CARD OF 'laws.FnExactLedgerLine'. -/
def fnExactLedgerLineUptoCard : Claim7 := { stood := { row := fnExactLedgerLineUptoRow, standIns := [], harness := (true, "4deebcd3fbfc30772a1e7fd1b9b5bb43221e4958e7e25584abab11bbc75ccd08"), looks := false }, kinds := [], alts := [], laidByText := true, laidKinds := [.data, .data, .data], laidTests := true, laidLooks := .later }
def FnExactLedgerLineUptoCardSaid : Prop := Claim7.holds Tryd.pinned (.plain (OpenSpec.upto fnExactLedgerLineSpec)) fnExactLedgerLineUptoCard
end Rows
end Go.Proofs.YtbnkdoilpidfaaaDoor
