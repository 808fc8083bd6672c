/-
  DERIVED. GIVEN WITH THE SEED: THE CARDS: each row of YtpkbjabnchfgjaaGreatDoorRows.lean that lists a variable, with what it lists TIED to the program's text (the seventh form; the later family's looks); each row that meets fmt, with fmt's text TOLD by the authors' own Lean function (tested against real Go, not proved from fmt's source: count such statements apart). THE CARD IS WHAT COUNTS. Prove the row's statement (the work); the ties are given (YtpkbjabnchfgjaaGreatDoorTie.lean); close each card by the builder's one call (the guide's Derived/Test/ToyasCard.lean, 'card_holds'). Laid BY PROGRAM, IN A SANDBOX (cutbox-door.mjs). By AI agents, Wed Nov 11 2026. No macro, syntax, notation, axiom, sorry.
-/
import Derived.Test.YtpkbjabnchfgjaaGreatDoorRows
import GoSem.ClaimSeven
namespace Go.Proofs.YtpkbjabnchfgjaaGreatDoor
namespace Rows

/-- THE TIED CARD OF 'laws.FnPuzzlesFilled'. -/
def fnPuzzlesFilledCard : Claim7 := { stood := { row := fnPuzzlesFilledRow, standIns := [], harness := (true, "41b53c09c7787a9c32d384b877c8ad598ca28a61a8b60676a43cd1f08e6d9e85"), looks := false }, kinds := [], alts := [], laidByText := true, laidKinds := [.data, .data, .data, .data, .pinned], laidTests := true, laidLooks := .later }
def FnPuzzlesFilledCardSaid : Prop := Claim7.holds Tryz.pinned (.plain (OpenSpec.ofChange fnPuzzlesFilledSpec)) fnPuzzlesFilledCard

/-- THE SECOND FORM's CARD OF 'laws.FnPuzzlesFilled'. -/
def fnPuzzlesFilledUptoCard : Claim7 := { stood := { row := fnPuzzlesFilledUptoRow, standIns := [], harness := (true, "41b53c09c7787a9c32d384b877c8ad598ca28a61a8b60676a43cd1f08e6d9e85"), looks := false }, kinds := [], alts := [], laidByText := true, laidKinds := [.data, .data, .data, .data, .pinned], laidTests := true, laidLooks := .later }
def FnPuzzlesFilledUptoCardSaid : Prop := Claim7.holds Tryz.pinned (.plain (OpenSpec.upto fnPuzzlesFilledSpec)) fnPuzzlesFilledUptoCard
end Rows
end Go.Proofs.YtpkbjabnchfgjaaGreatDoor
