/-
  DERIVED. GIVEN WITH THE SEED: THE CARDS: each row of YtaoeghfoifhhcaaDoorRows.lean that lists a variable, with what it lists TIED to the program's text (the seventh form; the later family's looks); each row that meets fmt, with fmt's text TOLD by the authors' own Lean function (tested against real Go, not proved from fmt's source: count such statements apart). THE CARD IS WHAT COUNTS. Prove the row's statement (the work); the ties are given (YtaoeghfoifhhcaaDoorTie.lean); close each card by the builder's one call (the guide's Derived/Test/ToyasCard.lean, 'card_holds'). Laid BY PROGRAM, IN A SANDBOX (cutbox-door.mjs). By AI agents, Wed Nov 11 2026. No macro, syntax, notation, axiom, sorry.
-/
import Derived.Test.YtaoeghfoifhhcaaDoorRows
import GoSem.ClaimSeven
namespace Go.Proofs.YtaoeghfoifhhcaaDoor
namespace Rows

/-- THE TIED CARD OF 'laws.FnMatricesMultiplied'. -/
def fnMatricesMultipliedCard : Claim7 := { stood := { row := fnMatricesMultipliedRow, standIns := [], harness := (true, "40e9954f625b70fe111b68985963604c2e7638cea2206ac06956fcda7315d4ce"), looks := false }, kinds := [], alts := [], laidByText := true, laidKinds := [.data, .data, .data], laidTests := true, laidLooks := .later }
def FnMatricesMultipliedCardSaid : Prop := Claim7.holds Tryd.pinned (.plain (OpenSpec.ofChange fnMatricesMultipliedSpec)) fnMatricesMultipliedCard

/-- THE SECOND FORM's CARD OF 'laws.FnMatricesMultiplied'. -/
def fnMatricesMultipliedUptoCard : Claim7 := { stood := { row := fnMatricesMultipliedUptoRow, standIns := [], harness := (true, "40e9954f625b70fe111b68985963604c2e7638cea2206ac06956fcda7315d4ce"), looks := false }, kinds := [], alts := [], laidByText := true, laidKinds := [.data, .data, .data], laidTests := true, laidLooks := .later }
def FnMatricesMultipliedUptoCardSaid : Prop := Claim7.holds Tryd.pinned (.plain (OpenSpec.upto fnMatricesMultipliedSpec)) fnMatricesMultipliedUptoCard
end Rows
end Go.Proofs.YtaoeghfoifhhcaaDoor
