/-
  DERIVED. GIVEN WITH THE SEED: THE CARDS: each row of YtaanfhjiihekeaaDoorRows.lean that lists a variable, with what it lists TIED to the program's text (the seventh form; the later family's looks); each row that meets fmt, with fmt's text TOLD by the authors' own Lean function (tested against real Go, not proved from fmt's source: count such statements apart). THE CARD IS WHAT COUNTS. Prove the row's statement (the work); the ties are given (YtaanfhjiihekeaaDoorTie.lean); close each card by the builder's one call (the guide's Derived/Test/ToyasCard.lean, 'card_holds'). Laid BY PROGRAM, IN A SANDBOX (cutbox-door.mjs). By AI agents, Wed Nov 11 2026. No macro, syntax, notation, axiom, sorry.
-/
import Derived.Test.YtaanfhjiihekeaaDoorRows
import GoSem.ClaimSeven
namespace Go.Proofs.YtaanfhjiihekeaaDoor
namespace Rows

/-- THE TIED CARD OF 'laws.FnExactMatrixOfWord'. -/
def fnExactMatrixOfWordCard : Claim7 := { stood := { row := fnExactMatrixOfWordRow, standIns := [], harness := (true, "0331b3596901daecb6544b1c58cf060f152d52e4c47fe7cf106bb9239819095f"), looks := false }, kinds := [], alts := [], laidByText := true, laidKinds := [.data, .pinned], laidTests := true, laidLooks := .later }
def FnExactMatrixOfWordCardSaid : Prop := Claim7.holds Tryd.pinned (.plain (OpenSpec.ofChange fnExactMatrixOfWordSpec)) fnExactMatrixOfWordCard

/-- THE TIED CARD OF 'laws.FnExactPuzzleText'. -/
def fnExactPuzzleTextCard : Claim7 := { stood := { row := fnExactPuzzleTextRow, standIns := [], harness := (true, "0331b3596901daecb6544b1c58cf060f152d52e4c47fe7cf106bb9239819095f"), looks := false }, kinds := [], alts := [], laidByText := true, laidKinds := [.data, .data, .data, .data, .pinned], laidTests := true, laidLooks := .later }
def FnExactPuzzleTextCardSaid : Prop := Claim7.holds Tryd.pinned (.plain (OpenSpec.ofChange fnExactPuzzleTextSpec)) fnExactPuzzleTextCard

/-- THE TIED CARD OF 'laws.FnWordsTold'. -/
def fnWordsToldCard : Claim7 := { stood := { row := fnWordsToldRow, standIns := [], harness := (true, "0331b3596901daecb6544b1c58cf060f152d52e4c47fe7cf106bb9239819095f"), looks := false }, kinds := [], alts := [], laidByText := true, laidKinds := [.data, .pinned], laidTests := true, laidLooks := .later }
def FnWordsToldCardSaid : Prop := Claim7.holds Tryd.pinned (.plain (OpenSpec.ofChange fnWordsToldSpec)) fnWordsToldCard

/-- THE TIED CARD OF 'laws.FnMatricesMultiplied'. -/
def fnMatricesMultipliedCard : Claim7 := { stood := { row := fnMatricesMultipliedRow, standIns := [], harness := (true, "0331b3596901daecb6544b1c58cf060f152d52e4c47fe7cf106bb9239819095f"), looks := false }, kinds := [], alts := [], laidByText := true, laidKinds := [.data, .data, .data], laidTests := true, laidLooks := .later }
def FnMatricesMultipliedCardSaid : Prop := Claim7.holds Tryd.pinned (.plain (OpenSpec.ofChange fnMatricesMultipliedSpec)) fnMatricesMultipliedCard

/-- THE SECOND FORM's CARD OF 'laws.FnExactMatrixOfWord'. -/
def fnExactMatrixOfWordUptoCard : Claim7 := { stood := { row := fnExactMatrixOfWordUptoRow, standIns := [], harness := (true, "0331b3596901daecb6544b1c58cf060f152d52e4c47fe7cf106bb9239819095f"), looks := false }, kinds := [], alts := [], laidByText := true, laidKinds := [.data, .pinned], laidTests := true, laidLooks := .later }
def FnExactMatrixOfWordUptoCardSaid : Prop := Claim7.holds Tryd.pinned (.plain (OpenSpec.upto fnExactMatrixOfWordSpec)) fnExactMatrixOfWordUptoCard

/-- THE SECOND FORM's CARD OF 'laws.FnExactPuzzleText'. -/
def fnExactPuzzleTextUptoCard : Claim7 := { stood := { row := fnExactPuzzleTextUptoRow, standIns := [], harness := (true, "0331b3596901daecb6544b1c58cf060f152d52e4c47fe7cf106bb9239819095f"), looks := false }, kinds := [], alts := [], laidByText := true, laidKinds := [.data, .data, .data, .data, .pinned], laidTests := true, laidLooks := .later }
def FnExactPuzzleTextUptoCardSaid : Prop := Claim7.holds Tryd.pinned (.plain (OpenSpec.upto fnExactPuzzleTextSpec)) fnExactPuzzleTextUptoCard

/-- THE SECOND FORM's CARD OF 'laws.FnWordsTold'. -/
def fnWordsToldUptoCard : Claim7 := { stood := { row := fnWordsToldUptoRow, standIns := [], harness := (true, "0331b3596901daecb6544b1c58cf060f152d52e4c47fe7cf106bb9239819095f"), looks := false }, kinds := [], alts := [], laidByText := true, laidKinds := [.data, .pinned], laidTests := true, laidLooks := .later }
def FnWordsToldUptoCardSaid : Prop := Claim7.holds Tryd.pinned (.plain (OpenSpec.upto fnWordsToldSpec)) fnWordsToldUptoCard

/-- THE SECOND FORM's CARD OF 'laws.FnMatricesMultiplied'. -/
def fnMatricesMultipliedUptoCard : Claim7 := { stood := { row := fnMatricesMultipliedUptoRow, standIns := [], harness := (true, "0331b3596901daecb6544b1c58cf060f152d52e4c47fe7cf106bb9239819095f"), looks := false }, kinds := [], alts := [], laidByText := true, laidKinds := [.data, .data, .data], laidTests := true, laidLooks := .later }
def FnMatricesMultipliedUptoCardSaid : Prop := Claim7.holds Tryd.pinned (.plain (OpenSpec.upto fnMatricesMultipliedSpec)) fnMatricesMultipliedUptoCard
end Rows
end Go.Proofs.YtaanfhjiihekeaaDoor
