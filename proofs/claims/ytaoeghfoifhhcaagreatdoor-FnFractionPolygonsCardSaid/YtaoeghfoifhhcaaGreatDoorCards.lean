/-
  DERIVED. GIVEN WITH THE SEED: THE CARDS: each row of YtaoeghfoifhhcaaGreatDoorRows.lean that lists a variable, with what it lists TIED to the program's text (the seventh form; the later family's looks); each row that meets fmt, with fmt's text TOLD by the authors' own Lean function (tested against real Go, not proved from fmt's source: count such statements apart). THE CARD IS WHAT COUNTS. Prove the row's statement (the work); the ties are given (YtaoeghfoifhhcaaGreatDoorTie.lean); close each card by the builder's one call (the guide's Derived/Test/ToyasCard.lean, 'card_holds'). Laid BY PROGRAM, IN A SANDBOX (cutbox-door.mjs). By AI agents, Wed Nov 11 2026. No macro, syntax, notation, axiom, sorry.
-/
import Derived.Test.YtaoeghfoifhhcaaGreatDoorRows
import GoSem.ClaimSeven
namespace Go.Proofs.YtaoeghfoifhhcaaGreatDoor
namespace Rows

/-- THE TIED CARD OF 'laws.FnFractionsNear'. -/
def fnFractionsNearCard : Claim7 := { stood := { row := fnFractionsNearRow, standIns := [], harness := (true, "0b903118ff48c4f91f51b519eb7555487aa4ee31b24e948d6461f672018b9b4b"), looks := false }, kinds := [], alts := [], laidByText := true, laidKinds := [.data, .pinned], laidTests := true, laidLooks := .later }
def FnFractionsNearCardSaid : Prop := Claim7.holds Tryz.pinned (.plain (OpenSpec.ofChange fnFractionsNearSpec)) fnFractionsNearCard

/-- THE TIED CARD OF 'laws.FnFractionPolygons'. -/
def fnFractionPolygonsCard : Claim7 := { stood := { row := fnFractionPolygonsRow, standIns := [], harness := (true, "0b903118ff48c4f91f51b519eb7555487aa4ee31b24e948d6461f672018b9b4b"), looks := false }, kinds := [], alts := [], laidByText := true, laidKinds := [.data, .data, .data], laidTests := true, laidLooks := .later }
def FnFractionPolygonsCardSaid : Prop := Claim7.holds Tryz.pinned (.plain (OpenSpec.ofChange fnFractionPolygonsSpec)) fnFractionPolygonsCard

/-- THE TIED CARD OF 'laws.FnFriezesMade'. -/
def fnFriezesMadeCard : Claim7 := { stood := { row := fnFriezesMadeRow, standIns := [], harness := (true, "0b903118ff48c4f91f51b519eb7555487aa4ee31b24e948d6461f672018b9b4b"), looks := false }, kinds := [], alts := [], laidByText := true, laidKinds := [.data, .data, .data], laidTests := true, laidLooks := .later }
def FnFriezesMadeCardSaid : Prop := Claim7.holds Tryz.pinned (.plain (OpenSpec.ofChange fnFriezesMadeSpec)) fnFriezesMadeCard

/-- THE SECOND FORM's CARD OF 'laws.FnFractionsNear'. -/
def fnFractionsNearUptoCard : Claim7 := { stood := { row := fnFractionsNearUptoRow, standIns := [], harness := (true, "0b903118ff48c4f91f51b519eb7555487aa4ee31b24e948d6461f672018b9b4b"), looks := false }, kinds := [], alts := [], laidByText := true, laidKinds := [.data, .pinned], laidTests := true, laidLooks := .later }
def FnFractionsNearUptoCardSaid : Prop := Claim7.holds Tryz.pinned (.plain (OpenSpec.upto fnFractionsNearSpec)) fnFractionsNearUptoCard

/-- THE SECOND FORM's CARD OF 'laws.FnFractionPolygons'. -/
def fnFractionPolygonsUptoCard : Claim7 := { stood := { row := fnFractionPolygonsUptoRow, standIns := [], harness := (true, "0b903118ff48c4f91f51b519eb7555487aa4ee31b24e948d6461f672018b9b4b"), looks := false }, kinds := [], alts := [], laidByText := true, laidKinds := [.data, .data, .data], laidTests := true, laidLooks := .later }
def FnFractionPolygonsUptoCardSaid : Prop := Claim7.holds Tryz.pinned (.plain (OpenSpec.upto fnFractionPolygonsSpec)) fnFractionPolygonsUptoCard

/-- THE SECOND FORM's CARD OF 'laws.FnFriezesMade'. -/
def fnFriezesMadeUptoCard : Claim7 := { stood := { row := fnFriezesMadeUptoRow, standIns := [], harness := (true, "0b903118ff48c4f91f51b519eb7555487aa4ee31b24e948d6461f672018b9b4b"), looks := false }, kinds := [], alts := [], laidByText := true, laidKinds := [.data, .data, .data], laidTests := true, laidLooks := .later }
def FnFriezesMadeUptoCardSaid : Prop := Claim7.holds Tryz.pinned (.plain (OpenSpec.upto fnFriezesMadeSpec)) fnFriezesMadeUptoCard
end Rows
end Go.Proofs.YtaoeghfoifhhcaaGreatDoor
