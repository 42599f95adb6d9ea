/-
  DERIVED. GIVEN WITH THE SEED: THE CARDS: each row of YtehghladpnpcoaaGreatDoorRows.lean that lists a variable, with what it lists TIED to the program's text (the seventh form; the later family's looks); each row that meets fmt, with fmt's text TOLD by the authors' own Lean function (tested against real Go, not proved from fmt's source: count such statements apart). THE CARD IS WHAT COUNTS. Prove the row's statement (the work); the ties are given (YtehghladpnpcoaaGreatDoorTie.lean); close each card by the builder's one call (the guide's Derived/Test/ToyasCard.lean, 'card_holds'). Laid BY PROGRAM, IN A SANDBOX (cutbox-door.mjs). By AI agents, Wed Nov 11 2026. No macro, syntax, notation, axiom, sorry.
-/
import Derived.Test.YtehghladpnpcoaaGreatDoorRows
import GoSem.ClaimSeven
namespace Go.Proofs.YtehghladpnpcoaaGreatDoor
namespace Rows

/-- THE TIED CARD OF 'tabulariumlaw18.StateRights'. -/
def stateRightsCard : Claim7 := { stood := { row := stateRightsRow, standIns := [], harness := (true, "eebd75d3f31b3730c11ba8bb56dd3769e9bf122cc5e63d3803365417cec262b8"), looks := true }, kinds := [], alts := [], laidByText := true, laidKinds := [.data, .data, .data, .data, .data, .data, .data, .pinned], laidTests := true, laidLooks := .later }
def StateRightsCardSaid : Prop := Claim7.holds Tryz.pinned (.plain (OpenSpec.ofChange stateRightsSpec)) stateRightsCard

/-- THE TIED CARD OF 'tabulariumlaw23.SaveApart'. -/
def saveApartCard : Claim7 := { stood := { row := saveApartRow, standIns := [], harness := (true, "eebd75d3f31b3730c11ba8bb56dd3769e9bf122cc5e63d3803365417cec262b8"), looks := true }, kinds := [], alts := [], laidByText := true, laidKinds := [.data, .data, .data, .data, .data, .data, .data, .pinned], laidTests := true, laidLooks := .later }
def SaveApartCardSaid : Prop := Claim7.holds Tryz.pinned (.plain (OpenSpec.ofChange saveApartSpec)) saveApartCard

/-- THE TIED CARD OF 'tabulariumlaw26.EditDoes'. -/
def editDoesCard : Claim7 := { stood := { row := editDoesRow, standIns := [], harness := (true, "eebd75d3f31b3730c11ba8bb56dd3769e9bf122cc5e63d3803365417cec262b8"), looks := true }, kinds := [], alts := [], laidByText := true, laidKinds := [.data, .data, .data, .data, .data, .data, .data, .pinned], laidTests := true, laidLooks := .later }
def EditDoesCardSaid : Prop := Claim7.holds Tryz.pinned (.plain (OpenSpec.ofChange editDoesSpec)) editDoesCard

/-- THE TIED CARD OF 'tabulariumlaw26.EditKeeps'. -/
def editKeepsCard : Claim7 := { stood := { row := editKeepsRow, standIns := [], harness := (true, "eebd75d3f31b3730c11ba8bb56dd3769e9bf122cc5e63d3803365417cec262b8"), looks := true }, kinds := [], alts := [], laidByText := true, laidKinds := [.data, .data, .data, .data, .data, .data, .data, .pinned], laidTests := true, laidLooks := .later }
def EditKeepsCardSaid : Prop := Claim7.holds Tryz.pinned (.plain (OpenSpec.ofChange editKeepsSpec)) editKeepsCard

/-- THE TIED CARD OF 'tabulariumlaw26.EditBack'. -/
def editBackCard : Claim7 := { stood := { row := editBackRow, standIns := [], harness := (true, "eebd75d3f31b3730c11ba8bb56dd3769e9bf122cc5e63d3803365417cec262b8"), looks := true }, kinds := [], alts := [], laidByText := true, laidKinds := [.data, .data, .data, .data, .data, .data, .data, .pinned], laidTests := true, laidLooks := .later }
def EditBackCardSaid : Prop := Claim7.holds Tryz.pinned (.plain (OpenSpec.ofChange editBackSpec)) editBackCard

/-- THE TIED CARD OF 'tabulariumlaw26.EditRuns'. -/
def editRunsCard : Claim7 := { stood := { row := editRunsRow, standIns := [], harness := (true, "eebd75d3f31b3730c11ba8bb56dd3769e9bf122cc5e63d3803365417cec262b8"), looks := true }, kinds := [], alts := [], laidByText := true, laidKinds := [.data, .data, .data, .data, .data, .data, .data, .pinned], laidTests := true, laidLooks := .later }
def EditRunsCardSaid : Prop := Claim7.holds Tryz.pinned (.plain (OpenSpec.ofChange editRunsSpec)) editRunsCard

/-- THE TIED CARD OF 'tabulariumlaw26.EditApart'. -/
def editApartCard : Claim7 := { stood := { row := editApartRow, standIns := [], harness := (true, "eebd75d3f31b3730c11ba8bb56dd3769e9bf122cc5e63d3803365417cec262b8"), looks := true }, kinds := [], alts := [], laidByText := true, laidKinds := [.data, .data, .data, .data, .data, .data, .data, .pinned], laidTests := true, laidLooks := .later }
def EditApartCardSaid : Prop := Claim7.holds Tryz.pinned (.plain (OpenSpec.ofChange editApartSpec)) editApartCard

/-- THE SECOND FORM's CARD OF 'tabulariumlaw18.StateRights'. -/
def stateRightsUptoCard : Claim7 := { stood := { row := stateRightsUptoRow, standIns := [], harness := (true, "eebd75d3f31b3730c11ba8bb56dd3769e9bf122cc5e63d3803365417cec262b8"), looks := true }, kinds := [], alts := [], laidByText := true, laidKinds := [.data, .data, .data, .data, .data, .data, .data, .pinned], laidTests := true, laidLooks := .later }
def StateRightsUptoCardSaid : Prop := Claim7.holds Tryz.pinned (.plain (OpenSpec.upto stateRightsSpec)) stateRightsUptoCard

/-- THE SECOND FORM's CARD OF 'tabulariumlaw23.SaveApart'. -/
def saveApartUptoCard : Claim7 := { stood := { row := saveApartUptoRow, standIns := [], harness := (true, "eebd75d3f31b3730c11ba8bb56dd3769e9bf122cc5e63d3803365417cec262b8"), looks := true }, kinds := [], alts := [], laidByText := true, laidKinds := [.data, .data, .data, .data, .data, .data, .data, .pinned], laidTests := true, laidLooks := .later }
def SaveApartUptoCardSaid : Prop := Claim7.holds Tryz.pinned (.plain (OpenSpec.upto saveApartSpec)) saveApartUptoCard

/-- THE SECOND FORM's CARD OF 'tabulariumlaw26.EditDoes'. -/
def editDoesUptoCard : Claim7 := { stood := { row := editDoesUptoRow, standIns := [], harness := (true, "eebd75d3f31b3730c11ba8bb56dd3769e9bf122cc5e63d3803365417cec262b8"), looks := true }, kinds := [], alts := [], laidByText := true, laidKinds := [.data, .data, .data, .data, .data, .data, .data, .pinned], laidTests := true, laidLooks := .later }
def EditDoesUptoCardSaid : Prop := Claim7.holds Tryz.pinned (.plain (OpenSpec.upto editDoesSpec)) editDoesUptoCard

/-- THE SECOND FORM's CARD OF 'tabulariumlaw26.EditKeeps'. -/
def editKeepsUptoCard : Claim7 := { stood := { row := editKeepsUptoRow, standIns := [], harness := (true, "eebd75d3f31b3730c11ba8bb56dd3769e9bf122cc5e63d3803365417cec262b8"), looks := true }, kinds := [], alts := [], laidByText := true, laidKinds := [.data, .data, .data, .data, .data, .data, .data, .pinned], laidTests := true, laidLooks := .later }
def EditKeepsUptoCardSaid : Prop := Claim7.holds Tryz.pinned (.plain (OpenSpec.upto editKeepsSpec)) editKeepsUptoCard

/-- THE SECOND FORM's CARD OF 'tabulariumlaw26.EditBack'. -/
def editBackUptoCard : Claim7 := { stood := { row := editBackUptoRow, standIns := [], harness := (true, "eebd75d3f31b3730c11ba8bb56dd3769e9bf122cc5e63d3803365417cec262b8"), looks := true }, kinds := [], alts := [], laidByText := true, laidKinds := [.data, .data, .data, .data, .data, .data, .data, .pinned], laidTests := true, laidLooks := .later }
def EditBackUptoCardSaid : Prop := Claim7.holds Tryz.pinned (.plain (OpenSpec.upto editBackSpec)) editBackUptoCard

/-- THE SECOND FORM's CARD OF 'tabulariumlaw26.EditRuns'. -/
def editRunsUptoCard : Claim7 := { stood := { row := editRunsUptoRow, standIns := [], harness := (true, "eebd75d3f31b3730c11ba8bb56dd3769e9bf122cc5e63d3803365417cec262b8"), looks := true }, kinds := [], alts := [], laidByText := true, laidKinds := [.data, .data, .data, .data, .data, .data, .data, .pinned], laidTests := true, laidLooks := .later }
def EditRunsUptoCardSaid : Prop := Claim7.holds Tryz.pinned (.plain (OpenSpec.upto editRunsSpec)) editRunsUptoCard

/-- THE SECOND FORM's CARD OF 'tabulariumlaw26.EditApart'. -/
def editApartUptoCard : Claim7 := { stood := { row := editApartUptoRow, standIns := [], harness := (true, "eebd75d3f31b3730c11ba8bb56dd3769e9bf122cc5e63d3803365417cec262b8"), looks := true }, kinds := [], alts := [], laidByText := true, laidKinds := [.data, .data, .data, .data, .data, .data, .data, .pinned], laidTests := true, laidLooks := .later }
def EditApartUptoCardSaid : Prop := Claim7.holds Tryz.pinned (.plain (OpenSpec.upto editApartSpec)) editApartUptoCard
end Rows
end Go.Proofs.YtehghladpnpcoaaGreatDoor
