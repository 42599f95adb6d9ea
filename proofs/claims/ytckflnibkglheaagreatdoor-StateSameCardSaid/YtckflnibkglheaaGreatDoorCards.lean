/-
  DERIVED. GIVEN WITH THE SEED: THE CARDS: each row of YtckflnibkglheaaGreatDoorRows.lean that lists a variable, with what it lists TIED to the program's text (the seventh form; the later family's looks); each row that meets fmt, with fmt's text TOLD by the authors' own Lean function (tested against real Go, not proved from fmt's source: count such statements apart). THE CARD IS WHAT COUNTS. Prove the row's statement (the work); the ties are given (YtckflnibkglheaaGreatDoorTie.lean); close each card by the builder's one call (the guide's Derived/Test/ToyasCard.lean, 'card_holds'). Laid BY PROGRAM, IN A SANDBOX (cutbox-door.mjs). By AI agents, Wed Nov 11 2026. No macro, syntax, notation, axiom, sorry.
-/
import Derived.Test.YtckflnibkglheaaGreatDoorRows
import GoSem.ClaimSeven
namespace Go.Proofs.YtckflnibkglheaaGreatDoor
namespace Rows

/-- THE TIED CARD OF 'tabulariumlaw18.StateOrder'. -/
def stateOrderCard : Claim7 := { stood := { row := stateOrderRow, standIns := [], harness := (true, "a530fb31432bf7a98b91543cfe038cccb70fefdfafd21df71ae15747b95d77c9"), looks := true }, kinds := [], alts := [], laidByText := true, laidKinds := [.data, .data, .data, .data, .data, .data, .data, .pinned], laidTests := true, laidLooks := .later }
def StateOrderCardSaid : Prop := Claim7.holds Tryz.pinned (.plain (OpenSpec.ofChange stateOrderSpec)) stateOrderCard

/-- THE TIED CARD OF 'tabulariumlaw18.StatePuts'. -/
def statePutsCard : Claim7 := { stood := { row := statePutsRow, standIns := [], harness := (true, "a530fb31432bf7a98b91543cfe038cccb70fefdfafd21df71ae15747b95d77c9"), looks := true }, kinds := [], alts := [], laidByText := true, laidKinds := [.data, .data, .data, .data, .data, .data, .data, .pinned], laidTests := true, laidLooks := .later }
def StatePutsCardSaid : Prop := Claim7.holds Tryz.pinned (.plain (OpenSpec.ofChange statePutsSpec)) statePutsCard

/-- THE TIED CARD OF 'tabulariumlaw18.StateEmpties'. -/
def stateEmptiesCard : Claim7 := { stood := { row := stateEmptiesRow, standIns := [], harness := (true, "a530fb31432bf7a98b91543cfe038cccb70fefdfafd21df71ae15747b95d77c9"), looks := true }, kinds := [], alts := [], laidByText := true, laidKinds := [.data, .data, .data, .data, .data, .data, .data, .pinned], laidTests := true, laidLooks := .later }
def StateEmptiesCardSaid : Prop := Claim7.holds Tryz.pinned (.plain (OpenSpec.ofChange stateEmptiesSpec)) stateEmptiesCard

/-- THE TIED CARD OF 'tabulariumlaw18.StateFinds'. -/
def stateFindsCard : Claim7 := { stood := { row := stateFindsRow, standIns := [], harness := (true, "a530fb31432bf7a98b91543cfe038cccb70fefdfafd21df71ae15747b95d77c9"), looks := true }, kinds := [], alts := [], laidByText := true, laidKinds := [.data, .data, .data, .data, .data, .data, .data, .pinned], laidTests := true, laidLooks := .later }
def StateFindsCardSaid : Prop := Claim7.holds Tryz.pinned (.plain (OpenSpec.ofChange stateFindsSpec)) stateFindsCard

/-- THE TIED CARD OF 'tabulariumlaw18.StateSame'. -/
def stateSameCard : Claim7 := { stood := { row := stateSameRow, standIns := [], harness := (true, "a530fb31432bf7a98b91543cfe038cccb70fefdfafd21df71ae15747b95d77c9"), looks := true }, kinds := [], alts := [], laidByText := true, laidKinds := [.data, .data, .data, .data, .data, .data, .data, .pinned], laidTests := true, laidLooks := .later }
def StateSameCardSaid : Prop := Claim7.holds Tryz.pinned (.plain (OpenSpec.ofChange stateSameSpec)) stateSameCard

/-- THE TIED CARD OF 'tabulariumlaw18.StateRights'. -/
def stateRightsCard : Claim7 := { stood := { row := stateRightsRow, standIns := [], harness := (true, "a530fb31432bf7a98b91543cfe038cccb70fefdfafd21df71ae15747b95d77c9"), looks := true }, kinds := [], alts := [], laidByText := true, laidKinds := [.data, .data, .data, .data, .data, .data, .data, .pinned], laidTests := true, laidLooks := .later }
def StateRightsCardSaid : Prop := Claim7.holds Tryz.pinned (.plain (OpenSpec.ofChange stateRightsSpec)) stateRightsCard

/-- THE TIED CARD OF 'tabulariumlaw23.SaveApart'. -/
def saveApartCard : Claim7 := { stood := { row := saveApartRow, standIns := [], harness := (true, "a530fb31432bf7a98b91543cfe038cccb70fefdfafd21df71ae15747b95d77c9"), looks := true }, kinds := [], alts := [], laidByText := true, laidKinds := [.data, .data, .data, .data, .data, .data, .data, .pinned], laidTests := true, laidLooks := .later }
def SaveApartCardSaid : Prop := Claim7.holds Tryz.pinned (.plain (OpenSpec.ofChange saveApartSpec)) saveApartCard

/-- THE TIED CARD OF 'tabulariumlaw26.EditDoes'. -/
def editDoesCard : Claim7 := { stood := { row := editDoesRow, standIns := [], harness := (true, "a530fb31432bf7a98b91543cfe038cccb70fefdfafd21df71ae15747b95d77c9"), looks := true }, kinds := [], alts := [], laidByText := true, laidKinds := [.data, .data, .data, .data, .data, .data, .data, .pinned], laidTests := true, laidLooks := .later }
def EditDoesCardSaid : Prop := Claim7.holds Tryz.pinned (.plain (OpenSpec.ofChange editDoesSpec)) editDoesCard

/-- THE TIED CARD OF 'tabulariumlaw26.EditKeeps'. -/
def editKeepsCard : Claim7 := { stood := { row := editKeepsRow, standIns := [], harness := (true, "a530fb31432bf7a98b91543cfe038cccb70fefdfafd21df71ae15747b95d77c9"), looks := true }, kinds := [], alts := [], laidByText := true, laidKinds := [.data, .data, .data, .data, .data, .data, .data, .pinned], laidTests := true, laidLooks := .later }
def EditKeepsCardSaid : Prop := Claim7.holds Tryz.pinned (.plain (OpenSpec.ofChange editKeepsSpec)) editKeepsCard

/-- THE TIED CARD OF 'tabulariumlaw26.EditBack'. -/
def editBackCard : Claim7 := { stood := { row := editBackRow, standIns := [], harness := (true, "a530fb31432bf7a98b91543cfe038cccb70fefdfafd21df71ae15747b95d77c9"), looks := true }, kinds := [], alts := [], laidByText := true, laidKinds := [.data, .data, .data, .data, .data, .data, .data, .pinned], laidTests := true, laidLooks := .later }
def EditBackCardSaid : Prop := Claim7.holds Tryz.pinned (.plain (OpenSpec.ofChange editBackSpec)) editBackCard

/-- THE TIED CARD OF 'tabulariumlaw26.EditRuns'. -/
def editRunsCard : Claim7 := { stood := { row := editRunsRow, standIns := [], harness := (true, "a530fb31432bf7a98b91543cfe038cccb70fefdfafd21df71ae15747b95d77c9"), looks := true }, kinds := [], alts := [], laidByText := true, laidKinds := [.data, .data, .data, .data, .data, .data, .data, .pinned], laidTests := true, laidLooks := .later }
def EditRunsCardSaid : Prop := Claim7.holds Tryz.pinned (.plain (OpenSpec.ofChange editRunsSpec)) editRunsCard

/-- THE TIED CARD OF 'tabulariumlaw26.EditApart'. -/
def editApartCard : Claim7 := { stood := { row := editApartRow, standIns := [], harness := (true, "a530fb31432bf7a98b91543cfe038cccb70fefdfafd21df71ae15747b95d77c9"), looks := true }, kinds := [], alts := [], laidByText := true, laidKinds := [.data, .data, .data, .data, .data, .data, .data, .pinned], laidTests := true, laidLooks := .later }
def EditApartCardSaid : Prop := Claim7.holds Tryz.pinned (.plain (OpenSpec.ofChange editApartSpec)) editApartCard

/-- THE SECOND FORM's CARD OF 'tabulariumlaw18.StateOrder'. -/
def stateOrderUptoCard : Claim7 := { stood := { row := stateOrderUptoRow, standIns := [], harness := (true, "a530fb31432bf7a98b91543cfe038cccb70fefdfafd21df71ae15747b95d77c9"), looks := true }, kinds := [], alts := [], laidByText := true, laidKinds := [.data, .data, .data, .data, .data, .data, .data, .pinned], laidTests := true, laidLooks := .later }
def StateOrderUptoCardSaid : Prop := Claim7.holds Tryz.pinned (.plain (OpenSpec.upto stateOrderSpec)) stateOrderUptoCard

/-- THE SECOND FORM's CARD OF 'tabulariumlaw18.StatePuts'. -/
def statePutsUptoCard : Claim7 := { stood := { row := statePutsUptoRow, standIns := [], harness := (true, "a530fb31432bf7a98b91543cfe038cccb70fefdfafd21df71ae15747b95d77c9"), looks := true }, kinds := [], alts := [], laidByText := true, laidKinds := [.data, .data, .data, .data, .data, .data, .data, .pinned], laidTests := true, laidLooks := .later }
def StatePutsUptoCardSaid : Prop := Claim7.holds Tryz.pinned (.plain (OpenSpec.upto statePutsSpec)) statePutsUptoCard

/-- THE SECOND FORM's CARD OF 'tabulariumlaw18.StateEmpties'. -/
def stateEmptiesUptoCard : Claim7 := { stood := { row := stateEmptiesUptoRow, standIns := [], harness := (true, "a530fb31432bf7a98b91543cfe038cccb70fefdfafd21df71ae15747b95d77c9"), looks := true }, kinds := [], alts := [], laidByText := true, laidKinds := [.data, .data, .data, .data, .data, .data, .data, .pinned], laidTests := true, laidLooks := .later }
def StateEmptiesUptoCardSaid : Prop := Claim7.holds Tryz.pinned (.plain (OpenSpec.upto stateEmptiesSpec)) stateEmptiesUptoCard

/-- THE SECOND FORM's CARD OF 'tabulariumlaw18.StateFinds'. -/
def stateFindsUptoCard : Claim7 := { stood := { row := stateFindsUptoRow, standIns := [], harness := (true, "a530fb31432bf7a98b91543cfe038cccb70fefdfafd21df71ae15747b95d77c9"), looks := true }, kinds := [], alts := [], laidByText := true, laidKinds := [.data, .data, .data, .data, .data, .data, .data, .pinned], laidTests := true, laidLooks := .later }
def StateFindsUptoCardSaid : Prop := Claim7.holds Tryz.pinned (.plain (OpenSpec.upto stateFindsSpec)) stateFindsUptoCard

/-- THE SECOND FORM's CARD OF 'tabulariumlaw18.StateSame'. -/
def stateSameUptoCard : Claim7 := { stood := { row := stateSameUptoRow, standIns := [], harness := (true, "a530fb31432bf7a98b91543cfe038cccb70fefdfafd21df71ae15747b95d77c9"), looks := true }, kinds := [], alts := [], laidByText := true, laidKinds := [.data, .data, .data, .data, .data, .data, .data, .pinned], laidTests := true, laidLooks := .later }
def StateSameUptoCardSaid : Prop := Claim7.holds Tryz.pinned (.plain (OpenSpec.upto stateSameSpec)) stateSameUptoCard

/-- THE SECOND FORM's CARD OF 'tabulariumlaw18.StateRights'. -/
def stateRightsUptoCard : Claim7 := { stood := { row := stateRightsUptoRow, standIns := [], harness := (true, "a530fb31432bf7a98b91543cfe038cccb70fefdfafd21df71ae15747b95d77c9"), looks := true }, kinds := [], alts := [], laidByText := true, laidKinds := [.data, .data, .data, .data, .data, .data, .data, .pinned], laidTests := true, laidLooks := .later }
def StateRightsUptoCardSaid : Prop := Claim7.holds Tryz.pinned (.plain (OpenSpec.upto stateRightsSpec)) stateRightsUptoCard

/-- THE SECOND FORM's CARD OF 'tabulariumlaw23.SaveApart'. -/
def saveApartUptoCard : Claim7 := { stood := { row := saveApartUptoRow, standIns := [], harness := (true, "a530fb31432bf7a98b91543cfe038cccb70fefdfafd21df71ae15747b95d77c9"), looks := true }, kinds := [], alts := [], laidByText := true, laidKinds := [.data, .data, .data, .data, .data, .data, .data, .pinned], laidTests := true, laidLooks := .later }
def SaveApartUptoCardSaid : Prop := Claim7.holds Tryz.pinned (.plain (OpenSpec.upto saveApartSpec)) saveApartUptoCard

/-- THE SECOND FORM's CARD OF 'tabulariumlaw26.EditDoes'. -/
def editDoesUptoCard : Claim7 := { stood := { row := editDoesUptoRow, standIns := [], harness := (true, "a530fb31432bf7a98b91543cfe038cccb70fefdfafd21df71ae15747b95d77c9"), looks := true }, kinds := [], alts := [], laidByText := true, laidKinds := [.data, .data, .data, .data, .data, .data, .data, .pinned], laidTests := true, laidLooks := .later }
def EditDoesUptoCardSaid : Prop := Claim7.holds Tryz.pinned (.plain (OpenSpec.upto editDoesSpec)) editDoesUptoCard

/-- THE SECOND FORM's CARD OF 'tabulariumlaw26.EditKeeps'. -/
def editKeepsUptoCard : Claim7 := { stood := { row := editKeepsUptoRow, standIns := [], harness := (true, "a530fb31432bf7a98b91543cfe038cccb70fefdfafd21df71ae15747b95d77c9"), looks := true }, kinds := [], alts := [], laidByText := true, laidKinds := [.data, .data, .data, .data, .data, .data, .data, .pinned], laidTests := true, laidLooks := .later }
def EditKeepsUptoCardSaid : Prop := Claim7.holds Tryz.pinned (.plain (OpenSpec.upto editKeepsSpec)) editKeepsUptoCard

/-- THE SECOND FORM's CARD OF 'tabulariumlaw26.EditBack'. -/
def editBackUptoCard : Claim7 := { stood := { row := editBackUptoRow, standIns := [], harness := (true, "a530fb31432bf7a98b91543cfe038cccb70fefdfafd21df71ae15747b95d77c9"), looks := true }, kinds := [], alts := [], laidByText := true, laidKinds := [.data, .data, .data, .data, .data, .data, .data, .pinned], laidTests := true, laidLooks := .later }
def EditBackUptoCardSaid : Prop := Claim7.holds Tryz.pinned (.plain (OpenSpec.upto editBackSpec)) editBackUptoCard

/-- THE SECOND FORM's CARD OF 'tabulariumlaw26.EditRuns'. -/
def editRunsUptoCard : Claim7 := { stood := { row := editRunsUptoRow, standIns := [], harness := (true, "a530fb31432bf7a98b91543cfe038cccb70fefdfafd21df71ae15747b95d77c9"), looks := true }, kinds := [], alts := [], laidByText := true, laidKinds := [.data, .data, .data, .data, .data, .data, .data, .pinned], laidTests := true, laidLooks := .later }
def EditRunsUptoCardSaid : Prop := Claim7.holds Tryz.pinned (.plain (OpenSpec.upto editRunsSpec)) editRunsUptoCard

/-- THE SECOND FORM's CARD OF 'tabulariumlaw26.EditApart'. -/
def editApartUptoCard : Claim7 := { stood := { row := editApartUptoRow, standIns := [], harness := (true, "a530fb31432bf7a98b91543cfe038cccb70fefdfafd21df71ae15747b95d77c9"), looks := true }, kinds := [], alts := [], laidByText := true, laidKinds := [.data, .data, .data, .data, .data, .data, .data, .pinned], laidTests := true, laidLooks := .later }
def EditApartUptoCardSaid : Prop := Claim7.holds Tryz.pinned (.plain (OpenSpec.upto editApartSpec)) editApartUptoCard
end Rows
end Go.Proofs.YtckflnibkglheaaGreatDoor
