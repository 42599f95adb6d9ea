/-
  DERIVED. GIVEN WITH THE SEED: THE CARDS: each row of YtmjlklefpiciaaaGreatDoorRows.lean that lists a variable, with what it lists TIED to the program's text (the seventh form; the later family's looks); each row that meets fmt, with fmt's text TOLD by the authors' own Lean function (tested against real Go, not proved from fmt's source: count such statements apart). THE CARD IS WHAT COUNTS. Prove the row's statement (the work); the ties are given (YtmjlklefpiciaaaGreatDoorTie.lean); close each card by the builder's one call (the guide's Derived/Test/ToyasCard.lean, 'card_holds'). Laid BY PROGRAM, IN A SANDBOX (cutbox-door.mjs). By AI agents, Wed Nov 11 2026. No macro, syntax, notation, axiom, sorry.
-/
import Derived.Test.YtmjlklefpiciaaaGreatDoorRows
import GoSem.ClaimSeven
namespace Go.Proofs.YtmjlklefpiciaaaGreatDoor
namespace Rows

/-- THE TIED CARD OF 'tabulariumlaw18.StateOrder'. -/
def stateOrderCard : Claim7 := { stood := { row := stateOrderRow, standIns := [], harness := (true, "068fc974c84c86bacfe5d299c4129d2e82964ba5d6e5b12965f604340675df19"), looks := true }, kinds := [], alts := [], laidByText := true, laidKinds := [.data, .data, .data, .data, .data, .data, .data, .pinned], laidTests := true, laidLooks := .later }
def StateOrderCardSaid : Prop := Claim7.holds Tryz.pinned (.plain (OpenSpec.ofChange stateOrderSpec)) stateOrderCard

/-- THE TIED CARD OF 'tabulariumlaw18.StatePuts'. -/
def statePutsCard : Claim7 := { stood := { row := statePutsRow, standIns := [], harness := (true, "068fc974c84c86bacfe5d299c4129d2e82964ba5d6e5b12965f604340675df19"), looks := true }, kinds := [], alts := [], laidByText := true, laidKinds := [.data, .data, .data, .data, .data, .data, .data, .pinned], laidTests := true, laidLooks := .later }
def StatePutsCardSaid : Prop := Claim7.holds Tryz.pinned (.plain (OpenSpec.ofChange statePutsSpec)) statePutsCard

/-- THE TIED CARD OF 'tabulariumlaw18.StateEmpties'. -/
def stateEmptiesCard : Claim7 := { stood := { row := stateEmptiesRow, standIns := [], harness := (true, "068fc974c84c86bacfe5d299c4129d2e82964ba5d6e5b12965f604340675df19"), looks := true }, kinds := [], alts := [], laidByText := true, laidKinds := [.data, .data, .data, .data, .data, .data, .data, .pinned], laidTests := true, laidLooks := .later }
def StateEmptiesCardSaid : Prop := Claim7.holds Tryz.pinned (.plain (OpenSpec.ofChange stateEmptiesSpec)) stateEmptiesCard

/-- THE TIED CARD OF 'tabulariumlaw18.StateFinds'. -/
def stateFindsCard : Claim7 := { stood := { row := stateFindsRow, standIns := [], harness := (true, "068fc974c84c86bacfe5d299c4129d2e82964ba5d6e5b12965f604340675df19"), looks := true }, kinds := [], alts := [], laidByText := true, laidKinds := [.data, .data, .data, .data, .data, .data, .data, .pinned], laidTests := true, laidLooks := .later }
def StateFindsCardSaid : Prop := Claim7.holds Tryz.pinned (.plain (OpenSpec.ofChange stateFindsSpec)) stateFindsCard

/-- THE TIED CARD OF 'tabulariumlaw18.StateSame'. -/
def stateSameCard : Claim7 := { stood := { row := stateSameRow, standIns := [], harness := (true, "068fc974c84c86bacfe5d299c4129d2e82964ba5d6e5b12965f604340675df19"), looks := true }, kinds := [], alts := [], laidByText := true, laidKinds := [.data, .data, .data, .data, .data, .data, .data, .pinned], laidTests := true, laidLooks := .later }
def StateSameCardSaid : Prop := Claim7.holds Tryz.pinned (.plain (OpenSpec.ofChange stateSameSpec)) stateSameCard

/-- THE TIED CARD OF 'tabulariumlaw18.StateRights'. -/
def stateRightsCard : Claim7 := { stood := { row := stateRightsRow, standIns := [], harness := (true, "068fc974c84c86bacfe5d299c4129d2e82964ba5d6e5b12965f604340675df19"), looks := true }, kinds := [], alts := [], laidByText := true, laidKinds := [.data, .data, .data, .data, .data, .data, .data, .pinned], laidTests := true, laidLooks := .later }
def StateRightsCardSaid : Prop := Claim7.holds Tryz.pinned (.plain (OpenSpec.ofChange stateRightsSpec)) stateRightsCard

/-- THE TIED CARD OF 'tabulariumlaw17.AddrOld'. -/
def addrOldCard : Claim7 := { stood := { row := addrOldRow, standIns := [], harness := (true, "068fc974c84c86bacfe5d299c4129d2e82964ba5d6e5b12965f604340675df19"), looks := true }, kinds := [], alts := [], laidByText := true, laidKinds := [.data, .data, .data, .data, .sentinel, .sentinel, .data, .data, .data, .pinned], laidTests := true, laidLooks := .later }
def AddrOldCardSaid : Prop := Claim7.holds Tryz.pinned (.plain (OpenSpec.ofChange addrOldSpec)) addrOldCard

/-- THE TIED CARD OF 'tabulariumlaw17.AddrParses'. -/
def addrParsesCard : Claim7 := { stood := { row := addrParsesRow, standIns := [], harness := (true, "068fc974c84c86bacfe5d299c4129d2e82964ba5d6e5b12965f604340675df19"), looks := true }, kinds := [], alts := [], laidByText := true, laidKinds := [.data, .data, .data, .data, .sentinel, .sentinel, .data, .data, .data, .pinned], laidTests := true, laidLooks := .later }
def AddrParsesCardSaid : Prop := Claim7.holds Tryz.pinned (.plain (OpenSpec.ofChange addrParsesSpec)) addrParsesCard

/-- THE TIED CARD OF 'tabulariumlaw17.AddrPrints'. -/
def addrPrintsCard : Claim7 := { stood := { row := addrPrintsRow, standIns := [], harness := (true, "068fc974c84c86bacfe5d299c4129d2e82964ba5d6e5b12965f604340675df19"), looks := true }, kinds := [], alts := [], laidByText := true, laidKinds := [.data, .data, .data, .data, .sentinel, .sentinel, .data, .data, .data, .pinned], laidTests := true, laidLooks := .later }
def AddrPrintsCardSaid : Prop := Claim7.holds Tryz.pinned (.plain (OpenSpec.ofChange addrPrintsSpec)) addrPrintsCard

/-- THE TIED CARD OF 'tabulariumlaw17.AddrPaths'. -/
def addrPathsCard : Claim7 := { stood := { row := addrPathsRow, standIns := [], harness := (true, "068fc974c84c86bacfe5d299c4129d2e82964ba5d6e5b12965f604340675df19"), looks := true }, kinds := [], alts := [], laidByText := true, laidKinds := [.data, .data, .data, .data, .sentinel, .sentinel, .data, .data, .data, .pinned], laidTests := true, laidLooks := .later }
def AddrPathsCardSaid : Prop := Claim7.holds Tryz.pinned (.plain (OpenSpec.ofChange addrPathsSpec)) addrPathsCard

/-- THE TIED CARD OF 'tabulariumlaw17.AddrCompares'. -/
def addrComparesCard : Claim7 := { stood := { row := addrComparesRow, standIns := [], harness := (true, "068fc974c84c86bacfe5d299c4129d2e82964ba5d6e5b12965f604340675df19"), looks := true }, kinds := [], alts := [], laidByText := true, laidKinds := [.data, .data, .data, .data, .sentinel, .sentinel, .data, .data, .data, .pinned], laidTests := true, laidLooks := .later }
def AddrComparesCardSaid : Prop := Claim7.holds Tryz.pinned (.plain (OpenSpec.ofChange addrComparesSpec)) addrComparesCard

/-- THE SECOND FORM's CARD OF 'tabulariumlaw18.StateOrder'. -/
def stateOrderUptoCard : Claim7 := { stood := { row := stateOrderUptoRow, standIns := [], harness := (true, "068fc974c84c86bacfe5d299c4129d2e82964ba5d6e5b12965f604340675df19"), looks := true }, kinds := [], alts := [], laidByText := true, laidKinds := [.data, .data, .data, .data, .data, .data, .data, .pinned], laidTests := true, laidLooks := .later }
def StateOrderUptoCardSaid : Prop := Claim7.holds Tryz.pinned (.plain (OpenSpec.upto stateOrderSpec)) stateOrderUptoCard

/-- THE SECOND FORM's CARD OF 'tabulariumlaw18.StatePuts'. -/
def statePutsUptoCard : Claim7 := { stood := { row := statePutsUptoRow, standIns := [], harness := (true, "068fc974c84c86bacfe5d299c4129d2e82964ba5d6e5b12965f604340675df19"), looks := true }, kinds := [], alts := [], laidByText := true, laidKinds := [.data, .data, .data, .data, .data, .data, .data, .pinned], laidTests := true, laidLooks := .later }
def StatePutsUptoCardSaid : Prop := Claim7.holds Tryz.pinned (.plain (OpenSpec.upto statePutsSpec)) statePutsUptoCard

/-- THE SECOND FORM's CARD OF 'tabulariumlaw18.StateEmpties'. -/
def stateEmptiesUptoCard : Claim7 := { stood := { row := stateEmptiesUptoRow, standIns := [], harness := (true, "068fc974c84c86bacfe5d299c4129d2e82964ba5d6e5b12965f604340675df19"), looks := true }, kinds := [], alts := [], laidByText := true, laidKinds := [.data, .data, .data, .data, .data, .data, .data, .pinned], laidTests := true, laidLooks := .later }
def StateEmptiesUptoCardSaid : Prop := Claim7.holds Tryz.pinned (.plain (OpenSpec.upto stateEmptiesSpec)) stateEmptiesUptoCard

/-- THE SECOND FORM's CARD OF 'tabulariumlaw18.StateFinds'. -/
def stateFindsUptoCard : Claim7 := { stood := { row := stateFindsUptoRow, standIns := [], harness := (true, "068fc974c84c86bacfe5d299c4129d2e82964ba5d6e5b12965f604340675df19"), looks := true }, kinds := [], alts := [], laidByText := true, laidKinds := [.data, .data, .data, .data, .data, .data, .data, .pinned], laidTests := true, laidLooks := .later }
def StateFindsUptoCardSaid : Prop := Claim7.holds Tryz.pinned (.plain (OpenSpec.upto stateFindsSpec)) stateFindsUptoCard

/-- THE SECOND FORM's CARD OF 'tabulariumlaw18.StateSame'. -/
def stateSameUptoCard : Claim7 := { stood := { row := stateSameUptoRow, standIns := [], harness := (true, "068fc974c84c86bacfe5d299c4129d2e82964ba5d6e5b12965f604340675df19"), looks := true }, kinds := [], alts := [], laidByText := true, laidKinds := [.data, .data, .data, .data, .data, .data, .data, .pinned], laidTests := true, laidLooks := .later }
def StateSameUptoCardSaid : Prop := Claim7.holds Tryz.pinned (.plain (OpenSpec.upto stateSameSpec)) stateSameUptoCard

/-- THE SECOND FORM's CARD OF 'tabulariumlaw18.StateRights'. -/
def stateRightsUptoCard : Claim7 := { stood := { row := stateRightsUptoRow, standIns := [], harness := (true, "068fc974c84c86bacfe5d299c4129d2e82964ba5d6e5b12965f604340675df19"), looks := true }, kinds := [], alts := [], laidByText := true, laidKinds := [.data, .data, .data, .data, .data, .data, .data, .pinned], laidTests := true, laidLooks := .later }
def StateRightsUptoCardSaid : Prop := Claim7.holds Tryz.pinned (.plain (OpenSpec.upto stateRightsSpec)) stateRightsUptoCard

/-- THE SECOND FORM's CARD OF 'tabulariumlaw17.AddrOld'. -/
def addrOldUptoCard : Claim7 := { stood := { row := addrOldUptoRow, standIns := [], harness := (true, "068fc974c84c86bacfe5d299c4129d2e82964ba5d6e5b12965f604340675df19"), looks := true }, kinds := [], alts := [], laidByText := true, laidKinds := [.data, .data, .data, .data, .sentinel, .sentinel, .data, .data, .data, .pinned], laidTests := true, laidLooks := .later }
def AddrOldUptoCardSaid : Prop := Claim7.holds Tryz.pinned (.plain (OpenSpec.upto addrOldSpec)) addrOldUptoCard

/-- THE SECOND FORM's CARD OF 'tabulariumlaw17.AddrParses'. -/
def addrParsesUptoCard : Claim7 := { stood := { row := addrParsesUptoRow, standIns := [], harness := (true, "068fc974c84c86bacfe5d299c4129d2e82964ba5d6e5b12965f604340675df19"), looks := true }, kinds := [], alts := [], laidByText := true, laidKinds := [.data, .data, .data, .data, .sentinel, .sentinel, .data, .data, .data, .pinned], laidTests := true, laidLooks := .later }
def AddrParsesUptoCardSaid : Prop := Claim7.holds Tryz.pinned (.plain (OpenSpec.upto addrParsesSpec)) addrParsesUptoCard

/-- THE SECOND FORM's CARD OF 'tabulariumlaw17.AddrPrints'. -/
def addrPrintsUptoCard : Claim7 := { stood := { row := addrPrintsUptoRow, standIns := [], harness := (true, "068fc974c84c86bacfe5d299c4129d2e82964ba5d6e5b12965f604340675df19"), looks := true }, kinds := [], alts := [], laidByText := true, laidKinds := [.data, .data, .data, .data, .sentinel, .sentinel, .data, .data, .data, .pinned], laidTests := true, laidLooks := .later }
def AddrPrintsUptoCardSaid : Prop := Claim7.holds Tryz.pinned (.plain (OpenSpec.upto addrPrintsSpec)) addrPrintsUptoCard

/-- THE SECOND FORM's CARD OF 'tabulariumlaw17.AddrPaths'. -/
def addrPathsUptoCard : Claim7 := { stood := { row := addrPathsUptoRow, standIns := [], harness := (true, "068fc974c84c86bacfe5d299c4129d2e82964ba5d6e5b12965f604340675df19"), looks := true }, kinds := [], alts := [], laidByText := true, laidKinds := [.data, .data, .data, .data, .sentinel, .sentinel, .data, .data, .data, .pinned], laidTests := true, laidLooks := .later }
def AddrPathsUptoCardSaid : Prop := Claim7.holds Tryz.pinned (.plain (OpenSpec.upto addrPathsSpec)) addrPathsUptoCard

/-- THE SECOND FORM's CARD OF 'tabulariumlaw17.AddrCompares'. -/
def addrComparesUptoCard : Claim7 := { stood := { row := addrComparesUptoRow, standIns := [], harness := (true, "068fc974c84c86bacfe5d299c4129d2e82964ba5d6e5b12965f604340675df19"), looks := true }, kinds := [], alts := [], laidByText := true, laidKinds := [.data, .data, .data, .data, .sentinel, .sentinel, .data, .data, .data, .pinned], laidTests := true, laidLooks := .later }
def AddrComparesUptoCardSaid : Prop := Claim7.holds Tryz.pinned (.plain (OpenSpec.upto addrComparesSpec)) addrComparesUptoCard
end Rows
end Go.Proofs.YtmjlklefpiciaaaGreatDoor
