/-
  DERIVED. GIVEN WITH THE SEED: THE CARDS: each row of YtehffmcfmdjknaaGreatDoorRows.lean that lists a variable, with what it lists TIED to the program's text (the seventh form; the later family's looks); each row that meets fmt, with fmt's text TOLD by the authors' own Lean function (tested against real Go, not proved from fmt's source: count such statements apart). THE CARD IS WHAT COUNTS. Prove the row's statement (the work); the ties are given (YtehffmcfmdjknaaGreatDoorTie.lean); close each card by the builder's one call (the guide's Derived/Test/ToyasCard.lean, 'card_holds'). Laid BY PROGRAM, IN A SANDBOX (cutbox-door.mjs). By AI agents, Wed Nov 11 2026. No macro, syntax, notation, axiom, sorry.
-/
import Derived.Test.YtehffmcfmdjknaaGreatDoorRows
import GoSem.ClaimSeven
namespace Go.Proofs.YtehffmcfmdjknaaGreatDoor
namespace Rows

/-- THE TIED CARD OF 'tabulariumlaw10.JencIs'. -/
def jencIsCard : Claim7 := { stood := { row := jencIsRow, standIns := [], harness := (true, "38277f25edcb07b51e15b5d44f1cb6d507ea497b142bfc5449791c96c3413dbf"), looks := true }, kinds := [], alts := [], laidByText := true, laidKinds := [.data, .data, .data, .data, .data, .data, .pinned], laidTests := true, laidLooks := .later }
def JencIsCardSaid : Prop := Claim7.holds Tryz.pinned (.plain (OpenSpec.ofChange jencIsSpec)) jencIsCard

/-- THE TIED CARD OF 'tabulariumlaw10.JencTwice'. -/
def jencTwiceCard : Claim7 := { stood := { row := jencTwiceRow, standIns := [], harness := (true, "38277f25edcb07b51e15b5d44f1cb6d507ea497b142bfc5449791c96c3413dbf"), looks := true }, kinds := [], alts := [], laidByText := true, laidKinds := [.data, .data, .data, .data, .data, .data, .pinned], laidTests := true, laidLooks := .later }
def JencTwiceCardSaid : Prop := Claim7.holds Tryz.pinned (.plain (OpenSpec.ofChange jencTwiceSpec)) jencTwiceCard

/-- THE SECOND FORM's CARD OF 'tabulariumlaw10.JencIs'. -/
def jencIsUptoCard : Claim7 := { stood := { row := jencIsUptoRow, standIns := [], harness := (true, "38277f25edcb07b51e15b5d44f1cb6d507ea497b142bfc5449791c96c3413dbf"), looks := true }, kinds := [], alts := [], laidByText := true, laidKinds := [.data, .data, .data, .data, .data, .data, .pinned], laidTests := true, laidLooks := .later }
def JencIsUptoCardSaid : Prop := Claim7.holds Tryz.pinned (.plain (OpenSpec.upto jencIsSpec)) jencIsUptoCard

/-- THE SECOND FORM's CARD OF 'tabulariumlaw10.JencTwice'. -/
def jencTwiceUptoCard : Claim7 := { stood := { row := jencTwiceUptoRow, standIns := [], harness := (true, "38277f25edcb07b51e15b5d44f1cb6d507ea497b142bfc5449791c96c3413dbf"), looks := true }, kinds := [], alts := [], laidByText := true, laidKinds := [.data, .data, .data, .data, .data, .data, .pinned], laidTests := true, laidLooks := .later }
def JencTwiceUptoCardSaid : Prop := Claim7.holds Tryz.pinned (.plain (OpenSpec.upto jencTwiceSpec)) jencTwiceUptoCard
end Rows
end Go.Proofs.YtehffmcfmdjknaaGreatDoor
