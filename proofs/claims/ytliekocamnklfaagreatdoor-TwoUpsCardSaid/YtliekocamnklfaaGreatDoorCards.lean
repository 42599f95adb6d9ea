/-
  DERIVED. GIVEN WITH THE SEED: THE CARDS: each row of YtliekocamnklfaaGreatDoorRows.lean that lists a variable, with what it lists TIED to the program's text (the seventh form; the later family's looks); each row that meets fmt, with fmt's text TOLD by the authors' own Lean function (tested against real Go, not proved from fmt's source: count such statements apart). THE CARD IS WHAT COUNTS. Prove the row's statement (the work); the ties are given (YtliekocamnklfaaGreatDoorTie.lean); close each card by the builder's one call (the guide's Derived/Test/ToyasCard.lean, 'card_holds'). Laid BY PROGRAM, IN A SANDBOX (cutbox-door.mjs). By AI agents, Wed Nov 11 2026. No macro, syntax, notation, axiom, sorry.
-/
import Derived.Test.YtliekocamnklfaaGreatDoorRows
import GoSem.ClaimSeven
namespace Go.Proofs.YtliekocamnklfaaGreatDoor
namespace Rows

/-- THE TIED CARD OF 'tabulariumlaw10.JencIs'. -/
def jencIsCard : Claim7 := { stood := { row := jencIsRow, standIns := [], harness := (true, "a21b4c85d4a356bb506e5e485f7c2725196f92e64b524bdaea0f5e4b6f157adf"), looks := true }, kinds := [], alts := [], laidByText := true, laidKinds := [.data, .data, .data, .data, .data, .data, .pinned], laidTests := true, laidLooks := .later }
def JencIsCardSaid : Prop := Claim7.holds Tryz.pinned (.plain (OpenSpec.ofChange jencIsSpec)) jencIsCard

/-- THE TIED CARD OF 'tabulariumlaw19.OneKeys'. -/
def oneKeysCard : Claim7 := { stood := { row := oneKeysRow, standIns := [], harness := (true, "a21b4c85d4a356bb506e5e485f7c2725196f92e64b524bdaea0f5e4b6f157adf"), looks := true }, kinds := [], alts := [], laidByText := true, laidKinds := [.data, .data, .data, .data, .sentinel, .sentinel, .data, .data, .data, .pinned], laidTests := true, laidLooks := .later }
def OneKeysCardSaid : Prop := Claim7.holds Tryz.pinned (.plain (OpenSpec.ofChange oneKeysSpec)) oneKeysCard

/-- THE TIED CARD OF 'tabulariumlaw20.TwoUps'. -/
def twoUpsCard : Claim7 := { stood := { row := twoUpsRow, standIns := [], harness := (true, "a21b4c85d4a356bb506e5e485f7c2725196f92e64b524bdaea0f5e4b6f157adf"), looks := true }, kinds := [], alts := [], laidByText := true, laidKinds := [.data, .data, .data, .data, .sentinel, .sentinel, .data, .data, .data, .pinned], laidTests := true, laidLooks := .later }
def TwoUpsCardSaid : Prop := Claim7.holds Tryz.pinned (.plain (OpenSpec.ofChange twoUpsSpec)) twoUpsCard

/-- THE TIED CARD OF 'tabulariumlaw20.TwoFromOne'. -/
def twoFromOneCard : Claim7 := { stood := { row := twoFromOneRow, standIns := [], harness := (true, "a21b4c85d4a356bb506e5e485f7c2725196f92e64b524bdaea0f5e4b6f157adf"), looks := true }, kinds := [], alts := [], laidByText := true, laidKinds := [.data, .data, .data, .data, .sentinel, .sentinel, .data, .data, .data, .pinned], laidTests := true, laidLooks := .later }
def TwoFromOneCardSaid : Prop := Claim7.holds Tryz.pinned (.plain (OpenSpec.ofChange twoFromOneSpec)) twoFromOneCard

/-- THE TIED CARD OF 'tabulariumlaw21.ThreeUps'. -/
def threeUpsCard : Claim7 := { stood := { row := threeUpsRow, standIns := [], harness := (true, "a21b4c85d4a356bb506e5e485f7c2725196f92e64b524bdaea0f5e4b6f157adf"), looks := true }, kinds := [], alts := [], laidByText := true, laidKinds := [.data, .data, .data, .data, .sentinel, .sentinel, .data, .data, .data, .pinned], laidTests := true, laidLooks := .later }
def ThreeUpsCardSaid : Prop := Claim7.holds Tryz.pinned (.plain (OpenSpec.ofChange threeUpsSpec)) threeUpsCard

/-- THE TIED CARD OF 'tabulariumlaw21.ThreeFromTwo'. -/
def threeFromTwoCard : Claim7 := { stood := { row := threeFromTwoRow, standIns := [], harness := (true, "a21b4c85d4a356bb506e5e485f7c2725196f92e64b524bdaea0f5e4b6f157adf"), looks := true }, kinds := [], alts := [], laidByText := true, laidKinds := [.data, .data, .data, .data, .sentinel, .sentinel, .data, .data, .data, .pinned], laidTests := true, laidLooks := .later }
def ThreeFromTwoCardSaid : Prop := Claim7.holds Tryz.pinned (.plain (OpenSpec.ofChange threeFromTwoSpec)) threeFromTwoCard

/-- THE SECOND FORM's CARD OF 'tabulariumlaw10.JencIs'. -/
def jencIsUptoCard : Claim7 := { stood := { row := jencIsUptoRow, standIns := [], harness := (true, "a21b4c85d4a356bb506e5e485f7c2725196f92e64b524bdaea0f5e4b6f157adf"), looks := true }, kinds := [], alts := [], laidByText := true, laidKinds := [.data, .data, .data, .data, .data, .data, .pinned], laidTests := true, laidLooks := .later }
def JencIsUptoCardSaid : Prop := Claim7.holds Tryz.pinned (.plain (OpenSpec.upto jencIsSpec)) jencIsUptoCard

/-- THE SECOND FORM's CARD OF 'tabulariumlaw19.OneKeys'. -/
def oneKeysUptoCard : Claim7 := { stood := { row := oneKeysUptoRow, standIns := [], harness := (true, "a21b4c85d4a356bb506e5e485f7c2725196f92e64b524bdaea0f5e4b6f157adf"), looks := true }, kinds := [], alts := [], laidByText := true, laidKinds := [.data, .data, .data, .data, .sentinel, .sentinel, .data, .data, .data, .pinned], laidTests := true, laidLooks := .later }
def OneKeysUptoCardSaid : Prop := Claim7.holds Tryz.pinned (.plain (OpenSpec.upto oneKeysSpec)) oneKeysUptoCard

/-- THE SECOND FORM's CARD OF 'tabulariumlaw20.TwoUps'. -/
def twoUpsUptoCard : Claim7 := { stood := { row := twoUpsUptoRow, standIns := [], harness := (true, "a21b4c85d4a356bb506e5e485f7c2725196f92e64b524bdaea0f5e4b6f157adf"), looks := true }, kinds := [], alts := [], laidByText := true, laidKinds := [.data, .data, .data, .data, .sentinel, .sentinel, .data, .data, .data, .pinned], laidTests := true, laidLooks := .later }
def TwoUpsUptoCardSaid : Prop := Claim7.holds Tryz.pinned (.plain (OpenSpec.upto twoUpsSpec)) twoUpsUptoCard

/-- THE SECOND FORM's CARD OF 'tabulariumlaw20.TwoFromOne'. -/
def twoFromOneUptoCard : Claim7 := { stood := { row := twoFromOneUptoRow, standIns := [], harness := (true, "a21b4c85d4a356bb506e5e485f7c2725196f92e64b524bdaea0f5e4b6f157adf"), looks := true }, kinds := [], alts := [], laidByText := true, laidKinds := [.data, .data, .data, .data, .sentinel, .sentinel, .data, .data, .data, .pinned], laidTests := true, laidLooks := .later }
def TwoFromOneUptoCardSaid : Prop := Claim7.holds Tryz.pinned (.plain (OpenSpec.upto twoFromOneSpec)) twoFromOneUptoCard

/-- THE SECOND FORM's CARD OF 'tabulariumlaw21.ThreeUps'. -/
def threeUpsUptoCard : Claim7 := { stood := { row := threeUpsUptoRow, standIns := [], harness := (true, "a21b4c85d4a356bb506e5e485f7c2725196f92e64b524bdaea0f5e4b6f157adf"), looks := true }, kinds := [], alts := [], laidByText := true, laidKinds := [.data, .data, .data, .data, .sentinel, .sentinel, .data, .data, .data, .pinned], laidTests := true, laidLooks := .later }
def ThreeUpsUptoCardSaid : Prop := Claim7.holds Tryz.pinned (.plain (OpenSpec.upto threeUpsSpec)) threeUpsUptoCard

/-- THE SECOND FORM's CARD OF 'tabulariumlaw21.ThreeFromTwo'. -/
def threeFromTwoUptoCard : Claim7 := { stood := { row := threeFromTwoUptoRow, standIns := [], harness := (true, "a21b4c85d4a356bb506e5e485f7c2725196f92e64b524bdaea0f5e4b6f157adf"), looks := true }, kinds := [], alts := [], laidByText := true, laidKinds := [.data, .data, .data, .data, .sentinel, .sentinel, .data, .data, .data, .pinned], laidTests := true, laidLooks := .later }
def ThreeFromTwoUptoCardSaid : Prop := Claim7.holds Tryz.pinned (.plain (OpenSpec.upto threeFromTwoSpec)) threeFromTwoUptoCard
end Rows
end Go.Proofs.YtliekocamnklfaaGreatDoor
