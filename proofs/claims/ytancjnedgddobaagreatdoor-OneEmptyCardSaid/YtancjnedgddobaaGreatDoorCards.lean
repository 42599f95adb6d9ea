/-
  DERIVED. GIVEN WITH THE SEED: THE CARDS: each row of YtancjnedgddobaaGreatDoorRows.lean that lists a variable, with what it lists TIED to the program's text (the seventh form; the later family's looks); each row that meets fmt, with fmt's text TOLD by the authors' own Lean function (tested against real Go, not proved from fmt's source: count such statements apart). THE CARD IS WHAT COUNTS. Prove the row's statement (the work); the ties are given (YtancjnedgddobaaGreatDoorTie.lean); close each card by the builder's one call (the guide's Derived/Test/ToyasCard.lean, 'card_holds'). Laid BY PROGRAM, IN A SANDBOX (cutbox-door.mjs). By AI agents, Wed Nov 11 2026. No macro, syntax, notation, axiom, sorry.
-/
import Derived.Test.YtancjnedgddobaaGreatDoorRows
import GoSem.ClaimSeven
namespace Go.Proofs.YtancjnedgddobaaGreatDoor
namespace Rows

/-- THE TIED CARD OF 'tabulariumlaw23.SaveApart'. -/
def saveApartCard : Claim7 := { stood := { row := saveApartRow, standIns := [], harness := (true, "514c4ad31a258435f98b956f3626745257787b82b1ce5fbe939c5a7d1a37ad06"), looks := true }, kinds := [], alts := [], laidByText := true, laidKinds := [.data, .data, .data, .data, .data, .data, .data, .pinned], laidTests := true, laidLooks := .later }
def SaveApartCardSaid : Prop := Claim7.holds Tryz.pinned (.plain (OpenSpec.ofChange saveApartSpec)) saveApartCard

/-- THE TIED CARD OF 'tabulariumlaw10.JencIs'. -/
def jencIsCard : Claim7 := { stood := { row := jencIsRow, standIns := [], harness := (true, "514c4ad31a258435f98b956f3626745257787b82b1ce5fbe939c5a7d1a37ad06"), looks := true }, kinds := [], alts := [], laidByText := true, laidKinds := [.data, .data, .data, .data, .data, .data, .pinned], laidTests := true, laidLooks := .later }
def JencIsCardSaid : Prop := Claim7.holds Tryz.pinned (.plain (OpenSpec.ofChange jencIsSpec)) jencIsCard

/-- THE TIED CARD OF 'tabulariumlaw19.OneUps'. -/
def oneUpsCard : Claim7 := { stood := { row := oneUpsRow, standIns := [], harness := (true, "514c4ad31a258435f98b956f3626745257787b82b1ce5fbe939c5a7d1a37ad06"), looks := true }, kinds := [], alts := [], laidByText := true, laidKinds := [.data, .data, .data, .data, .sentinel, .sentinel, .data, .data, .data, .pinned], laidTests := true, laidLooks := .later }
def OneUpsCardSaid : Prop := Claim7.holds Tryz.pinned (.plain (OpenSpec.ofChange oneUpsSpec)) oneUpsCard

/-- THE TIED CARD OF 'tabulariumlaw19.OneEmpty'. -/
def oneEmptyCard : Claim7 := { stood := { row := oneEmptyRow, standIns := [], harness := (true, "514c4ad31a258435f98b956f3626745257787b82b1ce5fbe939c5a7d1a37ad06"), looks := true }, kinds := [], alts := [], laidByText := true, laidKinds := [.data, .data, .data, .data, .sentinel, .sentinel, .data, .data, .data, .pinned], laidTests := true, laidLooks := .later }
def OneEmptyCardSaid : Prop := Claim7.holds Tryz.pinned (.plain (OpenSpec.ofChange oneEmptySpec)) oneEmptyCard

/-- THE TIED CARD OF 'tabulariumlaw19.OneKeys'. -/
def oneKeysCard : Claim7 := { stood := { row := oneKeysRow, standIns := [], harness := (true, "514c4ad31a258435f98b956f3626745257787b82b1ce5fbe939c5a7d1a37ad06"), looks := true }, kinds := [], alts := [], laidByText := true, laidKinds := [.data, .data, .data, .data, .sentinel, .sentinel, .data, .data, .data, .pinned], laidTests := true, laidLooks := .later }
def OneKeysCardSaid : Prop := Claim7.holds Tryz.pinned (.plain (OpenSpec.ofChange oneKeysSpec)) oneKeysCard

/-- THE TIED CARD OF 'tabulariumlaw19.OneKeeps'. -/
def oneKeepsCard : Claim7 := { stood := { row := oneKeepsRow, standIns := [], harness := (true, "514c4ad31a258435f98b956f3626745257787b82b1ce5fbe939c5a7d1a37ad06"), looks := true }, kinds := [], alts := [], laidByText := true, laidKinds := [.data, .data, .data, .data, .sentinel, .sentinel, .data, .data, .data, .pinned], laidTests := true, laidLooks := .later }
def OneKeepsCardSaid : Prop := Claim7.holds Tryz.pinned (.plain (OpenSpec.ofChange oneKeepsSpec)) oneKeepsCard

/-- THE TIED CARD OF 'tabulariumlaw20.TwoUps'. -/
def twoUpsCard : Claim7 := { stood := { row := twoUpsRow, standIns := [], harness := (true, "514c4ad31a258435f98b956f3626745257787b82b1ce5fbe939c5a7d1a37ad06"), looks := true }, kinds := [], alts := [], laidByText := true, laidKinds := [.data, .data, .data, .data, .sentinel, .sentinel, .data, .data, .data, .pinned], laidTests := true, laidLooks := .later }
def TwoUpsCardSaid : Prop := Claim7.holds Tryz.pinned (.plain (OpenSpec.ofChange twoUpsSpec)) twoUpsCard

/-- THE TIED CARD OF 'tabulariumlaw20.TwoFromOne'. -/
def twoFromOneCard : Claim7 := { stood := { row := twoFromOneRow, standIns := [], harness := (true, "514c4ad31a258435f98b956f3626745257787b82b1ce5fbe939c5a7d1a37ad06"), looks := true }, kinds := [], alts := [], laidByText := true, laidKinds := [.data, .data, .data, .data, .sentinel, .sentinel, .data, .data, .data, .pinned], laidTests := true, laidLooks := .later }
def TwoFromOneCardSaid : Prop := Claim7.holds Tryz.pinned (.plain (OpenSpec.ofChange twoFromOneSpec)) twoFromOneCard

/-- THE TIED CARD OF 'tabulariumlaw21.ThreeUps'. -/
def threeUpsCard : Claim7 := { stood := { row := threeUpsRow, standIns := [], harness := (true, "514c4ad31a258435f98b956f3626745257787b82b1ce5fbe939c5a7d1a37ad06"), looks := true }, kinds := [], alts := [], laidByText := true, laidKinds := [.data, .data, .data, .data, .sentinel, .sentinel, .data, .data, .data, .pinned], laidTests := true, laidLooks := .later }
def ThreeUpsCardSaid : Prop := Claim7.holds Tryz.pinned (.plain (OpenSpec.ofChange threeUpsSpec)) threeUpsCard

/-- THE TIED CARD OF 'tabulariumlaw21.ThreeFromTwo'. -/
def threeFromTwoCard : Claim7 := { stood := { row := threeFromTwoRow, standIns := [], harness := (true, "514c4ad31a258435f98b956f3626745257787b82b1ce5fbe939c5a7d1a37ad06"), looks := true }, kinds := [], alts := [], laidByText := true, laidKinds := [.data, .data, .data, .data, .sentinel, .sentinel, .data, .data, .data, .pinned], laidTests := true, laidLooks := .later }
def ThreeFromTwoCardSaid : Prop := Claim7.holds Tryz.pinned (.plain (OpenSpec.ofChange threeFromTwoSpec)) threeFromTwoCard

/-- THE SECOND FORM's CARD OF 'tabulariumlaw23.SaveApart'. -/
def saveApartUptoCard : Claim7 := { stood := { row := saveApartUptoRow, standIns := [], harness := (true, "514c4ad31a258435f98b956f3626745257787b82b1ce5fbe939c5a7d1a37ad06"), looks := true }, kinds := [], alts := [], laidByText := true, laidKinds := [.data, .data, .data, .data, .data, .data, .data, .pinned], laidTests := true, laidLooks := .later }
def SaveApartUptoCardSaid : Prop := Claim7.holds Tryz.pinned (.plain (OpenSpec.upto saveApartSpec)) saveApartUptoCard

/-- THE SECOND FORM's CARD OF 'tabulariumlaw10.JencIs'. -/
def jencIsUptoCard : Claim7 := { stood := { row := jencIsUptoRow, standIns := [], harness := (true, "514c4ad31a258435f98b956f3626745257787b82b1ce5fbe939c5a7d1a37ad06"), looks := true }, kinds := [], alts := [], laidByText := true, laidKinds := [.data, .data, .data, .data, .data, .data, .pinned], laidTests := true, laidLooks := .later }
def JencIsUptoCardSaid : Prop := Claim7.holds Tryz.pinned (.plain (OpenSpec.upto jencIsSpec)) jencIsUptoCard

/-- THE SECOND FORM's CARD OF 'tabulariumlaw19.OneUps'. -/
def oneUpsUptoCard : Claim7 := { stood := { row := oneUpsUptoRow, standIns := [], harness := (true, "514c4ad31a258435f98b956f3626745257787b82b1ce5fbe939c5a7d1a37ad06"), looks := true }, kinds := [], alts := [], laidByText := true, laidKinds := [.data, .data, .data, .data, .sentinel, .sentinel, .data, .data, .data, .pinned], laidTests := true, laidLooks := .later }
def OneUpsUptoCardSaid : Prop := Claim7.holds Tryz.pinned (.plain (OpenSpec.upto oneUpsSpec)) oneUpsUptoCard

/-- THE SECOND FORM's CARD OF 'tabulariumlaw19.OneEmpty'. -/
def oneEmptyUptoCard : Claim7 := { stood := { row := oneEmptyUptoRow, standIns := [], harness := (true, "514c4ad31a258435f98b956f3626745257787b82b1ce5fbe939c5a7d1a37ad06"), looks := true }, kinds := [], alts := [], laidByText := true, laidKinds := [.data, .data, .data, .data, .sentinel, .sentinel, .data, .data, .data, .pinned], laidTests := true, laidLooks := .later }
def OneEmptyUptoCardSaid : Prop := Claim7.holds Tryz.pinned (.plain (OpenSpec.upto oneEmptySpec)) oneEmptyUptoCard

/-- THE SECOND FORM's CARD OF 'tabulariumlaw19.OneKeys'. -/
def oneKeysUptoCard : Claim7 := { stood := { row := oneKeysUptoRow, standIns := [], harness := (true, "514c4ad31a258435f98b956f3626745257787b82b1ce5fbe939c5a7d1a37ad06"), looks := true }, kinds := [], alts := [], laidByText := true, laidKinds := [.data, .data, .data, .data, .sentinel, .sentinel, .data, .data, .data, .pinned], laidTests := true, laidLooks := .later }
def OneKeysUptoCardSaid : Prop := Claim7.holds Tryz.pinned (.plain (OpenSpec.upto oneKeysSpec)) oneKeysUptoCard

/-- THE SECOND FORM's CARD OF 'tabulariumlaw19.OneKeeps'. -/
def oneKeepsUptoCard : Claim7 := { stood := { row := oneKeepsUptoRow, standIns := [], harness := (true, "514c4ad31a258435f98b956f3626745257787b82b1ce5fbe939c5a7d1a37ad06"), looks := true }, kinds := [], alts := [], laidByText := true, laidKinds := [.data, .data, .data, .data, .sentinel, .sentinel, .data, .data, .data, .pinned], laidTests := true, laidLooks := .later }
def OneKeepsUptoCardSaid : Prop := Claim7.holds Tryz.pinned (.plain (OpenSpec.upto oneKeepsSpec)) oneKeepsUptoCard

/-- THE SECOND FORM's CARD OF 'tabulariumlaw20.TwoUps'. -/
def twoUpsUptoCard : Claim7 := { stood := { row := twoUpsUptoRow, standIns := [], harness := (true, "514c4ad31a258435f98b956f3626745257787b82b1ce5fbe939c5a7d1a37ad06"), looks := true }, kinds := [], alts := [], laidByText := true, laidKinds := [.data, .data, .data, .data, .sentinel, .sentinel, .data, .data, .data, .pinned], laidTests := true, laidLooks := .later }
def TwoUpsUptoCardSaid : Prop := Claim7.holds Tryz.pinned (.plain (OpenSpec.upto twoUpsSpec)) twoUpsUptoCard

/-- THE SECOND FORM's CARD OF 'tabulariumlaw20.TwoFromOne'. -/
def twoFromOneUptoCard : Claim7 := { stood := { row := twoFromOneUptoRow, standIns := [], harness := (true, "514c4ad31a258435f98b956f3626745257787b82b1ce5fbe939c5a7d1a37ad06"), looks := true }, kinds := [], alts := [], laidByText := true, laidKinds := [.data, .data, .data, .data, .sentinel, .sentinel, .data, .data, .data, .pinned], laidTests := true, laidLooks := .later }
def TwoFromOneUptoCardSaid : Prop := Claim7.holds Tryz.pinned (.plain (OpenSpec.upto twoFromOneSpec)) twoFromOneUptoCard

/-- THE SECOND FORM's CARD OF 'tabulariumlaw21.ThreeUps'. -/
def threeUpsUptoCard : Claim7 := { stood := { row := threeUpsUptoRow, standIns := [], harness := (true, "514c4ad31a258435f98b956f3626745257787b82b1ce5fbe939c5a7d1a37ad06"), looks := true }, kinds := [], alts := [], laidByText := true, laidKinds := [.data, .data, .data, .data, .sentinel, .sentinel, .data, .data, .data, .pinned], laidTests := true, laidLooks := .later }
def ThreeUpsUptoCardSaid : Prop := Claim7.holds Tryz.pinned (.plain (OpenSpec.upto threeUpsSpec)) threeUpsUptoCard

/-- THE SECOND FORM's CARD OF 'tabulariumlaw21.ThreeFromTwo'. -/
def threeFromTwoUptoCard : Claim7 := { stood := { row := threeFromTwoUptoRow, standIns := [], harness := (true, "514c4ad31a258435f98b956f3626745257787b82b1ce5fbe939c5a7d1a37ad06"), looks := true }, kinds := [], alts := [], laidByText := true, laidKinds := [.data, .data, .data, .data, .sentinel, .sentinel, .data, .data, .data, .pinned], laidTests := true, laidLooks := .later }
def ThreeFromTwoUptoCardSaid : Prop := Claim7.holds Tryz.pinned (.plain (OpenSpec.upto threeFromTwoSpec)) threeFromTwoUptoCard
end Rows
end Go.Proofs.YtancjnedgddobaaGreatDoor
