/-
  DERIVED. GIVEN WITH THE SEED: THE CARDS: each row of YtbfkgddhpabioaaDoorRows.lean that lists a variable, with what it lists TIED to the program's text (the seventh form; the later family's looks); each row that meets fmt, with fmt's text TOLD by the authors' own Lean function (tested against real Go, not proved from fmt's source: count such statements apart). THE CARD IS WHAT COUNTS. Prove the row's statement (the work); the ties are given (YtbfkgddhpabioaaDoorTie.lean); close each card by the builder's one call (the guide's Derived/Test/ToyasCard.lean, 'card_holds'). Laid BY PROGRAM, IN A SANDBOX (cutbox-door.mjs). By AI agents, Wed Nov 11 2026. No macro, syntax, notation, axiom, sorry.
-/
import Derived.Test.YtbfkgddhpabioaaDoorRows
import GoSem.ClaimSeven
namespace Go.Proofs.YtbfkgddhpabioaaDoor
namespace Rows

/-- THE TIED CARD OF 'tabulariumlaw09.JdecBlanks'. -/
def jdecBlanksCard : Claim7 := { stood := { row := jdecBlanksRow, standIns := [], harness := (true, "204ce0f599f2822b443a5f0b8c629289fa24d7bbafe00b8f46953914e4a6041d"), looks := true }, kinds := [], alts := [], laidByText := true, laidKinds := [.data, .data, .data, .pinned], laidTests := true, laidLooks := .later }
def JdecBlanksCardSaid : Prop := Claim7.holds Tryd.pinned (.plain (OpenSpec.ofChange jdecBlanksSpec)) jdecBlanksCard

/-- THE TIED CARD OF 'tabulariumlaw09.JdecLong'. -/
def jdecLongCard : Claim7 := { stood := { row := jdecLongRow, standIns := [], harness := (true, "204ce0f599f2822b443a5f0b8c629289fa24d7bbafe00b8f46953914e4a6041d"), looks := true }, kinds := [], alts := [], laidByText := true, laidKinds := [.data, .data, .data, .pinned], laidTests := true, laidLooks := .later }
def JdecLongCardSaid : Prop := Claim7.holds Tryd.pinned (.plain (OpenSpec.ofChange jdecLongSpec)) jdecLongCard

/-- THE TIED CARD OF 'tabulariumlaw09.JdecRights'. -/
def jdecRightsCard : Claim7 := { stood := { row := jdecRightsRow, standIns := [], harness := (true, "204ce0f599f2822b443a5f0b8c629289fa24d7bbafe00b8f46953914e4a6041d"), looks := true }, kinds := [], alts := [], laidByText := true, laidKinds := [.data, .data, .data, .pinned], laidTests := true, laidLooks := .later }
def JdecRightsCardSaid : Prop := Claim7.holds Tryd.pinned (.plain (OpenSpec.ofChange jdecRightsSpec)) jdecRightsCard

/-- THE TIED CARD OF 'tabulariumlaw11.LexParses'. -/
def lexParsesCard : Claim7 := { stood := { row := lexParsesRow, standIns := [], harness := (true, "204ce0f599f2822b443a5f0b8c629289fa24d7bbafe00b8f46953914e4a6041d"), looks := true }, kinds := [], alts := [], laidByText := true, laidKinds := [.data, .data, .data, .data, .pinned], laidTests := true, laidLooks := .later }
def LexParsesCardSaid : Prop := Claim7.holds Tryd.pinned (.plain (OpenSpec.ofChange lexParsesSpec)) lexParsesCard

/-- THE TIED CARD OF 'tabulariumlaw11.LexCovers'. -/
def lexCoversCard : Claim7 := { stood := { row := lexCoversRow, standIns := [], harness := (true, "204ce0f599f2822b443a5f0b8c629289fa24d7bbafe00b8f46953914e4a6041d"), looks := true }, kinds := [], alts := [], laidByText := true, laidKinds := [.data, .data, .data, .data, .pinned], laidTests := true, laidLooks := .later }
def LexCoversCardSaid : Prop := Claim7.holds Tryd.pinned (.plain (OpenSpec.ofChange lexCoversSpec)) lexCoversCard

/-- THE TIED CARD OF 'tabulariumlaw11.LexJoins'. -/
def lexJoinsCard : Claim7 := { stood := { row := lexJoinsRow, standIns := [], harness := (true, "204ce0f599f2822b443a5f0b8c629289fa24d7bbafe00b8f46953914e4a6041d"), looks := true }, kinds := [], alts := [], laidByText := true, laidKinds := [.data, .data, .data, .data, .pinned], laidTests := true, laidLooks := .later }
def LexJoinsCardSaid : Prop := Claim7.holds Tryd.pinned (.plain (OpenSpec.ofChange lexJoinsSpec)) lexJoinsCard

/-- THE TIED CARD OF 'tabulariumlaw11.LexParts'. -/
def lexPartsCard : Claim7 := { stood := { row := lexPartsRow, standIns := [], harness := (true, "204ce0f599f2822b443a5f0b8c629289fa24d7bbafe00b8f46953914e4a6041d"), looks := true }, kinds := [], alts := [], laidByText := true, laidKinds := [.data, .data, .data, .data, .pinned], laidTests := true, laidLooks := .later }
def LexPartsCardSaid : Prop := Claim7.holds Tryd.pinned (.plain (OpenSpec.ofChange lexPartsSpec)) lexPartsCard

/-- THE SECOND FORM's CARD OF 'tabulariumlaw09.JdecBlanks'. -/
def jdecBlanksUptoCard : Claim7 := { stood := { row := jdecBlanksUptoRow, standIns := [], harness := (true, "204ce0f599f2822b443a5f0b8c629289fa24d7bbafe00b8f46953914e4a6041d"), looks := true }, kinds := [], alts := [], laidByText := true, laidKinds := [.data, .data, .data, .pinned], laidTests := true, laidLooks := .later }
def JdecBlanksUptoCardSaid : Prop := Claim7.holds Tryd.pinned (.plain (OpenSpec.upto jdecBlanksSpec)) jdecBlanksUptoCard

/-- THE SECOND FORM's CARD OF 'tabulariumlaw09.JdecLong'. -/
def jdecLongUptoCard : Claim7 := { stood := { row := jdecLongUptoRow, standIns := [], harness := (true, "204ce0f599f2822b443a5f0b8c629289fa24d7bbafe00b8f46953914e4a6041d"), looks := true }, kinds := [], alts := [], laidByText := true, laidKinds := [.data, .data, .data, .pinned], laidTests := true, laidLooks := .later }
def JdecLongUptoCardSaid : Prop := Claim7.holds Tryd.pinned (.plain (OpenSpec.upto jdecLongSpec)) jdecLongUptoCard

/-- THE SECOND FORM's CARD OF 'tabulariumlaw09.JdecRights'. -/
def jdecRightsUptoCard : Claim7 := { stood := { row := jdecRightsUptoRow, standIns := [], harness := (true, "204ce0f599f2822b443a5f0b8c629289fa24d7bbafe00b8f46953914e4a6041d"), looks := true }, kinds := [], alts := [], laidByText := true, laidKinds := [.data, .data, .data, .pinned], laidTests := true, laidLooks := .later }
def JdecRightsUptoCardSaid : Prop := Claim7.holds Tryd.pinned (.plain (OpenSpec.upto jdecRightsSpec)) jdecRightsUptoCard

/-- THE SECOND FORM's CARD OF 'tabulariumlaw11.LexParses'. -/
def lexParsesUptoCard : Claim7 := { stood := { row := lexParsesUptoRow, standIns := [], harness := (true, "204ce0f599f2822b443a5f0b8c629289fa24d7bbafe00b8f46953914e4a6041d"), looks := true }, kinds := [], alts := [], laidByText := true, laidKinds := [.data, .data, .data, .data, .pinned], laidTests := true, laidLooks := .later }
def LexParsesUptoCardSaid : Prop := Claim7.holds Tryd.pinned (.plain (OpenSpec.upto lexParsesSpec)) lexParsesUptoCard

/-- THE SECOND FORM's CARD OF 'tabulariumlaw11.LexCovers'. -/
def lexCoversUptoCard : Claim7 := { stood := { row := lexCoversUptoRow, standIns := [], harness := (true, "204ce0f599f2822b443a5f0b8c629289fa24d7bbafe00b8f46953914e4a6041d"), looks := true }, kinds := [], alts := [], laidByText := true, laidKinds := [.data, .data, .data, .data, .pinned], laidTests := true, laidLooks := .later }
def LexCoversUptoCardSaid : Prop := Claim7.holds Tryd.pinned (.plain (OpenSpec.upto lexCoversSpec)) lexCoversUptoCard

/-- THE SECOND FORM's CARD OF 'tabulariumlaw11.LexJoins'. -/
def lexJoinsUptoCard : Claim7 := { stood := { row := lexJoinsUptoRow, standIns := [], harness := (true, "204ce0f599f2822b443a5f0b8c629289fa24d7bbafe00b8f46953914e4a6041d"), looks := true }, kinds := [], alts := [], laidByText := true, laidKinds := [.data, .data, .data, .data, .pinned], laidTests := true, laidLooks := .later }
def LexJoinsUptoCardSaid : Prop := Claim7.holds Tryd.pinned (.plain (OpenSpec.upto lexJoinsSpec)) lexJoinsUptoCard

/-- THE SECOND FORM's CARD OF 'tabulariumlaw11.LexParts'. -/
def lexPartsUptoCard : Claim7 := { stood := { row := lexPartsUptoRow, standIns := [], harness := (true, "204ce0f599f2822b443a5f0b8c629289fa24d7bbafe00b8f46953914e4a6041d"), looks := true }, kinds := [], alts := [], laidByText := true, laidKinds := [.data, .data, .data, .data, .pinned], laidTests := true, laidLooks := .later }
def LexPartsUptoCardSaid : Prop := Claim7.holds Tryd.pinned (.plain (OpenSpec.upto lexPartsSpec)) lexPartsUptoCard
end Rows
end Go.Proofs.YtbfkgddhpabioaaDoor
