/-
  DERIVED. GIVEN WITH THE SEED: THE CARDS: each row of YtbfkgddhpabioaaGreatDoorRows.lean that lists a variable, with what it lists TIED to the program's text (the seventh form; the later family's looks); each row that meets fmt, with fmt's text TOLD by the authors' own Lean function (tested against real Go, not proved from fmt's source: count such statements apart). THE CARD IS WHAT COUNTS. Prove the row's statement (the work); the ties are given (YtbfkgddhpabioaaGreatDoorTie.lean); close each card by the builder's one call (the guide's Derived/Test/ToyasCard.lean, 'card_holds'). Laid BY PROGRAM, IN A SANDBOX (cutbox-door.mjs). By AI agents, Wed Nov 11 2026. No macro, syntax, notation, axiom, sorry.
-/
import Derived.Test.YtbfkgddhpabioaaGreatDoorRows
import GoSem.ClaimSeven
namespace Go.Proofs.YtbfkgddhpabioaaGreatDoor
namespace Rows

/-- THE TIED CARD OF 'tabulariumlaw09.JdecCuts'. -/
def jdecCutsCard : Claim7 := { stood := { row := jdecCutsRow, standIns := [], harness := (true, "252f712cd3d86ae68edf811980ea8de15873406afc4f3857b38eb78b0742c856"), looks := true }, kinds := [], alts := [], laidByText := true, laidKinds := [.data, .data, .data, .pinned], laidTests := true, laidLooks := .later }
def JdecCutsCardSaid : Prop := Claim7.holds Tryz.pinned (.plain (OpenSpec.ofChange jdecCutsSpec)) jdecCutsCard

/-- THE TIED CARD OF 'tabulariumlaw11.LexAll'. -/
def lexAllCard : Claim7 := { stood := { row := lexAllRow, standIns := [], harness := (true, "252f712cd3d86ae68edf811980ea8de15873406afc4f3857b38eb78b0742c856"), looks := true }, kinds := [], alts := [], laidByText := true, laidKinds := [.data, .data, .data, .data, .pinned], laidTests := true, laidLooks := .later }
def LexAllCardSaid : Prop := Claim7.holds Tryz.pinned (.plain (OpenSpec.ofChange lexAllSpec)) lexAllCard

/-- THE SECOND FORM's CARD OF 'tabulariumlaw09.JdecCuts'. -/
def jdecCutsUptoCard : Claim7 := { stood := { row := jdecCutsUptoRow, standIns := [], harness := (true, "252f712cd3d86ae68edf811980ea8de15873406afc4f3857b38eb78b0742c856"), looks := true }, kinds := [], alts := [], laidByText := true, laidKinds := [.data, .data, .data, .pinned], laidTests := true, laidLooks := .later }
def JdecCutsUptoCardSaid : Prop := Claim7.holds Tryz.pinned (.plain (OpenSpec.upto jdecCutsSpec)) jdecCutsUptoCard

/-- THE SECOND FORM's CARD OF 'tabulariumlaw11.LexAll'. -/
def lexAllUptoCard : Claim7 := { stood := { row := lexAllUptoRow, standIns := [], harness := (true, "252f712cd3d86ae68edf811980ea8de15873406afc4f3857b38eb78b0742c856"), looks := true }, kinds := [], alts := [], laidByText := true, laidKinds := [.data, .data, .data, .data, .pinned], laidTests := true, laidLooks := .later }
def LexAllUptoCardSaid : Prop := Claim7.holds Tryz.pinned (.plain (OpenSpec.upto lexAllSpec)) lexAllUptoCard
end Rows
end Go.Proofs.YtbfkgddhpabioaaGreatDoor
