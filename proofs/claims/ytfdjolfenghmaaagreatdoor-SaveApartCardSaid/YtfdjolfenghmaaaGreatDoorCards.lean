/-
  DERIVED. GIVEN WITH THE SEED: THE CARDS: each row of YtfdjolfenghmaaaGreatDoorRows.lean that lists a variable, with what it lists TIED to the program's text (the seventh form; the later family's looks); each row that meets fmt, with fmt's text TOLD by the authors' own Lean function (tested against real Go, not proved from fmt's source: count such statements apart). THE CARD IS WHAT COUNTS. Prove the row's statement (the work); the ties are given (YtfdjolfenghmaaaGreatDoorTie.lean); close each card by the builder's one call (the guide's Derived/Test/ToyasCard.lean, 'card_holds'). Laid BY PROGRAM, IN A SANDBOX (cutbox-door.mjs). By AI agents, Wed Nov 11 2026. No macro, syntax, notation, axiom, sorry.
-/
import Derived.Test.YtfdjolfenghmaaaGreatDoorRows
import GoSem.ClaimSeven
namespace Go.Proofs.YtfdjolfenghmaaaGreatDoor
namespace Rows

/-- THE TIED CARD OF 'tabulariumlaw23.SaveApart'. -/
def saveApartCard : Claim7 := { stood := { row := saveApartRow, standIns := [], harness := (true, "b3996dabdf858bcfb0cc48437fd5685db93f70b5bd6ab2ebab158a8547c0d732"), looks := true }, kinds := [], alts := [], laidByText := true, laidKinds := [.data, .data, .data, .data, .data, .data, .data, .pinned], laidTests := true, laidLooks := .later }
def SaveApartCardSaid : Prop := Claim7.holds Tryz.pinned (.plain (OpenSpec.ofChange saveApartSpec)) saveApartCard

/-- THE SECOND FORM's CARD OF 'tabulariumlaw23.SaveApart'. -/
def saveApartUptoCard : Claim7 := { stood := { row := saveApartUptoRow, standIns := [], harness := (true, "b3996dabdf858bcfb0cc48437fd5685db93f70b5bd6ab2ebab158a8547c0d732"), looks := true }, kinds := [], alts := [], laidByText := true, laidKinds := [.data, .data, .data, .data, .data, .data, .data, .pinned], laidTests := true, laidLooks := .later }
def SaveApartUptoCardSaid : Prop := Claim7.holds Tryz.pinned (.plain (OpenSpec.upto saveApartSpec)) saveApartUptoCard
end Rows
end Go.Proofs.YtfdjolfenghmaaaGreatDoor
