/-
  DERIVED. GIVEN WITH THE SEED: THE CARDS: each row of YtehffmcfmdjknaaDoorRows.lean that lists a variable, with what it lists TIED to the program's text (the seventh form; the later family's looks); each row that meets fmt, with fmt's text TOLD by the authors' own Lean function (tested against real Go, not proved from fmt's source: count such statements apart). THE CARD IS WHAT COUNTS. Prove the row's statement (the work); the ties are given (YtehffmcfmdjknaaDoorTie.lean); close each card by the builder's one call (the guide's Derived/Test/ToyasCard.lean, 'card_holds'). Laid BY PROGRAM, IN A SANDBOX (cutbox-door.mjs). By AI agents, Wed Nov 11 2026. No macro, syntax, notation, axiom, sorry.
-/
import Derived.Test.YtehffmcfmdjknaaDoorRows
import GoSem.ClaimSeven
namespace Go.Proofs.YtehffmcfmdjknaaDoor
namespace Rows

/-- THE TIED CARD OF 'tabulariumlaw10.JencOrder'. -/
def jencOrderCard : Claim7 := { stood := { row := jencOrderRow, standIns := [], harness := (true, "2b5ce336f5fe30cedfcb249941ded287e04f3232dbbab11f2bfab0ac9ab73028"), looks := false }, kinds := [], alts := [], laidByText := true, laidKinds := [.data, .data, .data, .data], laidTests := true, laidLooks := .later }
def JencOrderCardSaid : Prop := Claim7.holds Tryd.pinned (.plain (OpenSpec.ofChange jencOrderSpec)) jencOrderCard

/-- THE TIED CARD OF 'tabulariumlaw10.JencLines'. -/
def jencLinesCard : Claim7 := { stood := { row := jencLinesRow, standIns := [], harness := (true, "2b5ce336f5fe30cedfcb249941ded287e04f3232dbbab11f2bfab0ac9ab73028"), looks := false }, kinds := [], alts := [], laidByText := true, laidKinds := [.data, .data, .data, .data], laidTests := true, laidLooks := .later }
def JencLinesCardSaid : Prop := Claim7.holds Tryd.pinned (.plain (OpenSpec.ofChange jencLinesSpec)) jencLinesCard

/-- THE SECOND FORM's CARD OF 'tabulariumlaw10.JencOrder'. -/
def jencOrderUptoCard : Claim7 := { stood := { row := jencOrderUptoRow, standIns := [], harness := (true, "2b5ce336f5fe30cedfcb249941ded287e04f3232dbbab11f2bfab0ac9ab73028"), looks := false }, kinds := [], alts := [], laidByText := true, laidKinds := [.data, .data, .data, .data], laidTests := true, laidLooks := .later }
def JencOrderUptoCardSaid : Prop := Claim7.holds Tryd.pinned (.plain (OpenSpec.upto jencOrderSpec)) jencOrderUptoCard

/-- THE SECOND FORM's CARD OF 'tabulariumlaw10.JencLines'. -/
def jencLinesUptoCard : Claim7 := { stood := { row := jencLinesUptoRow, standIns := [], harness := (true, "2b5ce336f5fe30cedfcb249941ded287e04f3232dbbab11f2bfab0ac9ab73028"), looks := false }, kinds := [], alts := [], laidByText := true, laidKinds := [.data, .data, .data, .data], laidTests := true, laidLooks := .later }
def JencLinesUptoCardSaid : Prop := Claim7.holds Tryd.pinned (.plain (OpenSpec.upto jencLinesSpec)) jencLinesUptoCard
end Rows
end Go.Proofs.YtehffmcfmdjknaaDoor
