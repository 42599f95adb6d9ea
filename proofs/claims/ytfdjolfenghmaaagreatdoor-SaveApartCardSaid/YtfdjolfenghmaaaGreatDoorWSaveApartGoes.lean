/- Closed facts of the row saveApartRow's card: what its call can come to. -/
import Derived.Test.YtfdjolfenghmaaaGreatDoorCards
import Derived.Deep.DeepHandedRow
namespace Go.Proofs.YtfdjolfenghmaaaGreatDoor.saveApart
open Go.ChangeShapes
set_option maxRecDepth 100000
theorem g1 : Rows.saveApartRow.wfByText (OpenSpec.ofChange Rows.saveApartSpec) = true := by kernel_rfl
theorem g2 : false = Rows.saveApartRow.goesBy Tryz.pinned.checked.prog := by kernel_rfl
theorem g3 : Tryz.pinned.checked.prog.mainIs = some (true, "b3996dabdf858bcfb0cc48437fd5685db93f70b5bd6ab2ebab158a8547c0d732".toList) := by kernel_rfl
end Go.Proofs.YtfdjolfenghmaaaGreatDoor.saveApart
