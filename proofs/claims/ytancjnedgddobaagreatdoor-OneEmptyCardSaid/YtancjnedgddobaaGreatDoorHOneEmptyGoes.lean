/- Closed facts of the row oneEmptyRow's card: what its call can come to. -/
import Derived.Test.YtancjnedgddobaaGreatDoorCards
import Derived.Deep.DeepHandedRow
set_option maxRecDepth 100000
namespace Go.Proofs.YtancjnedgddobaaGreatDoor.oneEmpty
open Go.ChangeShapes
theorem g1:Rows.oneEmptyRow.wfByText (OpenSpec.ofChange Rows.oneEmptySpec)=true:=by kernel_rfl
theorem g2:false=Rows.oneEmptyRow.goesBy Tryz.pinned.checked.prog:=by kernel_rfl
theorem g3:Tryz.pinned.checked.prog.mainIs=some (true, "514c4ad31a258435f98b956f3626745257787b82b1ce5fbe939c5a7d1a37ad06".toList):=by kernel_rfl
end Go.Proofs.YtancjnedgddobaaGreatDoor.oneEmpty
