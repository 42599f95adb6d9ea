/- Closed facts of the row twoUpsRow's card: what its call can come to. -/
import Derived.Test.YtliekocamnklfaaGreatDoorCards
import Derived.Deep.DeepHandedRow
set_option maxRecDepth 100000
namespace Go.Proofs.YtliekocamnklfaaGreatDoor.twoUps
open Go.ChangeShapes
theorem g1:Rows.twoUpsRow.wfByText (OpenSpec.ofChange Rows.twoUpsSpec)=true:=by kernel_rfl
theorem g2:false=Rows.twoUpsRow.goesBy Tryz.pinned.checked.prog:=by kernel_rfl
theorem g3:Tryz.pinned.checked.prog.mainIs=some (true, "a21b4c85d4a356bb506e5e485f7c2725196f92e64b524bdaea0f5e4b6f157adf".toList):=by kernel_rfl
end Go.Proofs.YtliekocamnklfaaGreatDoor.twoUps
