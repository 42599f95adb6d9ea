/- The closed facts of the row stateRightsRow: what its function reaches, names and reads. -/
import Derived.Test.YtehghladpnpcoaaGreatDoorRows
import Derived.JoinedOf
set_option linter.unusedVariables false
namespace Go.Proofs.YtehghladpnpcoaaGreatDoor.stateRights
theorem q1 : (Rows.stateRightsRow.inPlace == Tryz.pinned.checked.prog.inPlace 3) = true := by kernel_rfl
theorem q2 : (Rows.stateRightsRow.unfollowed == Tryz.pinned.checked.prog.unfollowed 3) = true := by kernel_rfl
theorem q3 : (Rows.stateRightsRow.recurses == Tryz.pinned.checked.prog.recurses 3) = true := by kernel_rfl
theorem q4 : (Rows.stateRightsRow.named == Tryz.pinned.checked.prog.varsNamed 3) = true := by kernel_rfl
theorem facts : joinedFacts Tryz.pinned.checked.prog 3 Tryz.f3 (OpenSpec.ofChange Rows.stateRightsSpec).bare Rows.stateRightsRow = true := by
 unfold joinedFacts
 simp only [Bool.and_eq_true]
 and_intros
 iterate 9 (· kernel_rfl)
 ·exact q1
 ·exact q2
 ·exact q3
 ·exact q4
 all_goals kernel_rfl
end Go.Proofs.YtehghladpnpcoaaGreatDoor.stateRights
