/- The closed facts of the row editKeepsRow: what its function reaches, names and reads. -/
import Derived.Test.YtehghladpnpcoaaGreatDoorRows
import Derived.JoinedOf
namespace Go.Proofs.YtehghladpnpcoaaGreatDoor.editKeeps
set_option linter.unusedVariables false
theorem q1 : (Rows.editKeepsRow.inPlace == Tryz.pinned.checked.prog.inPlace 6) = true := by kernel_rfl
theorem q2 : (Rows.editKeepsRow.unfollowed == Tryz.pinned.checked.prog.unfollowed 6) = true := by kernel_rfl
theorem q3 : (Rows.editKeepsRow.recurses == Tryz.pinned.checked.prog.recurses 6) = true := by kernel_rfl
theorem q4 : (Rows.editKeepsRow.named == Tryz.pinned.checked.prog.varsNamed 6) = true := by kernel_rfl
theorem facts : joinedFacts Tryz.pinned.checked.prog 6 Tryz.f6 (OpenSpec.ofChange Rows.editKeepsSpec).bare Rows.editKeepsRow = true := by
  unfold joinedFacts
  simp only [Bool.and_eq_true]
  and_intros
  iterate 9 (· kernel_rfl)
  · exact q1
  · exact q2
  · exact q3
  · exact q4
  all_goals kernel_rfl
end Go.Proofs.YtehghladpnpcoaaGreatDoor.editKeeps
