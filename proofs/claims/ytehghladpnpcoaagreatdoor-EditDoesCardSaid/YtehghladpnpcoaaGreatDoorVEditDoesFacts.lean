/- The closed facts of the row editDoesRow: what its function reaches, names and reads. -/
import Derived.Test.YtehghladpnpcoaaGreatDoorRows
import Derived.JoinedOf
set_option linter.unusedVariables false
namespace Go.Proofs.YtehghladpnpcoaaGreatDoor.editDoes
theorem q1 : (Rows.editDoesRow.inPlace == Tryz.pinned.checked.prog.inPlace 5) = true := by kernel_rfl
theorem q2 : (Rows.editDoesRow.unfollowed == Tryz.pinned.checked.prog.unfollowed 5) = true := by kernel_rfl
theorem q3 : (Rows.editDoesRow.recurses == Tryz.pinned.checked.prog.recurses 5) = true := by kernel_rfl
theorem q4 : (Rows.editDoesRow.named == Tryz.pinned.checked.prog.varsNamed 5) = true := by kernel_rfl
theorem facts : joinedFacts Tryz.pinned.checked.prog 5 Tryz.f5 (OpenSpec.ofChange Rows.editDoesSpec).bare Rows.editDoesRow = true := by
  unfold joinedFacts
  simp only [Bool.and_eq_true]
  and_intros
  iterate 9 (· kernel_rfl)
  · exact q1
  · exact q2
  · exact q3
  · exact q4
  all_goals kernel_rfl
end Go.Proofs.YtehghladpnpcoaaGreatDoor.editDoes
