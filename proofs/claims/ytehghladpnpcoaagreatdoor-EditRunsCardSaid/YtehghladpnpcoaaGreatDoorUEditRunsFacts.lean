/- The closed facts of the row editRunsRow: what its function reaches, names and reads. -/
import Derived.Test.YtehghladpnpcoaaGreatDoorRows
import Derived.JoinedOf
set_option linter.unusedVariables false
namespace Go.Proofs.YtehghladpnpcoaaGreatDoor.editRuns
theorem q1 : (Rows.editRunsRow.inPlace == Tryz.pinned.checked.prog.inPlace 8) = true := by kernel_rfl
theorem q2 : (Rows.editRunsRow.unfollowed == Tryz.pinned.checked.prog.unfollowed 8) = true := by kernel_rfl
theorem q3 : (Rows.editRunsRow.recurses == Tryz.pinned.checked.prog.recurses 8) = true := by kernel_rfl
theorem q4 : (Rows.editRunsRow.named == Tryz.pinned.checked.prog.varsNamed 8) = true := by kernel_rfl
theorem facts : joinedFacts Tryz.pinned.checked.prog 8 Tryz.f8 (OpenSpec.ofChange Rows.editRunsSpec).bare Rows.editRunsRow = true := by
  unfold joinedFacts;simp only [Bool.and_eq_true]
  and_intros
  iterate 9 (· kernel_rfl)
  · exact q1
  · exact q2
  · exact q3
  · exact q4
  all_goals kernel_rfl
end Go.Proofs.YtehghladpnpcoaaGreatDoor.editRuns
