/- The closed facts of the row editBackRow: what its function reaches, names and reads. -/
import Derived.Test.YtehghladpnpcoaaGreatDoorRows
import Derived.JoinedOf
namespace Go.Proofs.YtehghladpnpcoaaGreatDoor.editBack
set_option linter.unusedVariables false
theorem q1 : (Rows.editBackRow.inPlace == Tryz.pinned.checked.prog.inPlace 7) = true := by kernel_rfl
theorem q2 : (Rows.editBackRow.unfollowed == Tryz.pinned.checked.prog.unfollowed 7) = true := by kernel_rfl
theorem q3 : (Rows.editBackRow.recurses == Tryz.pinned.checked.prog.recurses 7) = true := by kernel_rfl
theorem q4 : (Rows.editBackRow.named == Tryz.pinned.checked.prog.varsNamed 7) = true := by kernel_rfl
theorem facts : joinedFacts Tryz.pinned.checked.prog 7 Tryz.f7 (OpenSpec.ofChange Rows.editBackSpec).bare Rows.editBackRow = true := by
  unfold joinedFacts
  simp only [Bool.and_eq_true]
  and_intros
  iterate 9 (· kernel_rfl)
  · exact q1
  · exact q2
  · exact q3
  · exact q4
  all_goals kernel_rfl
end Go.Proofs.YtehghladpnpcoaaGreatDoor.editBack
