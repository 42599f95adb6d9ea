/- The closed facts of the row saveApartRow: what its function reaches, names and reads. -/
import Derived.Test.YtfdjolfenghmaaaGreatDoorRows
import Derived.JoinedOf
set_option linter.unusedVariables false
namespace Go.Proofs.YtfdjolfenghmaaaGreatDoor.saveApart
theorem q1 : (Rows.saveApartRow.inPlace == Tryz.pinned.checked.prog.inPlace 3) = true := by kernel_rfl
theorem q2 : (Rows.saveApartRow.unfollowed == Tryz.pinned.checked.prog.unfollowed 3) = true := by kernel_rfl
theorem q3 : (Rows.saveApartRow.recurses == Tryz.pinned.checked.prog.recurses 3) = true := by kernel_rfl
theorem q4 : (Rows.saveApartRow.named == Tryz.pinned.checked.prog.varsNamed 3) = true := by kernel_rfl
theorem facts : joinedFacts Tryz.pinned.checked.prog 3 Tryz.f3 (OpenSpec.ofChange Rows.saveApartSpec).bare Rows.saveApartRow = true := by
  unfold joinedFacts;simp only [Bool.and_eq_true]
  and_intros
  iterate 9 (· kernel_rfl)
  · exact q1
  · exact q2
  · exact q3
  · exact q4
  all_goals kernel_rfl
end Go.Proofs.YtfdjolfenghmaaaGreatDoor.saveApart
