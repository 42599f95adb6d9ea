/- The closed facts of the row editApartRow: what its function reaches, names and reads. -/
import Derived.Test.YtehghladpnpcoaaGreatDoorRows
import Derived.JoinedOf
namespace Go.Proofs.YtehghladpnpcoaaGreatDoor.editApart
set_option linter.unusedVariables false
theorem q1 : (Rows.editApartRow.inPlace == Tryz.pinned.checked.prog.inPlace 9) = true := by kernel_rfl
theorem q2 : (Rows.editApartRow.unfollowed == Tryz.pinned.checked.prog.unfollowed 9) = true := by kernel_rfl
theorem q3 : (Rows.editApartRow.recurses == Tryz.pinned.checked.prog.recurses 9) = true := by kernel_rfl
theorem q4 : (Rows.editApartRow.named == Tryz.pinned.checked.prog.varsNamed 9) = true := by kernel_rfl
theorem facts : joinedFacts Tryz.pinned.checked.prog 9 Tryz.f9 (OpenSpec.ofChange Rows.editApartSpec).bare Rows.editApartRow = true := by
  unfold joinedFacts
  simp only [Bool.and_eq_true]
  and_intros
  iterate 9 (· kernel_rfl)
  · exact q1
  · exact q2
  · exact q3
  · exact q4
  all_goals kernel_rfl
end Go.Proofs.YtehghladpnpcoaaGreatDoor.editApart
