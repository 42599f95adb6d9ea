/- The closed facts of the row stateEmptiesRow: what its function reaches, names and reads. -/
import Derived.Test.YtckflnibkglheaaGreatDoorRows
import Derived.JoinedOf
namespace Go.Proofs.YtckflnibkglheaaGreatDoor.stateEmpties
set_option linter.unusedVariables false
theorem q1 : (Rows.stateEmptiesRow.inPlace == Tryz.pinned.checked.prog.inPlace 5) = true := by kernel_rfl
theorem q2 : (Rows.stateEmptiesRow.unfollowed == Tryz.pinned.checked.prog.unfollowed 5) = true := by kernel_rfl
theorem q3 : (Rows.stateEmptiesRow.recurses == Tryz.pinned.checked.prog.recurses 5) = true := by kernel_rfl
theorem q4 : (Rows.stateEmptiesRow.named == Tryz.pinned.checked.prog.varsNamed 5) = true := by kernel_rfl
theorem facts : joinedFacts Tryz.pinned.checked.prog 5 Tryz.f5 (OpenSpec.ofChange Rows.stateEmptiesSpec).bare Rows.stateEmptiesRow = true := by
 unfold joinedFacts
 simp only [Bool.and_eq_true]
 and_intros
 iterate 9 (· kernel_rfl)
 ·exact q1
 ·exact q2
 ·exact q3
 ·exact q4
 all_goals kernel_rfl
end Go.Proofs.YtckflnibkglheaaGreatDoor.stateEmpties
