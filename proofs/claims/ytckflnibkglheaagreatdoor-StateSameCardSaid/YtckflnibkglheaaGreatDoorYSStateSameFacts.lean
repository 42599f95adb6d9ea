/- The closed facts of the row stateSameRow: what its function reaches, names and reads. -/
import Derived.Test.YtckflnibkglheaaGreatDoorRows
import Derived.JoinedOf
namespace Go.Proofs.YtckflnibkglheaaGreatDoor.stateSame
set_option linter.unusedVariables false
theorem q1 : (Rows.stateSameRow.inPlace == Tryz.pinned.checked.prog.inPlace 7) = true := by kernel_rfl
theorem q2 : (Rows.stateSameRow.unfollowed == Tryz.pinned.checked.prog.unfollowed 7) = true := by kernel_rfl
theorem q3 : (Rows.stateSameRow.recurses == Tryz.pinned.checked.prog.recurses 7) = true := by kernel_rfl
theorem q4 : (Rows.stateSameRow.named == Tryz.pinned.checked.prog.varsNamed 7) = true := by kernel_rfl
theorem facts : joinedFacts Tryz.pinned.checked.prog 7 Tryz.f7 (OpenSpec.ofChange Rows.stateSameSpec).bare Rows.stateSameRow = true := by
 unfold joinedFacts
 simp only [Bool.and_eq_true]
 and_intros
 iterate 9 (· kernel_rfl)
 ·exact q1
 ·exact q2
 ·exact q3
 ·exact q4
 all_goals kernel_rfl
end Go.Proofs.YtckflnibkglheaaGreatDoor.stateSame
