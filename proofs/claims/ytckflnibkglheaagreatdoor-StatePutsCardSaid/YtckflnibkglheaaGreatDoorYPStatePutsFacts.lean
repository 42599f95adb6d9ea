/- The closed facts of the row statePutsRow: what its function reaches, names and reads. -/
import Derived.Test.YtckflnibkglheaaGreatDoorRows
import Derived.JoinedOf
namespace Go.Proofs.YtckflnibkglheaaGreatDoor.statePuts
set_option linter.unusedVariables false
theorem q1 : (Rows.statePutsRow.inPlace == Tryz.pinned.checked.prog.inPlace 4) = true := by kernel_rfl
theorem q2 : (Rows.statePutsRow.unfollowed == Tryz.pinned.checked.prog.unfollowed 4) = true := by kernel_rfl
theorem q3 : (Rows.statePutsRow.recurses == Tryz.pinned.checked.prog.recurses 4) = true := by kernel_rfl
theorem q4 : (Rows.statePutsRow.named == Tryz.pinned.checked.prog.varsNamed 4) = true := by kernel_rfl
theorem facts : joinedFacts Tryz.pinned.checked.prog 4 Tryz.f4 (OpenSpec.ofChange Rows.statePutsSpec).bare Rows.statePutsRow = true := by
 unfold joinedFacts
 simp only [Bool.and_eq_true]
 and_intros
 iterate 9 (· kernel_rfl)
 ·exact q1
 ·exact q2
 ·exact q3
 ·exact q4
 all_goals kernel_rfl
end Go.Proofs.YtckflnibkglheaaGreatDoor.statePuts
