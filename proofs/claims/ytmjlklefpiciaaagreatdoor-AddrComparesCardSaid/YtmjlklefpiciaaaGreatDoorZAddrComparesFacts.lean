/- The closed facts of the row addrComparesRow: what its function reaches, names and reads. -/
import Derived.Test.YtmjlklefpiciaaaGreatDoorRows
import Derived.JoinedOf
namespace Go.Proofs.YtmjlklefpiciaaaGreatDoor.addrCompares
set_option linter.unusedVariables false
theorem q1 : (Rows.addrComparesRow.inPlace == Tryz.pinned.checked.prog.inPlace 13) = true := by kernel_rfl
theorem q2 : (Rows.addrComparesRow.unfollowed == Tryz.pinned.checked.prog.unfollowed 13) = true := by kernel_rfl
theorem q3 : (Rows.addrComparesRow.recurses == Tryz.pinned.checked.prog.recurses 13) = true := by kernel_rfl
theorem q4 : (Rows.addrComparesRow.named == Tryz.pinned.checked.prog.varsNamed 13) = true := by kernel_rfl
theorem facts : joinedFacts Tryz.pinned.checked.prog 13 Tryz.f13 (OpenSpec.ofChange Rows.addrComparesSpec).bare Rows.addrComparesRow = true := by
  unfold joinedFacts
  simp only [Bool.and_eq_true]
  and_intros
  iterate 9 (· kernel_rfl)
  · exact q1
  · exact q2
  · exact q3
  · exact q4
  all_goals kernel_rfl
end Go.Proofs.YtmjlklefpiciaaaGreatDoor.addrCompares
