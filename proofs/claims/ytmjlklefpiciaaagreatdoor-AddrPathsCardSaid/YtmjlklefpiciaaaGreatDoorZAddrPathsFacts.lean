/- The closed facts of the row addrPathsRow: what its function reaches, names and reads. -/
import Derived.Test.YtmjlklefpiciaaaGreatDoorRows
import Derived.JoinedOf
namespace Go.Proofs.YtmjlklefpiciaaaGreatDoor.addrPaths
set_option linter.unusedVariables false
theorem q1 : (Rows.addrPathsRow.inPlace == Tryz.pinned.checked.prog.inPlace 12) = true := by kernel_rfl
theorem q2 : (Rows.addrPathsRow.unfollowed == Tryz.pinned.checked.prog.unfollowed 12) = true := by kernel_rfl
theorem q3 : (Rows.addrPathsRow.recurses == Tryz.pinned.checked.prog.recurses 12) = true := by kernel_rfl
theorem q4 : (Rows.addrPathsRow.named == Tryz.pinned.checked.prog.varsNamed 12) = true := by kernel_rfl
theorem facts : joinedFacts Tryz.pinned.checked.prog 12 Tryz.f12 (OpenSpec.ofChange Rows.addrPathsSpec).bare Rows.addrPathsRow = true := by
  unfold joinedFacts
  simp only [Bool.and_eq_true]
  and_intros
  iterate 9 (· kernel_rfl)
  · exact q1
  · exact q2
  · exact q3
  · exact q4
  all_goals kernel_rfl
end Go.Proofs.YtmjlklefpiciaaaGreatDoor.addrPaths
