/- The closed facts of the row addrPrintsRow: what its function reaches, names and reads. -/
import Derived.Test.YtmjlklefpiciaaaGreatDoorRows
import Derived.JoinedOf
namespace Go.Proofs.YtmjlklefpiciaaaGreatDoor.addrPrints
set_option linter.unusedVariables false
theorem q1 : (Rows.addrPrintsRow.inPlace == Tryz.pinned.checked.prog.inPlace 11) = true := by kernel_rfl
theorem q2 : (Rows.addrPrintsRow.unfollowed == Tryz.pinned.checked.prog.unfollowed 11) = true := by kernel_rfl
theorem q3 : (Rows.addrPrintsRow.recurses == Tryz.pinned.checked.prog.recurses 11) = true := by kernel_rfl
theorem q4 : (Rows.addrPrintsRow.named == Tryz.pinned.checked.prog.varsNamed 11) = true := by kernel_rfl
theorem facts : joinedFacts Tryz.pinned.checked.prog 11 Tryz.f11 (OpenSpec.ofChange Rows.addrPrintsSpec).bare Rows.addrPrintsRow = true := by
  unfold joinedFacts
  simp only [Bool.and_eq_true]
  and_intros
  iterate 9 (· kernel_rfl)
  · exact q1
  · exact q2
  · exact q3
  · exact q4
  all_goals kernel_rfl
end Go.Proofs.YtmjlklefpiciaaaGreatDoor.addrPrints
