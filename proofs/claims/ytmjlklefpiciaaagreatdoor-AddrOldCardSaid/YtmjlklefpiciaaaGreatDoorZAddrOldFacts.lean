/- The closed facts of the row addrOldRow: what its function reaches, names and reads. -/
import Derived.Test.YtmjlklefpiciaaaGreatDoorRows
import Derived.JoinedOf
namespace Go.Proofs.YtmjlklefpiciaaaGreatDoor.addrOld
set_option linter.unusedVariables false
theorem q1 : (Rows.addrOldRow.inPlace == Tryz.pinned.checked.prog.inPlace 9) = true := by kernel_rfl
theorem q2 : (Rows.addrOldRow.unfollowed == Tryz.pinned.checked.prog.unfollowed 9) = true := by kernel_rfl
theorem q3 : (Rows.addrOldRow.recurses == Tryz.pinned.checked.prog.recurses 9) = true := by kernel_rfl
theorem q4 : (Rows.addrOldRow.named == Tryz.pinned.checked.prog.varsNamed 9) = true := by kernel_rfl
theorem facts : joinedFacts Tryz.pinned.checked.prog 9 Tryz.f9 (OpenSpec.ofChange Rows.addrOldSpec).bare Rows.addrOldRow = true := by
  unfold joinedFacts
  simp only [Bool.and_eq_true]
  and_intros
  iterate 9 (· kernel_rfl)
  · exact q1
  · exact q2
  · exact q3
  · exact q4
  all_goals kernel_rfl
end Go.Proofs.YtmjlklefpiciaaaGreatDoor.addrOld
