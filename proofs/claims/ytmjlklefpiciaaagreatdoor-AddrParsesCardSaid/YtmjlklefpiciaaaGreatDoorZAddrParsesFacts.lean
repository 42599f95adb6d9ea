/- The closed facts of the row addrParsesRow: what its function reaches, names and reads. -/
import Derived.Test.YtmjlklefpiciaaaGreatDoorRows
import Derived.JoinedOf
namespace Go.Proofs.YtmjlklefpiciaaaGreatDoor.addrParses
set_option linter.unusedVariables false
theorem q1 : (Rows.addrParsesRow.inPlace == Tryz.pinned.checked.prog.inPlace 10) = true := by kernel_rfl
theorem q2 : (Rows.addrParsesRow.unfollowed == Tryz.pinned.checked.prog.unfollowed 10) = true := by kernel_rfl
theorem q3 : (Rows.addrParsesRow.recurses == Tryz.pinned.checked.prog.recurses 10) = true := by kernel_rfl
theorem q4 : (Rows.addrParsesRow.named == Tryz.pinned.checked.prog.varsNamed 10) = true := by kernel_rfl
theorem facts : joinedFacts Tryz.pinned.checked.prog 10 Tryz.f10 (OpenSpec.ofChange Rows.addrParsesSpec).bare Rows.addrParsesRow = true := by
  unfold joinedFacts
  simp only [Bool.and_eq_true]
  and_intros
  iterate 9 (· kernel_rfl)
  · exact q1
  · exact q2
  · exact q3
  · exact q4
  all_goals kernel_rfl
end Go.Proofs.YtmjlklefpiciaaaGreatDoor.addrParses
