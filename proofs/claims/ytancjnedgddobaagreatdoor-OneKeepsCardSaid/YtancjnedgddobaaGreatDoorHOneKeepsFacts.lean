/- The closed facts of the row oneKeepsRow: what its function reaches, names and reads. -/
import Derived.Test.YtancjnedgddobaaGreatDoorRows
import Derived.JoinedOf
set_option linter.unusedVariables false
namespace Go.Proofs.YtancjnedgddobaaGreatDoor.oneKeeps
theorem q1:(Rows.oneKeepsRow.inPlace == Tryz.pinned.checked.prog.inPlace 8)=true:=by kernel_rfl
theorem q2:(Rows.oneKeepsRow.unfollowed == Tryz.pinned.checked.prog.unfollowed 8)=true:=by kernel_rfl
theorem q3:(Rows.oneKeepsRow.recurses == Tryz.pinned.checked.prog.recurses 8)=true:=by kernel_rfl
theorem q4:(Rows.oneKeepsRow.named == Tryz.pinned.checked.prog.varsNamed 8)=true:=by kernel_rfl
theorem facts:joinedFacts Tryz.pinned.checked.prog 8 Tryz.f8 (OpenSpec.ofChange Rows.oneKeepsSpec).bare Rows.oneKeepsRow=true:=by
  unfold joinedFacts;simp only [Bool.and_eq_true]
  and_intros
  iterate 9 (· kernel_rfl)
  · exact q1
  · exact q2
  · exact q3
  · exact q4
  all_goals kernel_rfl
end Go.Proofs.YtancjnedgddobaaGreatDoor.oneKeeps
