/- The closed facts of the row twoFromOneRow: what its function reaches, names and reads. -/
import Derived.Test.YtliekocamnklfaaGreatDoorRows
import Derived.JoinedOf
set_option linter.unusedVariables false
namespace Go.Proofs.YtliekocamnklfaaGreatDoor.twoFromOne
theorem q1:(Rows.twoFromOneRow.inPlace == Tryz.pinned.checked.prog.inPlace 6)=true:=by kernel_rfl
theorem q2:(Rows.twoFromOneRow.unfollowed == Tryz.pinned.checked.prog.unfollowed 6)=true:=by kernel_rfl
theorem q3:(Rows.twoFromOneRow.recurses == Tryz.pinned.checked.prog.recurses 6)=true:=by kernel_rfl
theorem q4:(Rows.twoFromOneRow.named == Tryz.pinned.checked.prog.varsNamed 6)=true:=by kernel_rfl
theorem facts:joinedFacts Tryz.pinned.checked.prog 6 Tryz.f6 (OpenSpec.ofChange Rows.twoFromOneSpec).bare Rows.twoFromOneRow=true:=by
  unfold joinedFacts;simp only [Bool.and_eq_true]
  and_intros
  iterate 9 (· kernel_rfl)
  · exact q1
  · exact q2
  · exact q3
  · exact q4
  all_goals kernel_rfl
end Go.Proofs.YtliekocamnklfaaGreatDoor.twoFromOne
