/- The closed facts of the row twoUpsRow: what its function reaches, names and reads. -/
import Derived.Test.YtliekocamnklfaaGreatDoorRows
import Derived.JoinedOf
set_option linter.unusedVariables false
namespace Go.Proofs.YtliekocamnklfaaGreatDoor.twoUps
theorem q1:(Rows.twoUpsRow.inPlace == Tryz.pinned.checked.prog.inPlace 5)=true:=by kernel_rfl
theorem q2:(Rows.twoUpsRow.unfollowed == Tryz.pinned.checked.prog.unfollowed 5)=true:=by kernel_rfl
theorem q3:(Rows.twoUpsRow.recurses == Tryz.pinned.checked.prog.recurses 5)=true:=by kernel_rfl
theorem q4:(Rows.twoUpsRow.named == Tryz.pinned.checked.prog.varsNamed 5)=true:=by kernel_rfl
theorem facts:joinedFacts Tryz.pinned.checked.prog 5 Tryz.f5 (OpenSpec.ofChange Rows.twoUpsSpec).bare Rows.twoUpsRow=true:=by
  unfold joinedFacts;simp only [Bool.and_eq_true]
  and_intros
  iterate 9 (· kernel_rfl)
  · exact q1
  · exact q2
  · exact q3
  · exact q4
  all_goals kernel_rfl
end Go.Proofs.YtliekocamnklfaaGreatDoor.twoUps
