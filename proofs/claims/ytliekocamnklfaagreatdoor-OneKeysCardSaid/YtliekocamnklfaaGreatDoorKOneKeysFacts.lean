/- The closed facts of the row oneKeysRow: what its function reaches, names and reads. -/
import Derived.Test.YtliekocamnklfaaGreatDoorRows
import Derived.JoinedOf
set_option linter.unusedVariables false
namespace Go.Proofs.YtliekocamnklfaaGreatDoor.oneKeys
theorem q1:(Rows.oneKeysRow.inPlace == Tryz.pinned.checked.prog.inPlace 4)=true:=by kernel_rfl
theorem q2:(Rows.oneKeysRow.unfollowed == Tryz.pinned.checked.prog.unfollowed 4)=true:=by kernel_rfl
theorem q3:(Rows.oneKeysRow.recurses == Tryz.pinned.checked.prog.recurses 4)=true:=by kernel_rfl
theorem q4:(Rows.oneKeysRow.named == Tryz.pinned.checked.prog.varsNamed 4)=true:=by kernel_rfl
theorem facts:joinedFacts Tryz.pinned.checked.prog 4 Tryz.f4 (OpenSpec.ofChange Rows.oneKeysSpec).bare Rows.oneKeysRow=true:=by
  unfold joinedFacts;simp only [Bool.and_eq_true]
  and_intros
  iterate 9 (· kernel_rfl)
  · exact q1
  · exact q2
  · exact q3
  · exact q4
  all_goals kernel_rfl
end Go.Proofs.YtliekocamnklfaaGreatDoor.oneKeys
