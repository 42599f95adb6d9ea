/- tabulariumref08.Deep of a value in memory. -/
import Derived.Test.YtehffmcfmdjknaaGreatDoorRigB
import Derived.Test.YtehffmcfmdjknaaGreatDoorRigD
import Derived.Test.YtehffmcfmdjknaaGreatDoorJdecEq
import Derived.Test.YtehffmcfmdjknaaGreatDoorRefOB
import Derived.Test.YtehffmcfmdjknaaGreatDoorRefD
namespace Go.Proofs.YtehffmcfmdjknaaGreatDoor.Jdec
open Go.RowKit Go.Proofs.YtehffmcfmdjknaaGreatDoor.Strs
set_option linter.unusedVariables false
set_option linter.unusedSimpArgs false
set_option maxRecDepth 100000

theorem deepNs_snoc (v : JV) : ∀ l : List JV, deepNs (l ++ [v]) = max (deepNs l) v.deepN
  | [] => by rw [List.nil_append, deepNs_cons, deepNs_nil]; omega
  | u :: l => by rw [List.cons_append, deepNs_cons, deepNs_snoc v l, deepNs_cons]; omega
theorem take_next {vs : List JV} {i : Nat} (h : i < vs.length) : vs.take (i + 1) = vs.take i ++ [vs[i]] := by
  rw [List.take_add_one, List.getElem?_eq_getElem h]; rfl
theorem deepNs_take (vs : List JV) : ∀ i, deepNs (vs.take i) ≤ deepNs vs := by
  induction vs with
  | nil => intro i; simp
  | cons v t ih =>
    intro i
    cases i with
    | zero => rw [List.take_zero, deepNs_nil]; omega
    | succ i => rw [List.take_succ_cons, deepNs_cons, deepNs_cons]; have := ih i; omega
theorem deepNs_mem (vs : List JV) (j : Nat) (h : j < vs.length) : vs[j].deepN ≤ deepNs vs := by
  have := deepNs_take vs (j + 1)
  rw [take_next h, deepNs_snoc] at this
  omega
/-- A value in a variable of the call's own. -/
theorem own_new (w : World) (r : Raw) : ∃ w1, w.alloc (.cells #[.int .i64 r.kind, .bool r.is, .bool r.neg, .string r.dig, .int .i64 r.exp, .string r.str, .slice r.ka r.kn r.kc, .slice r.va r.vn r.vc] 29) = w1 ∧
    Hid (w1.heap[w.heap.size]? = some (.cells #[.int .i64 r.kind, .bool r.is, .bool r.neg, .string r.dig, .int .i64 r.exp, .string r.str, .slice r.ka r.kn r.kc, .slice r.va r.vn r.vc] 29 (0, 0))) ∧ Hid (Below w.heap.size w w1) :=
  ⟨_, rfl, heap_alloc_new _ _, (Below.refl _ _).alloc (Nat.le_refl _) _⟩
end Go.Proofs.YtehffmcfmdjknaaGreatDoor.Jdec
/- tabulariumref08.own of a value that is right. (Written by gen/rigg.py.) -/
namespace Go.Proofs.YtehffmcfmdjknaaGreatDoor.Jdec
open Go.RowKit Go.Proofs.YtehffmcfmdjknaaGreatDoor.Strs
set_option linter.unusedVariables false
set_option linter.unusedSimpArgs false
set_option maxRecDepth 100000

theorem same_num : ∀ w, Sem.run Tryz.prog (binOp BinOp.neq 25 (.agg #[.bool false, .string ⟨#[]⟩, .int .i64 0]) (.agg #[.bool false, .string ⟨#[]⟩, .int .i64 0])) w = .ok (.bool false) w := fun _ => by kernel_rfl
theorem text_ne {x d : ByteArray} (h : x ≠ d) : (x.toList == d.toList) = false := by
  rw [beq_eq_false_iff_ne]; intro e; apply h
  rw [ByteArray.toList_eq, ByteArray.toList_eq] at e
  cases x; cases d
  simp only [ByteArray.mk.injEq]
  exact Array.toList_inj.1 e
theorem right_size {n : Bool} {l : List UInt8} {x : Int} (h : Num.right n l x = true) : l.length ≤ 1000 := by
  unfold Num.right at h
  by_cases h0 : l = []
  · rw [h0]; exact Nat.zero_le _
  · rw [if_neg h0] at h
    by_cases h1 : 1000 < l.length ∨ x < -10000 ∨ 10000 < x
    · rw [if_pos h1] at h; cases h
    · omega
theorem txt_valid {l : List UInt8} (h : Utf.Txt l) : Utf.validB l = true := by
  unfold Utf.validB
  rw [h.good]; rfl
theorem right_call (n : Bool) (d : ByteArray) (x : Int) (h : Num.right n d.data.toList x = true) (w : World) : Calls Tryz.prog 60 #[.agg #[.bool n, .string d, .int .i64 x]] w fun e w' => e = .returned (.bool true) ∧ Below w.heap.size w w' := by
  have hd : d.size ≤ 1000 := by have := right_size h; simpa using this
  have := Num.rright_any n d x w (by omega)
  rw [h] at this
  exact this
end Go.Proofs.YtehffmcfmdjknaaGreatDoor.Jdec
