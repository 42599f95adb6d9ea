/- tabulariumref08.own of any value. (Written by gen/jenb.py.) -/
import Derived.Test.YtehffmcfmdjknaaGreatDoorJenA
import Derived.Laws.StructEq
namespace Go.Proofs.YtehffmcfmdjknaaGreatDoor.Jdec
open Go.RowKit Go.Proofs.YtehffmcfmdjknaaGreatDoor.Strs
set_option linter.unusedVariables false
set_option linter.unusedSimpArgs false
set_option maxRecDepth 100000

/-- A call that tells yes or no; where it says yes something holds. -/
def BPost (P : Prop) (w : World) (x : Ending) (w' : World) : Prop := ∃ b, x = .returned (.bool b) ∧ (b = true → P) ∧ Below w.heap.size w w'
theorem BPost.mk {P : Prop} {w w' : World} {x : Ending} (b : Bool) (hx : x = .returned (.bool b)) (hb : b = true → P) (hB : Below w.heap.size w w') : BPost P w x w' := ⟨b, hx, hb, hB⟩
/-- A value is right, but for its kids and how deep it is. -/
structure OwnQ (k : Int) (is neg : Bool) (dig : ByteArray) (exp : Int) (str : ByteArray) (keys : List ByteArray) (n : Nat) : Prop where
  k1 : 1 ≤ k
  k6 : k ≤ 6
  is : k ≠ 2 → is = false
  num : k ≠ 3 → neg = false ∧ dig = ⟨#[]⟩ ∧ exp = 0
  text : k ≠ 4 → str = ⟨#[]⟩
  kids : k < 5 → n = 0
  noKeys : k ≠ 6 → keys = []
  right : Num.right neg dig.data.toList exp = true
  valid : Utf.validB str.data.toList = true
  both : k = 6 → keys.length = n
  words : ∀ x ∈ keys, Utf.validB x.data.toList = true
  apart : keys.Nodup
theorem toList_nil {s : ByteArray} (h : s ≠ ⟨#[]⟩) : s.toList.isEmpty = false := by
  rw [ByteArray.toList_eq]
  cases s with
  | mk a =>
    rw [List.isEmpty_eq_false_iff]
    intro e
    exact h (by rw [ByteArray.mk.injEq]; exact Array.toList_inj.1 e)
theorem take_nodup {ks : List ByteArray} {i : Nat} (h : i < ks.length) (hn : (ks.take i).Nodup) (hx : ∀ j (hj : j < i), ks[j]'(by omega) ≠ ks[i]) : (ks.take (i + 1)).Nodup := by
  rw [List.take_add_one, List.getElem?_eq_getElem h]
  show (ks.take i ++ [ks[i]]).Nodup
  rw [List.nodup_append]
  refine ⟨hn, by simp, fun a ha b hb e => ?_⟩
  rw [List.mem_singleton.1 hb] at e
  obtain ⟨j, hj, rfl⟩ := List.getElem_of_mem ha
  rw [List.length_take] at hj
  exact hx j (by omega) (by rw [← e, List.getElem_take])

end Go.Proofs.YtehffmcfmdjknaaGreatDoor.Jdec
