/- tabulariumlaw18.StatePuts. -/
import Derived.Test.YtckflnibkglheaaGreatDoorYSLsC
import Derived.Test.YtckflnibkglheaaGreatDoorYSOpS
namespace Go.Proofs.YtckflnibkglheaaGreatDoor.State
open Go.RowKit Go.Shelf Go.Proofs.YtckflnibkglheaaGreatDoor.Utf Go.Proofs.YtckflnibkglheaaGreatDoor.Strs Go.Proofs.YtckflnibkglheaaGreatDoor.Addr
open Go.Proofs.YtckflnibkglheaaGreatDoor.Jdec (IsTexts Turn infoStr gb_set gb_below gb_refl)
set_option linter.unusedVariables false
set_option linter.unusedSimpArgs false
set_option maxRecDepth 100000

/-- Put in its place. -/
def PutIs (l : List Rec) (r : Rec) (l' : List Rec) : Prop := ∃ i nx, Place l (printA r.a) i ∧ Next l (printA r.a) i nx ∧ l' = putR l r i nx
theorem PutIs.mem {l l' : List Rec} {r : Rec} (h : PutIs l r l') (hg : Good l) (hr : recB r = true) (hs : Small r) (x : Rec) : x ∈ l' ↔ x = r ∨ x ∈ l ∧ x.a ≠ r.a := by
 obtain ⟨i, nx, h1, h2, rfl⟩ := h
 exact mem_put hg hr hs h1 h2 x
theorem PutIs.len {l l' : List Rec} {r : Rec} (h : PutIs l r l') : l'.length ≤ l.length + 1 := by
 obtain ⟨i, nx, h1, h2, rfl⟩ := h
 have h3 := next_le h2 h1
 rw [putR, List.length_append, List.length_cons, List.length_take, List.length_drop]; omega
theorem PutIs.both {l l' l2 : List Rec} {r : Rec} {k : Nat} (h : PutIs l r l') (hg : Good l) (hr : recB r = true) (hs : Small r) (hl : (∃ j, ∃ hj : j < l.length, l[j].a = r.a ∧ l2 = dropR l j) ∨ ((∀ x ∈ l, x.a ≠ r.a) ∧ l2 = l)) (hB : Behind l2 (printA r.a) k) : putR l2 r k k = l' := by
 obtain ⟨i, nx, h1, h2, rfl⟩ := h
 exact put_both hg hr hs h1 h2 hl hB
end Go.Proofs.YtckflnibkglheaaGreatDoor.State
