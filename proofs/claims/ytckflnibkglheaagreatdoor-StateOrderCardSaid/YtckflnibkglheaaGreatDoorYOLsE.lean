/- tabulariumlaw18.StatePuts. -/
import Derived.Test.YtckflnibkglheaaGreatDoorYOLsC
import Derived.Test.YtckflnibkglheaaGreatDoorYOOpS
namespace Go.Proofs.YtckflnibkglheaaGreatDoor.State
open Go.RowKit Go.Shelf Go.Proofs.YtckflnibkglheaaGreatDoor.Utf Go.Proofs.YtckflnibkglheaaGreatDoor.Strs Go.Proofs.YtckflnibkglheaaGreatDoor.Addr
open Go.Proofs.YtckflnibkglheaaGreatDoor.Jdec (IsTexts Turn infoStr gb_set gb_below gb_refl)
set_option linter.unusedVariables false
set_option linter.unusedSimpArgs false
set_option maxRecDepth 100000

/-- Put in its place. -/
def PutIs (l : List Rec) (r : Rec) (l' : List Rec) : Prop := ∃ i nx, Place l (printA r.a) i ∧ Next l (printA r.a) i nx ∧ l' = putR l r i nx
theorem PutIs.good {l l' : List Rec} {r : Rec} (h : PutIs l r l') (hg : Good l) (hr : recB r = true) (hs : Small r) : Good l' := by
 obtain ⟨i, nx, h1, h2, rfl⟩ := h
 exact good_put hg hr hs h1 h2
theorem PutIs.mem {l l' : List Rec} {r : Rec} (h : PutIs l r l') (hg : Good l) (hr : recB r = true) (hs : Small r) (x : Rec) : x ∈ l' ↔ x = r ∨ x ∈ l ∧ x.a ≠ r.a := by
 obtain ⟨i, nx, h1, h2, rfl⟩ := h
 exact mem_put hg hr hs h1 h2 x
theorem PutIs.len {l l' : List Rec} {r : Rec} (h : PutIs l r l') : l'.length ≤ l.length + 1 := by
 obtain ⟨i, nx, h1, h2, rfl⟩ := h
 have h3 := next_le h2 h1
 rw [putR, List.length_append, List.length_cons, List.length_take, List.length_drop]; omega
theorem PutIs.both {l l' l2 : List Rec} {r : Rec} {k : Nat} (h : PutIs l r l') (hg : Good l) (hr : recB r = true) (hs : Small r) (hl : (∃ j, ∃ hj : j < l.length, l[j].a = r.a ∧ l2 = dropR l j) ∨ ((∀ x ∈ l, x.a ≠ r.a) ∧ l2 = l)) (hB : Behind l2 (printA r.a) k) : putR l2 r k k = l' := by
 obtain ⟨i, nx, h1, h2, rfl⟩ := h
 exact put_both hg hr hs h1 h2 hl hB
theorem gr18_ok (r : Rec) (p : At) (w : World) (h : RecIn w p r) : Hid (Calls Tryz.prog 16 #[.agg #[.slice p.pa r.a.path.length p.pc, .string r.a.type, .string r.a.name, .int .i64 r.a.key, .int .u64 r.a.place, .string r.a.word, .string r.prov, .string r.id, .slice p.ta r.attrs.length p.tc]] w (GrPost r w)) := gr_ok r p w h
theorem pu_ok (s : Sta) (ra : Option Addr) (rc : Nat) (r : Rec) (p : At) (w : World) (h : StaAt w ra rc s) (hi : IsRec w (fun _ => True) p r) (hs : Small r) (hn : s.recs.length ≤ 2000) (T : TabsA w) : Hid (Calls Tryz.prog 19 #[.agg #[.int .u64 s.serial, .string s.lin, .slice ra s.recs.length rc], .agg #[.slice p.pa r.a.path.length p.pc, .string r.a.type, .string r.a.name, .int .i64 r.a.key, .int .u64 r.a.place, .string r.a.word, .string r.prov, .string r.id, .slice p.ta r.attrs.length p.tc]] w (PuPost s r w)) := put_any s ra rc r p w h hi hs hn T
end Go.Proofs.YtckflnibkglheaaGreatDoor.State
