/- quote.reader: next and fail. -/
import Derived.Test.YtbfkgddhpabioaaDoorBldS
import Derived.Deep.DeepCutAuto
import Derived.WalkSmall
namespace Go.Proofs.YtbfkgddhpabioaaDoor.Quote
open Go.RowKit
set_option linter.unusedVariables false
set_option linter.unusedSimpArgs false
set_option maxRecDepth 100000

/-- What is thrown: an error's number. -/
def thrown (k : Int) : List PanicEntry := [{ v := .iface 103 (.agg #[.int .i64 k]), recovered := false }]

/-- A reader at block b: its text, its place, and what was written. -/
structure Rdr (w : World) (B b : Nat) (src : ByteArray) (p : Nat) (out : List UInt8) : Prop where
  mk ::
  it : ∃ cs, Bl w B b 2 110 cs out ∧ cs.size = 4 ∧ cs[0]? = some (.string src) ∧ cs[1]? = some (.int .i64 p)

theorem Rdr.c0 {w : World} {B b : Nat} {src : ByteArray} {p : Nat} {out : List UInt8} (h : Rdr w B b src p out) : w.cell? ⟨b, 0, none⟩ = some (.string src) := by
  obtain ⟨cs, hb, hs, h0, h1⟩ := h.it; rw [cell_of hb.blk]; exact h0
theorem Rdr.c1 {w : World} {B b : Nat} {src : ByteArray} {p : Nat} {out : List UInt8} (h : Rdr w B b src p out) : w.cell? ⟨b, 1, none⟩ = some (.int .i64 p) := by
  obtain ⟨cs, hb, hs, h0, h1⟩ := h.it; rw [cell_of hb.blk]; exact h1
theorem Rdr.f1 {w : World} {B b : Nat} {src : ByteArray} {p : Nat} {out : List UInt8} (h : Rdr w B b src p out) : w.frozen? ⟨b, 1, none⟩ = false := by
  obtain ⟨cs, hb, hs, h0, h1⟩ := h.it; exact frozen_of hb.blk _
theorem Rdr.lt {w : World} {B b : Nat} {src : ByteArray} {p : Nat} {out : List UInt8} (h : Rdr w B b src p out) : b < w.heap.size := by
  obtain ⟨cs, hb, hs, h0, h1⟩ := h.it; exact hb.lt
theorem Rdr.hB {w : World} {B b : Nat} {src : ByteArray} {p : Nat} {out : List UInt8} (h : Rdr w B b src p out) : B ≤ b := by
  obtain ⟨cs, hb, hs, h0, h1⟩ := h.it; exact hb.hB
theorem Rdr.drewN {w : World} {B b : Nat} {src : ByteArray} {p : Nat} {out : List UInt8} (h : Rdr w B b src p out) (n : Nat) : Rdr (w.drewN n) B b src p out := by
  obtain ⟨cs, hb, hs, h0, h1⟩ := h.it; exact ⟨cs, hb.stays (below_drewN _ _ _), hs, h0, h1⟩
theorem Rdr.stays {w w' : World} {B b : Nat} {src : ByteArray} {p : Nat} {out : List UInt8} (h : Rdr w B b src p out) (hw : Below w.heap.size w w') : Rdr w' B b src p out := by
  obtain ⟨cs, hb, hs, h0, h1⟩ := h.it; exact ⟨cs, hb.stays hw, hs, h0, h1⟩
theorem Rdr.setAt {w : World} {B b : Nat} {src : ByteArray} {p : Nat} {out : List UInt8} (h : Rdr w B b src p out) (q : Nat) : Rdr (w.setCell ⟨b, 1, none⟩ (.int .i64 q)) B b src q out := by
  obtain ⟨cs, hb, hs, h0, h1⟩ := h.it
  obtain ⟨v, hv, ho⟩ := hb.buf
  have hne := Lib.ownBlock_ne ho hb.blk hb.ne
  refine ⟨cs.setIfInBounds 1 (.int .i64 q), ⟨hb.hB, heap_set_same hb.blk _, by simpa using hb.size, ?_, ⟨v, ?_, ?_⟩, hb.ne, by simpa using hb.lies⟩, by simpa using hs, ?_, ?_⟩
  · rw [Array.getElem?_setIfInBounds_ne (by omega)]; exact hb.ptr
  · rw [Array.getElem?_setIfInBounds_ne (by omega)]; exact hv
  · exact ho.kept (row := some b) ⟨rfl, rfl, rfl, by simp [World.setCell], fun k _ hk => Below.heap_setCell _ _ _ _ (fun e => hk (by simp [e]))⟩ (Or.inr hne)
  · rw [Array.getElem?_setIfInBounds_ne (by omega)]; exact h0
  · rw [Array.getElem?_setIfInBounds_self_of_lt (by omega)]

/-- What a reader's call leaves: an error thrown, or a value, a place and what was written. -/
def RPost (B b : Nat) (src : ByteArray) (w : World) (r : Except Nat (Value × Nat × List UInt8)) (e : Ending) (w' : World) : Prop :=
  Keeps B b w w' ∧ match r with
    | .error k => e = .panicked (thrown k)
    | .ok (v, p, out) => e = .returned v ∧ Rdr w' B b src p out

theorem fail_any (k : Int) (w : World) : Calls Tryd.prog 93 #[.int .i64 k] w fun e w' => e = .panicked (thrown k) ∧ w = w' := by
  go_enter Tryd.func93, Tryd.ntmps93
  go_wp2
  exact ⟨rfl, rfl, rfl⟩

theorem next_end (B b : Nat) (src : ByteArray) (p : Nat) (out : List UInt8) (w : World) (h : Rdr w B b src p out) (hp : src.size ≤ p) (hp2 : p ≤ 4611686018427387904) (hs : src.size ≤ 4611686018427387904) :
    Calls Tryd.prog 92 #[.pointer (some ⟨b, 0, none⟩)] w (RPost B b src w (.error 2)) := by
  have c0 := h.c0
  have c1 := h.c1
  have H := Hid.out (p := Hid _) h; clear h
  go_enter Tryd.func92, Tryd.ntmps92
  go_wp2_with fail
  go_quiet (fail)
  go_wp2_with fail
  refine (fail_any 2 _).mono ?_
  rintro e w' ⟨rfl, rfl⟩
  go_wp2_with fail
  exact ⟨rfl, (Keeps.refl _ _ _).drewN _, rfl⟩

theorem next_ok (B b : Nat) (src : ByteArray) (p : Nat) (out : List UInt8) (w : World) (h : Rdr w B b src p out) (hp : p < src.size) (hs : src.size ≤ 4611686018427387904) :
    Calls Tryd.prog 92 #[.pointer (some ⟨b, 0, none⟩)] w (RPost B b src w (.ok (.int .u8 src[p].toNat, p + 1, out))) := by
  have c0 := h.c0
  have c1 := h.c1
  have f1 := h.f1
  have hb := h.hB
  have hlt := h.lt
  have H := Hid.out (p := Hid _) h; clear h
  go_enter Tryd.func92, Tryd.ntmps92
  go_wp2_with fail
  go_quiet (fail)
  go_wp2_with fail
  go_quiet (fail)
  go_wp2_with fail
  go_ret
  exact ⟨(((Keeps.refl B b w).drewN _).setCell (p := ⟨b, 1, none⟩) rfl hb _).drewN _, rfl, ((H.out.drewN _).setAt (p + 1)).drewN _⟩
end Go.Proofs.YtbfkgddhpabioaaDoor.Quote
