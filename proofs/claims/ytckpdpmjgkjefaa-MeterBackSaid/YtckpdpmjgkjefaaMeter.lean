/-
  The contracts of package meter: what New, Take, Give, Used, Left, Peak, Refused do to a meter in memory.
-/
import Derived.Test.YtckpdpmjgkjefaaRows
import Derived.Test.YtckpdpmjgkjefaaAtom
import Derived.WalkKit
import Derived.BigQuiet
import Derived.Deep.QuietTactic
import Derived.OneCell
namespace Go.Proofs.Ytckpdpmjgkjefaa.Meter
open Go.RowKit Go.Proofs.Ytckpdpmjgkjefaa.Atom

/-- All blocks of w but block b are in w' what they were. -/
structure Ex (b : Nat) (w w' : World) : Prop where
  os : w'.os = w.os
  tape : w'.tape = w.tape
  output : w'.output = w.output
  size : w.heap.size ≤ w'.heap.size
  block : ∀ k, k < w.heap.size → k ≠ b → w'.heap[k]? = w.heap[k]?
theorem Ex.refl (b : Nat) (w : World) : Ex b w w := ⟨rfl, rfl, rfl, Nat.le_refl _, fun _ _ _ => rfl⟩
theorem Ex.trans {b : Nat} {x y z : World} (h : Ex b x y) (k : Ex b y z) : Ex b x z :=
  ⟨k.os.trans h.os, k.tape.trans h.tape, k.output.trans h.output, Nat.le_trans h.size k.size, fun i hi hb => (k.block i (Nat.lt_of_lt_of_le hi h.size) hb).trans (h.block i hi hb)⟩
theorem Ex.drew {b : Nat} {x w : World} (h : Ex b x w) : Ex b x w.drew := ⟨h.os, h.tape, h.output, h.size, h.block⟩
theorem Ex.alloc {b : Nat} {x w : World} (h : Ex b x w) (o : Obj) : Ex b x (w.alloc o) :=
  h.trans ⟨rfl, rfl, rfl, by simp, fun k hk _ => Below.heap_alloc _ _ _ hk⟩
theorem Ex.setCell {b : Nat} {x w : World} (h : Ex b x w) {p : Addr} (hp : p.block = b ∨ x.heap.size ≤ p.block) (u : Value) : Ex b x (w.setCell p u) :=
  ⟨h.os, h.tape, h.output, by simp [World.setCell]; exact h.size, fun k hk hb => (Below.heap_setCell _ _ _ _ (by omega)).trans (h.block k hk hb)⟩
theorem Ex.below {b B : Nat} {w w' : World} (h : Ex b w w') (hB : B ≤ b) (hs : B ≤ w.heap.size) : Below B w w' :=
  ⟨h.os, h.tape, h.output, h.size, fun k hk => h.block k (by omega) (by omega)⟩

/-- Block b is a meter, block r what it shows. -/
structure Mtr (w : World) (b r : Nat) (l u p f : Int) : Prop where
  ne : b ≠ r
  own : w.heap[b]? = some (.cells #[.int .i64 l, .pointer (some ⟨r, 0, none⟩)] 46)
  shown : w.heap[r]? = some (.cells #[.int .i64 u, .int .i64 p, .int .i64 f] 49)

theorem Mtr.c0 {w : World} {b r : Nat} {l u p f : Int} (h : Mtr w b r l u p f) : w.cell? ⟨b, 0, none⟩ = some (.int .i64 l) := by simp [World.cell?, h.own]
theorem Mtr.c1 {w : World} {b r : Nat} {l u p f : Int} (h : Mtr w b r l u p f) : w.cell? ⟨b, 1, none⟩ = some (.pointer (some ⟨r, 0, none⟩)) := by simp [World.cell?, h.own]
theorem Mtr.r0 {w : World} {b r : Nat} {l u p f : Int} (h : Mtr w b r l u p f) : w.cell? ⟨r, 0, none⟩ = some (.int .i64 u) := by simp [World.cell?, h.shown]
theorem Mtr.r1 {w : World} {b r : Nat} {l u p f : Int} (h : Mtr w b r l u p f) : w.cell? ⟨r, 1, none⟩ = some (.int .i64 p) := by simp [World.cell?, h.shown]
theorem Mtr.r2 {w : World} {b r : Nat} {l u p f : Int} (h : Mtr w b r l u p f) : w.cell? ⟨r, 2, none⟩ = some (.int .i64 f) := by simp [World.cell?, h.shown]
theorem Mtr.f1 {w : World} {b r : Nat} {l u p f : Int} (h : Mtr w b r l u p f) : w.frozen? ⟨b, 1, none⟩ = false := by simp [World.frozen?, h.own]
theorem Mtr.sh {w : World} {b r : Nat} {l u p f : Int} (h : Mtr w b r l u p f) : w.shape? r = some (49, 3) := by simp [World.shape?, h.shown]
theorem Mtr.lt {w : World} {b r : Nat} {l u p f : Int} (h : Mtr w b r l u p f) : b < w.heap.size ∧ r < w.heap.size :=
  ⟨(Array.getElem?_eq_some_iff.1 h.own).1, (Array.getElem?_eq_some_iff.1 h.shown).1⟩
theorem Mtr.ex {w w' : World} {b r c : Nat} {l u p f : Int} (h : Mtr w b r l u p f) (hx : Ex c w w') (hb : b ≠ c) (hr : r ≠ c) : Mtr w' b r l u p f :=
  ⟨h.ne, (hx.block b h.lt.1 hb).trans h.own, (hx.block r h.lt.2 hr).trans h.shown⟩
theorem Mtr.drew {w : World} {b r : Nat} {l u p f : Int} (h : Mtr w b r l u p f) : Mtr w.drew b r l u p f := ⟨h.ne, h.own, h.shown⟩

theorem load_any (b r : Nat) (w : World) (h1 : w.cell? ⟨b, 1, none⟩ = some (.pointer (some ⟨r, 0, none⟩))) (hs : w.shape? r = some (49, 3)) :
    Calls Try.prog 20 #[.pointer (some ⟨b, 1, none⟩)] w fun e w' => e = .returned (.pointer (some ⟨r, 0, none⟩)) ∧ w = w' := by
  have hl := run_call_loadp (P := Try.prog) Try.func23 (by kernel_rfl) (by kernel_rfl) (by kernel_rfl) (by kernel_rfl) h1
  have hv := run_from_unsafe (P := Try.prog) (src := 42) (dst := 38) (t := 49) (by kernel_rfl) (by kernel_rfl) (by kernel_rfl) (a := ⟨r, 0, none⟩) hs (by kernel_rfl)
  go_enter Try.func20, Try.ntmps20
  go_wp2
  go_ret
  exact ⟨rfl, rfl⟩

theorem store_any (b r : Nat) (u v : Value) (w : World) (h1 : w.cell? ⟨b, 1, none⟩ = some u) (f1 : w.frozen? ⟨b, 1, none⟩ = false) (hr : w.cell? ⟨r, 0, none⟩ = some v) :
    Calls Try.prog 19 #[.pointer (some ⟨b, 1, none⟩), .pointer (some ⟨r, 0, none⟩)] w fun e w' => e = .returned (.tuple #[]) ∧ w.setCell ⟨b, 1, none⟩ (.pointer (some ⟨r, 0, none⟩)) = w' := by
  have hl := run_call_storep (P := Try.prog) Try.func22 (by kernel_rfl) (by kernel_rfl) (by kernel_rfl) (by kernel_rfl) (y := some ⟨r, 0, none⟩) h1 f1
  have hv := run_convert_to_unsafe (P := Try.prog) (src := 38) (dst := 42) (t := 49) (by kernel_rfl) (by kernel_rfl) (by kernel_rfl) hr
  go_enter Try.func19, Try.ntmps19
  go_wp2
  go_end0
  exact ⟨rfl, rfl⟩

theorem cas_any (b r n : Nat) (v v' : Value) (w : World) (h1 : w.cell? ⟨b, 1, none⟩ = some (.pointer (some ⟨r, 0, none⟩))) (f1 : w.frozen? ⟨b, 1, none⟩ = false) (hr : w.cell? ⟨r, 0, none⟩ = some v) (hn : w.cell? ⟨n, 0, none⟩ = some v') :
    Calls Try.prog 21 #[.pointer (some ⟨b, 1, none⟩), .pointer (some ⟨r, 0, none⟩), .pointer (some ⟨n, 0, none⟩)] w fun e w' => e = .returned (.bool true) ∧ w.setCell ⟨b, 1, none⟩ (.pointer (some ⟨n, 0, none⟩)) = w' := by
  have hl := run_call_casp (P := Try.prog) Try.func24 (by kernel_rfl) (by kernel_rfl) (by kernel_rfl) (by kernel_rfl) (y := some ⟨n, 0, none⟩) h1 f1
  have hv := run_convert_to_unsafe (P := Try.prog) (src := 38) (dst := 42) (t := 49) (by kernel_rfl) (by kernel_rfl) (by kernel_rfl) hr
  have hv' := run_convert_to_unsafe (P := Try.prog) (src := 38) (dst := 42) (t := 49) (by kernel_rfl) (by kernel_rfl) (by kernel_rfl) hn
  go_enter Try.func21, Try.ntmps21
  go_wp2
  go_ret
  exact ⟨rfl, rfl⟩
end Go.Proofs.Ytckpdpmjgkjefaa.Meter
