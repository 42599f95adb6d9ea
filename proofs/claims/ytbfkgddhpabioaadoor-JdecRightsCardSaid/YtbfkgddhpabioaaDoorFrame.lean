/- Frames: what a call leaves as it was. -/
import Derived.Test.YtbfkgddhpabioaaDoorProg
import Derived.WalkKit
import Derived.Below
import Derived.Lib.Builder
import Derived.BigQuiet
import Derived.Deep.QuietTactic
namespace Go.Proofs.YtbfkgddhpabioaaDoor
open Go.RowKit
set_option linter.unusedVariables false

/-- Below B all is as it was; and so is every block but b that is no row of bytes. -/
structure Keeps (B b : Nat) (w w' : World) : Prop where
  below : Below B w w'
  block : ∀ k, k < w.heap.size → k ≠ b → (∀ c fr, w.heap[k]? ≠ some (.cells c 5 fr)) → w'.heap[k]? = w.heap[k]?
theorem Keeps.refl (B b : Nat) (w : World) : Keeps B b w w := ⟨Below.refl _ _, fun _ _ _ _ => rfl⟩
theorem Keeps.trans {B b : Nat} {x y z : World} (h : Keeps B b x y) (k : Keeps B b y z) : Keeps B b x z :=
  ⟨h.below.trans k.below, fun i hi hb hn => by
    have e := h.block i hi hb hn
    rw [← e]
    exact k.block i (Nat.lt_of_lt_of_le hi h.below.size) hb (fun c fr => by rw [e]; exact hn c fr)⟩
theorem Keeps.alloc {B b : Nat} {x w : World} (h : Keeps B b x w) (hB : B ≤ w.heap.size) (o : Obj) : Keeps B b x (w.alloc o) :=
  h.trans ⟨(Below.refl _ _).alloc hB _, fun k hk _ _ => Below.heap_alloc _ _ _ hk⟩
theorem Keeps.setCell {B b : Nat} {x w : World} (h : Keeps B b x w) {p : Addr} (hp : p.block = b) (hB : B ≤ b) (u : Value) : Keeps B b x (w.setCell p u) :=
  h.trans ⟨(Below.refl _ _).setCell (by omega) _, fun k _ hb _ => Below.heap_setCell _ _ _ _ (by omega)⟩
theorem Keeps.drewN {B b : Nat} {x w : World} (h : Keeps B b x w) (n : Nat) : Keeps B b x (w.drewN n) := ⟨⟨h.below.os, h.below.tape, h.below.output, h.below.size, h.below.block⟩, h.block⟩
theorem Keeps.grown {B b : Nat} {x w w' : World} {row : Option Nat} (h : Keeps B b x w) (hg : w.grownBy w' row) (hB : B ≤ w.heap.size) (hr : ∀ k, row = some k → B ≤ k)
    (hrow : ∀ k, row = some k → ∃ c fr, w.heap[k]? = some (.cells c 5 fr)) : Keeps B b x w' :=
  h.trans ⟨(Below.refl _ _).grown hg hB hr, fun k hk _ hn => hg.block k hk (fun e => by obtain ⟨c, fr, hc⟩ := hrow k e.symm; exact hn c fr hc)⟩
theorem Keeps.of_below {B b : Nat} {w w' : World} (h : Below w.heap.size w w') (hB : B ≤ w.heap.size) : Keeps B b w w' :=
  ⟨h.mono hB, fun k hk _ _ => h.block k hk⟩

theorem below_drewN (B : Nat) (w : World) (n : Nat) : Below B w (w.drewN n) := ⟨rfl, rfl, rfl, Nat.le_refl _, fun _ _ => rfl⟩
theorem heap_alloc_new (w : World) (o : Obj) : (w.alloc o).heap[w.heap.size]? = some o := by
  show (w.heap.push o)[w.heap.size]? = _
  simp
theorem heap_alloc_old {w : World} {o o' : Obj} {k : Nat} (h : w.heap[k]? = some o') : (w.alloc o).heap[k]? = some o' :=
  (Below.heap_alloc w o k (Array.getElem?_eq_some_iff.1 h).1).trans h
theorem heap_set_same {w : World} {b i : Nat} {c : Array Value} {e : TypeId} {fr : Nat × Nat} (h : w.heap[b]? = some (.cells c e fr)) (v : Value) :
    (w.setCell ⟨b, i, none⟩ v).heap[b]? = some (.cells (c.setIfInBounds i v) e fr) := by
  simp [World.setCell, Array.getElem?_modify, h]
theorem heap_set_other {w : World} {b i k : Nat} {o : Obj} (h : w.heap[k]? = some o) (hk : k ≠ b) (v : Value) :
    (w.setCell ⟨b, i, none⟩ v).heap[k]? = some o := (Below.heap_setCell w _ v k hk).trans h
theorem heap_lt {w : World} {k : Nat} {o : Obj} (h : w.heap[k]? = some o) : k < w.heap.size := (Array.getElem?_eq_some_iff.1 h).1
theorem cell_of {w : World} {b : Nat} {cs : Array Value} {T : TypeId} {fr : Nat × Nat} (hb : w.heap[b]? = some (.cells cs T fr)) (j : Nat) : w.cell? ⟨b, j, none⟩ = cs[j]? := by
  simp [World.cell?, hb]
theorem frozen_of {w : World} {b : Nat} {cs : Array Value} {T : TypeId} (hb : w.heap[b]? = some (.cells cs T (0, 0))) (j : Nat) : w.frozen? ⟨b, j, none⟩ = false := by
  simp [World.frozen?, hb]
theorem shape_of {w : World} {b : Nat} {cs : Array Value} {T : TypeId} {fr : Nat × Nat} (hb : w.heap[b]? = some (.cells cs T fr)) : w.shape? b = some (T, cs.size) := by
  simp [World.shape?, hb]
end Go.Proofs.YtbfkgddhpabioaaDoor
