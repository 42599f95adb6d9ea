/- A slice of operations that came in. -/
import Derived.Test.YtckpdpmjgkjefaaMeter5
import Derived.Test.YtckpdpmjgkjefaaLift
import Derived.Deep.LoopGhost
import Derived.Outline
namespace Go.Proofs.Ytckpdpmjgkjefaa.Meter
open Go.RowKit Go.Proofs.Ytckpdpmjgkjefaa.Atom Go.ChangeShapes Go.WideShapes Go.ChangeAt
set_option linter.unusedVariables false

structure OpsAt (w : World) (a : Option Addr) (len cap : Nat) (g : Nat → Bool) (n : Nat → Int) : Prop where
  some : ∀ i, i < len → ∃ x, a = Option.some x ∧ x.spot = none ∧ x.block < w.heap.size ∧ w.cell? ⟨x.block, x.off + i * 2, none⟩ = Option.some (.bool (g i)) ∧ w.cell? ⟨x.block, x.off + i * 2 + 1, none⟩ = Option.some (.int .i64 (n i)) ∧ -9223372036854775808 ≤ n i ∧ n i ≤ 9223372036854775807
  le : len ≤ 9223372036854775807

theorem cell_lt {w : World} {a : Addr} {v : Value} (h : w.cell? a = some v) : a.block < w.heap.size := by
  unfold World.cell? at h
  split at h
  · rename_i hb; exact (Array.getElem?_eq_some_iff.1 hb).1
  · cases h

theorem add_plain {x : Addr} (h : x.spot = none) (n : Nat) : x.add n = ⟨x.block, x.off + n, none⟩ := by
  obtain ⟨b, o, sp⟩ := x
  simp only at h
  subst h
  unfold Addr.add
  split <;> simp_all

theorem open_ops {H : Type} {enc : TypeId × Value → H} {W : World} {r : Reach} {b0 : Nat} {v : Value} {d : DataW H} {ps : List MemPlace}
    (hval : Value.okWide Try.prog W r b0 28 v) (h : DataW.Trod enc Try.prog W 0 (fun _ => true) true 28 v d ps) :
    ∃ x : Option Addr × Nat × Nat × (Nat → Bool) × (Nat → Int), v = .slice x.1 x.2.1 x.2.2.1 ∧ OpsAt W x.1 x.2.1 x.2.2.1 x.2.2.2.1 x.2.2.2.2 := by
  obtain ⟨a, len, cap, rfl⟩ := okWide_slice Try.underlying28 hval
  obtain ⟨fuel, hf⟩ := h
  rcases Deep.open_slice Try.underlying28 hf with ⟨hcs, _⟩ | ⟨x, l, c, m, n, D, Pl, hcs, _, hl, hm, hmm, _, hx⟩
  · simp [Value.cells] at hcs
    obtain ⟨rfl, rfl, rfl⟩ := hcs
    exact ⟨(none, 0, 0, fun _ => false, fun _ => 0), rfl, ⟨fun i hi => absurd hi (by simp), by simp⟩⟩
  · simp [Value.cells] at hcs
    obtain ⟨rfl, rfl, rfl⟩ := hcs
    simp only [if_true] at hmm
    subst hmm
    have hc2 : Try.prog.cellsOf 34 = 2 := by kernel_rfl
    have key : ∀ i, i < len → ∃ y : Bool × Int, x.spot = none ∧ x.block < W.heap.size ∧ W.cell? ⟨x.block, x.off + i * 2, none⟩ = some (.bool y.1) ∧ W.cell? ⟨x.block, x.off + i * 2 + 1, none⟩ = some (.int .i64 y.2) ∧ -9223372036854775808 ≤ y.2 ∧ y.2 ≤ 9223372036854775807 := by
      intro i hi
      obtain ⟨cs, h1, h2⟩ := hx i (by omega)
      rw [hc2] at h1
      obtain ⟨y0, y1, k, _, hlen, e0, e1⟩ := trod_struct2 Try.underlying34 h2
      obtain ⟨_, hlen2, hce⟩ := World.cells?_some h1
      match cs, hlen2 with
      | [c0, c1], _ =>
        obtain ⟨g, hg, _⟩ := DataW.trod_bool Try.underlying4 e0
        obtain ⟨z, hz, _, wz⟩ := DataW.trod_int Try.underlying2 e1
        have q0 : c0 = .bool g := by simpa [show Try.prog.cellsOf 4 = 1 by kernel_rfl] using hg
        have q1 : c1 = .int .i64 z := by simpa [show Try.prog.cellsOf 2 = 1 by kernel_rfl] using hz
        have r0 := hce 0 (by omega)
        have r1 := hce 1 (by omega)
        simp only [List.getElem?_cons_zero, List.getElem?_cons_succ, q0, q1] at r0 r1
        have s1 := World.cell?_spot r1
        have s0 := World.cell?_spot r0
        have hsp : x.spot = none := by
          by_cases h0 : i = 0
          · subst h0; simpa [Addr.add] using s0
          · have r00 := hx 0 (by omega)
            obtain ⟨cs0, h10, _⟩ := r00
            rw [hc2] at h10
            obtain ⟨_, hl0, hc0⟩ := World.cells?_some h10
            have t0 := hc0 0 (by omega)
            match cs0, hl0 with
            | [u0, u1], _ => simpa [Addr.add] using World.cell?_spot t0
        rw [add_plain hsp, add_plain rfl] at r0 r1
        exact ⟨(g, z), hsp, by have := cell_lt r0; exact this, r0, r1, bounds_i64 wz⟩
    obtain ⟨f, hf2⟩ := Deep.choose_lt key
    refine ⟨(some x, len, m, fun i => (f i).1, fun i => (f i).2), rfl, ⟨fun i hi => ⟨x, rfl, hf2 i hi⟩, ?_⟩⟩
    unfold maxLen at hm
    simp only
    omega
end Go.Proofs.Ytckpdpmjgkjefaa.Meter
