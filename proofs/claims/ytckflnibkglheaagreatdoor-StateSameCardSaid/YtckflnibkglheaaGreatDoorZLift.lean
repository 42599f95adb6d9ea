/- A world whose listed variables hold what the row lists. -/
import Derived.Test.YtckflnibkglheaaGreatDoorRows
import Derived.WalkKit
import Derived.Deep.DeepHandedRow
import Derived.ProofKit
import Derived.OpenShut
import Derived.ShutString
import Derived.ChangeOld
import Derived.Below
import Derived.Carry
import Derived.Deep.Slices
namespace Go.Proofs.YtckflnibkglheaaGreatDoor
/-- The cells of plain data. -/
def flatD : Nat → DataW Unit → List Value
  | 0, _ => []
  | n + 1, .agg l => l.flatMap (flatD n)
  | _, .lit (.int k z) => [.int k z]
  | _, .lit (.string b) => [.string ⟨b.toArray⟩]
  | _, .lit (.bool b) => [.bool b]
  | _, _ => []
def fill (d : DataW Unit) : Obj → Obj
  | .cells _ t fr => .cells (flatD 8 d).toArray t fr
  | o => o
end Go.Proofs.YtckflnibkglheaaGreatDoor
/-
  From a walk to a law's row: what every law's frame shares. The law returns true and nothing below the new blocks has turned: each argument reads as it did.
-/
namespace Go.Proofs.YtckflnibkglheaaGreatDoor
open Go.ChangeShapes Go.WideShapes Go.ChangeAt Go.RowKit

theorem ownKnobs : ownKnob Tryz.prog.godebug = none := by kernel_rfl
theorem laidOut : laidOutB Tryz.prog = true := by kernel_rfl

theorem trodAll_stays {H : Type} {enc : TypeId × Value → H} {W W' : World} (hb : Below W.heap.size W W') : ∀ {ts : List TypeId} {vs : List Value} {ds : List (DataW H)} {ps : List MemPlace},
    (∀ t ∈ ts, Tryz.prog.readableRec t = true) → (∀ t ∈ ts, t < Tryz.prog.types.size) →
    DataW.TrodAll enc Tryz.prog W 0 (fun _ => true) true ts vs ds ps → DataW.TrodAll enc Tryz.prog W' 0 (fun b => decide (b < W.heap.size)) true ts vs ds ps
  | [], [], [], _, _, _, h => h
  | t :: ts, v :: vs, d :: ds, ps, hr, hz, ⟨p, q, h, hs, e⟩ =>
    ⟨p, q, Below.trod laidOut (hr t (by simp)) (hz t (by simp)) h hb (by obtain ⟨m, hm⟩ := h; exact DataW.trod_lt m _ _ _ hm), trodAll_stays hb (fun t' h' => hr t' (by simp [h'])) (fun t' h' => hz t' (by simp [h'])) hs, e⟩
  | [], _ :: _, _, _, _, _, h => h.elim
  | [], [], _ :: _, _, _, _, h => h.elim
  | _ :: _, [], _, _, _, _, h => h.elim
  | _ :: _, _ :: _, [], _, _, _, h => h.elim

theorem readable_of {ts : List TypeId} (h : ts.all (fun t => Tryz.prog.readableRec t && decide (t < Tryz.prog.types.size)) = true) (t : TypeId) (ht : t ∈ ts) : Tryz.prog.readableRec t = true ∧ t < Tryz.prog.types.size := by
  have := List.all_eq_true.1 h t ht
  simpa using this
end Go.Proofs.YtckflnibkglheaaGreatDoor
