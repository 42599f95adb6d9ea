/- From a row's condition to jdec's tables; JdecLong at any bytes. -/
import Derived.Test.YtbfkgddhpabioaaDoorTabs
import Derived.Test.YtbfkgddhpabioaaDoorJdecLong
namespace Go.Proofs.YtbfkgddhpabioaaDoor
open Go.RowKit Go.ChangeShapes
set_option linter.unusedVariables false
set_option maxRecDepth 100000

theorem jdecLongTabs {w : World} (h : laidMetH Tryd.prog Rows.jdecLongRow.laid w) : Jdec.JTabs w := by
  obtain ⟨ps, hv, _⟩ := (show laidMet Tryd.prog Rows.jdecLongRow.laid w from h)
  exact ⟨sizes_of (laid_at hv _ _ (.tail _ (.head _))), steps_of (laid_at hv _ _ (.tail _ (.tail _ (.head _))))⟩
theorem Jdec.byte_of {x : Int} (h : (Lit.int .u8 x).wf = true) : 0 ≤ x ∧ x < 256 := by
  have h1 : IntKind.u8.min = 0 := rfl
  have h2 : IntKind.u8.max = 255 := rfl
  simp only [Lit.wf, Bool.and_eq_true, decide_eq_true_eq] at h
  omega
theorem Jdec.jdecLong_wf (a0 : Int) (w0 : (Lit.int .u8 a0).wf = true) (a1 : Int) (w1 : (Lit.int .u8 a1).wf = true) (w : World) (T : Jdec.JTabs w) :
    Calls Tryd.prog 4 #[.int .u8 a0, .int .u8 a1] w fun e w' => e = .returned (.bool true) ∧ Below w.heap.size w w' := by
  obtain ⟨h0, h1⟩ := Jdec.byte_of w0
  obtain ⟨h2, h3⟩ := Jdec.byte_of w1
  have := Jdec.jdecLong_any a0.toNat (UInt8.ofNat a1.toNat) w T (by omega)
  rw [show ((a0.toNat : Nat) : Int) = a0 by omega, show (((UInt8.ofNat a1.toNat).toNat : Nat) : Int) = a1 by rw [UInt8.toNat_ofNat']; omega] at this
  exact this
end Go.Proofs.YtbfkgddhpabioaaDoor
