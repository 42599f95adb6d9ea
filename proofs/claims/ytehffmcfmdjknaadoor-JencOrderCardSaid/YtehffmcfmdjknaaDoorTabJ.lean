/- From a row's condition to the tables of layer 10. -/
import Derived.Test.YtehffmcfmdjknaaDoorTabs
import Derived.Test.YtehffmcfmdjknaaDoorJenN
namespace Go.Proofs.YtehffmcfmdjknaaDoor
open Go.RowKit Go.ChangeShapes
set_option linter.unusedVariables false
set_option linter.unusedSimpArgs false
set_option maxRecDepth 100000

/-- The variables' names, as a row names them. -/
def nmJ (i : Nat) : String := Rows.jencLinesRow.named.getD i ""
theorem gSizesJ : Tryd.prog.globalNamed (nmJ 0) = some 1 := by kernel_rfl
theorem gPowJ : Tryd.prog.globalNamed (nmJ 1) = some 2 := by kernel_rfl
theorem sizes_ofJ {w : World} (h : LaidAt w (nmJ 0) (Lib.tabData .i64 [1, 1, 1, 1, 1, 1, 1, 1, 1, 1, 1, 1, 1, 1, 1, 1, 0, 0, 0, 0, 0, 0, 0, 0, 2, 2, 2, 2, 3, 3, 4, 0])) : Utf.Sizes w := by
  obtain ⟨g, t, cs, fuel, p, h1, h2, h3, h4⟩ := h.it
  obtain rfl := Option.some.inj (gSizesJ.symm.trans h1)
  obtain rfl := Option.some.inj ((show (Tryd.prog.globals[1]?).map (·.type) = some 123 by kernel_rfl).symm.trans h2)
  have hc := Lib.cells_of_tab Tryd.underlying123 Tryd.underlying3 (by kernel_rfl) (by kernel_rfl) h4
  have hT : Lib.TabIs Tryd.prog w (nmJ 0) .i64 [1, 1, 1, 1, 1, 1, 1, 1, 1, 1, 1, 1, 1, 1, 1, 1, 0, 0, 0, 0, 0, 0, 0, 0, 2, 2, 2, 2, 3, 3, 4, 0] := by
    unfold Lib.TabIs; rw [h3, ← hc]
  refine ⟨fun n hn => ?_⟩
  rw [hT.cell gSizesJ (n / 8) (by simp; omega), sizes_dec n hn]
theorem pow_ofJ {w : World} (h : LaidAt w (nmJ 1) (Lib.tabData .u64 Lib.pow10Tab)) : Jdec.Pow10 w := by
  obtain ⟨g, t, cs, fuel, p, h1, h2, h3, h4⟩ := h.it
  obtain rfl := Option.some.inj (gPowJ.symm.trans h1)
  obtain rfl := Option.some.inj ((show (Tryd.prog.globals[2]?).map (·.type) = some 135 by kernel_rfl).symm.trans h2)
  have hc := Lib.cells_of_tab Tryd.underlying135 Tryd.underlying98 (by kernel_rfl) (by kernel_rfl) h4
  show w.var? Tryd.prog (nmJ 1) = _
  rw [h3, ← hc]
theorem tabsJ {w : World} (h : laidMetH Tryd.prog Rows.jencLinesRow.laid w) : Utf.Sizes w ∧ Jdec.Pow10 w := by
  obtain ⟨ps, hv, _⟩ := (show laidMet Tryd.prog Rows.jencLinesRow.laid w from h)
  exact ⟨sizes_ofJ (laid_at hv _ _ (.tail _ (.tail _ (.tail _ (.head _))))), pow_ofJ (laid_at hv _ _ (.tail _ (.tail _ (.head _))))⟩
end Go.Proofs.YtehffmcfmdjknaaDoor
