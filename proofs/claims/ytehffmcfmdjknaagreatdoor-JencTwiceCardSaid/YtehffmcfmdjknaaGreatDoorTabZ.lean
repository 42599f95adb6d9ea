/- From a row's condition to the tables of layers 9 and 10. -/
import Derived.Test.YtehffmcfmdjknaaGreatDoorRows
import Derived.Test.YtehffmcfmdjknaaGreatDoorJenN
import Derived.Test.YtehffmcfmdjknaaGreatDoorJdecP
import Derived.Lib.LaidTab
import Derived.OpenShut
import Derived.Shelf.Vars
namespace Go.Proofs.YtehffmcfmdjknaaGreatDoor
open Go.RowKit Go.ChangeShapes
set_option linter.unusedVariables false
set_option linter.unusedSimpArgs false
set_option maxRecDepth 100000

/-- A variable of the list, and how it reads. -/
structure LaidAt (w : World) (n : String) (d : DataW Unit) : Prop where
  it : ∃ g t cs fuel p, Tryz.prog.globalNamed n = some g ∧ (Tryz.prog.globals[g]?).map (·.type) = some t ∧ w.var? Tryz.prog n = some cs ∧ DataW.trod (fun _ => ()) Tryz.prog w 0 (fun _ => true) false fuel t cs.toList = some (d, p)
theorem laid_at {w : World} : ∀ {l : List (String × DataW Unit)} {ps : List MemPlace}, DataW.LaidVars Tryz.prog w l ps → ∀ n d, (n, d) ∈ l → LaidAt w n d
  | [], _, _, n, d, h => by cases h
  | (m, e) :: r, ps, ⟨g, t, cs, fuel, p, q, h1, h2, h3, h4, h5, _⟩, n, d, h => by
    rcases List.mem_cons.1 h with h | h
    · injection h with ha hb; subst ha hb; exact ⟨g, t, cs, fuel, p, h1, h2, h3, h4⟩
    · exact laid_at h5 n d h

theorem sizes_dec : ∀ n, n < 256 → (([1, 1, 1, 1, 1, 1, 1, 1, 1, 1, 1, 1, 1, 1, 1, 1, 0, 0, 0, 0, 0, 0, 0, 0, 2, 2, 2, 2, 3, 3, 4, 0] : List Int).getD (n / 8) 0) = (Utf.sizeAt n : Int) := by decide +kernel
/-- The variables' names, as a row names them. -/
def nmZ (i : Nat) : String := Rows.jencTwiceRow.named.getD i ""
theorem gSizesZ : Tryz.prog.globalNamed (nmZ 0) = some 2 := by kernel_rfl
theorem gPowZ : Tryz.prog.globalNamed (nmZ 1) = some 3 := by kernel_rfl
theorem gStepsZ : Tryz.prog.globalNamed (nmZ 4) = some 0 := by kernel_rfl
theorem sizes_ofZ {w : World} (h : LaidAt w (nmZ 0) (Lib.tabData .i64 [1, 1, 1, 1, 1, 1, 1, 1, 1, 1, 1, 1, 1, 1, 1, 1, 0, 0, 0, 0, 0, 0, 0, 0, 2, 2, 2, 2, 3, 3, 4, 0])) : Utf.Sizes w := by
  obtain ⟨g, t, cs, fuel, p, h1, h2, h3, h4⟩ := h.it
  obtain rfl := Option.some.inj (gSizesZ.symm.trans h1)
  obtain rfl := Option.some.inj ((show (Tryz.prog.globals[2]?).map (·.type) = some 190 by kernel_rfl).symm.trans h2)
  have hc := Lib.cells_of_tab Tryz.underlying190 Tryz.underlying3 (by kernel_rfl) (by kernel_rfl) h4
  have hT : Lib.TabIs Tryz.prog w (nmZ 0) .i64 [1, 1, 1, 1, 1, 1, 1, 1, 1, 1, 1, 1, 1, 1, 1, 1, 0, 0, 0, 0, 0, 0, 0, 0, 2, 2, 2, 2, 3, 3, 4, 0] := by
    unfold Lib.TabIs; rw [h3, ← hc]
  refine ⟨fun n hn => ?_⟩
  rw [hT.cell gSizesZ (n / 8) (by simp; omega), sizes_dec n hn]
theorem pow_ofZ {w : World} (h : LaidAt w (nmZ 1) (Lib.tabData .u64 Lib.pow10Tab)) : Jdec.Pow10 w := by
  obtain ⟨g, t, cs, fuel, p, h1, h2, h3, h4⟩ := h.it
  obtain rfl := Option.some.inj (gPowZ.symm.trans h1)
  obtain rfl := Option.some.inj ((show (Tryz.prog.globals[3]?).map (·.type) = some 198 by kernel_rfl).symm.trans h2)
  have hc := Lib.cells_of_tab Tryz.underlying198 Tryz.underlying149 (by kernel_rfl) (by kernel_rfl) h4
  show w.var? Tryz.prog (nmZ 1) = _
  rw [h3, ← hc]
def stepRowZ : List (List Int) := [[1, 9, 2, 3, 9, 9, 9], [9, 9, 2, 3, 9, 9, 9], [9, 9, 9, 9, 4, 6, 9], [9, 9, 3, 3, 4, 6, 9], [9, 9, 5, 5, 9, 9, 9], [9, 9, 5, 5, 9, 6, 9], [7, 7, 8, 8, 9, 9, 9], [9, 9, 8, 8, 9, 9, 9], [9, 9, 8, 8, 9, 9, 9]]
theorem steps_decZ : ∀ st, st < 9 → ∀ sg, sg < 7 → ((stepRowZ.getD st []).getD sg 0) = (Num.step st sg : Int) := by decide +kernel
theorem stepRowZ_len : ∀ st, st < 9 → (stepRowZ.getD st []).length = 7 := by decide
theorem getD_someZ {l : List Int} {i : Nat} (h : i < l.length) : l[i]? = some (l.getD i 0) := by simp [List.getD_eq_getElem?_getD, h]
theorem steps_ofZ {w : World} (h : LaidAt w (nmZ 4) (.agg (stepRowZ.map (Lib.tabData .i64)))) : Num.Steps w := by
  obtain ⟨g, t, cs, fuel, p, h1, h2, h3, h4⟩ := h.it
  obtain rfl := Option.some.inj (gStepsZ.symm.trans h1)
  obtain rfl := Option.some.inj ((show (Tryz.prog.globals[0]?).map (·.type) = some 122 by kernel_rfl).symm.trans h2)
  obtain ⟨xs, m, _, hx, hl, hn, hget⟩ := DataW.trod_array Tryz.underlying122 h4
  have hce : Tryz.prog.cellsOf 121 = 7 := by kernel_rfl
  injection hx with hx1 hx2
  injection hx1 with hx1
  refine ⟨fun st sg hst hsg => ?_⟩
  have h5 := hget st hst
  obtain ⟨y, hy⟩ : ∃ y, xs[st]? = some y := ⟨_, List.getElem?_eq_getElem (by omega)⟩
  have h6 : y.1 = Lib.tabData .i64 (stepRowZ.getD st []) := by
    have := congrArg (·[st]?) hx1
    simp only [List.getElem?_map, hy, Option.map_some] at this
    have hs : stepRowZ[st]? = some (stepRowZ.getD st []) := by
      rw [List.getD_eq_getElem?_getD, List.getElem?_eq_getElem (show st < stepRowZ.length from hst)]; rfl
    rw [hs] at this
    exact (Option.some.inj this).symm
  rw [hy, hce] at h5
  have hc := Lib.cells_of_tab Tryz.underlying121 Tryz.underlying3 (by kernel_rfl) hce (p := y.2) (zs := stepRowZ.getD st []) (by rw [h5, ← h6])
  rw [World.var?_cell gStepsZ h3 (st * 7 + sg)]
  have h7 := congrArg (·[sg]?) hc
  simp only [List.getElem?_take, List.getElem?_drop, hsg, if_true, List.getElem?_map] at h7
  have h8 := getD_someZ (l := stepRowZ.getD st []) (i := sg) (by rw [stepRowZ_len st hst]; exact hsg)
  rw [h8, steps_decZ st hst sg hsg] at h7
  simpa using h7
theorem tabsZ {w : World} (h : laidMetH Tryz.prog Rows.jencTwiceRow.laid w) : Jdec.JTabs w ∧ Jdec.Pow10 w := by
  obtain ⟨ps, hv, _⟩ := (show laidMet Tryz.prog Rows.jencTwiceRow.laid w from h)
  exact ⟨⟨sizes_ofZ (laid_at hv _ _ (.tail _ (.tail _ (.tail _ (.tail _ (.head _)))))), steps_ofZ (laid_at hv _ _ (.tail _ (.tail _ (.tail _ (.tail _ (.tail _ (.head _)))))))⟩, pow_ofZ (laid_at hv _ _ (.tail _ (.tail _ (.head _))))⟩
end Go.Proofs.YtehffmcfmdjknaaGreatDoor
