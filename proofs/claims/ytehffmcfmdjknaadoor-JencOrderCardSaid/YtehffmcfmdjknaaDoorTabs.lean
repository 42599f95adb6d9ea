/- From a row's condition to the tables' cells. -/
import Derived.Test.YtehffmcfmdjknaaDoorRows
import Derived.Test.YtehffmcfmdjknaaDoorLexX
import Derived.Lib.LaidTab
import Derived.OpenShut
import Derived.Shelf.Vars
namespace Go.Proofs.YtehffmcfmdjknaaDoor
open Go.RowKit Go.ChangeShapes
set_option linter.unusedVariables false
set_option linter.unusedSimpArgs false
set_option maxRecDepth 100000

/-- A variable of the list, and how it reads. -/
structure LaidAt (w : World) (n : String) (d : DataW Unit) : Prop where
  it : ∃ g t cs fuel p, Tryd.prog.globalNamed n = some g ∧ (Tryd.prog.globals[g]?).map (·.type) = some t ∧ w.var? Tryd.prog n = some cs ∧ DataW.trod (fun _ => ()) Tryd.prog w 0 (fun _ => true) false fuel t cs.toList = some (d, p)
theorem laid_at {w : World} : ∀ {l : List (String × DataW Unit)} {ps : List MemPlace}, DataW.LaidVars Tryd.prog w l ps → ∀ n d, (n, d) ∈ l → LaidAt w n d
  | [], _, _, n, d, h => by cases h
  | (m, e) :: r, ps, ⟨g, t, cs, fuel, p, q, h1, h2, h3, h4, h5, _⟩, n, d, h => by
    rcases List.mem_cons.1 h with h | h
    · injection h with ha hb; subst ha hb; exact ⟨g, t, cs, fuel, p, h1, h2, h3, h4⟩
    · exact laid_at h5 n d h

theorem sizes_dec : ∀ n, n < 256 → (([1, 1, 1, 1, 1, 1, 1, 1, 1, 1, 1, 1, 1, 1, 1, 1, 0, 0, 0, 0, 0, 0, 0, 0, 2, 2, 2, 2, 3, 3, 4, 0] : List Int).getD (n / 8) 0) = (Utf.sizeAt n : Int) := by decide +kernel
def stepRow : List (List Int) := [[1, 9, 2, 3, 9, 9, 9], [9, 9, 2, 3, 9, 9, 9], [9, 9, 9, 9, 4, 6, 9], [9, 9, 3, 3, 4, 6, 9], [9, 9, 5, 5, 9, 9, 9], [9, 9, 5, 5, 9, 6, 9], [7, 7, 8, 8, 9, 9, 9], [9, 9, 8, 8, 9, 9, 9], [9, 9, 8, 8, 9, 9, 9]]
theorem steps_dec : ∀ st, st < 9 → ∀ sg, sg < 7 → ((stepRow.getD st []).getD sg 0) = (Num.step st sg : Int) := by decide +kernel
theorem stepRow_len : ∀ st, st < 9 → (stepRow.getD st []).length = 7 := by decide
theorem getD_some {l : List Int} {i : Nat} (h : i < l.length) : l[i]? = some (l.getD i 0) := by simp [List.getD_eq_getElem?_getD, h]
theorem maxL_of {w : World} (h : w.ShapedOpen Tryd.prog) : Lex.MaxL w :=
  ⟨cell_of_shapedOpen_int (g := 0) (t := 3) (zero := #[.int .i64 0]) h (of_decide_eq_true (by kernel_rfl)) (by kernel_rfl) rfl (by kernel_rfl) (by kernel_rfl) Tryd.underlying3⟩
end Go.Proofs.YtehffmcfmdjknaaDoor
