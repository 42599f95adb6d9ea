/- jdec's parser in memory; fail, wrong, blanks, is. -/
import Derived.Test.YtehffmcfmdjknaaDoorJdecU
import Derived.Test.YtehffmcfmdjknaaDoorNumW
import Derived.Test.YtehffmcfmdjknaaDoorFrame
import Derived.Test.YtehffmcfmdjknaaDoorQuoteC
import Derived.Deep.RegionHeld3
namespace Go.Proofs.YtehffmcfmdjknaaDoor.Jdec
open Go.RowKit Go.Proofs.YtehffmcfmdjknaaDoor.Strs
set_option linter.unusedVariables false
set_option linter.unusedSimpArgs false
set_option maxRecDepth 100000

theorem gb_refl (w : World) (r : Option Nat) : w.grownBy w r := ⟨rfl, rfl, rfl, Nat.le_refl _, fun _ _ _ => rfl⟩
theorem gb_drew (w : World) (n : Nat) (r : Option Nat) : w.grownBy (w.drewN n) r := ⟨rfl, rfl, rfl, Nat.le_refl _, fun _ _ _ => rfl⟩
theorem gb_set (w : World) (b i : Nat) (v : Value) : w.grownBy (w.setCell ⟨b, i, none⟩ v) (some b) := ⟨rfl, rfl, rfl, by simp [World.setCell], fun k _ hk => Below.heap_setCell _ _ _ _ (fun e => hk (by simp [e]))⟩
theorem gb_below {w w' : World} (h : Below w.heap.size w w') (r : Option Nat) : w.grownBy w' r := ⟨h.os, h.tape, h.output, h.size, fun k hk _ => h.block k hk⟩

section
variable {w w' : World} {P : Nat} {s : ByteArray} {k : Nat} {V : Value} {b e : Nat}
end

/-- The first error stays. -/
def failB (b e p : Nat) : Nat := if e = 0 then p else b
def failE (e n : Nat) : Nat := if e = 0 then n else e
end Go.Proofs.YtehffmcfmdjknaaDoor.Jdec
/- jdec's parser: blanks, is. -/
namespace Go.Proofs.YtehffmcfmdjknaaDoor.Jdec
open Go.RowKit Go.Proofs.YtehffmcfmdjknaaDoor.Strs
set_option linter.unusedVariables false
set_option linter.unusedSimpArgs false
set_option maxRecDepth 100000

theorem blank_z (c : UInt8) : decide ((0 : Int) ≤ zidx (([9, 10, 13, 32] : List UInt8).findIdx? (· == c))) = blankJ c := by
  by_cases h1 : c = 9
  · subst h1; rfl
  by_cases h2 : c = 10
  · subst h2; rfl
  by_cases h3 : c = 13
  · subst h3; rfl
  by_cases h4 : c = 32
  · subst h4; rfl
  have e : ([9, 10, 13, 32] : List UInt8).findIdx? (· == c) = none := by
    rw [List.findIdx?_eq_none_iff]
    intro x hx
    rw [beq_eq_false_iff_ne]
    rintro rfl
    simp at hx
    rcases hx with rfl | rfl | rfl | rfl <;> simp_all
  rw [e]
  have : blankJ c = false := by simp [blankJ, h1, h2, h3, h4]
  rw [this]; rfl
theorem byte_get (s : ByteArray) (k : Nat) (h : k < s.size) : s.data.toList[k]? = some s[k] := by
  rw [List.getElem?_eq_getElem (by simpa using h)]; rfl

/-- Is a byte the next one, and was no error met? -/
def isB (l : List UInt8) (k e : Nat) (c : UInt8) : Bool := decide (e = 0 ∧ l[k]? = some c)
end Go.Proofs.YtehffmcfmdjknaaDoor.Jdec
/- jdec's parser: ends, word, quoted, text, yes, no, null. -/
namespace Go.Proofs.YtehffmcfmdjknaaDoor.Jdec
open Go.RowKit Go.Proofs.YtehffmcfmdjknaaDoor.Strs
set_option linter.unusedVariables false
set_option linter.unusedSimpArgs false
set_option maxRecDepth 100000

end Go.Proofs.YtehffmcfmdjknaaDoor.Jdec
/- jdec's parser: word, quoted. -/
namespace Go.Proofs.YtehffmcfmdjknaaDoor.Jdec
open Go.RowKit Go.Proofs.YtehffmcfmdjknaaDoor.Strs
set_option linter.unusedVariables false
set_option linter.unusedSimpArgs false
set_option maxRecDepth 100000

end Go.Proofs.YtehffmcfmdjknaaDoor.Jdec
/- jdec's parser: values that have no parts: text, yes, no, null. -/
namespace Go.Proofs.YtehffmcfmdjknaaDoor.Jdec
open Go.RowKit Go.Proofs.YtehffmcfmdjknaaDoor.Strs
set_option linter.unusedVariables false
set_option linter.unusedSimpArgs false
set_option maxRecDepth 100000

theorem infoVal : (Tryd.prog.info? 27).map (·.size) = some 8 := by kernel_rfl
def Raw.arr (a : Raw) : Array Value := #[.int .i64 a.kind, .bool a.is, .bool a.neg, .string a.dig, .int .i64 a.exp, .string a.str, .slice a.ka a.kn a.kc, .slice a.va a.vn a.vc]
theorem val_ret {F : Func} {p : Tmp} (hr : F.results = #[.cell p 27]) {tm : Array Value} {a : Raw} {R : Ending → World → Prop} {w' : World} {b : Nat}
    (hb : w'.heap[b]? = some (.cells a.arr 27 (0, 0))) (hp : tm.getD p undef = .pointer (some ⟨b, 0, none⟩)) (hR : R (.returned a.val) w') :
    bodyPost Tryd.prog F R Exit.ret { tmps := tm, defers := [] } w' :=
  bodyPost_ret (results_cell_row hr tm w' b _ _ _ _ hp hb Tryd.underlying27 rfl infoVal) rfl hR
/-- A value's block, written over. -/
theorem set8 {w : World} {b : Nat} {a : Raw} {T : TypeId} (h : w.heap[b]? = some (.cells a.arr T (0, 0))) (c : Raw) :
    ((((((((w.setCell ⟨b, 0, none⟩ (.int .i64 c.kind)).setCell ⟨b, 1, none⟩ (.bool c.is)).setCell ⟨b, 2, none⟩ (.bool c.neg)).setCell ⟨b, 3, none⟩ (.string c.dig)).setCell ⟨b, 4, none⟩ (.int .i64 c.exp)).setCell ⟨b, 5, none⟩ (.string c.str)).setCell ⟨b, 6, none⟩ (.slice c.ka c.kn c.kc)).setCell ⟨b, 7, none⟩ (.slice c.va c.vn c.vc)).heap[b]? = some (.cells c.arr T (0, 0)) := by
  have h0 := heap_set_same h (i := 0) (.int .i64 c.kind)
  have h1 := heap_set_same h0 (i := 1) (.bool c.is)
  have h2 := heap_set_same h1 (i := 2) (.bool c.neg)
  have h3 := heap_set_same h2 (i := 3) (.string c.dig)
  have h4 := heap_set_same h3 (i := 4) (.int .i64 c.exp)
  have h5 := heap_set_same h4 (i := 5) (.string c.str)
  have h6 := heap_set_same h5 (i := 6) (.slice c.ka c.kn c.kc)
  have h7 := heap_set_same h6 (i := 7) (.slice c.va c.vn c.vc)
  rw [h7]
  simp [Raw.arr]
theorem gb8 (w : World) (b : Nat) (x0 x1 x2 x3 x4 x5 x6 x7 : Value) :
    w.grownBy ((((((((w.setCell ⟨b, 0, none⟩ x0).setCell ⟨b, 1, none⟩ x1).setCell ⟨b, 2, none⟩ x2).setCell ⟨b, 3, none⟩ x3).setCell ⟨b, 4, none⟩ x4).setCell ⟨b, 5, none⟩ x5).setCell ⟨b, 6, none⟩ x6).setCell ⟨b, 7, none⟩ x7) (some b) :=
  ((((((((gb_set _ _ _ _).trans (gb_set _ _ _ _)).trans (gb_set _ _ _ _)).trans (gb_set _ _ _ _)).trans (gb_set _ _ _ _)).trans (gb_set _ _ _ _)).trans (gb_set _ _ _ _)).trans (gb_set _ _ _ _))
/-- What turned is the parser, and what is new. -/
theorem gb_new {w w1 w2 : World} {P b : Nat} (h : w.grownBy w1 (some P)) (h2 : w1.grownBy w2 (some b)) (hb : w.heap.size ≤ b) : w.grownBy w2 (some P) :=
  ⟨h2.os.trans h.os, h2.tape.trans h.tape, h2.output.trans h.output, Nat.le_trans h.size h2.size, fun k hk hp => (h2.block k (Nat.lt_of_lt_of_le hk h.size) (fun e => by injection e with e; omega)).trans (h.block k hk hp)⟩

theorem val_cells {w : World} {b : Nat} {a : Raw} {T : TypeId} (h : w.heap[b]? = some (.cells a.arr T (0, 0))) :
    (w.cell? ⟨b, 0, none⟩ = some (.int .i64 a.kind) ∧ w.cell? ⟨b, 1, none⟩ = some (.bool a.is) ∧ w.cell? ⟨b, 2, none⟩ = some (.bool a.neg) ∧ w.cell? ⟨b, 3, none⟩ = some (.string a.dig) ∧ w.cell? ⟨b, 4, none⟩ = some (.int .i64 a.exp) ∧ w.cell? ⟨b, 5, none⟩ = some (.string a.str) ∧ w.cell? ⟨b, 6, none⟩ = some (.slice a.ka a.kn a.kc) ∧ w.cell? ⟨b, 7, none⟩ = some (.slice a.va a.vn a.vc)) ∧
    (w.frozen? ⟨b, 0, none⟩ = false ∧ w.frozen? ⟨b, 1, none⟩ = false ∧ w.frozen? ⟨b, 2, none⟩ = false ∧ w.frozen? ⟨b, 3, none⟩ = false ∧ w.frozen? ⟨b, 4, none⟩ = false ∧ w.frozen? ⟨b, 5, none⟩ = false ∧ w.frozen? ⟨b, 6, none⟩ = false ∧ w.frozen? ⟨b, 7, none⟩ = false) :=
  ⟨⟨cell_of h 0, cell_of h 1, cell_of h 2, cell_of h 3, cell_of h 4, cell_of h 5, cell_of h 6, cell_of h 7⟩, frozen_of h 0, frozen_of h 1, frozen_of h 2, frozen_of h 3, frozen_of h 4, frozen_of h 5, frozen_of h 6, frozen_of h 7⟩
theorem res_kept {w w1 w2 : World} {P : Nat} {a : Raw} (h : w1.heap[w.heap.size]? = some (.cells a.arr 27 (0, 0))) (g : w1.grownBy w2 (some P)) (hP : P < w.heap.size) :
    w2.heap[w.heap.size]? = some (.cells a.arr 27 (0, 0)) := by
  rw [g.block _ (heap_lt h) (by simp; omega)]; exact h

end Go.Proofs.YtehffmcfmdjknaaDoor.Jdec
/- jdec's parser: numbers. -/
namespace Go.Proofs.YtehffmcfmdjknaaDoor.Jdec
open Go.RowKit Go.Proofs.YtehffmcfmdjknaaDoor.Strs
set_option linter.unusedVariables false
set_option linter.unusedSimpArgs false
set_option maxRecDepth 100000

end Go.Proofs.YtehffmcfmdjknaaDoor.Jdec
/- jdec's parser: numbers that are there. -/
namespace Go.Proofs.YtehffmcfmdjknaaDoor.Jdec
open Go.RowKit Go.Proofs.YtehffmcfmdjknaaDoor.Strs
set_option linter.unusedVariables false
set_option linter.unusedSimpArgs false
set_option maxRecDepth 100000

theorem num_new {w w' : World} (hb : Below (w.drew.alloc (.cells #[.bool false, .string ⟨#[]⟩, .int .i64 0] 23)).heap.size (w.drew.alloc (.cells #[.bool false, .string ⟨#[]⟩, .int .i64 0] 23)) w') :
    w'.heap[w.heap.size]? = some (.cells #[.bool false, .string ⟨#[]⟩, .int .i64 0] 23 (0, 0)) :=
  (hb.block _ (by simp)).trans (heap_alloc_new w.drew _)
end Go.Proofs.YtehffmcfmdjknaaDoor.Jdec
