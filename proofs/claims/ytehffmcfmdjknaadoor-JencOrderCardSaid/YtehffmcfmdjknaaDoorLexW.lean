/- What package lex computes, in plain Lean. -/
import Derived.Test.YtehffmcfmdjknaaDoorPlainA
import Derived.Test.YtehffmcfmdjknaaDoorUtfW
import Derived.Test.YtehffmcfmdjknaaDoorNumW
import Derived.Test.YtehffmcfmdjknaaDoorQuoteC
namespace Go.Proofs.YtehffmcfmdjknaaDoor.Lex
open Go.Proofs.YtehffmcfmdjknaaDoor.Utf

def letterB (c : Nat) : Bool := (decide (65 ≤ c) && decide (c ≤ 90)) || (decide (97 ≤ c) && decide (c ≤ 122)) || c == 95
def digitB (c : Nat) : Bool := decide (48 ≤ c) && decide (c ≤ 57)
def inId (c : UInt8) : Bool := letterB c.toNat || digitB c.toNat
/-- How many bytes the name at the head has. -/
def ident (l : List UInt8) : Nat := 1 + ((l.drop 1).takeWhile inId).length
/-- A token's kind and size, or an error and how far behind the beginning it is told. -/
abbrev Nx := Nat × Nat × Nat × Nat
def val (x : Nx) : Value := .tuple #[.int .i64 x.1, .int .i64 x.2.1, .int .i64 x.2.2.1, .int .i64 x.2.2.2]
def decimal (l : List UInt8) : Nx :=
  match Num.parse (l.take (Num.scan l)) with
  | .error e => (0, 0, 0, e)
  | .ok _ => (2, Num.scan l, 0, 0)
/-- May a scalar not be in a comment? -/
def ctl (x : Nat × Nat) : Bool := decide (x.2 < 32) && x.2 != 9
/-- The first place that may not be in a comment, and the error. -/
def within (l : List UInt8) : Nat × Nat :=
  match (scalAt l 0).find? ctl with
  | some x => (x.1, 3)
  | none => match bad (l.length + 1) l 0 with
    | some p => (p, 7)
    | none => (0, 0)
def comment (kind : Nat) (l : List UInt8) : Nx :=
  if (within l).2 ≠ 0 then (0, 0, (within l).1, (within l).2) else (kind, l.length, 0, 0)
def line (l : List UInt8) : List UInt8 := match l.findIdx? (· == 10) with | some i => l.take i | none => l
def remark (l : List UInt8) : Nx := comment 6 ((line l).reverse.dropWhile ([32, 9, 13].contains ·)).reverse
def aside (l : List UInt8) : Nx :=
  if Lib.index (l.drop 2) [42, 47] < 0 then (0, 0, 0, 2)
  else if ((l.take ((Lib.index (l.drop 2) [42, 47]).toNat + 2)).findIdx? (· == 10)).isSome then (0, 0, 0, 2)
  else comment 7 (l.take ((Lib.index (l.drop 2) [42, 47]).toNat + 4))
def doubles : List (List UInt8) := [[61, 61], [33, 61], [60, 61], [62, 61], [38, 38], [124, 124]]
def singles : List UInt8 := [61, 60, 62, 43, 45, 42, 47, 37, 33, 63, 58, 44, 46, 40, 41, 91, 93, 123, 125]
def sign (l : List UInt8) : Nat :=
  if doubles.any (·.isPrefixOf l) then 2 else if (singles.findIdx? (· == UInt8.ofNat (byt l 0))).isSome then 1 else 0
/-- The token at the head of what isn't empty. -/
def next (l : List UInt8) : Nx :=
  if letterB (byt l 0) then (1, ident l, 0, 0)
  else if digitB (byt l 0) then decimal l
  else if byt l 0 = 34 then match Quote.scan l with
    | .error e => (0, 0, 0, e)
    | .ok (_, n) => (3, n, 0, 0)
  else if byt l 0 = 10 then (5, 1, 0, 0)
  else if byt l 0 = 35 ∨ [47, 47].isPrefixOf l then remark l
  else if [47, 42].isPrefixOf l then aside l
  else if 0 < sign l then (4, sign l, 0, 0)
  else (0, 0, 0, 3)
/-- A blank. -/
def blank (c : UInt8) : Bool := ([32, 9, 13].findIdx? (· == c)).isSome
/-- A token: its kind, its text, its place. -/
abbrev Tok := Nat × List UInt8 × Nat
/-- The tokens from a place on, and where and how the text goes wrong. -/
def toks : (fuel : Nat) → List UInt8 → Nat → List Tok × Nat × Nat
  | 0, _, _ => ([], 0, 0)
  | n + 1, l, p =>
    match l with
    | [] => ([], 0, 0)
    | c :: t =>
      if blank c then toks n t (p + 1)
      else if (next l).2.2.2 ≠ 0 then ([], p + (next l).2.2.1, (next l).2.2.2)
      else (((next l).1, l.take (next l).2.1, p) :: (toks n (l.drop (next l).2.1) (p + (next l).2.1)).1, (toks n (l.drop (next l).2.1) (p + (next l).2.1)).2)
end Go.Proofs.YtehffmcfmdjknaaDoor.Lex
/- lex.letter, lex.digit, lex.ident. -/
namespace Go.Proofs.YtehffmcfmdjknaaDoor.Lex
open Go.RowKit Go.Proofs.YtehffmcfmdjknaaDoor.Utf
set_option linter.unusedVariables false
set_option linter.unusedSimpArgs false
set_option maxRecDepth 100000
end Go.Proofs.YtehffmcfmdjknaaDoor.Lex
/- lex.ident, lex.decimal, lex.within. -/
namespace Go.Proofs.YtehffmcfmdjknaaDoor.Lex
open Go.RowKit Go.Shelf Go.Proofs.YtehffmcfmdjknaaDoor.Utf Go.Proofs.YtehffmcfmdjknaaDoor.Strs
set_option linter.unusedVariables false
set_option linter.unusedSimpArgs false
set_option maxRecDepth 100000
attribute [local go_sem] Oper.semAt_some

theorem parse_err {l : List UInt8} {k : Nat} (h : Num.parse l = .error k) : k = 3 ∨ k = 4 := by
  have hf : ∀ neg d x, Num.fin neg d x = .error k → k = 3 ∨ k = 4 := by
    intro neg d x h
    unfold Num.fin at h
    simp only [] at h
    split at h
    · cases h
    · split at h
      · cases h
      · injection h with h; omega
  have hp : ∀ neg d x, Num.point neg d x = .error k → k = 3 ∨ k = 4 := by
    intro neg d x h
    unfold Num.point at h
    split at h <;> exact hf _ _ _ h
  unfold Num.parse at h
  split at h
  · injection h with h; omega
  · unfold Num.mant at h
    split at h <;> exact hp _ _ _ h

end Go.Proofs.YtehffmcfmdjknaaDoor.Lex
/- lex.within. -/
namespace Go.Proofs.YtehffmcfmdjknaaDoor.Lex
open Go.RowKit Go.Shelf Go.Proofs.YtehffmcfmdjknaaDoor.Utf Go.Proofs.YtehffmcfmdjknaaDoor.Strs
set_option linter.unusedVariables false
set_option linter.unusedSimpArgs false
set_option maxRecDepth 100000
attribute [local go_sem] Oper.semAt_some

theorem KeepsOthers.set2 (W : World) (a b : Addr) (u v : Value) : KeepsOthers W ((W.setCell a u).setCell b v) := (KeepsOthers.setCell _ _ _).trans (KeepsOthers.setCell _ _ _)

/-- The two results' cells. -/
structure Two (W : World) (b : Nat) (x y : Value) : Prop where
  c0 : W.heap[b]? = some (.cells #[x] 3 (0, 0))
  c1 : W.heap[b + 1]? = some (.cells #[y] 30 (0, 0))
theorem Two.grown {w w' : World} {b : Nat} {x y : Value} {row : Option Nat} (h : Two w b x y) (hg : w.grownBy w' row) (hr : ∀ r, row = some r → ∃ o : Obj, w.heap[r]? = some o ∧ o.isCells = false) : Two w' b x y :=
  ⟨Quote.blk_grown h.c0 hg hr, Quote.blk_grown h.c1 hg hr⟩
theorem Two.set {w : World} {b : Nat} {x y : Value} (h : Two w b x y) (u v : Value) : Two ((w.setCell ⟨b, 0, none⟩ u).setCell ⟨b + 1, 0, none⟩ v) b u v :=
  ⟨heap_set_other (heap_set_same h.c0 u) (by omega) v, heap_set_same (heap_set_other h.c1 (by omega) u) v⟩

end Go.Proofs.YtehffmcfmdjknaaDoor.Lex
