/- quote.reader: scalar. -/
import Derived.Test.YtehffmcfmdjknaaDoorQuoteF
import Derived.Test.YtehffmcfmdjknaaDoorUtfW
import Derived.Test.YtehffmcfmdjknaaDoorPlainA
import Derived.Lib.OwnKind
import Derived.Recover
import Derived.Deep.RegionWith
import Derived.Deep.RegionHeld3
namespace Go.Proofs.YtehffmcfmdjknaaDoor.Quote
open Go.RowKit Go.Shelf Go.Proofs.YtehffmcfmdjknaaDoor.Utf
set_option linter.unusedVariables false
set_option linter.unusedSimpArgs false
set_option maxRecDepth 100000
attribute [local go_sem] Oper.semAt_some

theorem _root_.Go.Proofs.YtehffmcfmdjknaaDoor.Keeps.grownFar {B b : Nat} {w W W' : World} {row : Option Nat} (h : Keeps B b w W) (hB : B ≤ w.heap.size) (hg : W.grownBy W' row) (hr : ∀ r, row = some r → w.heap.size ≤ r) : Keeps B b w W' :=
  ⟨h.below.grown hg (Nat.le_trans hB h.below.size) (fun k e => Nat.le_trans hB (hr k e)), fun k hk hb hn => (hg.block k (Nat.lt_of_lt_of_le hk h.below.size) (fun e => by have := hr k e.symm; omega)).trans (h.block k hk hb hn)⟩
theorem _root_.Go.Proofs.YtehffmcfmdjknaaDoor.Keeps.others {B b B' : Nat} {w W : World} (h : Keeps B b w W) {cs : Array Value} {T : TypeId} {fr : Nat × Nat} (hb : w.heap[b]? = some (.cells cs T fr)) : KeepsFrom B' w W :=
  ⟨h.below.size, fun k o _ hk ho => (h.block k (heap_lt hk) (fun e => by subst e; rw [hb] at hk; cases hk; cases ho) (fun c fr e => by rw [hk] at e; cases e; cases ho)).trans hk⟩

theorem blk_grown {w w' : World} {k : Nat} {cs : Array Value} {T : TypeId} {fr : Nat × Nat} {row : Option Nat} (h : w.heap[k]? = some (.cells cs T fr)) (hg : w.grownBy w' row) (hr : ∀ r, row = some r → ∃ o : Obj, w.heap[r]? = some o ∧ o.isCells = false) : w'.heap[k]? = some (.cells cs T fr) :=
  (hg.block k (heap_lt h) (fun e => by obtain ⟨o, h1, h2⟩ := hr k e.symm; rw [h] at h1; cases h1; cases h2)).trans h

/-- What 'scalar' comes to. -/
def scalarR (src : ByteArray) (p : Nat) (out : List UInt8) : Except Nat (Value × Nat × List UInt8) :=
  if (one (src.data.toList.drop p)).2 = 0 then .error 7 else .ok (.tuple #[], p + (put (one (src.data.toList.drop p)).1).length, out ++ put (one (src.data.toList.drop p)).1)

theorem one_take (l : List UInt8) : one (l.take 4) = one l := by
  have hb : ∀ i, i < 4 → byt (l.take 4) i = byt l i := fun i hi => by
    unfold byt
    rw [List.getD_eq_getElem?_getD, List.getD_eq_getElem?_getD, List.getElem?_take, if_pos hi]
  have hz := sizeAt_le (byt l 0)
  have h0 := hb 0 (by omega)
  have h1 := hb 1 (by omega)
  have h2 := hb 2 (by omega)
  have h3 := hb 3 (by omega)
  unfold one stands
  rw [h0]
  have hv : val (l.take 4) (sizeAt (byt l 0)) = val l (sizeAt (byt l 0)) := by unfold val; simp only [h0, h1, h2, h3]
  have hc : conts (l.take 4) (sizeAt (byt l 0)) = conts l (sizeAt (byt l 0)) := by unfold conts; simp only [h1, h2, h3]
  have hl : decide (sizeAt (byt l 0) ≤ (l.take 4).length) = decide (sizeAt (byt l 0) ≤ l.length) := by
    rw [List.length_take]; congr 1; apply propext; omega
  rw [hv, hc, hl]

end Go.Proofs.YtehffmcfmdjknaaDoor.Quote
/- quote.reader: part. -/
namespace Go.Proofs.YtehffmcfmdjknaaDoor.Quote
open Go.RowKit Go.Proofs.YtehffmcfmdjknaaDoor.Utf
set_option linter.unusedVariables false
set_option linter.unusedSimpArgs false
set_option maxRecDepth 100000

/-- What 'part' comes to. -/
def partR (src : ByteArray) (p : Nat) (out : List UInt8) : Except Nat (Value × Nat × List UInt8) :=
  match part (src.data.toList.drop p) with
  | .error k => .error k
  | .ok (o, n, g) => .ok (.bool g, p + n, out ++ o)
theorem _root_.Go.Proofs.YtehffmcfmdjknaaDoor.Utf.Sizes.keeps {B b : Nat} {w w' : World} (T : Sizes w) (hk : Keeps B b w w') (hB : 1 < B) : Sizes w' := T.kept (hk.below.block _ hB)

end Go.Proofs.YtehffmcfmdjknaaDoor.Quote
/- quote.Scan's deferred closure. -/
namespace Go.Proofs.YtehffmcfmdjknaaDoor.Quote
open Go.RowKit Go.Proofs.YtehffmcfmdjknaaDoor.Utf
set_option linter.unusedVariables false
set_option linter.unusedSimpArgs false
set_option maxRecDepth 100000

end Go.Proofs.YtehffmcfmdjknaaDoor.Quote
/- quote.Scan. -/
namespace Go.Proofs.YtehffmcfmdjknaaDoor.Quote
open Go.RowKit Go.Proofs.YtehffmcfmdjknaaDoor.Utf
set_option linter.unusedVariables false
set_option linter.unusedSimpArgs false
set_option maxRecDepth 100000

/-- What Scan tells. -/
def scanV (s : ByteArray) : Value :=
  match scan s.data.toList with
  | .error k => .tuple #[.string ⟨#[]⟩, .int .i64 0, .int .i64 k]
  | .ok (o, n) => .tuple #[.string ⟨o.toArray⟩, .int .i64 n, .int .i64 0]

/-- The three results' cells. -/
structure Res (w : World) (b : Nat) (v0 v1 v2 : Value) : Prop where
  r0 : w.heap[b]? = some (.cells #[v0] 9 (0, 0))
  r1 : w.heap[b + 1]? = some (.cells #[v1] 3 (0, 0))
  r2 : w.heap[b + 2]? = some (.cells #[v2] 30 (0, 0))
theorem Res.keeps {w w' : World} {b B b' : Nat} {v0 v1 v2 : Value} (h : Res w b v0 v1 v2) (hk : Keeps B b' w w') (hB : b + 2 < B) : Res w' b v0 v1 v2 :=
  ⟨(hk.below.block _ (by omega)).trans h.r0, (hk.below.block _ (by omega)).trans h.r1, (hk.below.block _ (by omega)).trans h.r2⟩

end Go.Proofs.YtehffmcfmdjknaaDoor.Quote
