/- jdec's parser in memory; fail, wrong, blanks, is. -/
import Derived.Test.YtmjlklefpiciaaaGreatDoorZJdecU
import Derived.Test.YtmjlklefpiciaaaGreatDoorZNumW
import Derived.Test.YtmjlklefpiciaaaGreatDoorZFrame
import Derived.Test.YtmjlklefpiciaaaGreatDoorZQuoteC
import Derived.Deep.RegionHeld3
import Derived.Deep.AppendLies
import Derived.Deep.RegionLaw
import Derived.Maps.OwnSet
import Derived.Maps.OwnOps
import Derived.Deep.CutRange
import Derived.WalkMore
import Derived.Laws.EntriesVeiled
import Derived.Laws.StructEq
namespace Go.Proofs.YtmjlklefpiciaaaGreatDoor.Jdec
open Go.RowKit Go.Proofs.YtmjlklefpiciaaaGreatDoor.Strs
set_option linter.unusedVariables false
set_option linter.unusedSimpArgs false
set_option maxRecDepth 100000

theorem gb_refl (w : World) (r : Option Nat) : w.grownBy w r := ⟨rfl, rfl, rfl, Nat.le_refl _, fun _ _ _ => rfl⟩
theorem gb_drew (w : World) (n : Nat) (r : Option Nat) : w.grownBy (w.drewN n) r := ⟨rfl, rfl, rfl, Nat.le_refl _, fun _ _ _ => rfl⟩
theorem gb_set (w : World) (b i : Nat) (v : Value) : w.grownBy (w.setCell ⟨b, i, none⟩ v) (some b) := ⟨rfl, rfl, rfl, by simp [World.setCell], fun k _ hk => Below.heap_setCell _ _ _ _ (fun e => hk (by simp [e]))⟩
theorem gb_below {w w' : World} (h : Below w.heap.size w w') (r : Option Nat) : w.grownBy w' r := ⟨h.os, h.tape, h.output, h.size, fun k hk _ => h.block k hk⟩

section
variable {w w' : World} {P : Nat} {s : ByteArray} {k : Nat} {V : Value} {b e : Nat}
end

end Go.Proofs.YtmjlklefpiciaaaGreatDoor.Jdec
/- jdec's parser: blanks, is. -/
namespace Go.Proofs.YtmjlklefpiciaaaGreatDoor.Jdec
open Go.RowKit Go.Proofs.YtmjlklefpiciaaaGreatDoor.Strs
set_option linter.unusedVariables false
set_option linter.unusedSimpArgs false
set_option maxRecDepth 100000

end Go.Proofs.YtmjlklefpiciaaaGreatDoor.Jdec
/- jdec's parser: ends, word, quoted, text, yes, no, null. -/
namespace Go.Proofs.YtmjlklefpiciaaaGreatDoor.Jdec
open Go.RowKit Go.Proofs.YtmjlklefpiciaaaGreatDoor.Strs
set_option linter.unusedVariables false
set_option linter.unusedSimpArgs false
set_option maxRecDepth 100000

end Go.Proofs.YtmjlklefpiciaaaGreatDoor.Jdec
/- jdec's parser: word, quoted. -/
namespace Go.Proofs.YtmjlklefpiciaaaGreatDoor.Jdec
open Go.RowKit Go.Proofs.YtmjlklefpiciaaaGreatDoor.Strs
set_option linter.unusedVariables false
set_option linter.unusedSimpArgs false
set_option maxRecDepth 100000

end Go.Proofs.YtmjlklefpiciaaaGreatDoor.Jdec
/- jdec's parser: values that have no parts: text, yes, no, null. -/
namespace Go.Proofs.YtmjlklefpiciaaaGreatDoor.Jdec
open Go.RowKit Go.Proofs.YtmjlklefpiciaaaGreatDoor.Strs
set_option linter.unusedVariables false
set_option linter.unusedSimpArgs false
set_option maxRecDepth 100000

end Go.Proofs.YtmjlklefpiciaaaGreatDoor.Jdec
/- jdec's parser: numbers. -/
namespace Go.Proofs.YtmjlklefpiciaaaGreatDoor.Jdec
open Go.RowKit Go.Proofs.YtmjlklefpiciaaaGreatDoor.Strs
set_option linter.unusedVariables false
set_option linter.unusedSimpArgs false
set_option maxRecDepth 100000

end Go.Proofs.YtmjlklefpiciaaaGreatDoor.Jdec
/- jdec's parser: numbers that are there. -/
namespace Go.Proofs.YtmjlklefpiciaaaGreatDoor.Jdec
open Go.RowKit Go.Proofs.YtmjlklefpiciaaaGreatDoor.Strs
set_option linter.unusedVariables false
set_option linter.unusedSimpArgs false
set_option maxRecDepth 100000

end Go.Proofs.YtmjlklefpiciaaaGreatDoor.Jdec
/- jdec's table of ways; what all readers of values lean on; ends wherever the parser stands. -/
namespace Go.Proofs.YtmjlklefpiciaaaGreatDoor.Jdec
open Go.RowKit Go.Proofs.YtmjlklefpiciaaaGreatDoor.Strs
set_option linter.unusedVariables false
set_option linter.unusedSimpArgs false
set_option maxRecDepth 100000

end Go.Proofs.YtmjlklefpiciaaaGreatDoor.Jdec
/- jdec's parser: lists. -/
namespace Go.Proofs.YtmjlklefpiciaaaGreatDoor.Jdec
open Go.RowKit Go.Proofs.YtmjlklefpiciaaaGreatDoor.Strs
set_option linter.unusedVariables false
set_option linter.unusedSimpArgs false
set_option maxRecDepth 100000

end Go.Proofs.YtmjlklefpiciaaaGreatDoor.Jdec
/- jdec's parser: keys, and the map of those seen. -/
namespace Go.Proofs.YtmjlklefpiciaaaGreatDoor.Jdec
open Go.RowKit Go.Maps Go.Proofs.YtmjlklefpiciaaaGreatDoor.Strs
set_option linter.unusedVariables false
set_option linter.unusedSimpArgs false
set_option maxRecDepth 100000

/-- The map at block M has the keys ks. -/
def Seen (w : World) (M n : Nat) (ks : List ByteArray) : Prop :=
  ∃ D : DataW Unit, w.ownsMap Tryz.prog 9 (plainElem Tryz.prog 4) M n D ∧ ∀ d : ByteArray, D.atKey (.string d.data.toList) (.lit (.bool false)) = .lit (.bool (ks.any (fun x => decide (x = d))))
theorem Seen.made (w : World) : Seen (w.alloc (.map #[] 0)) w.heap.size 0 [] := ⟨.map [], World.ownsMap_made _ _ _ _, fun d => rfl⟩
theorem Seen.kept {w w' : World} {M n : Nat} {ks : List ByteArray} {row : Option Nat} (h : Seen w M n ks) (g : w.grownBy w' row) (hM : some M ≠ row) : Seen w' M n ks := by
  obtain ⟨D, h1, h2⟩ := h
  exact ⟨D, h1.kept g hM, h2⟩
theorem Seen.put {w w' : World} {M n : Nat} {ks : List ByteArray} {d : ByteArray} {D : DataW Unit} (h0 : w.ownsMap Tryz.prog 9 (plainElem Tryz.prog 4) M n D) (h2 : ∀ d : ByteArray, D.atKey (.string d.data.toList) (.lit (.bool false)) = .lit (.bool (ks.any (fun x => decide (x = d)))))
    (h1 : w'.ownsMap Tryz.prog 9 (plainElem Tryz.prog 4) M (n + 1) (D.put (.string d.data.toList) (.lit (.bool true)))) : Seen w' M (n + 1) (ks ++ [d]) := by
  refine ⟨_, h1, fun d' => ?_⟩
  by_cases e : d = d'
  · subst e
    rw [atKey_put_same h0.isMap (by trivial)]
    simp
  · rw [atKey_put_other, h2 d']
    · simp [e]
    · intro h
      injection h with h
      apply e
      cases d; cases d'
      simp only [ByteArray.mk.injEq]
      exact (Array.toList_inj.1 h.symm)
end Go.Proofs.YtmjlklefpiciaaaGreatDoor.Jdec
/- jdec's parser: key. -/
namespace Go.Proofs.YtmjlklefpiciaaaGreatDoor.Jdec
open Go.RowKit Go.Maps Go.Proofs.YtmjlklefpiciaaaGreatDoor.Strs
set_option linter.unusedVariables false
set_option linter.unusedSimpArgs false
set_option maxRecDepth 100000

/-- What turned is the parser and the map. -/
def Two (w w' : World) (P M : Nat) : Prop := ∃ wm, w.grownBy wm (some P) ∧ wm.grownBy w' (some M) ∧ ∃ es c, w'.heap[M]? = some (.map es c)
theorem Seen.map {w : World} {M n : Nat} {ks : List ByteArray} (h : Seen w M n ks) : ∃ es c, w.heap[M]? = some (.map es c) := by
  obtain ⟨D, ⟨es, c, h, _⟩, _⟩ := h
  exact ⟨es, c, h⟩
end Go.Proofs.YtmjlklefpiciaaaGreatDoor.Jdec
/- jdec's parser: an object in the making. -/
namespace Go.Proofs.YtmjlklefpiciaaaGreatDoor.Jdec
open Go.RowKit Go.Maps Go.Proofs.YtmjlklefpiciaaaGreatDoor.Strs
set_option linter.unusedVariables false
set_option linter.unusedSimpArgs false
set_option maxRecDepth 100000

section
variable {w w' w7 : World} {b M m : Nat} {ok : Prop} {ks : List ByteArray} {vs : List JV} {ka va : Option Addr} {kc vc : Nat}
end
end Go.Proofs.YtmjlklefpiciaaaGreatDoor.Jdec
/- jdec's parser: objects. -/
namespace Go.Proofs.YtmjlklefpiciaaaGreatDoor.Jdec
open Go.RowKit Go.Maps Go.Proofs.YtmjlklefpiciaaaGreatDoor.Strs
set_option linter.unusedVariables false
set_option linter.unusedSimpArgs false
set_option maxRecDepth 100000

theorem infoStr : (Tryz.prog.info? 9).map (fun i => (i.zero, i.size, i.bytes)) = some (some (.string ⟨#[]⟩), 1, 16) := by kernel_rfl
end Go.Proofs.YtmjlklefpiciaaaGreatDoor.Jdec
/- jdec's parser: object. -/
namespace Go.Proofs.YtmjlklefpiciaaaGreatDoor.Jdec
open Go.RowKit Go.Maps Go.Proofs.YtmjlklefpiciaaaGreatDoor.Strs
set_option linter.unusedVariables false
set_option linter.unusedSimpArgs false
set_option maxRecDepth 100000

end Go.Proofs.YtmjlklefpiciaaaGreatDoor.Jdec
/- jdec's parser: value. -/
namespace Go.Proofs.YtmjlklefpiciaaaGreatDoor.Jdec
open Go.RowKit Go.Proofs.YtmjlklefpiciaaaGreatDoor.Strs
set_option linter.unusedVariables false
set_option linter.unusedSimpArgs false
set_option maxRecDepth 100000

end Go.Proofs.YtmjlklefpiciaaaGreatDoor.Jdec
/- jdec.Parse. -/
namespace Go.Proofs.YtmjlklefpiciaaaGreatDoor.Jdec
open Go.RowKit Go.Proofs.YtmjlklefpiciaaaGreatDoor.Strs
set_option linter.unusedVariables false
set_option linter.unusedSimpArgs false
set_option maxRecDepth 100000

/-- What Parse tells. -/
def PPost (l : List UInt8) (w : World) (x : Ending) (w' : World) : Prop :=
  ∃ a : Raw, x = .returned (.tuple #[a.val, .int .i64 (parse l).2.1, .int .i64 (parse l).2.2]) ∧ IsV w' (fun j => w.heap.size ≤ j) a (parse l).1 ∧ Below w.heap.size w w'
end Go.Proofs.YtmjlklefpiciaaaGreatDoor.Jdec
/- tabulariumref08.Same of nothing; tabulariumlaw09.wakes. -/
namespace Go.Proofs.YtmjlklefpiciaaaGreatDoor.Jdec
open Go.RowKit Go.Proofs.YtmjlklefpiciaaaGreatDoor.Strs
set_option linter.unusedVariables false
set_option linter.unusedSimpArgs false
set_option maxRecDepth 100000

@[go_sem] theorem eqNum (a c : Bool) (b d : Int) (s t : ByteArray) (w : World) : (Op.equalIn 10000 207 (.agg #[.bool a, .string s, .int .i64 b]) (.agg #[.bool c, .string t, .int .i64 d])).run Tryz.prog w = .ok (a == c && (s.toList == t.toList && b == d)) w := by
  have u3 := Tryz.underlying3
  have u9 := Tryz.underlying9
  have u4 := Tryz.underlying4
  have hS : Tryz.prog.underlying 207 = some (.struct (Tryz.prog.fieldsOf 207)) := by kernel_rfl
  have hp : Tryz.prog.stoodInHeld 207 = false := by kernel_rfl
  rw [show (10000 : Nat) = 9999 + 1 from rfl, run_equalIn_agg w 9999 207 _ _ hS hp]
  simp only [Program.fieldsOf, Tryz.underlying207]
  go_simp
  by_cases h1 : a = c <;> by_cases h2 : s.toList = t.toList <;> by_cases h3 : b = d <;> simp [h1, h2, h3]
/-- The tables that Parse leans on. -/
structure JTabs (w : World) : Prop where
  z : Utf.Sizes w
  m : Num.Steps w
theorem JTabs.stays {w w' : World} (T : JTabs w) (h : Below w.heap.size w w') : JTabs w' := ⟨T.z.stays h, T.m.stays h⟩
end Go.Proofs.YtmjlklefpiciaaaGreatDoor.Jdec
/- The values of a text are no longer than it. -/
namespace Go.Proofs.YtmjlklefpiciaaaGreatDoor.Jdec
set_option linter.unusedVariables false
set_option linter.unusedSimpArgs false

/-- Lists of at most N. -/
inductive Small (N : Nat) : JV → Prop where
  | mk (k : Int) (i n : Bool) (d : ByteArray) (e : Int) (s : ByteArray) (ks : List ByteArray) (vs : List JV) : ks.length ≤ N → vs.length ≤ N → (∀ j (h : j < vs.length), Small N vs[j]) → Small N (.mk k i n d e s ks vs)
theorem Small.bare (N : Nat) (k : Int) (i n : Bool) (d : ByteArray) (e : Int) (s : ByteArray) : Small N (.mk k i n d e s [] []) := .mk _ _ _ _ _ _ _ _ (Nat.zero_le _) (Nat.zero_le _) (fun j h => absurd h (Nat.not_lt_zero _))
end Go.Proofs.YtmjlklefpiciaaaGreatDoor.Jdec
/- tabulariumref08.Same of two values that are alike. -/
namespace Go.Proofs.YtmjlklefpiciaaaGreatDoor.Jdec
open Go.RowKit Go.Proofs.YtmjlklefpiciaaaGreatDoor.Strs
set_option linter.unusedVariables false
set_option linter.unusedSimpArgs false
set_option maxRecDepth 100000

theorem CellsAt.below {w w' : World} {b o : Nat} {r : Raw} (h : CellsAt w b o r) (hb : b < w.heap.size) (g : Below w.heap.size w w') : CellsAt w' b o r := fun j u hu => (World.cell?_of_block (g.block b hb)).trans (h j u hu)
theorem IsV.parts {w : World} {A : Nat → Prop} {r : Raw} {k : Int} {i n : Bool} {d : ByteArray} {e : Int} {s : ByteArray} {ks : List ByteArray} {vs : List JV} (h : IsV w A r (.mk k i n d e s ks vs)) :
    ∃ ka kc va vc, r = Raw.mk k i n d e s ka ks.length kc va vs.length vc ∧ IsTexts w A ka ks ∧ ∃ f : Nat → Raw, (vs = [] ∨ ∃ b o, va = some ⟨b, o, none⟩ ∧ b < w.heap.size ∧ ∀ i, i < vs.length → CellsAt w b (o + i * 8) (f i)) ∧ ∀ i (h : i < vs.length), IsV w A (f i) vs[i] := by
  generalize hz : JV.mk k i n d e s ks vs = z at h
  cases h with
  | mk _ keys kids f h1 h2 h3 h4 h5 =>
    injection hz with e1 e2 e3 e4 e5 e6 e7 e8
    subst e7 e8
    obtain ⟨kd, is, ng, dg, ex, st, ka, kn, kc, va, vn, vc⟩ := r
    simp only at h1 h2 e1 e2 e3 e4 e5 e6
    subst e1 e2 e3 e4 e5 e6 h1 h2
    refine ⟨ka, kc, va, vc, rfl, h3, f, ?_, h5⟩
    rcases h4 with h4 | ⟨b, o, q1, _, q3, q4⟩
    · exact .inl h4
    · exact .inr ⟨b, o, q1, q3, q4⟩
theorem IsV.behind {w w' : World} {A : Nat → Prop} {r : Raw} {t : JV} (h : IsV w A r t) (g : Below w.heap.size w w') : IsV w' A r t := h.turn (Turn.below g)
end Go.Proofs.YtmjlklefpiciaaaGreatDoor.Jdec
