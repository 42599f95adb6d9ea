/- jdec's parser in memory; fail, wrong, blanks, is. -/
import Derived.Test.YtckflnibkglheaaGreatDoorZJdecU
import Derived.Test.YtckflnibkglheaaGreatDoorZNumW
import Derived.Test.YtckflnibkglheaaGreatDoorZFrame
import Derived.Test.YtckflnibkglheaaGreatDoorZQuoteC
import Derived.Deep.RegionHeld3
import Derived.Deep.AppendLies
import Derived.Deep.RegionLaw
import Derived.Maps.OwnSet
import Derived.Maps.OwnOps
import Derived.Deep.CutRange
import Derived.WalkMore
import Derived.Laws.EntriesVeiled
import Derived.Laws.StructEq
namespace Go.Proofs.YtckflnibkglheaaGreatDoor.Jdec
open Go.RowKit Go.Proofs.YtckflnibkglheaaGreatDoor.Strs
set_option linter.unusedVariables false
set_option linter.unusedSimpArgs false
set_option maxRecDepth 100000

theorem gb_refl (w : World) (r : Option Nat) : w.grownBy w r := ⟨rfl, rfl, rfl, Nat.le_refl _, fun _ _ _ => rfl⟩
theorem gb_set (w : World) (b i : Nat) (v : Value) : w.grownBy (w.setCell ⟨b, i, none⟩ v) (some b) := ⟨rfl, rfl, rfl, by simp [World.setCell], fun k _ hk => Below.heap_setCell _ _ _ _ (fun e => hk (by simp [e]))⟩
theorem gb_below {w w' : World} (h : Below w.heap.size w w') (r : Option Nat) : w.grownBy w' r := ⟨h.os, h.tape, h.output, h.size, fun k hk _ => h.block k hk⟩

section
variable {w w' : World} {P : Nat} {s : ByteArray} {k : Nat} {V : Value} {b e : Nat}
end

end Go.Proofs.YtckflnibkglheaaGreatDoor.Jdec
/- jdec's parser: blanks, is. -/
namespace Go.Proofs.YtckflnibkglheaaGreatDoor.Jdec
open Go.RowKit Go.Proofs.YtckflnibkglheaaGreatDoor.Strs
set_option linter.unusedVariables false
set_option linter.unusedSimpArgs false
set_option maxRecDepth 100000

end Go.Proofs.YtckflnibkglheaaGreatDoor.Jdec
/- jdec's parser: ends, word, quoted, text, yes, no, null. -/
namespace Go.Proofs.YtckflnibkglheaaGreatDoor.Jdec
open Go.RowKit Go.Proofs.YtckflnibkglheaaGreatDoor.Strs
set_option linter.unusedVariables false
set_option linter.unusedSimpArgs false
set_option maxRecDepth 100000

end Go.Proofs.YtckflnibkglheaaGreatDoor.Jdec
/- jdec's parser: word, quoted. -/
namespace Go.Proofs.YtckflnibkglheaaGreatDoor.Jdec
open Go.RowKit Go.Proofs.YtckflnibkglheaaGreatDoor.Strs
set_option linter.unusedVariables false
set_option linter.unusedSimpArgs false
set_option maxRecDepth 100000

end Go.Proofs.YtckflnibkglheaaGreatDoor.Jdec
/- jdec's parser: values that have no parts: text, yes, no, null. -/
namespace Go.Proofs.YtckflnibkglheaaGreatDoor.Jdec
open Go.RowKit Go.Proofs.YtckflnibkglheaaGreatDoor.Strs
set_option linter.unusedVariables false
set_option linter.unusedSimpArgs false
set_option maxRecDepth 100000

def Raw.arr (a : Raw) : Array Value := #[.int .i64 a.kind, .bool a.is, .bool a.neg, .string a.dig, .int .i64 a.exp, .string a.str, .slice a.ka a.kn a.kc, .slice a.va a.vn a.vc]
end Go.Proofs.YtckflnibkglheaaGreatDoor.Jdec
/- jdec's parser: numbers. -/
namespace Go.Proofs.YtckflnibkglheaaGreatDoor.Jdec
open Go.RowKit Go.Proofs.YtckflnibkglheaaGreatDoor.Strs
set_option linter.unusedVariables false
set_option linter.unusedSimpArgs false
set_option maxRecDepth 100000

end Go.Proofs.YtckflnibkglheaaGreatDoor.Jdec
/- jdec's parser: numbers that are there. -/
namespace Go.Proofs.YtckflnibkglheaaGreatDoor.Jdec
open Go.RowKit Go.Proofs.YtckflnibkglheaaGreatDoor.Strs
set_option linter.unusedVariables false
set_option linter.unusedSimpArgs false
set_option maxRecDepth 100000

end Go.Proofs.YtckflnibkglheaaGreatDoor.Jdec
/- jdec's table of ways; what all readers of values lean on; ends wherever the parser stands. -/
namespace Go.Proofs.YtckflnibkglheaaGreatDoor.Jdec
open Go.RowKit Go.Proofs.YtckflnibkglheaaGreatDoor.Strs
set_option linter.unusedVariables false
set_option linter.unusedSimpArgs false
set_option maxRecDepth 100000

end Go.Proofs.YtckflnibkglheaaGreatDoor.Jdec
/- jdec's parser: lists. -/
namespace Go.Proofs.YtckflnibkglheaaGreatDoor.Jdec
open Go.RowKit Go.Proofs.YtckflnibkglheaaGreatDoor.Strs
set_option linter.unusedVariables false
set_option linter.unusedSimpArgs false
set_option maxRecDepth 100000

end Go.Proofs.YtckflnibkglheaaGreatDoor.Jdec
/- jdec's parser: keys, and the map of those seen. -/
namespace Go.Proofs.YtckflnibkglheaaGreatDoor.Jdec
open Go.RowKit Go.Maps Go.Proofs.YtckflnibkglheaaGreatDoor.Strs
set_option linter.unusedVariables false
set_option linter.unusedSimpArgs false
set_option maxRecDepth 100000

/-- The map at block M has the keys ks. -/
def Seen (w : World) (M n : Nat) (ks : List ByteArray) : Prop :=
  ∃ D : DataW Unit, w.ownsMap Tryz.prog 9 (plainElem Tryz.prog 4) M n D ∧ ∀ d : ByteArray, D.atKey (.string d.data.toList) (.lit (.bool false)) = .lit (.bool (ks.any (fun x => decide (x = d))))
theorem Seen.made (w : World) : Seen (w.alloc (.map #[] 0)) w.heap.size 0 [] := ⟨.map [], World.ownsMap_made _ _ _ _, fun d => rfl⟩
theorem Seen.kept {w w' : World} {M n : Nat} {ks : List ByteArray} {row : Option Nat} (h : Seen w M n ks) (g : w.grownBy w' row) (hM : some M ≠ row) : Seen w' M n ks := by
  obtain ⟨D, h1, h2⟩ := h
  exact ⟨D, h1.kept g hM, h2⟩
theorem Seen.put {w w' : World} {M n : Nat} {ks : List ByteArray} {d : ByteArray} {D : DataW Unit} (h0 : w.ownsMap Tryz.prog 9 (plainElem Tryz.prog 4) M n D) (h2 : ∀ d : ByteArray, D.atKey (.string d.data.toList) (.lit (.bool false)) = .lit (.bool (ks.any (fun x => decide (x = d)))))
    (h1 : w'.ownsMap Tryz.prog 9 (plainElem Tryz.prog 4) M (n + 1) (D.put (.string d.data.toList) (.lit (.bool true)))) : Seen w' M (n + 1) (ks ++ [d]) := by
  refine ⟨_, h1, fun d' => ?_⟩
  by_cases e : d = d'
  · subst e
    rw [atKey_put_same h0.isMap (by trivial)]
    simp
  · rw [atKey_put_other, h2 d']
    · simp [e]
    · intro h
      injection h with h
      apply e
      cases d; cases d'
      simp only [ByteArray.mk.injEq]
      exact (Array.toList_inj.1 h.symm)
end Go.Proofs.YtckflnibkglheaaGreatDoor.Jdec
/- jdec's parser: key. -/
namespace Go.Proofs.YtckflnibkglheaaGreatDoor.Jdec
open Go.RowKit Go.Maps Go.Proofs.YtckflnibkglheaaGreatDoor.Strs
set_option linter.unusedVariables false
set_option linter.unusedSimpArgs false
set_option maxRecDepth 100000

/-- What turned is the parser and the map. -/
def Two (w w' : World) (P M : Nat) : Prop := ∃ wm, w.grownBy wm (some P) ∧ wm.grownBy w' (some M) ∧ ∃ es c, w'.heap[M]? = some (.map es c)
theorem Seen.map {w : World} {M n : Nat} {ks : List ByteArray} (h : Seen w M n ks) : ∃ es c, w.heap[M]? = some (.map es c) := by
  obtain ⟨D, ⟨es, c, h, _⟩, _⟩ := h
  exact ⟨es, c, h⟩
end Go.Proofs.YtckflnibkglheaaGreatDoor.Jdec
/- jdec's parser: an object in the making. -/
namespace Go.Proofs.YtckflnibkglheaaGreatDoor.Jdec
open Go.RowKit Go.Maps Go.Proofs.YtckflnibkglheaaGreatDoor.Strs
set_option linter.unusedVariables false
set_option linter.unusedSimpArgs false
set_option maxRecDepth 100000

/-- A row of values whose parts lie in A's blocks. -/
def KidsA (w : World) (B : Nat) (A : Nat → Prop) (v : Value) (ts : List JV) : Prop :=
  ∃ rs : List Raw, rs.length = ts.length ∧ w.ownsRow B 112 8 v ts.length (rs.flatMap Raw.cells) ∧
    ∀ i (h : i < rs.length) (h' : i < ts.length), IsV w (fun b => A b ∧ some b ≠ v.ownBlock) rs[i] ts[i]
theorem KidsA.turn {w w' : World} {B : Nat} {A A' : Nat → Prop} {v : Value} {ts : List JV} {row : Option Nat} (h : KidsA w B A v ts) (hg : w.grownBy w' row) (h1 : v.ownBlock = none ∨ v.ownBlock ≠ row) (h2 : ∀ b, A b → b < w.heap.size → some b ≠ row ∧ A' b) : KidsA w' B A' v ts := by
  obtain ⟨rs, k1, k2, k3⟩ := h
  refine ⟨rs, k1, k2.kept hg h1, fun i hi hi' => (k3 i hi hi').turn ⟨hg.size, fun b hb hlt => ?_⟩⟩
  obtain ⟨h3, h4⟩ := h2 b hb.1 hlt
  exact ⟨hg.block b hlt h3, h4, hb.2⟩
theorem KidsA.kids {w : World} {B : Nat} {A : Nat → Prop} {v : Value} {ts : List JV} (h : KidsA w B A v ts) (hA : ∀ b, A b → B ≤ b) : Kids w B v ts := by
  obtain ⟨rs, k1, k2, k3⟩ := h
  exact ⟨rs, k1, k2, fun i hi hi' => (k3 i hi hi').turn (Turn.mono w (fun b hb _ => ⟨hA b hb.1, hb.2⟩))⟩
/-- Rows of other elements lie elsewhere. -/
theorem rows_ne {w : World} {B B' e e' size size' n n' : Nat} {v v' : Value} {xs xs' : List Value} (h : w.ownsRow B e size v n xs) (h' : w.ownsRow B' e' size' v' n' xs') (hne : e ≠ e') : v.ownBlock = none ∨ v.ownBlock ≠ v'.ownBlock := by
  rcases h.2 with ⟨rfl, _⟩ | ⟨g, cap, cur, rfl, _, hgg, _⟩
  · exact .inl rfl
  · rcases h'.2 with ⟨rfl, _⟩ | ⟨g', cap', cur', rfl, _, hgg', _⟩
    · exact .inr (by simp [Value.ownBlock])
    · refine .inr fun he => ?_
      simp only [Value.ownBlock, Option.some.injEq] at he
      subst he
      rw [hgg] at hgg'
      simp only [Option.some.injEq, Obj.cells.injEq] at hgg'
      exact hne hgg'.2.1
theorem row_map {w : World} {B e size n M : Nat} {v : Value} {xs : List Value} (h : w.ownsRow B e size v n xs) (hM : ∃ es c, w.heap[M]? = some (.map es c)) : some M ≠ v.ownBlock := by
  obtain ⟨es, c, hm⟩ := hM
  rcases h.2 with ⟨rfl, _⟩ | ⟨g, cap, cur, rfl, _, hgg, _⟩
  · simp [Value.ownBlock]
  · intro he
    simp only [Value.ownBlock, Option.some.injEq] at he
    subst he
    rw [hgg] at hm
    simp at hm
/-- An object's words. -/
def oraw (ka : Option Addr) (kn kc : Nat) (va : Option Addr) (vn vc : Nat) : Raw := ⟨6, false, false, ⟨#[]⟩, 0, ⟨#[]⟩, ka, kn, kc, va, vn, vc⟩
/-- The blocks that an object's values may lie in. -/
def OA (b M : Nat) (v : Value) (j : Nat) : Prop := b + 1 ≤ j ∧ j ≠ M ∧ some j ≠ v.ownBlock
/-- An object in the making at block b, its map of keys at block M. -/
structure OB (w : World) (b M m : Nat) (ok : Prop) (ks : List ByteArray) (vs : List JV) (ka : Option Addr) (kc : Nat) (va : Option Addr) (vc : Nat) : Prop where
  Y : w.heap[b]? = some (.cells (oraw ka ks.length kc va vs.length vc).arr 112 (0, 0))
  K : w.ownsRow (b + 1) 9 1 (.slice ka ks.length kc) ks.length (ks.map Value.string)
  V : KidsA w (b + 1) (OA b M (.slice ka ks.length kc)) (.slice va vs.length vc) vs
  bM : b < M
  mp : ∃ es c, w.heap[M]? = some (.map es c)
  S : ok → Seen w M m ks
section
variable {w w' w7 : World} {b M m : Nat} {ok : Prop} {ks : List ByteArray} {vs : List JV} {ka va : Option Addr} {kc vc : Nat}
theorem OB.lt (h : OB w b M m ok ks vs ka kc va vc) : b < w.heap.size := heap_lt h.Y
theorem OB.kept {row : Option Nat} (h : OB w b M m ok ks vs ka kc va vc) (g : w.grownBy w' row) (hr : ∀ k, row = some k → k < b) : OB w' b M m ok ks vs ka kc va vc := by
  have hb := h.bM
  have hMl : M < w.heap.size := by obtain ⟨es, c, hm⟩ := h.mp; exact heap_lt hm
  have hne : ∀ k, b ≤ k → some k ≠ row := fun k hk e => by have := hr k e.symm; omega
  have hown : ∀ {e size n : Nat} {v : Value} {xs : List Value}, w.ownsRow (b + 1) e size v n xs → (v.ownBlock = none ∨ v.ownBlock ≠ row) := by
    intro e size n v xs hx
    cases hv : v.ownBlock with
    | none => exact .inl rfl
    | some k =>
      have := (hx.lt k hv).1
      exact .inr (hne k (by omega))
  refine ⟨(g.block b h.lt (hne b (Nat.le_refl _))).trans h.Y, h.K.kept g (hown h.K), ?_, hb, ?_, fun x => (h.S x).kept g (hne M (by omega))⟩
  · have hV := h.V
    obtain ⟨rs, k1, k2, k3⟩ := h.V
    exact hV.turn g (hown k2) (fun j hj _ => ⟨hne j (by have := hj.1; omega), hj⟩)
  · obtain ⟨es, c, hm⟩ := h.mp
    exact ⟨es, c, (g.block M hMl (hne M (by omega))).trans hm⟩
/-- A key more. -/
theorem OB.key {m' g cap : Nat} {d : ByteArray} {o : Obj} {ok' : Prop} (h : OB w b M m ok ks vs ka kc va vc) (hseen : ok' → Seen w M m' (ks ++ [d]))
    (hown : w7.ownsRow (b + 1) 9 1 (.slice (some ⟨g, 0, none⟩) (ks.length + 1) cap) (ks.length + 1) (ks.map Value.string ++ [.string d])) (hgrow : (w.alloc o).grownBy w7 (Value.slice ka ks.length kc).ownBlock)
    (hat : (Value.slice ka ks.length kc).ownBlock = some g ∨ g = w.heap.size + 1) :
    OB (w7.setCell ⟨b, 6, none⟩ (.slice (some ⟨g, 0, none⟩) (ks.length + 1) cap)) b M m' ok' (ks ++ [d]) vs (some ⟨g, 0, none⟩) cap va vc ∧ Below b w (w7.setCell ⟨b, 6, none⟩ (.slice (some ⟨g, 0, none⟩) (ks.length + 1) cap)) := by
  have hb := h.bM
  have hlt := h.lt
  have hMl : M < w.heap.size := by obtain ⟨es, c, hm⟩ := h.mp; exact heap_lt hm
  have hKo : ∀ j, (Value.slice ka ks.length kc).ownBlock = some j → b + 1 ≤ j := fun j hj => (h.K.lt j hj).1
  have hbo : some b ≠ (Value.slice ka ks.length kc).ownBlock := fun e => by have := hKo b e.symm; omega
  have hMo : some M ≠ (Value.slice ka ks.length kc).ownBlock := row_map h.K h.mp
  have Y7 : w7.heap[b]? = some (.cells (oraw ka ks.length kc va vs.length vc).arr 112 (0, 0)) := (hgrow.block b (by simp; omega) hbo).trans (heap_alloc_old h.Y)
  have hgb : b + 1 ≤ g := by
    rcases hat with e | e
    · exact hKo g e
    · omega
  have gs := gb_set w7 b 6 (.slice (some ⟨g, 0, none⟩) (ks.length + 1) cap)
  have hS : ∀ {n : Nat} {l : List ByteArray}, Seen w M n l → Seen (w7.setCell ⟨b, 6, none⟩ (.slice (some ⟨g, 0, none⟩) (ks.length + 1) cap)) M n l := fun hx => (((hx.kept (World.grownBy_alloc _ o none) (by simp)).kept hgrow hMo).kept gs (by simp; omega))
  refine ⟨⟨?_, ?_, ?_, hb, ?_, fun x => hS (hseen x)⟩, ?_⟩
  · rw [heap_set_same Y7]; simp [oraw, Raw.arr]
  · have := hown.kept gs (.inr (by simp [Value.ownBlock]; omega))
    simpa using this
  · obtain ⟨rs, k1, k2, k3⟩ := h.V
    have V1 : KidsA (w.alloc o) (b + 1) (fun j => OA b M (.slice ka ks.length kc) j ∧ j < w.heap.size) (.slice va vs.length vc) vs := KidsA.turn ⟨rs, k1, k2, k3⟩ (World.grownBy_alloc _ o none) (by cases h9 : (Value.slice va vs.length vc).ownBlock <;> simp) (fun j hj hl => ⟨by simp, hj, hl⟩)
    have V2 : KidsA w7 (b + 1) (OA b M (.slice (some ⟨g, 0, none⟩) (ks ++ [d]).length cap)) (.slice va vs.length vc) vs := V1.turn hgrow (rows_ne k2 h.K (by decide)) (fun j hj _ => by
      obtain ⟨⟨j1, j2, j3⟩, jl⟩ := hj
      refine ⟨j3, j1, j2, ?_⟩
      rcases hat with e | e
      · rw [e] at j3; exact j3
      · simp [Value.ownBlock]; omega)
    obtain ⟨rs, k1, k2, k3⟩ := V2
    exact KidsA.turn ⟨rs, k1, k2, k3⟩ gs (by
      cases hv : (Value.slice va vs.length vc).ownBlock with
      | none => exact .inl rfl
      | some k => have := (k2.lt k hv).1; exact .inr (by simp; omega)) (fun j hj _ => ⟨by have := hj.1; simp; omega, hj⟩)
  · obtain ⟨es, c, hm⟩ := h.mp
    exact ⟨es, c, (gs.block M (by have := hgrow.size; simp at this; omega) (by simp; omega)).trans ((hgrow.block M (by simp; omega) hMo).trans (heap_alloc_old hm))⟩
  · exact (((Below.refl b w).alloc (by omega) _).grown hgrow (by simp; omega) (fun k hk => by have := hKo k hk; omega)).setCell (p := ⟨b, 6, none⟩) (Nat.le_refl _) _
end
end Go.Proofs.YtckflnibkglheaaGreatDoor.Jdec
/- jdec's parser: objects. -/
namespace Go.Proofs.YtckflnibkglheaaGreatDoor.Jdec
open Go.RowKit Go.Maps Go.Proofs.YtckflnibkglheaaGreatDoor.Strs
set_option linter.unusedVariables false
set_option linter.unusedSimpArgs false
set_option maxRecDepth 100000

theorem infoStr : (Tryz.prog.info? 9).map (fun i => (i.zero, i.size, i.bytes)) = some (some (.string ⟨#[]⟩), 1, 16) := by kernel_rfl
end Go.Proofs.YtckflnibkglheaaGreatDoor.Jdec
/- jdec's parser: object. -/
namespace Go.Proofs.YtckflnibkglheaaGreatDoor.Jdec
open Go.RowKit Go.Maps Go.Proofs.YtckflnibkglheaaGreatDoor.Strs
set_option linter.unusedVariables false
set_option linter.unusedSimpArgs false
set_option maxRecDepth 100000

end Go.Proofs.YtckflnibkglheaaGreatDoor.Jdec
/- jdec's parser: value. -/
namespace Go.Proofs.YtckflnibkglheaaGreatDoor.Jdec
open Go.RowKit Go.Proofs.YtckflnibkglheaaGreatDoor.Strs
set_option linter.unusedVariables false
set_option linter.unusedSimpArgs false
set_option maxRecDepth 100000

end Go.Proofs.YtckflnibkglheaaGreatDoor.Jdec
/- jdec.Parse. -/
namespace Go.Proofs.YtckflnibkglheaaGreatDoor.Jdec
open Go.RowKit Go.Proofs.YtckflnibkglheaaGreatDoor.Strs
set_option linter.unusedVariables false
set_option linter.unusedSimpArgs false
set_option maxRecDepth 100000

/-- What Parse tells. -/
def PPost (l : List UInt8) (w : World) (x : Ending) (w' : World) : Prop :=
  ∃ a : Raw, x = .returned (.tuple #[a.val, .int .i64 (parse l).2.1, .int .i64 (parse l).2.2]) ∧ IsV w' (fun j => w.heap.size ≤ j) a (parse l).1 ∧ Below w.heap.size w w'
end Go.Proofs.YtckflnibkglheaaGreatDoor.Jdec
/- tabulariumref08.Same of nothing; tabulariumlaw09.wakes. -/
namespace Go.Proofs.YtckflnibkglheaaGreatDoor.Jdec
open Go.RowKit Go.Proofs.YtckflnibkglheaaGreatDoor.Strs
set_option linter.unusedVariables false
set_option linter.unusedSimpArgs false
set_option maxRecDepth 100000

@[go_sem] theorem eqNum (a c : Bool) (b d : Int) (s t : ByteArray) (w : World) : (Op.equalIn 10000 109 (.agg #[.bool a, .string s, .int .i64 b]) (.agg #[.bool c, .string t, .int .i64 d])).run Tryz.prog w = .ok (a == c && (s.toList == t.toList && b == d)) w := by
  have u3 := Tryz.underlying3
  have u9 := Tryz.underlying9
  have u4 := Tryz.underlying4
  have hS : Tryz.prog.underlying 109 = some (.struct (Tryz.prog.fieldsOf 109)) := by kernel_rfl
  have hp : Tryz.prog.stoodInHeld 109 = false := by kernel_rfl
  rw [show (10000 : Nat) = 9999 + 1 from rfl, run_equalIn_agg w 9999 109 _ _ hS hp]
  simp only [Program.fieldsOf, Tryz.underlying109]
  go_simp
  by_cases h1 : a = c <;> by_cases h2 : s.toList = t.toList <;> by_cases h3 : b = d <;> simp [h1, h2, h3]
/-- The tables that Parse leans on. -/
structure JTabs (w : World) : Prop where
  z : Utf.Sizes w
  m : Num.Steps w
theorem JTabs.stays {w w' : World} (T : JTabs w) (h : Below w.heap.size w w') : JTabs w' := ⟨T.z.stays h, T.m.stays h⟩
end Go.Proofs.YtckflnibkglheaaGreatDoor.Jdec
/- The values of a text are no longer than it. -/
namespace Go.Proofs.YtckflnibkglheaaGreatDoor.Jdec
set_option linter.unusedVariables false
set_option linter.unusedSimpArgs false

/-- Lists of at most N. -/
inductive Small (N : Nat) : JV → Prop where
  | mk (k : Int) (i n : Bool) (d : ByteArray) (e : Int) (s : ByteArray) (ks : List ByteArray) (vs : List JV) : ks.length ≤ N → vs.length ≤ N → (∀ j (h : j < vs.length), Small N vs[j]) → Small N (.mk k i n d e s ks vs)
theorem Small.bare (N : Nat) (k : Int) (i n : Bool) (d : ByteArray) (e : Int) (s : ByteArray) : Small N (.mk k i n d e s [] []) := .mk _ _ _ _ _ _ _ _ (Nat.zero_le _) (Nat.zero_le _) (fun j h => absurd h (Nat.not_lt_zero _))
end Go.Proofs.YtckflnibkglheaaGreatDoor.Jdec
/- tabulariumref08.Same of two values that are alike. -/
namespace Go.Proofs.YtckflnibkglheaaGreatDoor.Jdec
open Go.RowKit Go.Proofs.YtckflnibkglheaaGreatDoor.Strs
set_option linter.unusedVariables false
set_option linter.unusedSimpArgs false
set_option maxRecDepth 100000

theorem CellsAt.below {w w' : World} {b o : Nat} {r : Raw} (h : CellsAt w b o r) (hb : b < w.heap.size) (g : Below w.heap.size w w') : CellsAt w' b o r := fun j u hu => (World.cell?_of_block (g.block b hb)).trans (h j u hu)
theorem IsV.parts {w : World} {A : Nat → Prop} {r : Raw} {k : Int} {i n : Bool} {d : ByteArray} {e : Int} {s : ByteArray} {ks : List ByteArray} {vs : List JV} (h : IsV w A r (.mk k i n d e s ks vs)) :
    ∃ ka kc va vc, r = Raw.mk k i n d e s ka ks.length kc va vs.length vc ∧ IsTexts w A ka ks ∧ ∃ f : Nat → Raw, (vs = [] ∨ ∃ b o, va = some ⟨b, o, none⟩ ∧ b < w.heap.size ∧ ∀ i, i < vs.length → CellsAt w b (o + i * 8) (f i)) ∧ ∀ i (h : i < vs.length), IsV w A (f i) vs[i] := by
  generalize hz : JV.mk k i n d e s ks vs = z at h
  cases h with
  | mk _ keys kids f h1 h2 h3 h4 h5 =>
    injection hz with e1 e2 e3 e4 e5 e6 e7 e8
    subst e7 e8
    obtain ⟨kd, is, ng, dg, ex, st, ka, kn, kc, va, vn, vc⟩ := r
    simp only at h1 h2 e1 e2 e3 e4 e5 e6
    subst e1 e2 e3 e4 e5 e6 h1 h2
    refine ⟨ka, kc, va, vc, rfl, h3, f, ?_, h5⟩
    rcases h4 with h4 | ⟨b, o, q1, _, q3, q4⟩
    · exact .inl h4
    · exact .inr ⟨b, o, q1, q3, q4⟩
theorem IsV.behind {w w' : World} {A : Nat → Prop} {r : Raw} {t : JV} (h : IsV w A r t) (g : Below w.heap.size w w') : IsV w' A r t := h.turn (Turn.below g)
end Go.Proofs.YtckflnibkglheaaGreatDoor.Jdec
