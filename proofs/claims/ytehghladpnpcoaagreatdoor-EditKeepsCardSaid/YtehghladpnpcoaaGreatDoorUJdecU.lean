/- What package jdec computes, in plain Lean. -/
import Derived.Test.YtehghladpnpcoaaGreatDoorUNumW
import Derived.Test.YtehghladpnpcoaaGreatDoorUQuoteC
import Derived.Maps.AppendAt
import Derived.WalkKit
import Derived.Deep.RegionHeld3
import Derived.Deep.AppendLies
import Derived.Deep.RegionLaw
import Derived.Maps.OwnSet
import Derived.Maps.OwnOps
import Derived.Deep.CutRange
import Derived.WalkMore
import Derived.Laws.EntriesVeiled
import Derived.Laws.StructEq
set_option linter.unusedVariables false
set_option linter.unusedSimpArgs false
set_option maxRecDepth 100000
namespace Go.Proofs.YtehghladpnpcoaaGreatDoor.Jdec
inductive JV where
 | mk (kind : Int) (is neg : Bool) (dig : ByteArray) (exp : Int) (str : ByteArray) (keys : List ByteArray) (kids : List JV)
abbrev Er := Nat × Nat
def here (l : List UInt8) (p : Nat) : Er := (p, if l.length <= p then 2 else 3)
def quoted (l : List UInt8) (p : Nat) : Except Er (ByteArray × Nat) :=
 match Quote.scan (l.drop p) with
  | .error e => .error (p, e)
  | .ok (s, n) => .ok (⟨s.toArray⟩, p + n)
def text (l : List UInt8) (p : Nat) : Except Er (JV × Nat) :=
 match quoted l p with
  | .error x => .error x
  | .ok (s, q) => .ok (.mk 4 false false ⟨#[]⟩ 0 s [] [], q)
def key (l : List UInt8) (ks : List ByteArray) (p : Nat) : Except Er (ByteArray × Nat) :=
 if l[p]? = some 34 then match quoted l p with
  | .error x => .error x
  | .ok (k, q) => if ks.any (fun x => decide (x = k)) then .error (p, 6) else .ok (k, q)
 else .error (here l p)
open Go.RowKit
structure Raw where
 kind : Int
 is : Bool
 neg : Bool
 dig : ByteArray
 exp : Int
 str : ByteArray
 ka : Option Addr
 kn : Nat
 kc : Nat
 va : Option Addr
 vn : Nat
 vc : Nat
def Raw.cells (r : Raw) : List Value := [.int .i64 r.kind, .bool r.is, .bool r.neg, .string r.dig, .int .i64 r.exp, .string r.str, .slice r.ka r.kn r.kc, .slice r.va r.vn r.vc]
def IsTexts (w : World) (A : Nat -> Prop) (a : Option Addr) (l : List ByteArray) : Prop :=
 l = [] ∨ ∃ b o, a = some ⟨b, o, none⟩ /\ A b /\ b < w.heap.size /\ ∀ i (h : i < l.length), w.cell? ⟨b, o + i, none⟩ = some (.string l[i])
def CellsAt (w : World) (b o : Nat) (r : Raw) : Prop := ∀ j u, r.cells[j]? = some u -> w.cell? ⟨b, o + j, none⟩ = some u
inductive IsV (w : World) (A : Nat -> Prop) : Raw -> JV -> Prop where
 | mk (r : Raw) (keys : List ByteArray) (kids : List JV) (f : Nat -> Raw) : r.kn = keys.length -> r.vn = kids.length -> IsTexts w A r.ka keys →
   (kids = [] ∨ ∃ b o, r.va = some ⟨b, o, none⟩ /\ A b /\ b < w.heap.size /\ ∀ i, i < kids.length -> CellsAt w b (o + i * 8) (f i)) →
   (∀ i (h : i < kids.length), IsV w A (f i) kids[i]) -> IsV w A r (.mk r.kind r.is r.neg r.dig r.exp r.str keys kids)
structure Turn (w w' : World) (A A' : Nat -> Prop) : Prop where
 size : w.heap.size <= w'.heap.size
 block : ∀ b, A b -> b < w.heap.size -> w'.heap[b]? = w.heap[b]? /\ A' b
theorem IsTexts.turn {w w' : World} {A A' : Nat -> Prop} {a : Option Addr} {l : List ByteArray} (h : IsTexts w A a l) (t : Turn w w' A A') : IsTexts w' A' a l := by
 rcases h with h | ⟨b, o, ha, hA, hb, hc⟩
 ·exact .inl h
 ·obtain ⟨h1, h2⟩ := t.block b hA hb;exact .inr ⟨b, o, ha, h2, Nat.lt_of_lt_of_le hb t.size, fun i hi => (World.cell?_of_block h1).trans (hc i hi)⟩
theorem IsV.turn {w w' : World} {A A' : Nat -> Prop} {r : Raw} {v : JV} (h : IsV w A r v) (t : Turn w w' A A') : IsV w' A' r v := by
 induction h with
 | mk r keys kids f h1 h2 h3 h4 h5 ih =>
  refine .mk r keys kids f h1 h2 (h3.turn t) ?_ ih;rcases h4 with h4 | ⟨b, o, ha, hA, hb, hc⟩
  ·exact .inl h4
  ·obtain ⟨g1, g2⟩ := t.block b hA hb;exact .inr ⟨b, o, ha, g2, Nat.lt_of_lt_of_le hb t.size, fun i hi j u hu => (World.cell?_of_block g1).trans (hc i hi j u hu)⟩
theorem Turn.mono (w : World) {A A' : Nat -> Prop} (h : ∀ b, A b -> b < w.heap.size -> A' b) : Turn w w A A' := ⟨Nat.le_refl _, fun b hA hb => ⟨rfl, h b hA hb⟩⟩
theorem Turn.grown {w w' : World} {A : Nat -> Prop} {row : Option Nat} (h : w.grownBy w' row) (hA : ∀ b, A b -> some b ≠ row) : Turn w w' A A := ⟨h.size, fun b hb hl => ⟨h.block b hl (hA b hb), hb⟩⟩
theorem Turn.below {w w' : World} {A : Nat -> Prop} (h : Below w.heap.size w w') : Turn w w' A A := ⟨h.size, fun b hb hl => ⟨h.block b hl, hb⟩⟩
def Kids (w : World) (B : Nat) (v : Value) (ts : List JV) : Prop :=
 ∃ rs : List Raw, rs.length = ts.length /\ w.ownsRow B 90 8 v ts.length (rs.flatMap Raw.cells) ∧
  ∀ i (h : i < rs.length) (h' : i < ts.length), IsV w (fun b => B <= b /\ some b ≠ v.ownBlock) rs[i] ts[i]
theorem Kids.kept {w w' : World} {B : Nat} {v : Value} {ts : List JV} {row : Option Nat} (h : Kids w B v ts) (hg : w.grownBy w' row) (hr : ∀ k, row = some k -> k < B) : Kids w' B v ts := by
 obtain ⟨rs, h1, h2, h3⟩ := h;refine ⟨rs, h1, h2.kept hg ?_, fun i hi hi' => (h3 i hi hi').turn (Turn.grown hg (fun b hb e => ?_))⟩
 ·cases hv : v.ownBlock with
  | none => exact .inl rfl
  | some k =>
   have := (h2.lt k hv).1;exact .inr (fun e => by have := hr k e.symm; omega)
 ·have := hr b e.symm;omega
open Strs
theorem gb_refl (w : World) (r : Option Nat) : w.grownBy w r := ⟨rfl, rfl, rfl, Nat.le_refl _, fun _ _ _ => rfl⟩
theorem gb_set (w : World) (b i : Nat) (v : Value) : w.grownBy (w.setCell ⟨b, i, none⟩ v) (some b) := ⟨rfl, rfl, rfl, by simp [World.setCell], fun k _ hk => Below.heap_setCell _ _ _ _ (fun e => hk (by simp [e]))⟩
theorem gb_below {w w' : World} (h : Below w.heap.size w w') (r : Option Nat) : w.grownBy w' r := ⟨h.os, h.tape, h.output, h.size, fun k hk _ => h.block k hk⟩
section
variable {w w' : World} {P : Nat} {s : ByteArray} {k : Nat} {V : Value} {b e : Nat}
end
open Go.Maps
def Seen (w : World) (M n : Nat) (ks : List ByteArray) : Prop :=
 ∃ D : DataW Unit, w.ownsMap Tryz.prog 9 (plainElem Tryz.prog 4) M n D /\ ∀ d : ByteArray, D.atKey (.string d.data.toList) (.lit (.bool false)) = .lit (.bool (ks.any (fun x => decide (x = d))))
theorem Seen.kept {w w' : World} {M n : Nat} {ks : List ByteArray} {row : Option Nat} (h : Seen w M n ks) (g : w.grownBy w' row) (hM : some M ≠ row) : Seen w' M n ks := by
 obtain ⟨D, h1, h2⟩ := h;exact ⟨D, h1.kept g hM, h2⟩
def KidsA (w : World) (B : Nat) (A : Nat -> Prop) (v : Value) (ts : List JV) : Prop :=
 ∃ rs : List Raw, rs.length = ts.length /\ w.ownsRow B 90 8 v ts.length (rs.flatMap Raw.cells) ∧
  ∀ i (h : i < rs.length) (h' : i < ts.length), IsV w (fun b => A b /\ some b ≠ v.ownBlock) rs[i] ts[i]
theorem KidsA.turn {w w' : World} {B : Nat} {A A' : Nat -> Prop} {v : Value} {ts : List JV} {row : Option Nat} (h : KidsA w B A v ts) (hg : w.grownBy w' row) (h1 : v.ownBlock = none ∨ v.ownBlock ≠ row) (h2 : ∀ b, A b -> b < w.heap.size -> some b ≠ row /\ A' b) : KidsA w' B A' v ts := by
 obtain ⟨rs, k1, k2, k3⟩ := h;refine ⟨rs, k1, k2.kept hg h1, fun i hi hi' => (k3 i hi hi').turn ⟨hg.size, fun b hb hlt => ?_⟩⟩;obtain ⟨h3, h4⟩ := h2 b hb.1 hlt;exact ⟨hg.block b hlt h3, h4, hb.2⟩
theorem KidsA.kids {w : World} {B : Nat} {A : Nat -> Prop} {v : Value} {ts : List JV} (h : KidsA w B A v ts) (hA : ∀ b, A b -> B <= b) : Kids w B v ts := by
 obtain ⟨rs, k1, k2, k3⟩ := h;exact ⟨rs, k1, k2, fun i hi hi' => (k3 i hi hi').turn (Turn.mono w (fun b hb _ => ⟨hA b hb.1, hb.2⟩))⟩
section
variable {w w' w7 : World} {b M m : Nat} {ok : Prop} {ks : List ByteArray} {vs : List JV} {ka va : Option Addr} {kc vc : Nat}
end
theorem infoStr : (Tryz.prog.info? 9).map (fun i => (i.zero, i.size, i.bytes)) = some (some (.string ⟨#[]⟩), 1, 16) := by kernel_rfl
end Go.Proofs.YtehghladpnpcoaaGreatDoor.Jdec
