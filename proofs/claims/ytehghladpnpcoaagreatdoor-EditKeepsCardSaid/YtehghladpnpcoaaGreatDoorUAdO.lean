/- quote.Parse, addr.digits. -/
import Derived.Test.YtehghladpnpcoaaGreatDoorUAdL
set_option linter.unusedVariables false
set_option linter.unusedSimpArgs false
set_option maxRecDepth 100000
namespace Go.Proofs.YtehghladpnpcoaaGreatDoor.Addr
open Go.RowKit Go.Shelf Utf Strs Lex
theorem below_drewN {B : Nat} {w w' : World} (h : Below B w w') (n : Nat) : Below B w (w'.drewN n) := ⟨h.os, h.tape, h.output, h.size, h.block⟩
open Jdec (gb_refl gb_set gb_below)
open Jdec (gb_refl gb_set gb_below IsTexts infoStr)
def RowT (w : World) (B : Nat) (v : Value) (l : List ByteArray) : Prop := w.ownsRow B 9 1 v l.length (l.map Value.string)
theorem RowT.form {w : World} {B : Nat} {v : Value} {l : List ByteArray} (h : RowT w B v l) : ∃ a c, v = .slice a l.length c := by
 rcases h.2 with ⟨h1, h2⟩ | ⟨g, cap, cur, hv, _⟩
 ·exact ⟨none, 0, by rw [h1, h2]⟩
 ·exact ⟨_, _, hv⟩
theorem RowT.texts {w : World} {B : Nat} {a : Option Addr} {c : Nat} {l : List ByteArray} (h : RowT w B (.slice a l.length c) l) : IsTexts w (fun b => B <= b) a l := by
 by_cases hl : l = []
 ·exact .inl hl
 right
 have h' : w.ownsRow B 9 1 (.slice a l.length c) l.length (l.map Value.string) := h;rcases h'.2 with ⟨_, e2⟩ | ⟨g, cap, cur, hv, _⟩
 ·exact absurd (List.length_eq_zero_iff.1 e2) hl
 ·injection hv with e1 _ _
  subst e1;have hb := h'.lt g (by simp [Value.ownBlock]);refine ⟨g, 0, rfl, hb.1, hb.2, fun i hi => ?_⟩;have := h'.cellAt i (by omega);rw [Nat.zero_add, this];simp [hi]
theorem wpList_append_run {P : Program} {w w' : World} {ops : Array Oper} {rest : List Oper} {o : Oper} {a : Act} {Q : Exit -> Act -> World -> Prop} {v' : Value} (v1 v2 : Value) (t : TypeId) (hr : (Builtin.append_ #[t, t] o.type #[v1, v2]).run P w = .ok v' w') (hgd : o.guard = none) (s x : Operand)
  (ho : o.op = .call { callee := .builtin .append, args := #[s, x], argTypes := #[t, t] }) (hs : a.eval s = v1) (hx : a.eval x = v2) (h : wpList P ops Q rest (a.put o.dst v') w') : wpList P ops Q (o :: rest) a w := by
 refine wpList_plain hgd fun K hK => ?_;unfold Oper.wp;simp [execOp, ho, resolve, invoke, builtin, hs, hx, hr, Result.andThen]
 exact hK _ _ h
def adr0 (ks : List ByteArray) (ty nm : ByteArray) : Adr := ⟨ks, ty, nm, 0, 0, ⟨#[]⟩⟩
def zeroA : Adr := adr0 [] ⟨#[]⟩ ⟨#[]⟩
theorem step_append_run {P : Program} {o : Oper} {a : Act} {w w' : World} {K : Act -> World -> Prop} {Q : Exit -> Act -> World -> Prop} {E : Prop} {yl : Nat -> Option Bool} {inst : Decidable (Region.wanted o yl = true)} {v' : Value} (v1 v2 : Value) (t : TypeId) (hr : (Builtin.append_ #[t, t] o.type #[v1, v2]).run P w = .ok v' w') (hgd : o.guard = none) (s x : Operand)
  (ho : o.op = .call { callee := .builtin .append, args := #[s, x], argTypes := #[t, t] }) (hs : a.eval s = v1) (hx : a.eval x = v2) (h : K (a.put o.dst v') w') : @ite _ (Region.wanted o yl = true) inst (Oper.wp P o a w K Q) E := by
 have hw : Region.wanted o yl = true := by simp [Region.wanted, hgd]
 rw [if_pos hw];unfold Oper.wp;simp [execOp, ho, resolve, invoke, builtin, hs, hx, hr, Result.andThen]
 exact h
end Go.Proofs.YtehghladpnpcoaaGreatDoor.Addr
