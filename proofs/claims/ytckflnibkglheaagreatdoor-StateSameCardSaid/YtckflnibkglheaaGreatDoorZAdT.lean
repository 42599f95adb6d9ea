/- addr.Parse. -/
import Derived.Test.YtckflnibkglheaaGreatDoorZAdO
import Derived.Test.YtckflnibkglheaaGreatDoorZRefOB
import Derived.Test.YtckflnibkglheaaGreatDoorZAdF
import Derived.Test.YtckflnibkglheaaGreatDoorZRefPS
namespace Go.Proofs.YtckflnibkglheaaGreatDoor.Addr
open Go.RowKit Go.Shelf Go.Proofs.YtckflnibkglheaaGreatDoor.Utf Go.Proofs.YtckflnibkglheaaGreatDoor.Strs Go.Proofs.YtckflnibkglheaaGreatDoor.Lex
open Go.Proofs.YtckflnibkglheaaGreatDoor.Jdec (gb_refl gb_set gb_below IsTexts infoStr)
set_option linter.unusedVariables false
set_option linter.unusedSimpArgs false
set_option maxRecDepth 100000

/-- Where the reading stands. -/
structure PI (w wr : World) (s : ByteArray) (ks : List ByteArray) (pa : Option Addr) (pc : Nat) (s' : ByteArray) : Prop where
  A : wr.heap[w.heap.size + 1]? = some (.cells (arrA pa pc (adr0 ks ⟨#[]⟩ ⟨#[]⟩)) 29 (0, 0))
  R : wr.heap[w.heap.size]? = some (.cells (arrA none 0 zeroA) 29 (0, 0))
  K : RowT wr (w.heap.size + 2) (.slice pa ks.length pc) ks
  B : Below w.heap.size w wr
  S : w.heap.size + 2 ≤ wr.heap.size
  E : pathP 22 [] s.data.toList = pathP (22 - ks.length) ks s'.data.toList
  n : ks.length ≤ 20
  z : s'.size ≤ s.size
  zs : ∀ k ∈ ks, k.size ≤ s.size
theorem PI.stays {w wr wx : World} {s : ByteArray} {ks : List ByteArray} {pa : Option Addr} {pc : Nat} {s' : ByteArray} (h : PI w wr s ks pa pc s') (hb : Below wr.heap.size wr wx) : PI w wx s ks pa pc s' :=
  ⟨(hb.block _ (heap_lt h.A)).trans h.A, (hb.block _ (heap_lt h.R)).trans h.R, h.K.stays hb, h.B.trans (hb.mono h.B.size), Nat.le_trans h.S hb.size, h.E, h.n, h.z, h.zs⟩
end Go.Proofs.YtckflnibkglheaaGreatDoor.Addr
/- tabulariumref17.Parts. -/
namespace Go.Proofs.YtckflnibkglheaaGreatDoor.Addr
open Go.RowKit Go.Shelf Go.Proofs.YtckflnibkglheaaGreatDoor.Utf Go.Proofs.YtckflnibkglheaaGreatDoor.Strs Go.Proofs.YtckflnibkglheaaGreatDoor.Lex
open Go.Proofs.YtckflnibkglheaaGreatDoor.Jdec (gb_refl gb_set gb_below IsTexts infoStr)
set_option linter.unusedVariables false
set_option linter.unusedSimpArgs false
set_option maxRecDepth 100000

def lists (ps : List ByteArray) : List (List UInt8) := ps.map fun p => p.data.toList
theorem ext_take (s : ByteArray) (a i : Nat) (h : a ≤ i) : (s.extract a i).data.toList = (s.data.toList.drop a).take (i - a) := by
  rw [ByteArray.data_extract, Array.toList_extract, List.extract_eq_take_drop]
end Go.Proofs.YtckflnibkglheaaGreatDoor.Addr
/- tabulariumref17.Parse. -/
namespace Go.Proofs.YtckflnibkglheaaGreatDoor.Addr
open Go.RowKit Go.Shelf Go.Proofs.YtckflnibkglheaaGreatDoor.Utf Go.Proofs.YtckflnibkglheaaGreatDoor.Strs Go.Proofs.YtckflnibkglheaaGreatDoor.Lex
open Go.Proofs.YtckflnibkglheaaGreatDoor.Jdec (gb_refl gb_set gb_below IsTexts infoStr)
set_option linter.unusedVariables false
set_option linter.unusedSimpArgs false
set_option maxRecDepth 100000

/-- An address is told, or none. -/
def RPost (r : Option Adr) (w : World) (e : Ending) (w' : World) : Prop :=
  ∃ pa pc, e = .returned (.tuple #[wordsA pa pc (r.getD zeroA), .bool r.isSome]) ∧ IsTexts w' (fun b => w.heap.size ≤ b) pa (r.getD zeroA).path ∧ Below w.heap.size w w'
/-! ## Behind the key: pieces -/
end Go.Proofs.YtckflnibkglheaaGreatDoor.Addr
/- tabulariumref17.Parse: the walk. -/
namespace Go.Proofs.YtckflnibkglheaaGreatDoor.Addr
open Go.RowKit Go.Shelf Go.Proofs.YtckflnibkglheaaGreatDoor.Utf Go.Proofs.YtckflnibkglheaaGreatDoor.Strs Go.Proofs.YtckflnibkglheaaGreatDoor.Lex
open Go.Proofs.YtckflnibkglheaaGreatDoor.Jdec (gb_refl gb_set gb_below IsTexts infoStr)
set_option linter.unusedVariables false
set_option linter.unusedSimpArgs false
set_option maxRecDepth 100000

/-- An append, one step of a region that draws, by what its run is. -/
theorem step_append_run {P : Program} {o : Oper} {a : Act} {w w' : World} {K : Act → World → Prop} {Q : Exit → Act → World → Prop} {E : Prop} {yl : Nat → Option Bool} {inst : Decidable (Region.wanted o yl = true)} {v' : Value} (v1 v2 : Value) (t : TypeId) (hr : (Builtin.append_ #[t, t] o.type #[v1, v2]).run P w = .ok v' w') (hgd : o.guard = none) (s x : Operand)
    (ho : o.op = .call { callee := .builtin .append, args := #[s, x], argTypes := #[t, t] }) (hs : a.eval s = v1) (hx : a.eval x = v2) (h : K (a.put o.dst v') w') : @ite _ (Region.wanted o yl = true) inst (Oper.wp P o a w K Q) E := by
  have hw : Region.wanted o yl = true := by simp [Region.wanted, hgd]
  rw [if_pos hw]
  unfold Oper.wp
  simp [execOp, ho, resolve, invoke, builtin, hs, hx, hr, Result.andThen]
  exact h
end Go.Proofs.YtckflnibkglheaaGreatDoor.Addr
