/- jdec's parser: objects. -/
import Derived.Test.YtehffmcfmdjknaaDoorJdecL
import Derived.Deep.CutRange
import Derived.WalkMore
import Derived.Laws.EntriesVeiled
namespace Go.Proofs.YtehffmcfmdjknaaDoor.Jdec
open Go.RowKit Go.Maps Go.Proofs.YtehffmcfmdjknaaDoor.Strs
set_option linter.unusedVariables false
set_option linter.unusedSimpArgs false
set_option maxRecDepth 100000

theorem infoStr : (Tryd.prog.info? 9).map (fun i => (i.zero, i.size, i.bytes)) = some (some (.string ⟨#[]⟩), 1, 16) := by kernel_rfl
def onV (r : Except Er Nat) (val : Val) : Except Er (JV × Nat) :=
  match r with
  | .ok q => val q
  | .error y => .error y
def kpos (r : Except Er (ByteArray × Nat)) : Except Er Nat :=
  match r with
  | .ok x => .ok x.2
  | .error y => .error y
def objectR (r : Except Er (List ByteArray × List JV × Nat)) : Except Er (JV × Nat) :=
  match r with
  | .error x => .error x
  | .ok (ks, vs, r) => .ok (objectOf ks vs, r)
theorem object_eq (l : List UInt8) (val : Val) (p : Nat) : object l val p = if l[skip l (p + 1)]? = some 125 then .ok (objectOf [] [], skip l (p + 1) + 1) else objectR (members l val (l.length + 1) (skip l (p + 1)) [] []) := by
  unfold object objectR
  split
  · rfl
  · cases members l val (l.length + 1) (skip l (p + 1)) [] [] with
    | error x => rfl
    | ok x => rfl
end Go.Proofs.YtehffmcfmdjknaaDoor.Jdec
/- jdec's parser: object. -/
namespace Go.Proofs.YtehffmcfmdjknaaDoor.Jdec
open Go.RowKit Go.Maps Go.Proofs.YtehffmcfmdjknaaDoor.Strs
set_option linter.unusedVariables false
set_option linter.unusedSimpArgs false
set_option maxRecDepth 100000

theorem row_ne {w : World} {b e size n : Nat} {v : Value} {xs : List Value} (h : w.ownsRow (b + 1) e size v n xs) : some b ≠ v.ownBlock := by
  intro e
  have := (h.lt b e.symm).1
  omega
theorem colon_yes {l : List UInt8} {r : Except Er Nat} {q : Nat} (h : onE r (fun q => .ok (skip l q)) = .ok q) (hc : l[q]? = some 58) : onE (.ok (q + 1)) (fun q => .ok (skip l q)) = onE r (colon l) := by
  cases r with
  | error y => cases h
  | ok q1 =>
    injection h with h
    subst h
    show _ = colon l q1
    rw [colon, if_pos hc]; rfl
theorem colon_no {l : List UInt8} {r : Except Er Nat} (hno : ∀ q, onE r (fun q => .ok (skip l q)) = .ok q → l[q]? ≠ some 58) :
    onE (onE (onE r (fun q => .ok (skip l q))) (fun q => (.error (here l q) : Except Er Nat))) (fun q => .ok (skip l q)) = onE r (colon l) := by
  cases r with
  | error y => rfl
  | ok q1 =>
    have := hno _ rfl
    show _ = colon l q1
    rw [colon, if_neg this]; rfl
/-- Behind the key's call. -/
theorem obj_key {wr wk : World} {b P M m k : Nat} {s : ByteArray} {V : Value} {ok : Prop} {ks : List ByteArray} {vs : List JV} {ka va : Option Addr} {kc vc : Nat} {d : ByteArray} {w : World}
    (hO : OB wr b M m ok ks vs ka kc va vc) (hG : w.grownBy wr (some P)) (hZ : wr.heap[w.heap.size]? = some (.cells Raw.zero.arr 27 (0, 0))) (hb : w.heap.size < b) (hPb : P < b) (hPw : P < w.heap.size) (h2 : Two wr.drew wk P M) :
    OB wk b M m False ks vs ka kc va vc ∧ w.grownBy wk (some P) ∧ wk.heap[w.heap.size]? = some (.cells Raw.zero.arr 27 (0, 0)) := by
  obtain ⟨wm, g1, g2, hm⟩ := h2
  have hbM := hO.bM
  have hPr : ∀ k, some P = some k → k < b := by intro k hk; injection hk with hk; omega
  refine ⟨((hO.kept (gb_drew wr 1 (some P)) hPr).kept g1 hPr).keptM g2 hm, gb_new ((hG.trans (gb_drew wr 1 _)).trans g1) g2 (by omega), ?_⟩
  have z1 : wm.heap[w.heap.size]? = some (.cells Raw.zero.arr 27 (0, 0)) := (gb_keeps (w := wr.drew) hZ g1 hPw).out
  rw [g2.block _ (heap_lt z1) (by simp; omega)]; exact z1
/-- Behind the value's call. -/
theorem obj_kid {wr wk : World} {b P M m : Nat} {ok : Prop} {ks : List ByteArray} {vs : List JV} {ka va : Option Addr} {kc vc : Nat} {a : Raw} {t : JV} {w : World}
    (hO : OB wr b M m ok ks vs ka kc va vc) (hG : w.grownBy wr (some P)) (hZ : wr.heap[w.heap.size]? = some (.cells Raw.zero.arr 27 (0, 0))) (hPb : P < b) (hPw : P < w.heap.size)
    (g : wr.drew.grownBy wk (some P)) (hiv : IsV wk (fun j => wr.drew.heap.size ≤ j) a t) :
    OB wk b M m ok ks vs ka kc va vc ∧ w.grownBy wk (some P) ∧ wk.heap[w.heap.size]? = some (.cells Raw.zero.arr 27 (0, 0)) ∧
    ∃ rs : List Raw, rs.length = vs.length ∧ wk.ownsRow (b + 1) 27 8 (.slice va vs.length vc) vs.length (rs.flatMap Raw.cells) ∧
      (∀ i (h : i < rs.length) (h' : i < vs.length), IsV wk (fun j => OA b M (.slice ka ks.length kc) j ∧ some j ≠ (Value.slice va vs.length vc).ownBlock) rs[i] vs[i]) ∧
      IsV wk (fun j => OA b M (.slice ka ks.length kc) j ∧ some j ≠ (Value.slice va vs.length vc).ownBlock) a t := by
  have hbM := hO.bM
  have hlt := hO.lt
  have hMl : M < wr.heap.size := by obtain ⟨es, c, hm⟩ := hO.mp; exact heap_lt hm
  have hPr : ∀ k, some P = some k → k < b := by intro k hk; injection hk with hk; omega
  have O1 := (hO.kept (gb_drew wr 1 (some P)) hPr).kept g hPr
  have o1 : ∀ j, (Value.slice ka ks.length kc).ownBlock = some j → j < wr.heap.size := fun j hj => (hO.K.lt j hj).2
  have o2 : ∀ j, (Value.slice va vs.length vc).ownBlock = some j → j < wr.heap.size := by
    intro j hj
    obtain ⟨rs, k1, k2, k3⟩ := hO.V
    exact (k2.lt j hj).2
  obtain ⟨rs, k1, k2, k3⟩ := O1.V
  refine ⟨O1, (hG.trans (gb_drew wr 1 _)).trans g, (gb_keeps (w := wr.drew) hZ g hPw).out, rs, k1, k2, k3, hiv.turn ⟨Nat.le_refl _, fun j hj hl => ⟨rfl, ?_, fun e => ?_⟩⟩⟩
  · have hj : wr.heap.size ≤ j := hj
    exact ⟨by omega, by omega, fun e => by have := o1 j e.symm; omega⟩
  · have hj : wr.heap.size ≤ j := hj
    have := o2 j e.symm
    omega
/-- .. and what turned lies at b or beyond. -/
theorem obj_below {w wk wx : World} {b P : Nat} (B : Below b wk wx) (hG : w.grownBy wk (some P)) (hZ : wk.heap[w.heap.size]? = some (.cells Raw.zero.arr 27 (0, 0))) (hb : w.heap.size < b) :
    w.grownBy wx (some P) ∧ wx.heap[w.heap.size]? = some (.cells Raw.zero.arr 27 (0, 0)) :=
  ⟨⟨B.os.trans hG.os, B.tape.trans hG.tape, B.output.trans hG.output, Nat.le_trans hG.size B.size, fun j hj hne => (B.block j (by omega)).trans (hG.block j hj hne)⟩, (B.block _ hb).trans hZ⟩

end Go.Proofs.YtehffmcfmdjknaaDoor.Jdec
/- jdec's parser: value. -/
namespace Go.Proofs.YtehffmcfmdjknaaDoor.Jdec
open Go.RowKit Go.Proofs.YtehffmcfmdjknaaDoor.Strs
set_option linter.unusedVariables false
set_option linter.unusedSimpArgs false
set_option maxRecDepth 100000

set_option maxRecDepth 1000000 in
theorem way_zN : ∀ i : Fin 7, ∀ n : Fin 256, decide (zidx ((wayS i.val).data.toList.findIdx? (· == UInt8.ofNat n.val)) < 0) = decide (way (UInt8.ofNat n.val) ≠ i.val + 1) := by decide +kernel
theorem way_z (i : Nat) (hi : i < 7) (c : UInt8) : decide (zidx ((wayS i).data.toList.findIdx? (· == c)) < 0) = decide (way c ≠ i + 1) := by
  have := way_zN ⟨i, hi⟩ ⟨c.toNat, UInt8.toNat_lt c⟩
  simpa using this
theorem way_le (c : UInt8) : way c ≤ 7 := by unfold way; (repeat' split) <;> omega
end Go.Proofs.YtehffmcfmdjknaaDoor.Jdec
