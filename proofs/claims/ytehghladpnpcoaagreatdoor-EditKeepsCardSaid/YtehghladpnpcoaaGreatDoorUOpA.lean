/- An argument api.Address, opened. -/
import Derived.Test.YtehghladpnpcoaaGreatDoorUAdX
import Derived.Test.YtehghladpnpcoaaGreatDoorULift
import Derived.Deep.DeepHandedRow
set_option linter.unusedVariables false
set_option linter.unusedSimpArgs false
set_option maxRecDepth 100000
namespace Go.Proofs.YtehghladpnpcoaaGreatDoor.Addr
open Go.RowKit Strs Go.ChangeShapes Go.WideShapes Go.ChangeAt
open Jdec (IsTexts)
abbrev rb : Nat := 140737488351232
theorem weights_all {H : Type} {P : Program} {e : TypeId} : ∀ (l : List (DataW H)) (d : DataW H), d ∈ l -> ∀ n ∈ d.weights P e, n ∈ DataW.weightsAll P e l
 | x :: t, d, hd, n, hn => by
  rw [DataW.weightsAll];rcases List.mem_cons.1 hd with rfl | hd
  ·exact List.mem_append_left _ hn
  ·exact List.mem_append_right _ (weights_all t d hd n hn)
theorem fits_adr : ∀ cs : List Value, cs.length = 6 -> ∃ a b c d e f, cs = [a, b, c, d, e, f]
 | [a, b, c, d, e, f], _ => ⟨a, b, c, d, e, f, rfl⟩
theorem bytesStr : Tryz.prog.bytesOf 9 = 16 := by kernel_rfl
theorem cellsAdr : Tryz.prog.cellsOf 35 = 6 := by kernel_rfl
theorem cellsStr1 : Tryz.prog.cellsOf 9 = 1 := by kernel_rfl
theorem cellsInt1 : Tryz.prog.cellsOf 3 = 1 := by kernel_rfl
theorem cellsU641 : Tryz.prog.cellsOf 22 = 1 := by kernel_rfl
theorem cellsSS : Tryz.prog.cellsOf 33 = 1 := by kernel_rfl
section
variable {H : Type} {enc : TypeId × Value -> H} {W : World} {base : Nat} {spare : Nat -> Bool} {held : Bool}
theorem open_texts {fuel : Nat} {c : Value} {x : DataW H × List MemPlace} (h : DataW.trod enc Tryz.prog W base spare held fuel 33 [c] = some x) (hw : ∀ n ∈ x.1.weights Tryz.prog 33, n <= rb) : ∃ (ka : Option Addr) (kc : Nat) (ks : List ByteArray), c = .slice ka ks.length kc /\ IsTexts W (fun _ => True) ka ks /\ ks.length <= rb /\ ∀ s ∈ ks, s.size <= rb := by
 rcases DataW.trod_slice Tryz.underlying33 h with ⟨hcs, hx⟩ | ⟨a, len, cap, elems, rest, n, _, hcs, hx, hb, hl, hm, hlen, hel, _⟩
 ·injection hcs with hcs
  exact ⟨none, 0, [], hcs, .inl rfl, Nat.zero_le _, fun s hs => by cases hs⟩
 ·injection hcs with hcs
  have hw1 : DataW.weights Tryz.prog 33 x.1 = (elems.length + rest.length) * 16 :: (DataW.weightsAll Tryz.prog 9 (elems.map (·.1)) ++ DataW.weightsAll Tryz.prog 9 (rest.map (·.1))) := by
   rw [hx];simp only [DataW.weights, Tryz.underlying33, List.length_map, bytesStr]
  rw [hw1] at hw;have hlb := hw _ (List.mem_cons_self ..);have el : ∀ i, ∃ s : ByteArray, i < len -> W.cell? (a.add i) = some (.string s) /\ s.size <= rb := by
   intro i
   by_cases him : i < len
   ·have h1 := hel i him;rw [cellsStr1, Nat.mul_one] at h1;have hie : i < elems.length := by omega
    rw [List.getElem?_eq_getElem hie] at h1;obtain ⟨cs', hc, ht'⟩ := Option.bind_eq_some_iff.1 h1;obtain ⟨s, hs, hx2, _⟩ := DataW.trod_string Tryz.underlying9 ht';obtain ⟨_, hcl, hat⟩ := World.cells?_some hc;have hwm : s.data.toList.length <= rb := by
     refine hw _ (List.mem_cons_of_mem _ (List.mem_append_left _ (weights_all _ elems[i].1 (List.mem_map_of_mem (List.getElem_mem hie)) _ ?_)));rw [hx2, DataW.weights];exact List.mem_singleton.2 rfl
    refine ⟨s, fun _ => ⟨?_, by simpa using hwm⟩⟩;have h0 := hat 0 (by omega);subst hs;rw [Go.Deep.add_add] at h0;exact h0
   ·exact ⟨⟨#[]⟩, fun h => absurd h him⟩
  let X : Nat -> ByteArray := fun i => (el i).choose
  have hX : ∀ i, i < len -> W.cell? (a.add i) = some (.string (X i)) /\ (X i).size <= rb := fun i h => (el i).choose_spec h;refine ⟨some a, cap, (List.range len).map X, by simpa using hcs, ?_, by simp; omega, fun s hs => ?_⟩
  ·rcases Nat.eq_zero_or_pos len with h0 | h0
   ·left; subst h0; rfl
   ·right
    obtain ⟨ab, ao, spot⟩ := a;have hspot : spot = none := by simpa [Addr.add] using World.cell?_spot (hX 0 h0).1
    subst hspot;refine ⟨ab, ao, rfl, trivial, World.block_lt_of_cell? W _ (hX 0 h0).1, fun i hi => ?_⟩;have hi' : i < len := by simpa using hi
    have := (hX i hi').1;rw [List.getElem_map, List.getElem_range];have e : (⟨ab, ao, none⟩ : Addr).add i = ⟨ab, ao + i, none⟩ := by unfold Addr.add; split <;> simp_all
    rw [e] at this;exact this
  ·obtain ⟨i, hi, rfl⟩ := List.mem_map.1 hs;exact (hX i (List.mem_range.1 hi)).2
theorem open_words (fuel : Nat) (cs : List Value) (x : DataW H × List MemPlace) (h : DataW.trod enc Tryz.prog W base spare held fuel 35 cs = some x) (hw : ∀ n ∈ x.1.weights Tryz.prog 35, n <= rb) : ∃ (a : Adr) (pa : Option Addr) (pc : Nat), cs = (arrA pa pc a).toList /\ AdrIn W pa a := by
 obtain ⟨ys, n1, hf1, hx, hlen, hyl, hg⟩ := DataW.trod_struct Tryz.underlying35 h;have hcl : cs.length = 6 := by rw [hlen]; exact cellsAdr
 obtain ⟨c0, c1, c2, c3, c4, c5, rfl⟩ := fits_adr cs hcl
 match ys, hyl with
 | [y0, y1, y2, y3, y4, y5], _ =>
  have g0 := hg 0 _ rfl;have g1 := hg 1 _ rfl;have g2 := hg 2 _ rfl;have g3 := hg 3 _ rfl;have g4 := hg 4 _ rfl;have g5 := hg 5 _ rfl;simp [cellsInt1, cellsU641, cellsStr1, cellsSS] at g0 g1 g2 g3 g4 g5
  have hwt : DataW.weights Tryz.prog 35 x.1 = y0.1.weights Tryz.prog 33 ++ (y1.1.weights Tryz.prog 9 ++ (y2.1.weights Tryz.prog 9 ++ (y3.1.weights Tryz.prog 3 ++ (y4.1.weights Tryz.prog 22 ++ (y5.1.weights Tryz.prog 9 ++ []))))) := by
   rw [hx];simp [DataW.weights, DataW.weightsEach, Tryz.underlying35]
  rw [hwt] at hw;obtain ⟨ka, kc, ks, e0, hkt, hkl, hks⟩ := open_texts g0 (fun n hn => hw n (by simp [hn]));obtain ⟨ty, e1, hs1, _⟩ := DataW.trod_string Tryz.underlying9 g1;obtain ⟨nm, e2, hs2, _⟩ := DataW.trod_string Tryz.underlying9 g2;obtain ⟨k, e3, _, _⟩ := DataW.trod_int Tryz.underlying3 g3;obtain ⟨pl, e4, _, hpl⟩ := DataW.trod_int Tryz.underlying22 g4;obtain ⟨wd, e5, hs5, _⟩ := DataW.trod_string Tryz.underlying9 g5;simp at e1 e2 e3 e4 e5
  subst e0 e1 e2 e3 e4 e5;have h1 : ty.size <= rb := by
   have := hw ty.data.toList.length (by rw [hs1]; simp [DataW.weights])
   simpa using this
  have h2 : nm.size <= rb := by
   have := hw nm.data.toList.length (by rw [hs2]; simp [DataW.weights])
   simpa using this
  have h5 : wd.size <= rb := by
   have := hw wd.data.toList.length (by rw [hs5]; simp [DataW.weights])
   simpa using this
  have hb : 0 <= pl /\ pl < 18446744073709551616 := by
   simp only [Lit.wf, Bool.and_eq_true, dtQ] at hpl
   have e1 : IntKind.u64.min = 0 := by decide
   have e2 : IntKind.u64.max = 18446744073709551615 := by decide
   rw [e1, e2] at hpl;omega
  obtain ⟨q, rfl⟩ : ∃ q : Nat, pl = (q : Int) := ⟨pl.toNat, by omega⟩;exact ⟨⟨ks, ty, nm, k, q, wd⟩, ka, kc, rfl, ⟨hkt, hkl, hks, h1, h2, h5, by show q < _; omega⟩⟩
end
end Go.Proofs.YtehghladpnpcoaaGreatDoor.Addr
