/- Arguments api.State, api.Record, []api.Record, opened. -/
import Derived.Test.YtehghladpnpcoaaGreatDoorUStG
import Derived.Test.YtehghladpnpcoaaGreatDoorUOpA
set_option linter.unusedVariables false
set_option linter.unusedSimpArgs false
set_option maxRecDepth 100000
namespace Go.Proofs.YtehghladpnpcoaaGreatDoor.State
open Go.RowKit Strs Go.ChangeShapes Go.WideShapes Go.ChangeAt Go.Proofs.YtehghladpnpcoaaGreatDoor.Addr
open Jdec (IsTexts)
theorem bytesPair : Tryz.prog.bytesOf 72 = 32 := by kernel_rfl
theorem bytesRec : Tryz.prog.bytesOf 38 = 144 := by kernel_rfl
theorem cellsPair : Tryz.prog.cellsOf 72 = 2 := by kernel_rfl
theorem cellsRec : Tryz.prog.cellsOf 38 = 9 := by kernel_rfl
theorem cellsSta : Tryz.prog.cellsOf 25 = 3 := by kernel_rfl
theorem cellsSP : Tryz.prog.cellsOf 36 = 1 := by kernel_rfl
theorem cellsSR : Tryz.prog.cellsOf 23 = 1 := by kernel_rfl
theorem fits_two : ∀ cs : List Value, cs.length = 2 -> ∃ a b, cs = [a, b]
 | [a, b], _ => ⟨a, b, rfl⟩
theorem fits_three : ∀ cs : List Value, cs.length = 3 -> ∃ a b c, cs = [a, b, c]
 | [a, b, c], _ => ⟨a, b, c, rfl⟩
theorem fits_nine : ∀ cs : List Value, cs.length = 9 -> ∃ a b c d e f g h i, cs = [a, b, c, d, e, f, g, h, i]
 | [a, b, c, d, e, f, g, h, i], _ => ⟨a, b, c, d, e, f, g, h, i, rfl⟩
theorem addr_off (b o j : Nat) : (⟨b, o, none⟩ : Addr).add j = ⟨b, o + j, none⟩ := by unfold Addr.add; split <;> simp_all
section
variable {H : Type} {enc : TypeId × Value -> H} {W : World} {base : Nat} {spare : Nat -> Bool} {held : Bool}
theorem open_row {α : Type} (d : α) (R : List Value -> α -> Prop) {t e : TypeId} (ht : Tryz.prog.underlying t = some (.slice e)) (sz by_ : Nat) (hsz : Tryz.prog.cellsOf e = sz) (hsz0 : 0 < sz) (hby : Tryz.prog.bytesOf e = by_) (hby0 : 0 < by_)
  (hop : ∀ (fuel : Nat) (cs : List Value) (x : DataW H × List MemPlace), DataW.trod enc Tryz.prog W base spare held fuel e cs = some x -> (∀ n ∈ x.1.weights Tryz.prog e, n <= rb) -> ∃ a : α, R cs a)
  {fuel : Nat} {c : Value} {x : DataW H × List MemPlace} (h : DataW.trod enc Tryz.prog W base spare held fuel t [c] = some x) (hw : ∀ n ∈ x.1.weights Tryz.prog t, n <= rb) :
  ∃ (ka : Option Addr) (kc : Nat) (l : List α), c = .slice ka l.length kc /\ l.length <= kc /\ l.length <= rb /\ (l = [] ∨ ∃ b o, ka = some ⟨b, o, none⟩ /\ b < W.heap.size /\ ∀ i (h : i < l.length), ∃ cs : List Value, cs.length = sz /\ (∀ j u, cs[j]? = some u -> W.cell? ⟨b, o + i * sz + j, none⟩ = some u) /\ R cs l[i]) := by
 rcases DataW.trod_slice ht h with ⟨hcs, hx⟩ | ⟨a, len, cap, elems, rest, n, _, hcs, hx, hb, hl, hm, hlen, hel, _⟩
 ·injection hcs with hcs
  exact ⟨none, 0, [], hcs, Nat.le_refl _, Nat.zero_le _, .inl rfl⟩
 ·injection hcs with hcs
  have hw1 : DataW.weights Tryz.prog t x.1 = (elems.length + rest.length) * by_ :: (DataW.weightsAll Tryz.prog e (elems.map (·.1)) ++ DataW.weightsAll Tryz.prog e (rest.map (·.1))) := by
   rw [hx];simp only [DataW.weights, ht, List.length_map, hby]
  rw [hw1] at hw;have hlb := hw _ (List.mem_cons_self ..);have hlb2 : elems.length + rest.length <= rb := Nat.le_trans (Nat.le_mul_of_pos_right _ hby0) hlb;have el : ∀ i, ∃ s : α, i < len -> ∃ cs : List Value, cs.length = sz /\ (∀ j u, cs[j]? = some u -> W.cell? ((a.add (i * sz)).add j) = some u) /\ R cs s := by
   intro i
   by_cases him : i < len
   ·have h1 := hel i him;rw [hsz] at h1;have hie : i < elems.length := by omega
    rw [List.getElem?_eq_getElem hie] at h1;obtain ⟨cs', hc, ht'⟩ := Option.bind_eq_some_iff.1 h1;obtain ⟨_, hcl, hat⟩ := World.cells?_some hc;obtain ⟨s, hs⟩ := hop _ _ _ ht' (fun n hn => hw _ (List.mem_cons_of_mem _ (List.mem_append_left _ (weights_all _ elems[i].1 (List.mem_map_of_mem (List.getElem_mem hie)) _ hn))));refine ⟨s, fun _ => ⟨cs', by simpa using hcl, fun j u hu => ?_, hs⟩⟩;have hj : j < sz := by
     have := (List.getElem?_eq_some_iff.1 hu).1
     simpa [hcl] using this
    have h0 := hat j hj;rw [h0];exact hu
   ·exact ⟨d, fun h => absurd h him⟩
  let X : Nat -> α := fun i => (el i).choose
  have hX : ∀ i, i < len -> ∃ cs : List Value, cs.length = sz /\ (∀ j u, cs[j]? = some u -> W.cell? ((a.add (i * sz)).add j) = some u) /\ R cs (X i) := fun i h => (el i).choose_spec h;refine ⟨some a, cap, (List.range len).map X, by simpa using hcs, by simp; omega, by simp; omega, ?_⟩;rcases Nat.eq_zero_or_pos len with h0 | h0
  ·left; subst h0; rfl
  ·right
   obtain ⟨ab, ao, spot⟩ := a;have hspot : spot = none := by
    obtain ⟨cs, hl, hc, _⟩ := hX 0 h0;have h2 := hc 0 cs[0] (List.getElem?_eq_getElem (by omega))
    simpa [Addr.add] using World.cell?_spot h2
   subst hspot;have e : ∀ i j, ((⟨ab, ao, none⟩ : Addr).add i).add j = ⟨ab, ao + i + j, none⟩ := fun i j => by rw [addr_off, addr_off]
   have hblk : ab < W.heap.size := by
    obtain ⟨cs, hl, hc, _⟩ := hX 0 h0;have h2 := hc 0 cs[0] (List.getElem?_eq_getElem (by omega));rw [e] at h2;exact World.block_lt_of_cell? W _ h2
   refine ⟨ab, ao, rfl, hblk, fun i hi => ?_⟩;have hi' : i < len := by simpa using hi
   obtain ⟨cs, hl, hc, hR⟩ := hX i hi';rw [List.getElem_map, List.getElem_range];exact ⟨cs, hl, fun j u hu => by have := hc j u hu; rw [e] at this; exact this, hR⟩
theorem open_str {fuel : Nat} {c : Value} {x : DataW H × List MemPlace} (h : DataW.trod enc Tryz.prog W base spare held fuel 9 [c] = some x) (hw : ∀ n ∈ x.1.weights Tryz.prog 9, n <= rb) : ∃ s : ByteArray, c = .string s /\ s.size <= rb := by
 obtain ⟨s, e1, hs1, _⟩ := DataW.trod_string Tryz.underlying9 h;simp at e1
 refine ⟨s, e1, ?_⟩;have := hw s.data.toList.length (by rw [hs1]; simp [DataW.weights])
 simpa using this
def PairR (cs : List Value) (p : ByteArray × ByteArray) : Prop := cs = [.string p.1, .string p.2] /\ p.1.size <= rb /\ p.2.size <= rb
theorem open_pair (fuel : Nat) (cs : List Value) (x : DataW H × List MemPlace) (h : DataW.trod enc Tryz.prog W base spare held fuel 72 cs = some x) (hw : ∀ n ∈ x.1.weights Tryz.prog 72, n <= rb) : ∃ p : ByteArray × ByteArray, PairR cs p := by
 obtain ⟨ys, n1, hf1, hx, hlen, hyl, hg⟩ := DataW.trod_struct Tryz.underlying72 h;have hcl : cs.length = 2 := by rw [hlen]; exact cellsPair
 obtain ⟨c0, c1, rfl⟩ := fits_two cs hcl
 match ys, hyl with
 | [y0, y1], _ =>
  have g0 := hg 0 _ rfl;have g1 := hg 1 _ rfl;simp [cellsStr1] at g0 g1
  have hwt : DataW.weights Tryz.prog 72 x.1 = y0.1.weights Tryz.prog 9 ++ (y1.1.weights Tryz.prog 9 ++ []) := by
   rw [hx];simp [DataW.weights, DataW.weightsEach, Tryz.underlying72]
  rw [hwt] at hw;obtain ⟨s, rfl, hs⟩ := open_str g0 (fun n hn => hw n (by simp [hn]));obtain ⟨t, rfl, ht⟩ := open_str g1 (fun n hn => hw n (by simp [hn]));exact ⟨(s, t), rfl, hs, ht⟩
theorem open_pairs {fuel : Nat} {c : Value} {x : DataW H × List MemPlace} (h : DataW.trod enc Tryz.prog W base spare held fuel 36 [c] = some x) (hw : ∀ n ∈ x.1.weights Tryz.prog 36, n <= rb) : ∃ (ka : Option Addr) (kc : Nat) (l : List (ByteArray × ByteArray)), c = .slice ka l.length kc /\ IsPairs W (fun _ => True) ka l /\ l.length <= rb /\ (∀ p ∈ l, p.1.size <= rb) /\ ∀ p ∈ l, p.2.size <= rb := by
 obtain ⟨ka, kc, l, hc, _, hl, hr⟩ := open_row (⟨#[]⟩, ⟨#[]⟩) PairR Tryz.underlying36 2 32 cellsPair (by omega) bytesPair (by omega) open_pair h hw;rcases hr with rfl | ⟨b, o, rfl, hb, hi⟩
 ·exact ⟨ka, kc, [], hc, .inl rfl, hl, (fun p hp => by cases hp), (fun p hp => by cases hp)⟩
 ·refine ⟨_, kc, l, hc, .inr ⟨b, o, rfl, trivial, hb, fun i h => ?_⟩, hl, fun p hp => ?_, fun p hp => ?_⟩
  ·obtain ⟨cs, _, hcs, rfl, _⟩ := hi i h;exact ⟨hcs 0 _ rfl, hcs 1 _ rfl⟩
  ·obtain ⟨i, h, rfl⟩ := List.getElem_of_mem hp;obtain ⟨cs, _, hcs, _, h1, _⟩ := hi i h;exact h1
  ·obtain ⟨i, h, rfl⟩ := List.getElem_of_mem hp;obtain ⟨cs, _, hcs, _, _, h1⟩ := hi i h;exact h1
def RecR (W : World) (cs : List Value) (x : At × Rec) : Prop := cs = (recArr x.1 x.2).toList /\ IsRec W (fun _ => True) x.1 x.2 /\ Wide x.2
theorem open_reccells (fuel : Nat) (cs : List Value) (x : DataW H × List MemPlace) (h : DataW.trod enc Tryz.prog W base spare held fuel 38 cs = some x) (hw : ∀ n ∈ x.1.weights Tryz.prog 38, n <= rb) : ∃ r : At × Rec, RecR W cs r := by
 obtain ⟨ys, n1, hf1, hx, hlen, hyl, hg⟩ := DataW.trod_struct Tryz.underlying38 h;have hcl : cs.length = 9 := by rw [hlen]; exact cellsRec
 obtain ⟨c0, c1, c2, c3, c4, c5, c6, c7, c8, rfl⟩ := fits_nine cs hcl
 match ys, hyl with
 | [y0, y1, y2, y3], _ =>
  have g0 := hg 0 _ rfl;have g1 := hg 1 _ rfl;have g2 := hg 2 _ rfl;have g3 := hg 3 _ rfl;simp [cellsAdr, cellsStr1, cellsSP] at g0 g1 g2 g3
  have hwt : DataW.weights Tryz.prog 38 x.1 = y0.1.weights Tryz.prog 35 ++ (y1.1.weights Tryz.prog 9 ++ (y2.1.weights Tryz.prog 9 ++ (y3.1.weights Tryz.prog 36 ++ []))) := by
   rw [hx];simp [DataW.weights, DataW.weightsEach, Tryz.underlying38]
  rw [hwt] at hw;obtain ⟨a, pa, pc, e0, ha⟩ := open_words _ _ _ g0 (fun n hn => hw n (by simp [hn]));obtain ⟨pr, rfl, hpr⟩ := open_str g1 (fun n hn => hw n (by simp [hn]));obtain ⟨id, rfl, hid⟩ := open_str g2 (fun n hn => hw n (by simp [hn]));obtain ⟨ta, tc, l, rfl, hl, hn, h1, h2⟩ := open_pairs g3 (fun n hn => hw n (by simp [hn]));simp [arrA] at e0
  obtain ⟨rfl, rfl, rfl, rfl, rfl, rfl⟩ := e0;exact ⟨(⟨pa, pc, ta, tc⟩, ⟨a, pr, id, l⟩), rfl, ⟨ha.t, hl⟩, ⟨ha.l, ha.s, ha.ty, ha.nm, ha.wd, ha.p, hpr, hid, hn, h1, h2⟩⟩
theorem open_reclist {fuel : Nat} {c : Value} {x : DataW H × List MemPlace} (h : DataW.trod enc Tryz.prog W base spare held fuel 23 [c] = some x) (hw : ∀ n ∈ x.1.weights Tryz.prog 23, n <= rb) : ∃ (ka : Option Addr) (kc : Nat) (l : List Rec), c = .slice ka l.length kc /\ l.length <= kc /\ IsRecs W (fun _ => True) ka l /\ l.length <= rb /\ ∀ r ∈ l, Wide r := by
 obtain ⟨ka, kc, l, hc, hlc, hl, hr⟩ := open_row (At.zero, Rec.zero) (RecR W) Tryz.underlying23 9 144 cellsRec (by omega) bytesRec (by omega) open_reccells h hw;refine ⟨ka, kc, l.map (·.2), by rw [List.length_map]; exact hc, by rw [List.length_map]; exact hlc, ?_, by rw [List.length_map]; exact hl, fun r hr2 => ?_⟩
 ·rcases hr with rfl | ⟨b, o, rfl, hb, hi⟩
  ·exact .inl rfl
  ·refine .inr ⟨b, o, rfl, trivial, hb, fun i => (l.getD i (At.zero, Rec.zero)).1, fun i h => ?_⟩;have hil : i < l.length := by simpa using h
   have hgd : l.getD i (At.zero, Rec.zero) = l[i] := by simp [List.getD_eq_getElem?_getD, hil]
   show (∀ j u, (recArr (l.getD i (At.zero, Rec.zero)).1 (l.map (·.2))[i])[j]? = some u -> W.cell? ⟨b, o + i * 9 + j, none⟩ = some u) /\ IsRec W (fun _ => True) (l.getD i (At.zero, Rec.zero)).1 (l.map (·.2))[i];rw [hgd, List.getElem_map];obtain ⟨cs, _, hcs, e, hI, _⟩ := hi i hil;exact ⟨fun j u hu => hcs j u (by rw [e]; simpa using hu), hI⟩
 ·obtain ⟨y, hy, rfl⟩ := List.mem_map.1 hr2;obtain ⟨i, hi2, rfl⟩ := List.getElem_of_mem hy;rcases hr with rfl | ⟨b, o, rfl, hb, hi⟩
  ·cases hi2
  ·obtain ⟨cs, _, _, _, _, hW⟩ := hi i hi2;exact hW
theorem open_stacells (fuel : Nat) (cs : List Value) (x : DataW H × List MemPlace) (h : DataW.trod enc Tryz.prog W base spare held fuel 25 cs = some x) (hw : ∀ n ∈ x.1.weights Tryz.prog 25, n <= rb) : ∃ (s : Sta) (ra : Option Addr) (rc : Nat), cs = (staArr ra rc s).toList /\ StaIn W ra s /\ s.recs.length <= rc /\ s.serial < 18446744073709551616 /\ s.lin.size <= rb := by
 obtain ⟨ys, n1, hf1, hx, hlen, hyl, hg⟩ := DataW.trod_struct Tryz.underlying25 h;have hcl : cs.length = 3 := by rw [hlen]; exact cellsSta
 obtain ⟨c0, c1, c2, rfl⟩ := fits_three cs hcl
 match ys, hyl with
 | [y0, y1, y2], _ =>
  have g0 := hg 0 _ rfl;have g1 := hg 1 _ rfl;have g2 := hg 2 _ rfl;simp [cellsU641, cellsStr1, cellsSR] at g0 g1 g2
  have hwt : DataW.weights Tryz.prog 25 x.1 = y0.1.weights Tryz.prog 22 ++ (y1.1.weights Tryz.prog 9 ++ (y2.1.weights Tryz.prog 23 ++ [])) := by
   rw [hx];simp [DataW.weights, DataW.weightsEach, Tryz.underlying25]
  rw [hwt] at hw;obtain ⟨se, e0, _, hpl⟩ := DataW.trod_int Tryz.underlying22 g0;simp at e0
  subst e0;obtain ⟨li, rfl, hli⟩ := open_str g1 (fun n hn => hw n (by simp [hn]));obtain ⟨ra, rc, l, rfl, hlc, hl, hn, h1⟩ := open_reclist g2 (fun n hn => hw n (by simp [hn]));have hb : 0 <= se /\ se < 18446744073709551616 := by
   simp only [Lit.wf, Bool.and_eq_true, dtQ] at hpl
   have e1 : IntKind.u64.min = 0 := by decide
   have e2 : IntKind.u64.max = 18446744073709551615 := by decide
   rw [e1, e2] at hpl;omega
  obtain ⟨q, rfl⟩ : ∃ q : Nat, se = (q : Int) := ⟨se.toNat, by omega⟩;exact ⟨⟨q, li, l⟩, ra, rc, rfl, ⟨hl, hn, h1⟩, hlc, by show q < _; omega, hli⟩
end
def StaArg (w : World) (v : Value) (s : Sta) : Prop := ∃ ra rc, v = staV ra rc s /\ StaIn w ra s /\ s.recs.length <= rc /\ s.serial < 18446744073709551616 /\ s.lin.size <= rb
theorem open_sta {H : Type} {enc : TypeId × Value -> H} {W : World} {base : Nat} {v : Value} {d : DataW H} {p : List MemPlace} (hval : Value.okWide Tryz.prog W .any base 25 v) (h : DataW.Trod enc Tryz.prog W 0 (fun _ => true) true 25 v d p) (hR : ∀ n ∈ d.weights Tryz.prog 25, n <= rb) : ∃ s : Sta, StaArg W v s := by
 obtain ⟨cs, rfl, _⟩ := okWide_struct Tryz.underlying25 hval;obtain ⟨fuel, hf⟩ := h;obtain ⟨s, ra, rc, hcs, h1, h4, h2, h3⟩ := open_stacells fuel _ _ hf hR;have hcs2 : cs.toList = (staArr ra rc s).toList := by simpa [Value.cells] using hcs
 have e : cs = staArr ra rc s := Array.toList_inj.1 hcs2;exact ⟨s, ra, rc, by rw [e]; rfl, h1, h4, h2, h3⟩
end Go.Proofs.YtehghladpnpcoaaGreatDoor.State
