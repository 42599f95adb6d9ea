/- An argument api.State, opened: the paths' capacities too. -/
import Derived.Test.YtfdjolfenghmaaaGreatDoorWOpS
set_option linter.unusedVariables false
set_option linter.unusedSimpArgs false
set_option maxRecDepth 100000
namespace Go.Proofs.YtfdjolfenghmaaaGreatDoor.State
open Go.RowKit Strs Go.ChangeShapes Go.WideShapes Go.ChangeAt Go.Proofs.YtfdjolfenghmaaaGreatDoor.Addr
open Jdec (IsTexts)
def Caps (w : World) (a : Option Addr) (l : List Rec) : Prop := ∀ i (h : i < l.length) b o, a = some ⟨b, o, none⟩ -> ∃ pa pc, w.cell? ⟨b, o + i * 9 + 0, none⟩ = some (.slice pa l[i].a.path.length pc) /\ l[i].a.path.length <= pc
section
variable {H : Type} {enc : TypeId × Value -> H} {W : World} {base : Nat} {spare : Nat -> Bool} {held : Bool}
theorem open_textsC {fuel : Nat} {c : Value} {x : DataW H × List MemPlace} (h : DataW.trod enc Tryz.prog W base spare held fuel 33 [c] = some x) (hw : ∀ n ∈ x.1.weights Tryz.prog 33, n <= rb) : ∃ (ka : Option Addr) (kc : Nat) (ks : List ByteArray), c = .slice ka ks.length kc /\ IsTexts W (fun _ => True) ka ks /\ ks.length <= rb /\ (∀ s ∈ ks, s.size <= rb) /\ ks.length <= kc := by
  rcases DataW.trod_slice Tryz.underlying33 h with ⟨hcs, hx⟩ | ⟨a, len, cap, elems, rest, n, _, hcs, hx, hb, hl, hm, hlen, hel, _⟩
  · injection hcs with hcs
    exact ⟨none, 0, [], hcs, .inl rfl, Nat.zero_le _, (fun s hs => by cases hs), Nat.le_refl _⟩
  · injection hcs with hcs
    have hw1 : DataW.weights Tryz.prog 33 x.1 = (elems.length + rest.length) * 16 :: (DataW.weightsAll Tryz.prog 9 (elems.map (·.1)) ++ DataW.weightsAll Tryz.prog 9 (rest.map (·.1))) := by
      rw [hx];simp only [DataW.weights, Tryz.underlying33, List.length_map, bytesStr]
    rw [hw1] at hw;have hlb := hw _ (List.mem_cons_self ..);have el : ∀ i, ∃ s : ByteArray, i < len -> W.cell? (a.add i) = some (.string s) /\ s.size <= rb := by
      intro i
      by_cases him : i < len
      · have h1 := hel i him;rw [cellsStr1, Nat.mul_one] at h1;have hie : i < elems.length := by omega
        rw [List.getElem?_eq_getElem hie] at h1;obtain ⟨cs', hc, ht'⟩ := Option.bind_eq_some_iff.1 h1;obtain ⟨s, hs, hx2, _⟩ := DataW.trod_string Tryz.underlying9 ht';obtain ⟨_, hcl, hat⟩ := World.cells?_some hc;have hwm : s.data.toList.length <= rb := by
          refine hw _ (List.mem_cons_of_mem _ (List.mem_append_left _ (weights_all _ elems[i].1 (List.mem_map_of_mem (List.getElem_mem hie)) _ ?_)));rw [hx2, DataW.weights];exact List.mem_singleton.2 rfl
        refine ⟨s, fun _ => ⟨?_, by simpa using hwm⟩⟩;have h0 := hat 0 (by omega);subst hs;rw [Go.Deep.add_add] at h0;exact h0
      · exact ⟨⟨#[]⟩, fun h => absurd h him⟩
    let X : Nat -> ByteArray := fun i => (el i).choose
    have hX : ∀ i, i < len -> W.cell? (a.add i) = some (.string (X i)) /\ (X i).size <= rb := fun i h => (el i).choose_spec h;refine ⟨some a, cap, (List.range len).map X, by simpa using hcs, ?_, by simp; omega, (fun s hs => ?_), by simp; omega⟩
    · rcases Nat.eq_zero_or_pos len with h0 | h0
      · left; subst h0; rfl
      · right
        obtain ⟨ab, ao, spot⟩ := a;have hspot : spot = none := by simpa [Addr.add] using World.cell?_spot (hX 0 h0).1
        subst hspot;refine ⟨ab, ao, rfl, trivial, World.block_lt_of_cell? W _ (hX 0 h0).1, fun i hi => ?_⟩;have hi' : i < len := by simpa using hi
        have := (hX i hi').1;rw [List.getElem_map, List.getElem_range];have e : (⟨ab, ao, none⟩ : Addr).add i = ⟨ab, ao + i, none⟩ := by unfold Addr.add; split <;> simp_all
        rw [e] at this;exact this
    · obtain ⟨i, hi, rfl⟩ := List.mem_map.1 hs;exact (hX i (List.mem_range.1 hi)).2
theorem open_wordsC (fuel : Nat) (cs : List Value) (x : DataW H × List MemPlace) (h : DataW.trod enc Tryz.prog W base spare held fuel 35 cs = some x) (hw : ∀ n ∈ x.1.weights Tryz.prog 35, n <= rb) : ∃ (a : Adr) (pa : Option Addr) (pc : Nat), cs = (arrA pa pc a).toList /\ AdrIn W pa a /\ a.path.length <= pc := by
  obtain ⟨ys, n1, hf1, hx, hlen, hyl, hg⟩ := DataW.trod_struct Tryz.underlying35 h;have hcl : cs.length = 6 := by rw [hlen]; exact cellsAdr
  obtain ⟨c0, c1, c2, c3, c4, c5, rfl⟩ := fits_adr cs hcl
  match ys, hyl with
  | [y0, y1, y2, y3, y4, y5], _ =>
    have g0 := hg 0 _ rfl;have g1 := hg 1 _ rfl;have g2 := hg 2 _ rfl;have g3 := hg 3 _ rfl;have g4 := hg 4 _ rfl;have g5 := hg 5 _ rfl;simp [cellsInt1, cellsU641, cellsStr1, cellsSS] at g0 g1 g2 g3 g4 g5
    have hwt : DataW.weights Tryz.prog 35 x.1 = y0.1.weights Tryz.prog 33 ++ (y1.1.weights Tryz.prog 9 ++ (y2.1.weights Tryz.prog 9 ++ (y3.1.weights Tryz.prog 3 ++ (y4.1.weights Tryz.prog 22 ++ (y5.1.weights Tryz.prog 9 ++ []))))) := by
      rw [hx];simp [DataW.weights, DataW.weightsEach, Tryz.underlying35]
    rw [hwt] at hw;obtain ⟨ka, kc, ks, e0, hkt, hkl, hks, hkc⟩ := open_textsC g0 (fun n hn => hw n (by simp [hn]));obtain ⟨ty, e1, hs1, _⟩ := DataW.trod_string Tryz.underlying9 g1;obtain ⟨nm, e2, hs2, _⟩ := DataW.trod_string Tryz.underlying9 g2;obtain ⟨k, e3, _, _⟩ := DataW.trod_int Tryz.underlying3 g3;obtain ⟨pl, e4, _, hpl⟩ := DataW.trod_int Tryz.underlying22 g4;obtain ⟨wd, e5, hs5, _⟩ := DataW.trod_string Tryz.underlying9 g5;simp at e1 e2 e3 e4 e5
    subst e0 e1 e2 e3 e4 e5;have h1 : ty.size <= rb := by
      have := hw ty.data.toList.length (by rw [hs1]; simp [DataW.weights])
      simpa using this
    have h2 : nm.size <= rb := by
      have := hw nm.data.toList.length (by rw [hs2]; simp [DataW.weights])
      simpa using this
    have h5 : wd.size <= rb := by
      have := hw wd.data.toList.length (by rw [hs5]; simp [DataW.weights])
      simpa using this
    have hb : 0 <= pl /\ pl < 18446744073709551616 := by
      simp only [Lit.wf, Bool.and_eq_true, decide_eq_true_eq] at hpl
      have e1 : IntKind.u64.min = 0 := by decide
      have e2 : IntKind.u64.max = 18446744073709551615 := by decide
      rw [e1, e2] at hpl;omega
    obtain ⟨q, rfl⟩ : ∃ q : Nat, pl = (q : Int) := ⟨pl.toNat, by omega⟩;exact ⟨⟨ks, ty, nm, k, q, wd⟩, ka, kc, rfl, ⟨hkt, hkl, hks, h1, h2, h5, by show q < _; omega⟩, hkc⟩
def RecRC (W : World) (cs : List Value) (x : At × Rec) : Prop := cs = (recArr x.1 x.2).toList /\ IsRec W (fun _ => True) x.1 x.2 /\ Wide x.2 /\ x.2.a.path.length <= x.1.pc
theorem open_reccellsC (fuel : Nat) (cs : List Value) (x : DataW H × List MemPlace) (h : DataW.trod enc Tryz.prog W base spare held fuel 38 cs = some x) (hw : ∀ n ∈ x.1.weights Tryz.prog 38, n <= rb) : ∃ r : At × Rec, RecRC W cs r := by
  obtain ⟨ys, n1, hf1, hx, hlen, hyl, hg⟩ := DataW.trod_struct Tryz.underlying38 h;have hcl : cs.length = 9 := by rw [hlen]; exact cellsRec
  obtain ⟨c0, c1, c2, c3, c4, c5, c6, c7, c8, rfl⟩ := fits_nine cs hcl
  match ys, hyl with
  | [y0, y1, y2, y3], _ =>
    have g0 := hg 0 _ rfl;have g1 := hg 1 _ rfl;have g2 := hg 2 _ rfl;have g3 := hg 3 _ rfl;simp [cellsAdr, cellsStr1, cellsSP] at g0 g1 g2 g3
    have hwt : DataW.weights Tryz.prog 38 x.1 = y0.1.weights Tryz.prog 35 ++ (y1.1.weights Tryz.prog 9 ++ (y2.1.weights Tryz.prog 9 ++ (y3.1.weights Tryz.prog 36 ++ []))) := by
      rw [hx];simp [DataW.weights, DataW.weightsEach, Tryz.underlying38]
    rw [hwt] at hw;obtain ⟨a, pa, pc, e0, ha, hpc⟩ := open_wordsC _ _ _ g0 (fun n hn => hw n (by simp [hn]));obtain ⟨pr, rfl, hpr⟩ := open_str g1 (fun n hn => hw n (by simp [hn]));obtain ⟨id, rfl, hid⟩ := open_str g2 (fun n hn => hw n (by simp [hn]));obtain ⟨ta, tc, l, rfl, hl, hn, h1, h2⟩ := open_pairs g3 (fun n hn => hw n (by simp [hn]));simp [arrA] at e0
    obtain ⟨rfl, rfl, rfl, rfl, rfl, rfl⟩ := e0;exact ⟨(⟨pa, pc, ta, tc⟩, ⟨a, pr, id, l⟩), rfl, ⟨ha.t, hl⟩, ⟨ha.l, ha.s, ha.ty, ha.nm, ha.wd, ha.p, hpr, hid, hn, h1, h2⟩, hpc⟩
theorem open_reclistC {fuel : Nat} {c : Value} {x : DataW H × List MemPlace} (h : DataW.trod enc Tryz.prog W base spare held fuel 23 [c] = some x) (hw : ∀ n ∈ x.1.weights Tryz.prog 23, n <= rb) : ∃ (ka : Option Addr) (kc : Nat) (l : List Rec), c = .slice ka l.length kc /\ l.length <= kc /\ IsRecs W (fun _ => True) ka l /\ l.length <= rb /\ (∀ r ∈ l, Wide r) /\ Caps W ka l := by
  obtain ⟨ka, kc, l, hc, hlc, hl, hr⟩ := open_row (At.zero, Rec.zero) (RecRC W) Tryz.underlying23 9 144 cellsRec (by omega) bytesRec (by omega) open_reccellsC h hw;refine ⟨ka, kc, l.map (·.2), by rw [List.length_map]; exact hc, by rw [List.length_map]; exact hlc, ?_, by rw [List.length_map]; exact hl, (fun r hr2 => ?_), ?_⟩
  · rcases hr with rfl | ⟨b, o, rfl, hb, hi⟩
    · exact .inl rfl
    · refine .inr ⟨b, o, rfl, trivial, hb, fun i => (l.getD i (At.zero, Rec.zero)).1, fun i h => ?_⟩;have hil : i < l.length := by simpa using h
      have hgd : l.getD i (At.zero, Rec.zero) = l[i] := by simp [List.getD_eq_getElem?_getD, hil]
      show (∀ j u, (recArr (l.getD i (At.zero, Rec.zero)).1 (l.map (·.2))[i])[j]? = some u -> W.cell? ⟨b, o + i * 9 + j, none⟩ = some u) /\ IsRec W (fun _ => True) (l.getD i (At.zero, Rec.zero)).1 (l.map (·.2))[i];rw [hgd, List.getElem_map];obtain ⟨cs, _, hcs, e, hI, _, _⟩ := hi i hil;exact ⟨fun j u hu => hcs j u (by rw [e]; simpa using hu), hI⟩
  · obtain ⟨y, hy, rfl⟩ := List.mem_map.1 hr2;obtain ⟨i, hi2, rfl⟩ := List.getElem_of_mem hy;rcases hr with rfl | ⟨b, o, rfl, hb, hi⟩
    · cases hi2
    · obtain ⟨cs, _, _, _, _, hW, _⟩ := hi i hi2;exact hW
  · intro i hi b2 o2 e2
    have hil : i < l.length := by simpa using hi
    rcases hr with rfl | ⟨b, o, rfl, hb, hi2⟩
    · cases hil
    · injection e2 with e2; injection e2 with e3 e4
      subst e3 e4;obtain ⟨cs, _, hcs, e, _, _, hp⟩ := hi2 i hil;refine ⟨l[i].1.pa, l[i].1.pc, ?_, by rw [List.getElem_map]; exact hp⟩;rw [List.getElem_map];exact hcs 0 _ (by rw [e]; rfl)
theorem open_stacellsC (fuel : Nat) (cs : List Value) (x : DataW H × List MemPlace) (h : DataW.trod enc Tryz.prog W base spare held fuel 25 cs = some x) (hw : ∀ n ∈ x.1.weights Tryz.prog 25, n <= rb) : ∃ (s : Sta) (ra : Option Addr) (rc : Nat), cs = (staArr ra rc s).toList /\ StaIn W ra s /\ s.recs.length <= rc /\ s.serial < 18446744073709551616 /\ s.lin.size <= rb /\ Caps W ra s.recs := by
  obtain ⟨ys, n1, hf1, hx, hlen, hyl, hg⟩ := DataW.trod_struct Tryz.underlying25 h;have hcl : cs.length = 3 := by rw [hlen]; exact cellsSta
  obtain ⟨c0, c1, c2, rfl⟩ := fits_three cs hcl
  match ys, hyl with
  | [y0, y1, y2], _ =>
    have g0 := hg 0 _ rfl;have g1 := hg 1 _ rfl;have g2 := hg 2 _ rfl;simp [cellsU641, cellsStr1, cellsSR] at g0 g1 g2
    have hwt : DataW.weights Tryz.prog 25 x.1 = y0.1.weights Tryz.prog 22 ++ (y1.1.weights Tryz.prog 9 ++ (y2.1.weights Tryz.prog 23 ++ [])) := by
      rw [hx];simp [DataW.weights, DataW.weightsEach, Tryz.underlying25]
    rw [hwt] at hw;obtain ⟨se, e0, _, hpl⟩ := DataW.trod_int Tryz.underlying22 g0;simp at e0
    subst e0;obtain ⟨li, rfl, hli⟩ := open_str g1 (fun n hn => hw n (by simp [hn]));obtain ⟨ra, rc, l, rfl, hlc, hl, hn, h1, hcp⟩ := open_reclistC g2 (fun n hn => hw n (by simp [hn]));have hb : 0 <= se /\ se < 18446744073709551616 := by
      simp only [Lit.wf, Bool.and_eq_true, decide_eq_true_eq] at hpl
      have e1 : IntKind.u64.min = 0 := by decide
      have e2 : IntKind.u64.max = 18446744073709551615 := by decide
      rw [e1, e2] at hpl;omega
    obtain ⟨q, rfl⟩ : ∃ q : Nat, se = (q : Int) := ⟨se.toNat, by omega⟩;exact ⟨⟨q, li, l⟩, ra, rc, rfl, ⟨hl, hn, h1⟩, hlc, by show q < _; omega, hli, hcp⟩
end
def StaArgC (w : World) (v : Value) (s : Sta) : Prop := ∃ ra rc, v = staV ra rc s /\ StaIn w ra s /\ s.recs.length <= rc /\ s.serial < 18446744073709551616 /\ s.lin.size <= rb /\ Caps w ra s.recs
theorem open_staC {H : Type} {enc : TypeId × Value -> H} {W : World} {base : Nat} {v : Value} {d : DataW H} {p : List MemPlace} (hval : Value.okWide Tryz.prog W .any base 25 v) (h : DataW.Trod enc Tryz.prog W 0 (fun _ => true) true 25 v d p) (hR : ∀ n ∈ d.weights Tryz.prog 25, n <= rb) : ∃ s : Sta, StaArgC W v s := by
  obtain ⟨cs, rfl, _⟩ := okWide_struct Tryz.underlying25 hval;obtain ⟨fuel, hf⟩ := h;obtain ⟨s, ra, rc, hcs, h1, h4, h2, h3, h5⟩ := open_stacellsC fuel _ _ hf hR;have hcs2 : cs.toList = (staArr ra rc s).toList := by simpa [Value.cells] using hcs
  have e : cs = staArr ra rc s := Array.toList_inj.1 hcs2;exact ⟨s, ra, rc, by rw [e]; rfl, h1, h4, h2, h3, h5⟩
end Go.Proofs.YtfdjolfenghmaaaGreatDoor.State
