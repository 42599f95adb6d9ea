/- States in plain Lean: what is put, dropped, found. -/
import Derived.Test.YtfdjolfenghmaaaGreatDoorWStO
import Derived.Test.YtfdjolfenghmaaaGreatDoorWStP
import Derived.Test.YtfdjolfenghmaaaGreatDoorWJenP
import Derived.Test.YtfdjolfenghmaaaGreatDoorWStA
import Derived.Test.YtfdjolfenghmaaaGreatDoorWStF
import Derived.Laws.OwnMore
import Derived.OwnWalk
import Derived.Deep.DeepHandedRow
set_option linter.unusedVariables false
set_option linter.unusedSimpArgs false
set_option maxRecDepth 100000
namespace Go.Proofs.YtfdjolfenghmaaaGreatDoor.State
open Go.RowKit Go.Shelf Utf Strs Go.Proofs.YtfdjolfenghmaaaGreatDoor.Addr
open Jdec (IsTexts Turn)
def Lt (x y : Rec) : Prop := Op.bytesLess (printA x.a) (printA y.a) = true
theorem sorted_iff (l : List Rec) : Sorted l ↔ l.Pairwise Lt := by
  rw [List.pairwise_iff_getElem];exact Iff.rfl
theorem recB_right {r : Rec} (h : recB r = true) : rightA r.a = true := by
  rw [recB, Bool.and_eq_true, looseB, Bool.and_eq_true] at h;exact h.1.1
structure Good (l : List Rec) : Prop where
  r : ∀ x ∈ l, recB x = true
  o : l.Pairwise Lt
  s : ∀ x ∈ l, Small x
theorem good_of {l : List Rec} (h : Rows l) (hs : ∀ x ∈ l, Small x) : Good l :=
  ⟨fun x hx => by obtain ⟨i, hi, rfl⟩ := List.getElem_of_mem hx; exact h.r i hi, (sorted_iff l).1 h.sorted, hs⟩
theorem Lt.irrefl (x : Rec) : ¬ Lt x x := fun h => by rw [Lt, less_irrefl] at h; cases h
theorem Lt.trans {x y z : Rec} (h1 : Lt x y) (h2 : Lt y z) : Lt x z := less_trans h1 h2
/-! ## Dropped -/
/-! ## Put -/
theorem good_ext : ∀ {l m : List Rec}, l.Pairwise Lt -> m.Pairwise Lt -> (∀ x, x ∈ l ↔ x ∈ m) -> l = m := by
  intro l
  induction l with
  | nil =>
    intro m _ _ h
    cases m with
    | nil => rfl
    | cons y u => have := (h y).2 (by simp); cases this
  | cons x t ih =>
    intro m hl hm h
    cases m with
    | nil => have := (h x).1 (by simp); cases this
    | cons y u =>
      rw [List.pairwise_cons] at hl hm;have e : x = y := by
        rcases List.mem_cons.1 ((h x).1 (by simp)) with e | hx
        · exact e
        · rcases List.mem_cons.1 ((h y).2 (by simp)) with e | hy
          · exact e.symm
          · exact absurd ((hl.1 y hy).trans (hm.1 x hx)) (Lt.irrefl x)
      subst e;rw [ih hl.2 hm.2 fun z => ⟨fun hz => ?_, fun hz => ?_⟩]
      · rcases List.mem_cons.1 ((h z).1 (List.mem_cons_of_mem _ hz)) with rfl | h2
        · exact absurd (hl.1 z hz) (Lt.irrefl z)
        · exact h2
      · rcases List.mem_cons.1 ((h z).2 (List.mem_cons_of_mem _ hz)) with rfl | h2
        · exact absurd (hm.1 z hz) (Lt.irrefl z)
        · exact h2
open Jdec (IsTexts Turn infoStr gb_set gb_below gb_refl)
def GsPost (s : Sta) (w : World) (e : Ending) (w' : World) : Prop := ∃ g : Bool, e = .returned (.bool g) /\ (g = false -> s.recs.length <= 30 /\ s.lin.size <= 1000 /\ ∀ r ∈ s.recs, Small r) /\ Below w.heap.size w w'
theorem GsPost.to {s : Sta} {w w' : World} {e : Ending} (h : GsPost s w e w') : ∃ g : Bool, e = .returned (.bool g) /\ Hid (g = false -> s.recs.length <= 30 /\ s.lin.size <= 1000 /\ ∀ r ∈ s.recs, Small r) /\ Hid (Below w.heap.size w w') := h
theorem gs_ok (s : Sta) (ra : Option Addr) (rc : Nat) (w : World) (h : StaIn w ra s) : Hid (Calls Tryz.prog 5 #[.agg #[.int .u64 s.serial, .string s.lin, .slice ra s.recs.length rc]] w (GsPost s w)) := great18_any s ra rc w h
theorem rr_ok (s : Sta) (ra : Option Addr) (rc : Nat) (w : World) (h : RecsAt w ra s.recs) (hl : s.lin.size <= 6000) (b : Bool) (hb : rightS s = b) : Hid (Calls Tryz.prog 6 #[.agg #[.int .u64 s.serial, .string s.lin, .slice ra s.recs.length rc]] w fun e w' => e = .returned (.bool b) /\ Below w.heap.size w w') := by
  rw [<-hb]; exact rright18_any s ra rc w h hl
theorem pr18_ok (s : Sta) (ra : Option Addr) (rc : Nat) (w : World) (h : RecsAt w ra s.recs) (hl : s.lin.size <= 6000) (T : TabsA w) (b : Bool) (hb : rightS s = b) : Hid (Calls Tryz.prog 23 #[.agg #[.int .u64 s.serial, .string s.lin, .slice ra s.recs.length rc]] w fun e w' => e = .returned (.bool b) /\ Below w.heap.size w w') := by
  rw [<-hb]; exact sright_any s ra rc w h hl T
theorem sm_ok (s t : Sta) (ra rb : Option Addr) (rc rd : Nat) (w : World) (h : RecsAt w ra s.recs) (h' : RecsAt w rb t.recs) (b : Bool) (hb : sameSta s t = b) : Hid (Calls Tryz.prog 8 #[.agg #[.int .u64 s.serial, .string s.lin, .slice ra s.recs.length rc], .agg #[.int .u64 t.serial, .string t.lin, .slice rb t.recs.length rd]] w fun e w' => e = .returned (.bool b) /\ Below w.heap.size w w') := by
  rw [<-hb]; exact same18_any s t ra rb rc rd w h h'
theorem rightS_good {s : Sta} (h : rightS s = true) (hs : ∀ r ∈ s.recs, Small r) : Good s.recs := good_of ((rightS_iff s).1 h).2 hs
theorem rightS_lin {s : Sta} (h : rightS s = true) : decide (badZ s.lin.data.toList < 0) = true := decide_eq_true ((rightS_iff s).1 h).1
end Go.Proofs.YtfdjolfenghmaaaGreatDoor.State
namespace Go.Proofs.YtfdjolfenghmaaaGreatDoor.Addr
open Go.RowKit Strs Go.ChangeShapes Go.WideShapes Go.ChangeAt
open Jdec (IsTexts)
abbrev rb : Nat := 140737488351232
theorem weights_all {H : Type} {P : Program} {e : TypeId} : ∀ (l : List (DataW H)) (d : DataW H), d ∈ l -> ∀ n ∈ d.weights P e, n ∈ DataW.weightsAll P e l
  | x :: t, d, hd, n, hn => by
    rw [DataW.weightsAll];rcases List.mem_cons.1 hd with rfl | hd
    · exact List.mem_append_left _ hn
    · exact List.mem_append_right _ (weights_all t d hd n hn)
theorem fits_adr : ∀ cs : List Value, cs.length = 6 -> ∃ a b c d e f, cs = [a, b, c, d, e, f]
  | [a, b, c, d, e, f], _ => ⟨a, b, c, d, e, f, rfl⟩
theorem bytesStr : Tryz.prog.bytesOf 9 = 16 := by kernel_rfl
theorem cellsAdr : Tryz.prog.cellsOf 35 = 6 := by kernel_rfl
theorem cellsStr1 : Tryz.prog.cellsOf 9 = 1 := by kernel_rfl
theorem cellsInt1 : Tryz.prog.cellsOf 3 = 1 := by kernel_rfl
theorem cellsU641 : Tryz.prog.cellsOf 22 = 1 := by kernel_rfl
theorem cellsSS : Tryz.prog.cellsOf 33 = 1 := by kernel_rfl
section
variable {H : Type} {enc : TypeId × Value -> H} {W : World} {base : Nat} {spare : Nat -> Bool} {held : Bool}
end
end Go.Proofs.YtfdjolfenghmaaaGreatDoor.Addr
namespace Go.Proofs.YtfdjolfenghmaaaGreatDoor.State
open Go.RowKit Strs Go.ChangeShapes Go.WideShapes Go.ChangeAt Go.Proofs.YtfdjolfenghmaaaGreatDoor.Addr
open Jdec (IsTexts)
theorem bytesPair : Tryz.prog.bytesOf 53 = 32 := by kernel_rfl
theorem bytesRec : Tryz.prog.bytesOf 38 = 144 := by kernel_rfl
theorem cellsPair : Tryz.prog.cellsOf 53 = 2 := by kernel_rfl
theorem cellsRec : Tryz.prog.cellsOf 38 = 9 := by kernel_rfl
theorem cellsSta : Tryz.prog.cellsOf 25 = 3 := by kernel_rfl
theorem cellsSP : Tryz.prog.cellsOf 36 = 1 := by kernel_rfl
theorem cellsSR : Tryz.prog.cellsOf 23 = 1 := by kernel_rfl
theorem fits_two : ∀ cs : List Value, cs.length = 2 -> ∃ a b, cs = [a, b]
  | [a, b], _ => ⟨a, b, rfl⟩
theorem fits_three : ∀ cs : List Value, cs.length = 3 -> ∃ a b c, cs = [a, b, c]
  | [a, b, c], _ => ⟨a, b, c, rfl⟩
theorem fits_nine : ∀ cs : List Value, cs.length = 9 -> ∃ a b c d e f g h i, cs = [a, b, c, d, e, f, g, h, i]
  | [a, b, c, d, e, f, g, h, i], _ => ⟨a, b, c, d, e, f, g, h, i, rfl⟩
theorem addr_off (b o j : Nat) : (⟨b, o, none⟩ : Addr).add j = ⟨b, o + j, none⟩ := by unfold Addr.add; split <;> simp_all
section
variable {H : Type} {enc : TypeId × Value -> H} {W : World} {base : Nat} {spare : Nat -> Bool} {held : Bool}
theorem open_row {α : Type} (d : α) (R : List Value -> α -> Prop) {t e : TypeId} (ht : Tryz.prog.underlying t = some (.slice e)) (sz by_ : Nat) (hsz : Tryz.prog.cellsOf e = sz) (hsz0 : 0 < sz) (hby : Tryz.prog.bytesOf e = by_) (hby0 : 0 < by_)
    (hop : ∀ (fuel : Nat) (cs : List Value) (x : DataW H × List MemPlace), DataW.trod enc Tryz.prog W base spare held fuel e cs = some x -> (∀ n ∈ x.1.weights Tryz.prog e, n <= rb) -> ∃ a : α, R cs a)
    {fuel : Nat} {c : Value} {x : DataW H × List MemPlace} (h : DataW.trod enc Tryz.prog W base spare held fuel t [c] = some x) (hw : ∀ n ∈ x.1.weights Tryz.prog t, n <= rb) :
    ∃ (ka : Option Addr) (kc : Nat) (l : List α), c = .slice ka l.length kc /\ l.length <= kc /\ l.length <= rb /\ (l = [] ∨ ∃ b o, ka = some ⟨b, o, none⟩ /\ b < W.heap.size /\ ∀ i (h : i < l.length), ∃ cs : List Value, cs.length = sz /\ (∀ j u, cs[j]? = some u -> W.cell? ⟨b, o + i * sz + j, none⟩ = some u) /\ R cs l[i]) := by
  rcases DataW.trod_slice ht h with ⟨hcs, hx⟩ | ⟨a, len, cap, elems, rest, n, _, hcs, hx, hb, hl, hm, hlen, hel, _⟩
  · injection hcs with hcs
    exact ⟨none, 0, [], hcs, Nat.le_refl _, Nat.zero_le _, .inl rfl⟩
  · injection hcs with hcs
    have hw1 : DataW.weights Tryz.prog t x.1 = (elems.length + rest.length) * by_ :: (DataW.weightsAll Tryz.prog e (elems.map (·.1)) ++ DataW.weightsAll Tryz.prog e (rest.map (·.1))) := by
      rw [hx];simp only [DataW.weights, ht, List.length_map, hby]
    rw [hw1] at hw;have hlb := hw _ (List.mem_cons_self ..);have hlb2 : elems.length + rest.length <= rb := Nat.le_trans (Nat.le_mul_of_pos_right _ hby0) hlb;have el : ∀ i, ∃ s : α, i < len -> ∃ cs : List Value, cs.length = sz /\ (∀ j u, cs[j]? = some u -> W.cell? ((a.add (i * sz)).add j) = some u) /\ R cs s := by
      intro i
      by_cases him : i < len
      · have h1 := hel i him;rw [hsz] at h1;have hie : i < elems.length := by omega
        rw [List.getElem?_eq_getElem hie] at h1;obtain ⟨cs', hc, ht'⟩ := Option.bind_eq_some_iff.1 h1;obtain ⟨_, hcl, hat⟩ := World.cells?_some hc;obtain ⟨s, hs⟩ := hop _ _ _ ht' (fun n hn => hw _ (List.mem_cons_of_mem _ (List.mem_append_left _ (weights_all _ elems[i].1 (List.mem_map_of_mem (List.getElem_mem hie)) _ hn))));refine ⟨s, fun _ => ⟨cs', by simpa using hcl, fun j u hu => ?_, hs⟩⟩;have hj : j < sz := by
          have := (List.getElem?_eq_some_iff.1 hu).1
          simpa [hcl] using this
        have h0 := hat j hj;rw [h0];exact hu
      · exact ⟨d, fun h => absurd h him⟩
    let X : Nat -> α := fun i => (el i).choose
    have hX : ∀ i, i < len -> ∃ cs : List Value, cs.length = sz /\ (∀ j u, cs[j]? = some u -> W.cell? ((a.add (i * sz)).add j) = some u) /\ R cs (X i) := fun i h => (el i).choose_spec h;refine ⟨some a, cap, (List.range len).map X, by simpa using hcs, by simp; omega, by simp; omega, ?_⟩;rcases Nat.eq_zero_or_pos len with h0 | h0
    · left; subst h0; rfl
    · right
      obtain ⟨ab, ao, spot⟩ := a;have hspot : spot = none := by
        obtain ⟨cs, hl, hc, _⟩ := hX 0 h0;have h2 := hc 0 cs[0] (List.getElem?_eq_getElem (by omega))
        simpa [Addr.add] using World.cell?_spot h2
      subst hspot;have e : ∀ i j, ((⟨ab, ao, none⟩ : Addr).add i).add j = ⟨ab, ao + i + j, none⟩ := fun i j => by rw [addr_off, addr_off]
      have hblk : ab < W.heap.size := by
        obtain ⟨cs, hl, hc, _⟩ := hX 0 h0;have h2 := hc 0 cs[0] (List.getElem?_eq_getElem (by omega));rw [e] at h2;exact World.block_lt_of_cell? W _ h2
      refine ⟨ab, ao, rfl, hblk, fun i hi => ?_⟩;have hi' : i < len := by simpa using hi
      obtain ⟨cs, hl, hc, hR⟩ := hX i hi';rw [List.getElem_map, List.getElem_range];exact ⟨cs, hl, fun j u hu => by have := hc j u hu; rw [e] at this; exact this, hR⟩
theorem open_str {fuel : Nat} {c : Value} {x : DataW H × List MemPlace} (h : DataW.trod enc Tryz.prog W base spare held fuel 9 [c] = some x) (hw : ∀ n ∈ x.1.weights Tryz.prog 9, n <= rb) : ∃ s : ByteArray, c = .string s /\ s.size <= rb := by
  obtain ⟨s, e1, hs1, _⟩ := DataW.trod_string Tryz.underlying9 h;simp at e1
  refine ⟨s, e1, ?_⟩;have := hw s.data.toList.length (by rw [hs1]; simp [DataW.weights])
  simpa using this
def PairR (cs : List Value) (p : ByteArray × ByteArray) : Prop := cs = [.string p.1, .string p.2] /\ p.1.size <= rb /\ p.2.size <= rb
theorem open_pair (fuel : Nat) (cs : List Value) (x : DataW H × List MemPlace) (h : DataW.trod enc Tryz.prog W base spare held fuel 53 cs = some x) (hw : ∀ n ∈ x.1.weights Tryz.prog 53, n <= rb) : ∃ p : ByteArray × ByteArray, PairR cs p := by
  obtain ⟨ys, n1, hf1, hx, hlen, hyl, hg⟩ := DataW.trod_struct Tryz.underlying53 h;have hcl : cs.length = 2 := by rw [hlen]; exact cellsPair
  obtain ⟨c0, c1, rfl⟩ := fits_two cs hcl
  match ys, hyl with
  | [y0, y1], _ =>
    have g0 := hg 0 _ rfl;have g1 := hg 1 _ rfl;simp [cellsStr1] at g0 g1
    have hwt : DataW.weights Tryz.prog 53 x.1 = y0.1.weights Tryz.prog 9 ++ (y1.1.weights Tryz.prog 9 ++ []) := by
      rw [hx];simp [DataW.weights, DataW.weightsEach, Tryz.underlying53]
    rw [hwt] at hw;obtain ⟨s, rfl, hs⟩ := open_str g0 (fun n hn => hw n (by simp [hn]));obtain ⟨t, rfl, ht⟩ := open_str g1 (fun n hn => hw n (by simp [hn]));exact ⟨(s, t), rfl, hs, ht⟩
theorem open_pairs {fuel : Nat} {c : Value} {x : DataW H × List MemPlace} (h : DataW.trod enc Tryz.prog W base spare held fuel 36 [c] = some x) (hw : ∀ n ∈ x.1.weights Tryz.prog 36, n <= rb) : ∃ (ka : Option Addr) (kc : Nat) (l : List (ByteArray × ByteArray)), c = .slice ka l.length kc /\ IsPairs W (fun _ => True) ka l /\ l.length <= rb /\ (∀ p ∈ l, p.1.size <= rb) /\ ∀ p ∈ l, p.2.size <= rb := by
  obtain ⟨ka, kc, l, hc, _, hl, hr⟩ := open_row (⟨#[]⟩, ⟨#[]⟩) PairR Tryz.underlying36 2 32 cellsPair (by omega) bytesPair (by omega) open_pair h hw;rcases hr with rfl | ⟨b, o, rfl, hb, hi⟩
  · exact ⟨ka, kc, [], hc, .inl rfl, hl, (fun p hp => by cases hp), (fun p hp => by cases hp)⟩
  · refine ⟨_, kc, l, hc, .inr ⟨b, o, rfl, trivial, hb, fun i h => ?_⟩, hl, fun p hp => ?_, fun p hp => ?_⟩
    · obtain ⟨cs, _, hcs, rfl, _⟩ := hi i h;exact ⟨hcs 0 _ rfl, hcs 1 _ rfl⟩
    · obtain ⟨i, h, rfl⟩ := List.getElem_of_mem hp;obtain ⟨cs, _, hcs, _, h1, _⟩ := hi i h;exact h1
    · obtain ⟨i, h, rfl⟩ := List.getElem_of_mem hp;obtain ⟨cs, _, hcs, _, _, h1⟩ := hi i h;exact h1
end
end Go.Proofs.YtfdjolfenghmaaaGreatDoor.State
