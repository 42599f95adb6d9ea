/- Records and states: what they are, and how they lie in memory. -/
import Derived.Test.YtehghladpnpcoaaGreatDoorUAdX
import Derived.Laws.StructEq
set_option linter.unusedVariables false
set_option linter.unusedSimpArgs false
set_option maxRecDepth 100000
set_option maxHeartbeats 8000000
namespace Go.Proofs.YtehghladpnpcoaaGreatDoor.State
open Go.RowKit Go.Shelf Utf Strs Go.Proofs.YtehghladpnpcoaaGreatDoor.Addr
open Jdec (IsTexts Turn)
structure Rec where
 a : Adr
 prov : ByteArray
 id : ByteArray
 attrs : List (ByteArray × ByteArray)
structure At where
 pa : Option Addr
 pc : Nat
 ta : Option Addr
 tc : Nat
def At.zero : At := ⟨none, 0, none, 0⟩
def Rec.zero : Rec := ⟨zeroA, ⟨#[]⟩, ⟨#[]⟩, []⟩
def recArr (p : At) (r : Rec) : Array Value := #[.slice p.pa r.a.path.length p.pc, .string r.a.type, .string r.a.name, .int .i64 r.a.key, .int .u64 r.a.place, .string r.a.word, .string r.prov, .string r.id, .slice p.ta r.attrs.length p.tc]
def recV (p : At) (r : Rec) : Value := .agg #[.slice p.pa r.a.path.length p.pc, .string r.a.type, .string r.a.name, .int .i64 r.a.key, .int .u64 r.a.place, .string r.a.word, .string r.prov, .string r.id, .slice p.ta r.attrs.length p.tc]
def IsPairs (w : World) (A : Nat -> Prop) (a : Option Addr) (l : List (ByteArray × ByteArray)) : Prop :=
 l = [] ∨ ∃ b o, a = some ⟨b, o, none⟩ /\ A b /\ b < w.heap.size /\ ∀ i (h : i < l.length), w.cell? ⟨b, o + i * 2, none⟩ = some (.string l[i].1) /\ w.cell? ⟨b, o + i * 2 + 1, none⟩ = some (.string l[i].2)
structure IsRec (w : World) (A : Nat -> Prop) (p : At) (r : Rec) : Prop where
 path : IsTexts w A p.pa r.a.path
 attrs : IsPairs w A p.ta r.attrs
def IsRecs (w : World) (A : Nat -> Prop) (a : Option Addr) (l : List Rec) : Prop :=
 l = [] ∨ ∃ b o, a = some ⟨b, o, none⟩ /\ A b /\ b < w.heap.size /\ ∃ f : Nat -> At, ∀ i (h : i < l.length), (∀ j u, (recArr (f i) l[i])[j]? = some u -> w.cell? ⟨b, o + i * 9 + j, none⟩ = some u) /\ IsRec w A (f i) l[i]
structure Sta where
 serial : Nat
 lin : ByteArray
 recs : List Rec
def staArr (ra : Option Addr) (rc : Nat) (s : Sta) : Array Value := #[.int .u64 s.serial, .string s.lin, .slice ra s.recs.length rc]
def staV (ra : Option Addr) (rc : Nat) (s : Sta) : Value := .agg #[.int .u64 s.serial, .string s.lin, .slice ra s.recs.length rc]
theorem cell_blk {w w' : World} {b o : Nat} (h : w'.heap[b]? = w.heap[b]?) : w'.cell? ⟨b, o, none⟩ = w.cell? ⟨b, o, none⟩ := by simp only [World.cell?, h]
theorem IsPairs.turn {w w' : World} {A A' : Nat -> Prop} {a : Option Addr} {l : List (ByteArray × ByteArray)} (h : IsPairs w A a l) (t : Turn w w' A A') : IsPairs w' A' a l := by
 rcases h with h | ⟨b, o, ha, hA, hb, hc⟩
 ·exact .inl h
 ·obtain ⟨h1, h2⟩ := t.block b hA hb;exact .inr ⟨b, o, ha, h2, Nat.lt_of_lt_of_le hb t.size, fun i hi => ⟨by rw [cell_blk h1]; exact (hc i hi).1, by rw [cell_blk h1]; exact (hc i hi).2⟩⟩
theorem IsRec.turn {w w' : World} {A A' : Nat -> Prop} {p : At} {r : Rec} (h : IsRec w A p r) (t : Turn w w' A A') : IsRec w' A' p r := ⟨h.path.turn t, h.attrs.turn t⟩
theorem IsRecs.turn {w w' : World} {A A' : Nat -> Prop} {a : Option Addr} {l : List Rec} (h : IsRecs w A a l) (t : Turn w w' A A') : IsRecs w' A' a l := by
 rcases h with h | ⟨b, o, ha, hA, hb, f, hc⟩
 ·exact .inl h
 ·obtain ⟨h1, h2⟩ := t.block b hA hb;exact .inr ⟨b, o, ha, h2, Nat.lt_of_lt_of_le hb t.size, f, fun i hi => ⟨fun j u hu => by rw [cell_blk h1]; exact (hc i hi).1 j u hu, (hc i hi).2.turn t⟩⟩
theorem IsRec.any {w : World} {A : Nat -> Prop} {p : At} {r : Rec} (h : IsRec w A p r) : IsRec w (fun _ => True) p r := h.turn (Turn.mono _ (fun _ _ _ => trivial))
theorem IsRecs.any {w : World} {A : Nat -> Prop} {a : Option Addr} {l : List Rec} (h : IsRecs w A a l) : IsRecs w (fun _ => True) a l := h.turn (Turn.mono _ (fun _ _ _ => trivial))
theorem rec_new (w : World) (p : At) (r : Rec) : ∃ w1, w.alloc (.cells #[.slice p.pa r.a.path.length p.pc, .string r.a.type, .string r.a.name, .int .i64 r.a.key, .int .u64 r.a.place, .string r.a.word, .string r.prov, .string r.id, .slice p.ta r.attrs.length p.tc] 38) = w1 /\ Hid (w1.heap[w.heap.size]? = some (.cells (recArr p r) 38 (0, 0))) /\ Hid (Below w.heap.size w w1) :=
 ⟨_, rfl, heap_alloc_new _ _, (Below.refl _ _).alloc (Nat.le_refl _) _⟩
theorem rec_cells {w : World} {b : Nat} {p : At} {r : Rec} (h : w.heap[b]? = some (.cells (recArr p r) 38 (0, 0))) : w.cell? ⟨b, 0, none⟩ = some (.slice p.pa r.a.path.length p.pc) /\ w.cell? ⟨b, 1, none⟩ = some (.string r.a.type) /\ w.cell? ⟨b, 2, none⟩ = some (.string r.a.name) /\ w.cell? ⟨b, 3, none⟩ = some (.int .i64 r.a.key) /\ w.cell? ⟨b, 4, none⟩ = some (.int .u64 r.a.place) /\ w.cell? ⟨b, 5, none⟩ = some (.string r.a.word) /\ w.cell? ⟨b, 6, none⟩ = some (.string r.prov) /\ w.cell? ⟨b, 7, none⟩ = some (.string r.id) /\ w.cell? ⟨b, 8, none⟩ = some (.slice p.ta r.attrs.length p.tc) :=
 ⟨cell_of h 0, cell_of h 1, cell_of h 2, cell_of h 3, cell_of h 4, cell_of h 5, cell_of h 6, cell_of h 7, cell_of h 8⟩
theorem sta_new (w : World) (ra : Option Addr) (rc : Nat) (s : Sta) : ∃ w1, w.alloc (.cells #[.int .u64 s.serial, .string s.lin, .slice ra s.recs.length rc] 25) = w1 /\ Hid (w1.heap[w.heap.size]? = some (.cells (staArr ra rc s) 25 (0, 0))) /\ Hid (Below w.heap.size w w1) :=
 ⟨_, rfl, heap_alloc_new _ _, (Below.refl _ _).alloc (Nat.le_refl _) _⟩
structure Small (r : Rec) : Prop where
 l : r.a.path.length <= 3000
 s : ∀ x ∈ r.a.path, x.size <= 3000
 ty : r.a.type.size <= 3000
 nm : r.a.name.size <= 3000
 wd : r.a.word.size <= 3000
 p : r.a.place < 18446744073709551616
 pr : r.prov.size <= 6000
 id : r.id.size <= 6000
 n : r.attrs.length <= 3000
 at1 : ∀ x ∈ r.attrs, x.1.size <= 6000
 at2 : ∀ x ∈ r.attrs, x.2.size <= 6000
theorem IsRec.adr {w : World} {p : At} {r : Rec} (h : IsRec w (fun _ => True) p r) (hs : Small r) : AdrAt w p.pa r.a := ⟨h.path, hs.l, hs.s, hs.ty, hs.nm, hs.wd, hs.p⟩
def ltB (x y : ByteArray) : Bool := Op.bytesLess x.toList y.toList
def risingB : List (ByteArray × ByteArray) -> Bool
 | x :: y :: t => ltB x.1 y.1 && risingB (y :: t)
 | _ => true
def pairB (x : ByteArray × ByteArray) : Bool := decide (badZ x.1.data.toList < 0) && decide (badZ x.2.data.toList < 0)
def looseB (r : Rec) : Bool := rightA r.a && (decide (badZ r.prov.data.toList < 0) && (decide (badZ r.id.data.toList < 0) && r.attrs.all pairB))
def recB (r : Rec) : Bool := looseB r && risingB r.attrs
theorem rising_iff : ∀ l : List (ByteArray × ByteArray), risingB l = true ↔ ∀ j (h : j + 1 < l.length), ltB l[j].1 l[j + 1].1 = true := by
 intro l
 induction l with
 | nil => simp [risingB]
 | cons x t ih =>
  cases t with
  | nil => simp [risingB]
  | cons y t =>
   rw [risingB, Bool.and_eq_true, ih];constructor
   ·rintro ⟨h1, h2⟩ j hj
    cases j with
    | zero => exact h1
    | succ j => exact h2 j (by simp only [List.length_cons] at hj ⊢; omega)
   ·intro h
    exact ⟨h 0 (by simp), fun j hj => h (j + 1) (by simp only [List.length_cons] at hj ⊢; omega)⟩
theorem less_swap (x y : List UInt8) : Op.bytesLess y x = !(Op.bytesLess x y || (x == y)) := by
 have hn := compare_neg x y;rcases cmp_cases x y with ⟨h1, h2, h3⟩ | ⟨h1, h2, h3⟩ | ⟨h1, h2, h3⟩ <;> rcases cmp_cases y x with ⟨k1, k2, k3⟩ | ⟨k1, k2, k3⟩ | ⟨k1, k2, k3⟩
 all_goals first
  | (exfalso; rw [h1, k1] at hn; revert hn; decide)
  | (rw [h2, k2]; simp [h3])
theorem rising_any (l : List (ByteArray × ByteArray)) (ta : Option Addr) (tc : Nat) (A : Nat -> Prop) (w : World) (h : IsPairs w A ta l) (hl : l.length <= 3000) : Calls Tryz.prog 47 #[.slice ta l.length tc] w fun e w' => e = .returned (.bool (risingB l)) /\ Below w.heap.size w w' := by
 go_enter Tryz.func47, Tryz.ntmps47
 go_wp2_with fail
 go_loopw [3] (fun p wr => ∃ i n : Nat, p = .int .i64 i /\ 1 <= i /\ i <= l.length + 1 /\ Hid (∀ j (h : j + 1 < l.length), j + 1 < i -> ltB l[j].1 l[j + 1].1 = true) /\ wr = w.drewN n) (fun p _ => l.length + 1 - (intOf p).toNat)
 case atStart => exact ⟨1, 0, rfl, Nat.le_refl _, by omega, fun j _ h => by omega, rfl⟩
 case round =>
  obtain ⟨i, n, rfl, hi1, hi, hR, rfl⟩ := hrel;by_cases hlt : i < l.length
  ·obtain ⟨b, o, rfl, _, hb, hc⟩ := h.resolve_left (by intro e; rw [e] at hlt; simp at hlt);obtain ⟨q, hq⟩ : ∃ q, q + 1 = i := ⟨i - 1, by omega⟩;have hql : q < l.length := by omega
   have gq : (i : Int) - 1 = (q : Int) := by omega
   have wq : IntKind.i64.wrap (q : Int) = (q : Int) := IntWalk.i64_in _ (by omega);have k1 := (hc i hlt).1;have k2 := (hc q hql).1;obtain ⟨x, hx⟩ : ∃ x, l[i].1 = x := ⟨_, rfl⟩;obtain ⟨y, hy⟩ : ∃ y, l[q].1 = y := ⟨_, rfl⟩;rw [hx] at k1;rw [hy] at k2;have hsw := less_swap x.toList y.toList;obtain ⟨c1, h1⟩ : ∃ c, Op.bytesLess x.toList y.toList = c := ⟨_, rfl⟩;obtain ⟨c2, h2⟩ : ∃ c, (x.toList == y.toList) = c := ⟨_, rfl⟩;rw [h1, h2] at hsw;have HLT : Hid (∀ (h1 : q < l.length) (h2 : i < l.length), ltB l[q].1 l[i].1 = !(c1 || c2)) := fun _ _ => by
    rw [hx, hy]; exact hsw
   have HQ := hdQ hq;clear hc hx hy hsw hq;cases c1
   ·cases c2
    ·have HN : Hid (∀ j (h : j + 1 < l.length), j + 1 < i + 1 -> ltB l[j].1 l[j + 1].1 = true) := by
      intro j hj h
      by_cases e : j + 1 = i
      ·have e2 : j = q := by have := HQ.out; omega
       subst e2;have := HLT.out hql hlt;simp only [e]
       simpa using this
      ·exact hR.out j hj (by omega)
     go_wp2_with fail
     go_quiet (fail)
     go_wp2_with fail
     go_roundw
     case rel => exact ⟨i + 1, _, by go_num, by omega, by omega, HN.out, rfl⟩
     case measure => simp [intOf]; omega
    ·have HF : Hid (risingB l = false) := by
      rw [Hid, <-Bool.not_eq_true, rising_iff];intro h
      have h3 := HLT.out hql hlt;have h4 := h q (by have := HQ.out; omega);have e := HQ.out;subst e;rw [h3] at h4;cases h4
     go_wp2_with fail
     go_quiet (fail)
     go_wp2_with fail
     go_ret
     exact ⟨by rw [HF.out] <;> rfl, Addr.below_drewN (Addr.below_drewN (Below.refl _ _) _) _⟩
   ·have HF : Hid (risingB l = false) := by
     rw [Hid, <-Bool.not_eq_true, rising_iff];intro h
     have h3 := HLT.out hql hlt;have h4 := h q (by have := HQ.out; omega);have e := HQ.out;subst e;rw [h3] at h4;cases h4
    go_wp2_with fail
    go_quiet (fail)
    go_wp2_with fail
    go_ret
    exact ⟨by rw [HF.out] <;> rfl, Addr.below_drewN (Addr.below_drewN (Below.refl _ _) _) _⟩
  ·have HF : Hid (risingB l = true) := by
    rw [Hid, rising_iff];exact fun j hj => hR.out j hj (by omega)
   go_wp2_with fail
   go_ret
   exact ⟨by rw [HF.out] <;> rfl, Addr.below_drewN (Below.refl _ _) _⟩
theorem utf_ok (s : ByteArray) (w : World) (hs : s.size <= 6000) (T : Sizes w) (v : Bool) (hv : decide (badZ s.data.toList < 0) = v) : Hid (Calls Tryz.prog 37 #[.string s] w fun e w' => e = .returned (.bool v) /\ w = w') := by
 have h := Quote.valid_any s w (by omega) T;rw [hv] at h;exact h
theorem pair_new (w : World) (x y : ByteArray) : ∃ w1, w.alloc (.cells #[.string x, .string y] 72) = w1 /\ Hid (w1.heap[w.heap.size]? = some (.cells #[.string x, .string y] 72 (0, 0))) /\ Hid (Below w.heap.size w w1) :=
 ⟨_, rfl, heap_alloc_new _ _, (Below.refl _ _).alloc (Nat.le_refl _) _⟩
theorem loose_any (r : Rec) (p : At) (w : World) (h : IsRec w (fun _ => True) p r) (hs : Small r) (T : TabsA w) : Calls Tryz.prog 38 #[recV p r] w fun e w' => e = .returned (.bool (looseB r)) /\ Below w.heap.size w w' := by
 obtain ⟨w1, hw1, V1, B1⟩ := rec_new w p r;have HT : Hid (∀ w', Below w.heap.size w w' -> TabsA w') := fun w' hb => T.stays hb;have HI : Hid (∀ w', Below w.heap.size w w' -> IsRec w' (fun _ => True) p r) := fun w' hb => h.turn (Turn.below hb);have HS := hdQ hs;have hl1 := heap_lt V1.out;obtain ⟨ra, hra⟩ : ∃ x, rightA r.a = x := ⟨_, rfl⟩;obtain ⟨v1, hv1⟩ : ∃ x, decide (badZ r.prov.data.toList < 0) = x := ⟨_, rfl⟩;obtain ⟨v2, hv2⟩ : ∃ x, decide (badZ r.id.data.toList < 0) = x := ⟨_, rfl⟩;obtain ⟨v3, hv3⟩ : ∃ x, r.attrs.all pairB = x := ⟨_, rfl⟩;have HL : Hid (looseB r = (ra && (v1 && (v2 && v3)))) := by rw [Hid, looseB, hra, hv1, hv2, hv3]
 have hri := (((h.turn (Turn.below B1.out)).adr hs).right p.pc (T.stays B1.out));rw [hra] at hri;have HRI : Hid (Calls Tryz.prog 61 #[.agg #[.slice p.pa r.a.path.length p.pc, .string r.a.type, .string r.a.name, .int .i64 r.a.key, .int .u64 r.a.place, .string r.a.word]] w1 fun e w' => e = .returned (.bool ra) /\ Below w1.heap.size w1 w') := hri;have HV1 := hdQ hv1;have HV2 := hdQ hv2;have HV3 := hdQ hv3;have hn := hs.n;obtain ⟨x0, x1, x2, x3, x4, x5, x6, x7, x8⟩ := rec_cells V1.out;unfold recV;clear hri hra hv1 hv2 hv3 h hs T;go_enter Tryz.func38, Tryz.ntmps38
 go_wp2_with fail
 refine (Calls.mono HRI.out ?_);rintro z w2 ⟨rfl, hb2⟩;have V2 : Hid (w2.heap[w.heap.size]? = some (.cells (recArr p r) 38 (0, 0))) := (hb2.block _ hl1).trans V1.out;have B2 : Hid (Below w.heap.size w w2) := B1.out.trans (hb2.mono (by omega));clear hb2 hw1 HRI x0 x1 x2 x3 x4 x5 x6 x7 x8;cases ra
 ·go_wp2_with fail
  go_ret
  exact ⟨by rw [HL.out] <;> rfl, B2.out⟩
 obtain ⟨x0, x1, x2, x3, x4, x5, x6, x7, x8⟩ := rec_cells V2.out;have HC1 := utf_ok r.prov w2 HS.out.pr (HT.out w2 B2.out).t.z v1 HV1.out;have HC2 := utf_ok r.id w2 HS.out.id (HT.out w2 B2.out).t.z v2 HV2.out;go_wp2_with fail
 refine (Calls.mono HC1.out ?_);rintro z w3 ⟨rfl, rfl⟩;cases v1
 ·go_wp2_with fail
  go_ret
  exact ⟨by rw [HL.out] <;> rfl, B2.out⟩
 go_wp2_with fail
 refine (Calls.mono HC2.out ?_);rintro z w3 ⟨rfl, rfl⟩;cases v2
 ·go_wp2_with fail
  go_ret
  exact ⟨by rw [HL.out] <;> rfl, B2.out⟩
 have hl2 := heap_lt V2.out;go_wp2_with fail
 clear x0 x1 x2 x3 x4 x5 x6 x7 x8
 go_loopw [24] (fun q wr => ∃ i : Nat, q = .int .i64 i /\ i <= r.attrs.length /\ Hid ((r.attrs.take i).all pairB = true) /\ Hid (Below w2.heap.size w2 wr)) (fun q _ => r.attrs.length - (intOf q).toNat)
 case atStart => exact ⟨0, rfl, Nat.zero_le _, by simp [Hid], Below.refl _ _⟩
 case round =>
  obtain ⟨i, rfl, hi, hR, hB⟩ := hrel;have Bw : Hid (Below w.heap.size w wr) := B2.out.trans (hB.out.mono (by omega));by_cases hlt : i < r.attrs.length
  ·obtain ⟨b, o, hta, _, hb, hc⟩ := ((HI.out wr Bw.out).attrs).resolve_left (by intro e; rw [e] at hlt; simp at hlt);obtain ⟨k1, k2⟩ := hc i hlt;obtain ⟨x, hx⟩ : ∃ x, r.attrs[i].1 = x := ⟨_, rfl⟩;obtain ⟨y, hy⟩ : ∃ y, r.attrs[i].2 = y := ⟨_, rfl⟩;have hxs : x.size <= 6000 := by rw [<-hx]; exact HS.out.at1 _ (List.getElem_mem hlt)
   have hys : y.size <= 6000 := by rw [<-hy]; exact HS.out.at2 _ (List.getElem_mem hlt)
   rw [hx] at k1;rw [hy] at k2;obtain ⟨u1, hu1⟩ : ∃ u, decide (badZ x.data.toList < 0) = u := ⟨_, rfl⟩;obtain ⟨u2, hu2⟩ : ∃ u, decide (badZ y.data.toList < 0) = u := ⟨_, rfl⟩;have HPB : Hid (pairB r.attrs[i] = (u1 && u2)) := by rw [Hid, pairB, hx, hy, hu1, hu2]
   have hstep : (r.attrs.take (i + 1)).all pairB = ((r.attrs.take i).all pairB && pairB r.attrs[i]) := by
    rw [List.take_add_one, List.getElem?_eq_getElem hlt, List.all_append]; simp
   have HST := hdQ hstep;have HBAD : Hid ((u1 && u2) = false -> v3 = false) := fun h => by
    rw [<-HV3.out, <-Bool.not_eq_true, List.all_eq_true];intro hall
    have := hall r.attrs[i] (List.getElem_mem hlt);rw [HPB.out, h] at this;cases this
   obtain ⟨w4, hw4, P4, B4⟩ := pair_new wr x y;have B4w : Hid (Below w.heap.size w w4) := Bw.out.trans (B4.out.mono Bw.out.size);have HC1 := utf_ok x w4 hxs (HT.out w4 B4w.out).t.z u1 hu1;have HC2 := utf_ok y w4 hys (HT.out w4 B4w.out).t.z u2 hu2;have p0 : w4.cell? ⟨wr.heap.size, 0, none⟩ = some (.string x) := cell_of P4.out 0;have p1 : w4.cell? ⟨wr.heap.size, 1, none⟩ = some (.string y) := cell_of P4.out 1;have B24 : Hid (Below w2.heap.size w2 w4) := hB.out.trans (B4.out.mono hB.out.size);clear hc hx hy hu1 hu2 hstep;rw [hta];go_wp2_with fail
   refine (Calls.mono HC1.out ?_);rintro z w5 ⟨rfl, rfl⟩;cases u1
   ·have hv3 := HBAD.out rfl;subst hv3;go_wp2_with fail
    go_ret
    exact ⟨by rw [HL.out] <;> rfl, B4w.out⟩
   go_wp2_with fail
   refine (Calls.mono HC2.out ?_);rintro z w5 ⟨rfl, rfl⟩;cases u2
   ·have hv3 := HBAD.out rfl;subst hv3;go_wp2_with fail
    go_ret
    exact ⟨by rw [HL.out] <;> rfl, B4w.out⟩
   have HN : Hid ((r.attrs.take (i + 1)).all pairB = true) := by rw [Hid, HST.out, hR.out, HPB.out]; rfl
   go_wp2_with fail
   go_roundw
   case rel => exact ⟨i + 1, by go_num, by omega, HN.out, B24.out⟩
   case measure => simp [intOf]; omega
  ·have hv3 : v3 = true := by
    rw [<-HV3.out, <-hR.out, List.take_of_length_le (by omega)]
   have HF : Hid (looseB r = true) := by rw [Hid, HL.out, hv3]; rfl
   clear hv3;go_wp2_with fail
   go_ret
   exact ⟨by rw [HF.out] <;> rfl, Bw.out⟩
theorem record_any (r : Rec) (p : At) (w : World) (h : IsRec w (fun _ => True) p r) (hs : Small r) (T : TabsA w) : Calls Tryz.prog 14 #[recV p r] w fun e w' => e = .returned (.bool (recB r)) /\ Below w.heap.size w w' := by
 obtain ⟨w1, hw1, V1, B1⟩ := rec_new w p r;have hl1 := heap_lt V1.out;obtain ⟨lo, hlo⟩ : ∃ x, looseB r = x := ⟨_, rfl⟩;obtain ⟨ri, hri⟩ : ∃ x, risingB r.attrs = x := ⟨_, rfl⟩;have HR : Hid (recB r = (lo && ri)) := by rw [Hid, recB, hlo, hri]
 have hl := loose_any r p w1 (h.turn (Turn.below B1.out)) hs (T.stays B1.out);rw [hlo] at hl;unfold recV at hl ⊢;have HLO : Hid (Calls Tryz.prog 38 #[.agg #[.slice p.pa r.a.path.length p.pc, .string r.a.type, .string r.a.name, .int .i64 r.a.key, .int .u64 r.a.place, .string r.a.word, .string r.prov, .string r.id, .slice p.ta r.attrs.length p.tc]] w1 fun e w' => e = .returned (.bool lo) /\ Below w1.heap.size w1 w') := hl;have HRI : Hid (∀ w', Below w.heap.size w w' -> Calls Tryz.prog 47 #[.slice p.ta r.attrs.length p.tc] w' fun e w'' => e = .returned (.bool ri) /\ Below w'.heap.size w' w'') := fun w' hb => by
  have h2 := rising_any r.attrs p.ta p.tc _ w' (h.attrs.turn (Turn.below hb)) hs.n;rw [hri] at h2;exact h2
 obtain ⟨x0, x1, x2, x3, x4, x5, x6, x7, x8⟩ := rec_cells V1.out;clear hl hlo hri h T;go_enter Tryz.func14, Tryz.ntmps14
 go_wp2_with fail
 refine (Calls.mono HLO.out ?_);rintro z w2 ⟨rfl, hb2⟩;have V2 : Hid (w2.heap[w.heap.size]? = some (.cells (recArr p r) 38 (0, 0))) := (hb2.block _ hl1).trans V1.out;have B2 : Hid (Below w.heap.size w w2) := B1.out.trans (hb2.mono (by omega));clear hb2 hw1 x0 x1 x2 x3 x4 x5 x6 x7 x8;cases lo
 ·go_wp2_with fail
  go_ret
  exact ⟨by rw [HR.out] <;> rfl, B2.out⟩
 obtain ⟨x0, x1, x2, x3, x4, x5, x6, x7, x8⟩ := rec_cells V2.out;have HRW : Hid (Calls Tryz.prog 47 #[.slice p.ta r.attrs.length p.tc] w2 fun e w'' => e = .returned (.bool ri) /\ Below w2.heap.size w2 w'') := HRI.out w2 B2.out;go_wp2_with fail
 refine (Calls.mono HRW.out ?_);rintro z w3 ⟨rfl, hb3⟩;have B3 : Hid (Below w.heap.size w w3) := B2.out.trans (hb3.mono B2.out.size);clear hb3;cases ri
 ·go_wp2_with fail
  go_ret
  exact ⟨by rw [HR.out] <;> rfl, B3.out⟩
 ·go_wp2_with fail
  go_ret
  exact ⟨by rw [HR.out] <;> rfl, B3.out⟩
theorem rutf_ok (s : ByteArray) (w : World) (hs : s.size <= 6000) (v : Bool) (hv : decide (badZ s.data.toList < 0) = v) : Hid (Calls Tryz.prog 48 #[.string s] w fun e w' => e = .returned (.bool v) /\ Below w.heap.size w w') := by
 have h := rvalid_any s w (by omega);rw [<-valid_neg, hv] at h;exact h
theorem rtexts_any (r : Rec) (p : At) (w : World) (h : IsRec w (fun _ => True) p r) (hs : Small r) : Calls Tryz.prog 49 #[recV p r] w fun e w' => e = .returned (.bool (looseB r)) /\ Below w.heap.size w w' := by
 obtain ⟨w1, hw1, V1, B1⟩ := rec_new w p r;have HI : Hid (∀ w', Below w.heap.size w w' -> IsRec w' (fun _ => True) p r) := fun w' hb => h.turn (Turn.below hb);have HS := hdQ hs;have hl1 := heap_lt V1.out;have HKA : Hid (∀ W, Below w1.heap.size w1 W -> W.heap[w.heap.size]? = some (.cells (recArr p r) 38 (0, 0))) := fun W hb => (hb.block _ hl1).trans V1.out;have HBW : Hid (∀ W, Below w1.heap.size w1 W -> Below w.heap.size w W) := fun W hb => B1.out.trans (hb.mono (by omega));obtain ⟨ra, hra⟩ : ∃ x, rightA r.a = x := ⟨_, rfl⟩;obtain ⟨v1, hv1⟩ : ∃ x, decide (badZ r.prov.data.toList < 0) = x := ⟨_, rfl⟩;obtain ⟨v2, hv2⟩ : ∃ x, decide (badZ r.id.data.toList < 0) = x := ⟨_, rfl⟩;obtain ⟨v3, hv3⟩ : ∃ x, r.attrs.all pairB = x := ⟨_, rfl⟩;have HL : Hid (looseB r = (ra && (v1 && (v2 && v3)))) := by rw [Hid, looseB, hra, hv1, hv2, hv3]
 have HRI : Hid (∀ W, Below w1.heap.size w1 W -> Calls Tryz.prog 64 #[.agg #[.slice p.pa r.a.path.length p.pc, .string r.a.type, .string r.a.name, .int .i64 r.a.key, .int .u64 r.a.place, .string r.a.word]] W fun e w' => e = .returned (.bool ra) /\ Below W.heap.size W w') := fun W hb => by
  have hri := ((HI.out W (HBW.out W hb)).adr hs).rright p.pc;rw [hra] at hri;exact hri
 have HV1 := hdQ hv1;have HV2 := hdQ hv2;have HV3 := hdQ hv3;have hn := hs.n;obtain ⟨x0, x1, x2, x3, x4, x5, x6, x7, x8⟩ := rec_cells V1.out;unfold recV;clear hra hv1 hv2 hv3 h hs;go_enter Tryz.func49, Tryz.ntmps49
 go_wp2_with fail
 clear x0 x1 x2 x3 x4 x5 x6 x7 x8 hw1
 go_loopw [3] (fun q wr => ∃ i : Nat, q = .int .i64 i /\ i <= r.attrs.length /\ Hid ((r.attrs.take i).all pairB = true) /\ Hid (Below w1.heap.size w1 wr)) (fun q _ => r.attrs.length - (intOf q).toNat)
 case atStart => exact ⟨0, rfl, Nat.zero_le _, by simp [Hid], Below.refl _ _⟩
 case round =>
  obtain ⟨i, rfl, hi, hR, hB⟩ := hrel;obtain ⟨x0, x1, x2, x3, x4, x5, x6, x7, x8⟩ := rec_cells (HKA.out wr hB.out);by_cases hlt : i < r.attrs.length
  ·obtain ⟨b, o, hta, _, hb, hc⟩ := ((HI.out wr (HBW.out wr hB.out)).attrs).resolve_left (by intro e; rw [e] at hlt; simp at hlt);obtain ⟨k1, k2⟩ := hc i hlt;obtain ⟨x, hx⟩ : ∃ x, r.attrs[i].1 = x := ⟨_, rfl⟩;obtain ⟨y, hy⟩ : ∃ y, r.attrs[i].2 = y := ⟨_, rfl⟩;have hxs : x.size <= 6000 := by rw [<-hx]; exact HS.out.at1 _ (List.getElem_mem hlt)
   have hys : y.size <= 6000 := by rw [<-hy]; exact HS.out.at2 _ (List.getElem_mem hlt)
   rw [hx] at k1;rw [hy] at k2;rw [hta] at x8;obtain ⟨u1, hu1⟩ : ∃ u, decide (badZ x.data.toList < 0) = u := ⟨_, rfl⟩;obtain ⟨u2, hu2⟩ : ∃ u, decide (badZ y.data.toList < 0) = u := ⟨_, rfl⟩;have HU2 := hdQ hu2;have HPB : Hid (pairB r.attrs[i] = (u1 && u2)) := by rw [Hid, pairB, hx, hy, hu1, hu2]
   have hstep : (r.attrs.take (i + 1)).all pairB = ((r.attrs.take i).all pairB && pairB r.attrs[i]) := by
    rw [List.take_add_one, List.getElem?_eq_getElem hlt, List.all_append]; simp
   have HST := hdQ hstep;have HBAD : Hid ((u1 && u2) = false -> v3 = false) := fun h => by
    rw [<-HV3.out, <-Bool.not_eq_true, List.all_eq_true];intro hall
    have := hall r.attrs[i] (List.getElem_mem hlt);rw [HPB.out, h] at this;cases this
   have HC1 := rutf_ok x wr hxs u1 hu1;have HTA := hdQ hta;have HK2 : Hid (∀ W, Below wr.heap.size wr W -> W.cell? ⟨b, o + i * 2 + 1, none⟩ = some (.string y)) := fun W hW => by rw [cell_blk (hW.block b hb)]; exact k2
   have hal : looseB r = (ra && (v1 && (v2 && false))) ∨ v3 = true := by
    cases v3
    ·exact .inl HL.out
    ·exact .inr rfl
   clear hc hx hy hu1 hu2 hstep k2 hta hal;go_wp2_with fail
   refine (Calls.mono HC1.out ?_);rintro z w5 ⟨rfl, hb5⟩;have B5 : Hid (Below w1.heap.size w1 w5) := hB.out.trans (hb5.mono hB.out.size);have k2 := HK2.out w5 hb5;clear hb5 k1 HC1 HK2 x0 x1 x2 x3 x4 x5 x6 x7 x8;cases u1
   ·have hv3 := HBAD.out rfl;subst hv3;have HF : Hid (looseB r = false) := by rw [Hid, HL.out]; cases ra <;> cases v1 <;> cases v2 <;> rfl
    go_wp2_with fail
    go_ret
    exact ⟨by rw [HF.out] <;> rfl, HBW.out w5 B5.out⟩
   obtain ⟨x0, x1, x2, x3, x4, x5, x6, x7, x8⟩ := rec_cells (HKA.out w5 B5.out);rw [HTA.out] at x8;have HC2 := rutf_ok y w5 hys u2 HU2.out;go_wp2_with fail
   refine (Calls.mono HC2.out ?_);rintro z w6 ⟨rfl, hb6⟩;have B6 : Hid (Below w1.heap.size w1 w6) := B5.out.trans (hb6.mono B5.out.size);clear hb6 k2 HC2 x0 x1 x2 x3 x4 x5 x6 x7 x8;cases u2
   ·have hv3 := HBAD.out rfl;subst hv3;have HF : Hid (looseB r = false) := by rw [Hid, HL.out]; cases ra <;> cases v1 <;> cases v2 <;> rfl
    go_wp2_with fail
    go_ret
    exact ⟨by rw [HF.out] <;> rfl, HBW.out w6 B6.out⟩
   have HN : Hid ((r.attrs.take (i + 1)).all pairB = true) := by rw [Hid, HST.out, hR.out, HPB.out]; rfl
   go_wp2_with fail
   go_roundw
   case rel => exact ⟨i + 1, by go_num, by omega, HN.out, B6.out⟩
   case measure => simp [intOf]; omega
  ·have hv3 : v3 = true := by
    rw [<-HV3.out, <-hR.out, List.take_of_length_le (by omega)]
   have HF : Hid (looseB r = (ra && (v1 && v2))) := by rw [Hid, HL.out, hv3, Bool.and_true]
   have HRW : Hid (Calls Tryz.prog 64 #[.agg #[.slice p.pa r.a.path.length p.pc, .string r.a.type, .string r.a.name, .int .i64 r.a.key, .int .u64 r.a.place, .string r.a.word]] wr fun e w' => e = .returned (.bool ra) /\ Below wr.heap.size wr w') := HRI.out wr hB.out;clear hv3;go_wp2_with fail
   refine (Calls.mono HRW.out ?_);rintro z w5 ⟨rfl, hb5⟩;have B5 : Hid (Below w1.heap.size w1 w5) := hB.out.trans (hb5.mono hB.out.size);clear hb5 x0 x1 x2 x3 x4 x5 x6 x7 x8;cases ra
   ·go_wp2_with fail
    go_ret
    exact ⟨by rw [HF.out] <;> rfl, HBW.out w5 B5.out⟩
   obtain ⟨x0, x1, x2, x3, x4, x5, x6, x7, x8⟩ := rec_cells (HKA.out w5 B5.out);have HC1 := rutf_ok r.prov w5 HS.out.pr v1 HV1.out;go_wp2_with fail
   refine (Calls.mono HC1.out ?_);rintro z w6 ⟨rfl, hb6⟩;have B6 : Hid (Below w1.heap.size w1 w6) := B5.out.trans (hb6.mono B5.out.size);clear hb6 x0 x1 x2 x3 x4 x5 x6 x7 x8;cases v1
   ·go_wp2_with fail
    go_ret
    exact ⟨by rw [HF.out] <;> rfl, HBW.out w6 B6.out⟩
   obtain ⟨x0, x1, x2, x3, x4, x5, x6, x7, x8⟩ := rec_cells (HKA.out w6 B6.out);have HC2 := rutf_ok r.id w6 HS.out.id v2 HV2.out;go_wp2_with fail
   refine (Calls.mono HC2.out ?_);rintro z w7 ⟨rfl, hb7⟩;have B7 : Hid (Below w1.heap.size w1 w7) := B6.out.trans (hb7.mono B6.out.size);clear hb7 x0 x1 x2 x3 x4 x5 x6 x7 x8;cases v2
   ·go_wp2_with fail
    go_ret
    exact ⟨by rw [HF.out] <;> rfl, HBW.out w7 B7.out⟩
   ·go_wp2_with fail
    go_ret
    exact ⟨by rw [HF.out] <;> rfl, HBW.out w7 B7.out⟩
theorem rrecord_any (r : Rec) (p : At) (w : World) (h : IsRec w (fun _ => True) p r) (hs : Small r) : Calls Tryz.prog 15 #[recV p r] w fun e w' => e = .returned (.bool (recB r)) /\ Below w.heap.size w w' := by
 obtain ⟨w1, hw1, V1, B1⟩ := rec_new w p r;have hl1 := heap_lt V1.out;have HI : Hid (IsPairs w1 (fun _ => True) p.ta r.attrs) := h.attrs.turn (Turn.below B1.out);have HTX : Hid (∀ n, Calls Tryz.prog 49 #[.agg #[.slice p.pa r.a.path.length p.pc, .string r.a.type, .string r.a.name, .int .i64 r.a.key, .int .u64 r.a.place, .string r.a.word, .string r.prov, .string r.id, .slice p.ta r.attrs.length p.tc]] (w1.drewN n) fun e w' => e = .returned (.bool (looseB r)) /\ Below (w1.drewN n).heap.size (w1.drewN n) w') := fun n =>
  rtexts_any r p (w1.drewN n) (h.turn (Turn.below (Addr.below_drewN B1.out n))) hs
 have hn := hs.n;obtain ⟨lo, hlo⟩ : ∃ x, looseB r = x := ⟨_, rfl⟩;obtain ⟨ri, hri⟩ : ∃ x, risingB r.attrs = x := ⟨_, rfl⟩;have HR : Hid (recB r = (lo && ri)) := by rw [Hid, recB, hlo, hri]
 have HRI := hdQ hri;rw [hlo] at HTX;obtain ⟨x0, x1, x2, x3, x4, x5, x6, x7, x8⟩ := rec_cells V1.out;unfold recV;clear hlo hri h hs;generalize hla : r.attrs = l at *;have HLA := hdQ hla;clear hla;go_enter Tryz.func15, Tryz.ntmps15
 go_wp2_with fail
 clear hw1
 go_loopw [3] (fun q wr => ∃ i n : Nat, q = .int .i64 i /\ 1 <= i /\ i <= l.length + 1 /\ Hid (∀ j (h : j + 1 < l.length), j + 1 < i -> ltB l[j].1 l[j + 1].1 = true) /\ wr = w1.drewN n) (fun q _ => l.length + 1 - (intOf q).toNat)
 case atStart => exact ⟨1, 0, rfl, Nat.le_refl _, by omega, fun j _ h => by omega, rfl⟩
 case round =>
  obtain ⟨i, n, rfl, hi1, hi, hR, rfl⟩ := hrel;by_cases hlt : i < l.length
  ·obtain ⟨b, o, hta, _, hb, hc⟩ := HI.out.resolve_left (by intro e; rw [e] at hlt; simp at hlt);obtain ⟨q, hq⟩ : ∃ q, q + 1 = i := ⟨i - 1, by omega⟩;have hql : q < l.length := by omega
   have gq : (i : Int) - 1 = (q : Int) := by omega
   have wq : IntKind.i64.wrap (q : Int) = (q : Int) := IntWalk.i64_in _ (by omega);have k1 := (hc i hlt).1;have k2 := (hc q hql).1;obtain ⟨x, hx⟩ : ∃ x, l[i].1 = x := ⟨_, rfl⟩;obtain ⟨y, hy⟩ : ∃ y, l[q].1 = y := ⟨_, rfl⟩;rw [hx] at k1;rw [hy] at k2;rw [hta] at x8;obtain ⟨c1, h1⟩ : ∃ c, Op.bytesLess y.toList x.toList = c := ⟨_, rfl⟩;have HLT : Hid (∀ (h1 : q < l.length) (h2 : i < l.length), ltB l[q].1 l[i].1 = c1) := fun _ _ => by
    rw [hx, hy]; exact h1
   have HQ := hdQ hq;have HTA := hdQ hta;clear hc hx hy hq hta;cases c1
   ·have HF : Hid (ri = false) := by
     rw [Hid, <-HRI.out, <-Bool.not_eq_true, rising_iff];intro h
     have h3 := HLT.out hql hlt;have h4 := h q (by have := HQ.out; omega);have e := HQ.out;subst e;rw [h3] at h4;cases h4
    have HF2 : Hid (recB r = false) := by rw [Hid, HR.out, HF.out, Bool.and_false]
    go_wp2_with fail
    go_quiet (fail)
    go_wp2_with fail
    go_ret
    exact ⟨by rw [HF2.out] <;> rfl, Addr.below_drewN (Addr.below_drewN B1.out _) _⟩
   ·have HN : Hid (∀ j (h : j + 1 < l.length), j + 1 < i + 1 -> ltB l[j].1 l[j + 1].1 = true) := by
     intro j hj h
     by_cases e : j + 1 = i
     ·have e2 : j = q := by have := HQ.out; omega
      subst e2;have := HLT.out hql hlt;simp only [e]
      exact this
     ·exact hR.out j hj (by omega)
    go_wp2_with fail
    go_quiet (fail)
    go_wp2_with fail
    go_roundw
    case rel => exact ⟨i + 1, _, by go_num, by omega, by omega, HN.out, rfl⟩
    case measure => simp [intOf]; omega
  ·have HF : Hid (ri = true) := by
    rw [Hid, <-HRI.out, rising_iff];exact fun j hj => hR.out j hj (by omega)
   have HF2 : Hid (recB r = lo) := by rw [Hid, HR.out, HF.out, Bool.and_true]
   have HTW : Hid (Calls Tryz.prog 49 #[.agg #[.slice p.pa r.a.path.length p.pc, .string r.a.type, .string r.a.name, .int .i64 r.a.key, .int .u64 r.a.place, .string r.a.word, .string r.prov, .string r.id, .slice p.ta l.length p.tc]] (w1.drewN n) fun e w' => e = .returned (.bool lo) /\ Below (w1.drewN n).heap.size (w1.drewN n) w') := HTX.out n;go_wp2_with fail
   refine (Calls.mono HTW.out ?_);rintro z w5 ⟨rfl, hb5⟩;have B5 : Hid (Below w.heap.size w w5) := (Addr.below_drewN B1.out n).trans (hb5.mono (Addr.below_drewN B1.out n).size);clear hb5;go_wp2_with fail
   go_ret
   exact ⟨by rw [HF2.out] <;> rfl, B5.out⟩
theorem pairs_any (l l' : List (ByteArray × ByteArray)) (ta ta' : Option Addr) (tc tc' : Nat) (A B : Nat -> Prop) (w : World) (h : IsPairs w A ta l) (h' : IsPairs w B ta' l') (hl : l.length <= 1048576) (hl' : l'.length <= 1048576) : Calls Tryz.prog 29 #[.slice ta l.length tc, .slice ta' l'.length tc'] w fun e w' => e = .returned (.bool (decide (l = l'))) /\ Below w.heap.size w w' := by
 by_cases hne : l.length = l'.length
 ·have hz : ((l.length : Int) != (l'.length : Int)) = false := by rw [bne_eq_false_iff_eq]; omega
  have HN := hdQ hne;clear hne;go_enter Tryz.func29, Tryz.ntmps29
  go_wp2_with fail
  go_loopw [5] (fun p wr => ∃ i n : Nat, p = .int .i64 i /\ i <= l.length /\ Hid (∀ j (h : j < l.length) (h2 : j < l'.length), j < i -> l[j] = l'[j]) /\ wr = w.drewN n) (fun p _ => l.length - (intOf p).toNat)
  case atStart => exact ⟨0, 0, rfl, Nat.zero_le _, fun j _ _ h => by omega, rfl⟩
  case round =>
   obtain ⟨i, n, rfl, hi, hno, rfl⟩ := hrel;by_cases hlt : i < l.length
   ·have hlt' : i < l'.length := by have := HN.out; omega
    obtain ⟨b, o, rfl, _, hb, hc⟩ := h.resolve_left (by intro e; rw [e] at hlt; simp at hlt);obtain ⟨b', o', rfl, _, hb', hc'⟩ := h'.resolve_left (by intro e; rw [e] at hlt'; simp at hlt');obtain ⟨k1, k2⟩ := hc i hlt;obtain ⟨g1, g2⟩ := hc' i hlt';obtain ⟨x1, hx1⟩ : ∃ x, l[i].1 = x := ⟨_, rfl⟩;obtain ⟨x2, hx2⟩ : ∃ x, l[i].2 = x := ⟨_, rfl⟩;obtain ⟨y1, hy1⟩ : ∃ y, l'[i].1 = y := ⟨_, rfl⟩;obtain ⟨y2, hy2⟩ : ∃ y, l'[i].2 = y := ⟨_, rfl⟩;rw [hx1] at k1;rw [hx2] at k2;rw [hy1] at g1;rw [hy2] at g2;obtain ⟨c1, h1⟩ : ∃ c, (x1.toList == y1.toList) = c := ⟨_, rfl⟩;obtain ⟨c2, h2⟩ : ∃ c, (x2.toList == y2.toList) = c := ⟨_, rfl⟩;have HEQ : Hid (l[i] = l'[i] ↔ (c1 && c2) = true) := by
     rw [Hid, <-h1, <-h2, Bool.and_eq_true, bytes_same, bytes_same, <-hx1, <-hx2, <-hy1, <-hy2];exact Prod.ext_iff
    clear hc hc' hx1 hx2 hy1 hy2;by_cases hcc : (c1 && c2) = true
    ·have HF : Hid (∀ j (h : j < l.length) (h2 : j < l'.length), j < i + 1 -> l[j] = l'[j]) := by
      intro j h h2 h3
      by_cases e : j = i
      ·subst e; exact HEQ.out.2 hcc
      ·exact hno.out j h h2 (by omega)
     rw [Bool.and_eq_true] at hcc;obtain ⟨rfl, rfl⟩ := hcc;go_wp2_with fail
     go_quiet (fail)
     go_wp2_with fail
     go_roundw
     case rel => exact ⟨i + 1, _, by go_num, by omega, HF.out, rfl⟩
     case measure => simp [intOf]; omega
    ·have HF : Hid (decide (l = l') = false) := by
      rw [Hid, dfQ];intro e
      exact hcc (HEQ.out.1 (by subst e; rfl))
     have hcs : (c1 = false) ∨ (c1 = true /\ c2 = false) := by cases c1 <;> cases c2 <;> simp_all
     clear hcc;rcases hcs with rfl | ⟨rfl, rfl⟩
     all_goals
      go_wp2_with fail
      go_quiet (fail)
      go_wp2_with fail
      go_ret
      exact ⟨by rw [HF.out] <;> rfl, Addr.below_drewN (Addr.below_drewN (Below.refl _ _) _) _⟩
   ·have HF : Hid (decide (l = l') = true) := by
     rw [Hid, dtQ];exact List.ext_getElem HN.out (fun j h h2 => hno.out j h h2 (by omega))
    go_wp2_with fail
    go_ret
    exact ⟨by rw [HF.out] <;> rfl, Addr.below_drewN (Below.refl _ _) _⟩
 ·have HF : Hid (decide (l = l') = false) := by
   rw [Hid, dfQ]; intro e; exact hne (by rw [e])
  have hz : ((l.length : Int) != (l'.length : Int)) = true := by rw [bne_iff_ne]; omega
  clear hne;go_enter Tryz.func29, Tryz.ntmps29
  go_wp2_with fail
  go_ret
  exact ⟨by rw [HF.out] <;> rfl, Below.refl _ _⟩
def sameRec (r s : Rec) : Bool := sameA r.a s.a && ((r.prov.toList == s.prov.toList) && ((r.id.toList == s.id.toList) && decide (r.attrs = s.attrs)))
theorem sameRec_iff (r s : Rec) : sameRec r s = true ↔ r = s := by
 unfold sameRec;rw [Bool.and_eq_true, Bool.and_eq_true, Bool.and_eq_true, sameA_iff, bytes_same, bytes_same, dtQ];constructor
 ·rintro ⟨h1, h2, h3, h4⟩;obtain ⟨a, p, i, t⟩ := r;obtain ⟨a', p', i', t'⟩ := s;simp only at h1 h2 h3 h4
  subst h1 h2 h3 h4
  rfl
 ·rintro rfl;exact ⟨rfl, rfl, rfl, rfl⟩
theorem rsameRec_any (r s : Rec) (p q : At) (w : World) (h : IsRec w (fun _ => True) p r) (h' : IsRec w (fun _ => True) q s) (hl : r.a.path.length <= 1048576) (hl' : s.a.path.length <= 1048576) (hn : r.attrs.length <= 1048576) (hn' : s.attrs.length <= 1048576) : Calls Tryz.prog 30 #[recV p r, recV q s] w fun e w' => e = .returned (.bool (sameRec r s)) /\ Below w.heap.size w w' := by
 obtain ⟨w1, hw1, V1, B1⟩ := rec_new w p r;obtain ⟨w2, hw2, V2, B2⟩ := rec_new w1 q s;have hl1 := heap_lt V1.out;have hl2 := heap_lt V2.out;have B02 : Hid (Below w.heap.size w w2) := B1.out.trans (B2.out.mono (by omega));have V12 : Hid (w2.heap[w.heap.size]? = some (.cells (recArr p r) 38 (0, 0))) := (B2.out.block _ hl1).trans V1.out;have HKA : Hid (∀ W, Below w2.heap.size w2 W -> W.heap[w.heap.size]? = some (.cells (recArr p r) 38 (0, 0))) := fun W hb => (hb.block _ (by omega)).trans V12.out;have HKB : Hid (∀ W, Below w2.heap.size w2 W -> W.heap[w1.heap.size]? = some (.cells (recArr q s) 38 (0, 0))) := fun W hb => (hb.block _ (by omega)).trans V2.out;obtain ⟨t0, h0⟩ : ∃ t, sameA r.a s.a = t := ⟨_, rfl⟩;obtain ⟨t1, h1⟩ : ∃ t, (r.prov.toList == s.prov.toList) = t := ⟨_, rfl⟩;obtain ⟨t2, h2⟩ : ∃ t, (r.id.toList == s.id.toList) = t := ⟨_, rfl⟩;obtain ⟨t3, h3⟩ : ∃ t, decide (r.attrs = s.attrs) = t := ⟨_, rfl⟩;have HS : Hid (sameRec r s = (t0 && (t1 && (t2 && t3)))) := by rw [Hid, sameRec, h0, h1, h2, h3]
 have hra := rsame_any r.a s.a p.pa q.pa p.pc q.pc _ _ w2 (h.path.turn (Turn.below B02.out)) (h'.path.turn (Turn.below B02.out)) hl hl';rw [h0] at hra;have HRA : Hid (Calls Tryz.prog 27 #[.agg #[.slice p.pa r.a.path.length p.pc, .string r.a.type, .string r.a.name, .int .i64 r.a.key, .int .u64 r.a.place, .string r.a.word], .agg #[.slice q.pa s.a.path.length q.pc, .string s.a.type, .string s.a.name, .int .i64 s.a.key, .int .u64 s.a.place, .string s.a.word]] w2 fun e w' => e = .returned (.bool t0) /\ Below w2.heap.size w2 w') := hra;have HPP : Hid (∀ W, Below w2.heap.size w2 W -> Calls Tryz.prog 29 #[.slice p.ta r.attrs.length p.tc, .slice q.ta s.attrs.length q.tc] W fun e w' => e = .returned (.bool t3) /\ Below W.heap.size W w') := fun W hb => by
  have hW : Below w.heap.size w W := B02.out.trans (hb.mono (by omega));have := pairs_any r.attrs s.attrs p.ta q.ta p.tc q.tc _ _ W (h.attrs.turn (Turn.below hW)) (h'.attrs.turn (Turn.below hW)) hn hn';rw [h3] at this;exact this
 obtain ⟨x0, x1, x2, x3, x4, x5, x6, x7, x8⟩ := rec_cells V12.out;obtain ⟨y0, y1, y2, y3, y4, y5, y6, y7, y8⟩ := rec_cells V2.out;unfold recV;clear h h' h0 h3 hra;go_enter Tryz.func30, Tryz.ntmps30
 go_wp2_with fail
 refine (Calls.mono HRA.out ?_);rintro z w3 ⟨rfl, hb3⟩;have B3 : Hid (Below w2.heap.size w2 w3) := hb3;have B03 : Hid (Below w.heap.size w w3) := B02.out.trans (hb3.mono (by omega));clear hb3 x0 x1 x2 x3 x4 x5 x6 x7 x8 y0 y1 y2 y3 y4 y5 y6 y7 y8 HRA hw1 hw2;cases t0
 ·go_wp2_with fail
  go_ret
  exact ⟨by rw [HS.out] <;> rfl, B03.out⟩
 obtain ⟨x0, x1, x2, x3, x4, x5, x6, x7, x8⟩ := rec_cells (HKA.out w3 B3.out);obtain ⟨y0, y1, y2, y3, y4, y5, y6, y7, y8⟩ := rec_cells (HKB.out w3 B3.out);cases t1
 ·go_wp2_with fail
  go_ret
  exact ⟨by rw [HS.out] <;> rfl, B03.out⟩
 cases t2
 ·go_wp2_with fail
  go_ret
  exact ⟨by rw [HS.out] <;> rfl, B03.out⟩
 have HPW : Hid (Calls Tryz.prog 29 #[.slice p.ta r.attrs.length p.tc, .slice q.ta s.attrs.length q.tc] w3 fun e w' => e = .returned (.bool t3) /\ Below w3.heap.size w3 w') := HPP.out w3 B3.out;go_wp2_with fail
 refine (Calls.mono HPW.out ?_);rintro z w4 ⟨rfl, hb4⟩;have B04 : Hid (Below w.heap.size w w4) := B03.out.trans (hb4.mono B03.out.size);clear hb4;cases t3
 ·go_wp2_with fail
  go_ret
  exact ⟨by rw [HS.out] <;> rfl, B04.out⟩
 ·go_wp2_with fail
  go_ret
  exact ⟨by rw [HS.out] <;> rfl, B04.out⟩
end Go.Proofs.YtehghladpnpcoaaGreatDoor.State
