/- state.rising, loose, Record. -/
import Derived.Test.YtfdjolfenghmaaaGreatDoorWStA
set_option linter.unusedVariables false
set_option linter.unusedSimpArgs false
set_option maxRecDepth 100000
set_option maxHeartbeats 8000000
namespace Go.Proofs.YtfdjolfenghmaaaGreatDoor.State
open Go.RowKit Go.Shelf Utf Strs Go.Proofs.YtfdjolfenghmaaaGreatDoor.Addr
open Jdec (IsTexts Turn)
theorem rising_any (l : List (ByteArray × ByteArray)) (ta : Option Addr) (tc : Nat) (A : Nat -> Prop) (w : World) (h : IsPairs w A ta l) (hl : l.length <= 3000) : Calls Tryz.prog 53 #[.slice ta l.length tc] w fun e w' => e = .returned (.bool (risingB l)) /\ Below w.heap.size w w' := by
  go_enter Tryz.func53, Tryz.ntmps53
  go_wp2_with fail
  go_loopw [3] (fun p wr => ∃ i n : Nat, p = .int .i64 i /\ 1 <= i /\ i <= l.length + 1 /\ Hid (∀ j (h : j + 1 < l.length), j + 1 < i -> ltB l[j].1 l[j + 1].1 = true) /\ wr = w.drewN n) (fun p _ => l.length + 1 - (intOf p).toNat)
  case atStart => exact ⟨1, 0, rfl, Nat.le_refl _, by omega, fun j _ h => by omega, rfl⟩
  case round =>
    obtain ⟨i, n, rfl, hi1, hi, hR, rfl⟩ := hrel;by_cases hlt : i < l.length
    · obtain ⟨b, o, rfl, _, hb, hc⟩ := h.resolve_left (by intro e; rw [e] at hlt; simp at hlt);obtain ⟨q, hq⟩ : ∃ q, q + 1 = i := ⟨i - 1, by omega⟩;have hql : q < l.length := by omega
      have gq : (i : Int) - 1 = (q : Int) := by omega
      have wq : IntKind.i64.wrap (q : Int) = (q : Int) := IntWalk.i64_in _ (by omega);have k1 := (hc i hlt).1;have k2 := (hc q hql).1;obtain ⟨x, hx⟩ : ∃ x, l[i].1 = x := ⟨_, rfl⟩;obtain ⟨y, hy⟩ : ∃ y, l[q].1 = y := ⟨_, rfl⟩;rw [hx] at k1;rw [hy] at k2;have hsw := less_swap x.toList y.toList;obtain ⟨c1, h1⟩ : ∃ c, Op.bytesLess x.toList y.toList = c := ⟨_, rfl⟩;obtain ⟨c2, h2⟩ : ∃ c, (x.toList == y.toList) = c := ⟨_, rfl⟩;rw [h1, h2] at hsw;have HLT : Hid (∀ (h1 : q < l.length) (h2 : i < l.length), ltB l[q].1 l[i].1 = !(c1 || c2)) := fun _ _ => by
        rw [hx, hy]; exact hsw
      have HQ := hZz hq;clear hc hx hy hsw hq;cases c1
      · cases c2
        · have HN : Hid (∀ j (h : j + 1 < l.length), j + 1 < i + 1 -> ltB l[j].1 l[j + 1].1 = true) := by
            intro j hj h
            by_cases e : j + 1 = i
            · have e2 : j = q := by have := HQ.out; omega
              subst e2;have := HLT.out hql hlt;simp only [e]
              simpa using this
            · exact hR.out j hj (by omega)
          go_wp2_with fail
          go_quiet (fail)
          go_wp2_with fail
          go_roundw
          case rel => exact ⟨i + 1, _, by go_num, by omega, by omega, HN.out, rfl⟩
          case measure => simp [intOf]; omega
        · have HF : Hid (risingB l = false) := by
            rw [Hid, <-Bool.not_eq_true, rising_iff];intro h
            have h3 := HLT.out hql hlt;have h4 := h q (by have := HQ.out; omega);have e := HQ.out;subst e;rw [h3] at h4;cases h4
          go_wp2_with fail
          go_quiet (fail)
          go_wp2_with fail
          go_ret
          exact ⟨by rw [HF.out] <;> rfl, Addr.below_drewN (Addr.below_drewN (Below.refl _ _) _) _⟩
      · have HF : Hid (risingB l = false) := by
          rw [Hid, <-Bool.not_eq_true, rising_iff];intro h
          have h3 := HLT.out hql hlt;have h4 := h q (by have := HQ.out; omega);have e := HQ.out;subst e;rw [h3] at h4;cases h4
        go_wp2_with fail
        go_quiet (fail)
        go_wp2_with fail
        go_ret
        exact ⟨by rw [HF.out] <;> rfl, Addr.below_drewN (Addr.below_drewN (Below.refl _ _) _) _⟩
    · have HF : Hid (risingB l = true) := by
        rw [Hid, rising_iff];exact fun j hj => hR.out j hj (by omega)
      go_wp2_with fail
      go_ret
      exact ⟨by rw [HF.out] <;> rfl, Addr.below_drewN (Below.refl _ _) _⟩
theorem utf_ok (s : ByteArray) (w : World) (hs : s.size <= 6000) (T : Sizes w) (v : Bool) (hv : decide (badZ s.data.toList < 0) = v) : Hid (Calls Tryz.prog 37 #[.string s] w fun e w' => e = .returned (.bool v) /\ w = w') := by
  have h := Quote.valid_any s w (by omega) T;rw [hv] at h;exact h
theorem pair_new (w : World) (x y : ByteArray) : ∃ w1, w.alloc (.cells #[.string x, .string y] 53) = w1 /\ Hid (w1.heap[w.heap.size]? = some (.cells #[.string x, .string y] 53 (0, 0))) /\ Hid (Below w.heap.size w w1) :=
  ⟨_, rfl, heap_alloc_new _ _, (Below.refl _ _).alloc (Nat.le_refl _) _⟩
theorem loose_any (r : Rec) (p : At) (w : World) (h : IsRec w (fun _ => True) p r) (hs : Small r) (T : TabsA w) : Calls Tryz.prog 52 #[recV p r] w fun e w' => e = .returned (.bool (looseB r)) /\ Below w.heap.size w w' := by
  obtain ⟨w1, hw1, V1, B1⟩ := rec_new w p r;have HT : Hid (∀ w', Below w.heap.size w w' -> TabsA w') := fun w' hb => T.stays hb;have HI : Hid (∀ w', Below w.heap.size w w' -> IsRec w' (fun _ => True) p r) := fun w' hb => h.turn (Turn.below hb);have HS := hZz hs;have hl1 := heap_lt V1.out;obtain ⟨ra, hra⟩ : ∃ x, rightA r.a = x := ⟨_, rfl⟩;obtain ⟨v1, hv1⟩ : ∃ x, decide (badZ r.prov.data.toList < 0) = x := ⟨_, rfl⟩;obtain ⟨v2, hv2⟩ : ∃ x, decide (badZ r.id.data.toList < 0) = x := ⟨_, rfl⟩;obtain ⟨v3, hv3⟩ : ∃ x, r.attrs.all pairB = x := ⟨_, rfl⟩;have HL : Hid (looseB r = (ra && (v1 && (v2 && v3)))) := by rw [Hid, looseB, hra, hv1, hv2, hv3]
  have hri := (((h.turn (Turn.below B1.out)).adr hs).right p.pc (T.stays B1.out));rw [hra] at hri;have HRI : Hid (Calls Tryz.prog 54 #[.agg #[.slice p.pa r.a.path.length p.pc, .string r.a.type, .string r.a.name, .int .i64 r.a.key, .int .u64 r.a.place, .string r.a.word]] w1 fun e w' => e = .returned (.bool ra) /\ Below w1.heap.size w1 w') := hri;have HV1 := hZz hv1;have HV2 := hZz hv2;have HV3 := hZz hv3;have hn := hs.n;obtain ⟨x0, x1, x2, x3, x4, x5, x6, x7, x8⟩ := rec_cells V1.out;unfold recV;clear hri hra hv1 hv2 hv3 h hs T;go_enter Tryz.func52, Tryz.ntmps52
  go_wp2_with fail
  refine (Calls.mono HRI.out ?_);rintro z w2 ⟨rfl, hb2⟩;have V2 : Hid (w2.heap[w.heap.size]? = some (.cells (recArr p r) 38 (0, 0))) := (hb2.block _ hl1).trans V1.out;have B2 : Hid (Below w.heap.size w w2) := B1.out.trans (hb2.mono (by omega));clear hb2 hw1 HRI x0 x1 x2 x3 x4 x5 x6 x7 x8;cases ra
  · go_wp2_with fail
    go_ret
    exact ⟨by rw [HL.out] <;> rfl, B2.out⟩
  obtain ⟨x0, x1, x2, x3, x4, x5, x6, x7, x8⟩ := rec_cells V2.out;have HC1 := utf_ok r.prov w2 HS.out.pr (HT.out w2 B2.out).t.z v1 HV1.out;have HC2 := utf_ok r.id w2 HS.out.id (HT.out w2 B2.out).t.z v2 HV2.out;go_wp2_with fail
  refine (Calls.mono HC1.out ?_);rintro z w3 ⟨rfl, rfl⟩;cases v1
  · go_wp2_with fail
    go_ret
    exact ⟨by rw [HL.out] <;> rfl, B2.out⟩
  go_wp2_with fail
  refine (Calls.mono HC2.out ?_);rintro z w3 ⟨rfl, rfl⟩;cases v2
  · go_wp2_with fail
    go_ret
    exact ⟨by rw [HL.out] <;> rfl, B2.out⟩
  have hl2 := heap_lt V2.out;go_wp2_with fail
  clear x0 x1 x2 x3 x4 x5 x6 x7 x8
  go_loopw [24] (fun q wr => ∃ i : Nat, q = .int .i64 i /\ i <= r.attrs.length /\ Hid ((r.attrs.take i).all pairB = true) /\ Hid (Below w2.heap.size w2 wr)) (fun q _ => r.attrs.length - (intOf q).toNat)
  case atStart => exact ⟨0, rfl, Nat.zero_le _, by simp [Hid], Below.refl _ _⟩
  case round =>
    obtain ⟨i, rfl, hi, hR, hB⟩ := hrel;have Bw : Hid (Below w.heap.size w wr) := B2.out.trans (hB.out.mono (by omega));by_cases hlt : i < r.attrs.length
    · obtain ⟨b, o, hta, _, hb, hc⟩ := ((HI.out wr Bw.out).attrs).resolve_left (by intro e; rw [e] at hlt; simp at hlt);obtain ⟨k1, k2⟩ := hc i hlt;obtain ⟨x, hx⟩ : ∃ x, r.attrs[i].1 = x := ⟨_, rfl⟩;obtain ⟨y, hy⟩ : ∃ y, r.attrs[i].2 = y := ⟨_, rfl⟩;have hxs : x.size <= 6000 := by rw [<-hx]; exact HS.out.at1 _ (List.getElem_mem hlt)
      have hys : y.size <= 6000 := by rw [<-hy]; exact HS.out.at2 _ (List.getElem_mem hlt)
      rw [hx] at k1;rw [hy] at k2;obtain ⟨u1, hu1⟩ : ∃ u, decide (badZ x.data.toList < 0) = u := ⟨_, rfl⟩;obtain ⟨u2, hu2⟩ : ∃ u, decide (badZ y.data.toList < 0) = u := ⟨_, rfl⟩;have HPB : Hid (pairB r.attrs[i] = (u1 && u2)) := by rw [Hid, pairB, hx, hy, hu1, hu2]
      have hstep : (r.attrs.take (i + 1)).all pairB = ((r.attrs.take i).all pairB && pairB r.attrs[i]) := by
        rw [List.take_add_one, List.getElem?_eq_getElem hlt, List.all_append]; simp
      have HST := hZz hstep;have HBAD : Hid ((u1 && u2) = false -> v3 = false) := fun h => by
        rw [<-HV3.out, <-Bool.not_eq_true, List.all_eq_true];intro hall
        have := hall r.attrs[i] (List.getElem_mem hlt);rw [HPB.out, h] at this;cases this
      obtain ⟨w4, hw4, P4, B4⟩ := pair_new wr x y;have B4w := bel Bw B4;have HC1 := utf_ok x w4 hxs (HT.out w4 B4w.out).t.z u1 hu1;have HC2 := utf_ok y w4 hys (HT.out w4 B4w.out).t.z u2 hu2;have p0 : w4.cell? ⟨wr.heap.size, 0, none⟩ = some (.string x) := cell_of P4.out 0;have p1 : w4.cell? ⟨wr.heap.size, 1, none⟩ = some (.string y) := cell_of P4.out 1;have B24 := bel hB B4;clear hc hx hy hu1 hu2 hstep;rw [hta];go_wp2_with fail
      refine (Calls.mono HC1.out ?_);rintro z w5 ⟨rfl, rfl⟩;cases u1
      · have hv3 := HBAD.out rfl;subst hv3;go_wp2_with fail
        go_ret
        exact ⟨by rw [HL.out] <;> rfl, B4w.out⟩
      go_wp2_with fail
      refine (Calls.mono HC2.out ?_);rintro z w5 ⟨rfl, rfl⟩;cases u2
      · have hv3 := HBAD.out rfl;subst hv3;go_wp2_with fail
        go_ret
        exact ⟨by rw [HL.out] <;> rfl, B4w.out⟩
      have HN : Hid ((r.attrs.take (i + 1)).all pairB = true) := by rw [Hid, HST.out, hR.out, HPB.out]; rfl
      go_wp2_with fail
      go_roundw
      case rel => exact ⟨i + 1, by go_num, by omega, HN.out, B24.out⟩
      case measure => simp [intOf]; omega
    · have hv3 : v3 = true := by
        rw [<-HV3.out, <-hR.out, List.take_of_length_le (by omega)]
      have HF : Hid (looseB r = true) := by rw [Hid, HL.out, hv3]; rfl
      clear hv3;go_wp2_with fail
      go_ret
      exact ⟨by rw [HF.out] <;> rfl, Bw.out⟩
theorem record_any (r : Rec) (p : At) (w : World) (h : IsRec w (fun _ => True) p r) (hs : Small r) (T : TabsA w) : Calls Tryz.prog 38 #[recV p r] w fun e w' => e = .returned (.bool (recB r)) /\ Below w.heap.size w w' := by
  obtain ⟨w1, hw1, V1, B1⟩ := rec_new w p r;have hl1 := heap_lt V1.out;obtain ⟨lo, hlo⟩ : ∃ x, looseB r = x := ⟨_, rfl⟩;obtain ⟨ri, hri⟩ : ∃ x, risingB r.attrs = x := ⟨_, rfl⟩;have HR : Hid (recB r = (lo && ri)) := by rw [Hid, recB, hlo, hri]
  have hl := loose_any r p w1 (h.turn (Turn.below B1.out)) hs (T.stays B1.out);rw [hlo] at hl;unfold recV at hl ⊢;have HLO : Hid (Calls Tryz.prog 52 #[.agg #[.slice p.pa r.a.path.length p.pc, .string r.a.type, .string r.a.name, .int .i64 r.a.key, .int .u64 r.a.place, .string r.a.word, .string r.prov, .string r.id, .slice p.ta r.attrs.length p.tc]] w1 fun e w' => e = .returned (.bool lo) /\ Below w1.heap.size w1 w') := hl;have HRI : Hid (∀ w', Below w.heap.size w w' -> Calls Tryz.prog 53 #[.slice p.ta r.attrs.length p.tc] w' fun e w'' => e = .returned (.bool ri) /\ Below w'.heap.size w' w'') := fun w' hb => by
    have h2 := rising_any r.attrs p.ta p.tc _ w' (h.attrs.turn (Turn.below hb)) hs.n;rw [hri] at h2;exact h2
  obtain ⟨x0, x1, x2, x3, x4, x5, x6, x7, x8⟩ := rec_cells V1.out;clear hl hlo hri h T;go_enter Tryz.func38, Tryz.ntmps38
  go_wp2_with fail
  refine (Calls.mono HLO.out ?_);rintro z w2 ⟨rfl, hb2⟩;have V2 : Hid (w2.heap[w.heap.size]? = some (.cells (recArr p r) 38 (0, 0))) := (hb2.block _ hl1).trans V1.out;have B2 : Hid (Below w.heap.size w w2) := B1.out.trans (hb2.mono (by omega));clear hb2 hw1 x0 x1 x2 x3 x4 x5 x6 x7 x8;cases lo
  · go_wp2_with fail
    go_ret
    exact ⟨by rw [HR.out] <;> rfl, B2.out⟩
  obtain ⟨x0, x1, x2, x3, x4, x5, x6, x7, x8⟩ := rec_cells V2.out;have HRW : Hid (Calls Tryz.prog 53 #[.slice p.ta r.attrs.length p.tc] w2 fun e w'' => e = .returned (.bool ri) /\ Below w2.heap.size w2 w'') := HRI.out w2 B2.out;go_wp2_with fail
  refine (Calls.mono HRW.out ?_);rintro z w3 ⟨rfl, hb3⟩;have B3 := bel B2 hb3;clear hb3;cases ri
  · go_wp2_with fail
    go_ret
    exact ⟨by rw [HR.out] <;> rfl, B3.out⟩
  · go_wp2_with fail
    go_ret
    exact ⟨by rw [HR.out] <;> rfl, B3.out⟩
theorem rutf_ok (s : ByteArray) (w : World) (hs : s.size <= 6000) (v : Bool) (hv : decide (badZ s.data.toList < 0) = v) : Hid (Calls Tryz.prog 11 #[.string s] w fun e w' => e = .returned (.bool v) /\ Below w.heap.size w w') := by
  have h := rvalid_any s w (by omega);rw [<-valid_neg, hv] at h;exact h
theorem rtexts_any (r : Rec) (p : At) (w : World) (h : IsRec w (fun _ => True) p r) (hs : Small r) : Calls Tryz.prog 19 #[recV p r] w fun e w' => e = .returned (.bool (looseB r)) /\ Below w.heap.size w w' := by
  obtain ⟨w1, hw1, V1, B1⟩ := rec_new w p r;have HI : Hid (∀ w', Below w.heap.size w w' -> IsRec w' (fun _ => True) p r) := fun w' hb => h.turn (Turn.below hb);have HS := hZz hs;have hl1 := heap_lt V1.out;have HKA : Hid (∀ W, Below w1.heap.size w1 W -> W.heap[w.heap.size]? = some (.cells (recArr p r) 38 (0, 0))) := fun W hb => (hb.block _ hl1).trans V1.out;have HBW : Hid (∀ W, Below w1.heap.size w1 W -> Below w.heap.size w W) := fun W hb => B1.out.trans (hb.mono (by omega));obtain ⟨ra, hra⟩ : ∃ x, rightA r.a = x := ⟨_, rfl⟩;obtain ⟨v1, hv1⟩ : ∃ x, decide (badZ r.prov.data.toList < 0) = x := ⟨_, rfl⟩;obtain ⟨v2, hv2⟩ : ∃ x, decide (badZ r.id.data.toList < 0) = x := ⟨_, rfl⟩;obtain ⟨v3, hv3⟩ : ∃ x, r.attrs.all pairB = x := ⟨_, rfl⟩;have HL : Hid (looseB r = (ra && (v1 && (v2 && v3)))) := by rw [Hid, looseB, hra, hv1, hv2, hv3]
  have HRI : Hid (∀ W, Below w1.heap.size w1 W -> Calls Tryz.prog 20 #[.agg #[.slice p.pa r.a.path.length p.pc, .string r.a.type, .string r.a.name, .int .i64 r.a.key, .int .u64 r.a.place, .string r.a.word]] W fun e w' => e = .returned (.bool ra) /\ Below W.heap.size W w') := fun W hb => by
    have hri := ((HI.out W (HBW.out W hb)).adr hs).rright p.pc;rw [hra] at hri;exact hri
  have HV1 := hZz hv1;have HV2 := hZz hv2;have HV3 := hZz hv3;have hn := hs.n;obtain ⟨x0, x1, x2, x3, x4, x5, x6, x7, x8⟩ := rec_cells V1.out;unfold recV;clear hra hv1 hv2 hv3 h hs;go_enter Tryz.func19, Tryz.ntmps19
  go_wp2_with fail
  clear x0 x1 x2 x3 x4 x5 x6 x7 x8 hw1
  go_loopw [3] (fun q wr => ∃ i : Nat, q = .int .i64 i /\ i <= r.attrs.length /\ Hid ((r.attrs.take i).all pairB = true) /\ Hid (Below w1.heap.size w1 wr)) (fun q _ => r.attrs.length - (intOf q).toNat)
  case atStart => exact ⟨0, rfl, Nat.zero_le _, by simp [Hid], Below.refl _ _⟩
  case round =>
    obtain ⟨i, rfl, hi, hR, hB⟩ := hrel;obtain ⟨x0, x1, x2, x3, x4, x5, x6, x7, x8⟩ := rec_cells (HKA.out wr hB.out);by_cases hlt : i < r.attrs.length
    · obtain ⟨b, o, hta, _, hb, hc⟩ := ((HI.out wr (HBW.out wr hB.out)).attrs).resolve_left (by intro e; rw [e] at hlt; simp at hlt);obtain ⟨k1, k2⟩ := hc i hlt;obtain ⟨x, hx⟩ : ∃ x, r.attrs[i].1 = x := ⟨_, rfl⟩;obtain ⟨y, hy⟩ : ∃ y, r.attrs[i].2 = y := ⟨_, rfl⟩;have hxs : x.size <= 6000 := by rw [<-hx]; exact HS.out.at1 _ (List.getElem_mem hlt)
      have hys : y.size <= 6000 := by rw [<-hy]; exact HS.out.at2 _ (List.getElem_mem hlt)
      rw [hx] at k1;rw [hy] at k2;rw [hta] at x8;obtain ⟨u1, hu1⟩ : ∃ u, decide (badZ x.data.toList < 0) = u := ⟨_, rfl⟩;obtain ⟨u2, hu2⟩ : ∃ u, decide (badZ y.data.toList < 0) = u := ⟨_, rfl⟩;have HU2 := hZz hu2;have HPB : Hid (pairB r.attrs[i] = (u1 && u2)) := by rw [Hid, pairB, hx, hy, hu1, hu2]
      have hstep : (r.attrs.take (i + 1)).all pairB = ((r.attrs.take i).all pairB && pairB r.attrs[i]) := by
        rw [List.take_add_one, List.getElem?_eq_getElem hlt, List.all_append]; simp
      have HST := hZz hstep;have HBAD : Hid ((u1 && u2) = false -> v3 = false) := fun h => by
        rw [<-HV3.out, <-Bool.not_eq_true, List.all_eq_true];intro hall
        have := hall r.attrs[i] (List.getElem_mem hlt);rw [HPB.out, h] at this;cases this
      have HC1 := rutf_ok x wr hxs u1 hu1;have HTA := hZz hta;have HK2 : Hid (∀ W, Below wr.heap.size wr W -> W.cell? ⟨b, o + i * 2 + 1, none⟩ = some (.string y)) := fun W hW => by rw [cell_blk (hW.block b hb)]; exact k2
      have hal : looseB r = (ra && (v1 && (v2 && false))) ∨ v3 = true := by
        cases v3
        · exact .inl HL.out
        · exact .inr rfl
      clear hc hx hy hu1 hu2 hstep k2 hta hal;go_wp2_with fail
      refine (Calls.mono HC1.out ?_);rintro z w5 ⟨rfl, hb5⟩;have B5 := bel hB hb5;have k2 := HK2.out w5 hb5;clear hb5 k1 HC1 HK2 x0 x1 x2 x3 x4 x5 x6 x7 x8;cases u1
      · have hv3 := HBAD.out rfl;subst hv3;have HF : Hid (looseB r = false) := by rw [Hid, HL.out]; cases ra <;> cases v1 <;> cases v2 <;> rfl
        go_wp2_with fail
        go_ret
        exact ⟨by rw [HF.out] <;> rfl, HBW.out w5 B5.out⟩
      obtain ⟨x0, x1, x2, x3, x4, x5, x6, x7, x8⟩ := rec_cells (HKA.out w5 B5.out);rw [HTA.out] at x8;have HC2 := rutf_ok y w5 hys u2 HU2.out;go_wp2_with fail
      refine (Calls.mono HC2.out ?_);rintro z w6 ⟨rfl, hb6⟩;have B6 := bel B5 hb6;clear hb6 k2 HC2 x0 x1 x2 x3 x4 x5 x6 x7 x8;cases u2
      · have hv3 := HBAD.out rfl;subst hv3;have HF : Hid (looseB r = false) := by rw [Hid, HL.out]; cases ra <;> cases v1 <;> cases v2 <;> rfl
        go_wp2_with fail
        go_ret
        exact ⟨by rw [HF.out] <;> rfl, HBW.out w6 B6.out⟩
      have HN : Hid ((r.attrs.take (i + 1)).all pairB = true) := by rw [Hid, HST.out, hR.out, HPB.out]; rfl
      go_wp2_with fail
      go_roundw
      case rel => exact ⟨i + 1, by go_num, by omega, HN.out, B6.out⟩
      case measure => simp [intOf]; omega
    · have hv3 : v3 = true := by
        rw [<-HV3.out, <-hR.out, List.take_of_length_le (by omega)]
      have HF : Hid (looseB r = (ra && (v1 && v2))) := by rw [Hid, HL.out, hv3, Bool.and_true]
      have HRW : Hid (Calls Tryz.prog 20 #[.agg #[.slice p.pa r.a.path.length p.pc, .string r.a.type, .string r.a.name, .int .i64 r.a.key, .int .u64 r.a.place, .string r.a.word]] wr fun e w' => e = .returned (.bool ra) /\ Below wr.heap.size wr w') := HRI.out wr hB.out;clear hv3;go_wp2_with fail
      refine (Calls.mono HRW.out ?_);rintro z w5 ⟨rfl, hb5⟩;have B5 := bel hB hb5;clear hb5 x0 x1 x2 x3 x4 x5 x6 x7 x8;cases ra
      · go_wp2_with fail
        go_ret
        exact ⟨by rw [HF.out] <;> rfl, HBW.out w5 B5.out⟩
      obtain ⟨x0, x1, x2, x3, x4, x5, x6, x7, x8⟩ := rec_cells (HKA.out w5 B5.out);have HC1 := rutf_ok r.prov w5 HS.out.pr v1 HV1.out;go_wp2_with fail
      refine (Calls.mono HC1.out ?_);rintro z w6 ⟨rfl, hb6⟩;have B6 := bel B5 hb6;clear hb6 x0 x1 x2 x3 x4 x5 x6 x7 x8;cases v1
      · go_wp2_with fail
        go_ret
        exact ⟨by rw [HF.out] <;> rfl, HBW.out w6 B6.out⟩
      obtain ⟨x0, x1, x2, x3, x4, x5, x6, x7, x8⟩ := rec_cells (HKA.out w6 B6.out);have HC2 := rutf_ok r.id w6 HS.out.id v2 HV2.out;go_wp2_with fail
      refine (Calls.mono HC2.out ?_);rintro z w7 ⟨rfl, hb7⟩;have B7 := bel B6 hb7;clear hb7 x0 x1 x2 x3 x4 x5 x6 x7 x8;cases v2
      · go_wp2_with fail
        go_ret
        exact ⟨by rw [HF.out] <;> rfl, HBW.out w7 B7.out⟩
      · go_wp2_with fail
        go_ret
        exact ⟨by rw [HF.out] <;> rfl, HBW.out w7 B7.out⟩
end Go.Proofs.YtfdjolfenghmaaaGreatDoor.State
