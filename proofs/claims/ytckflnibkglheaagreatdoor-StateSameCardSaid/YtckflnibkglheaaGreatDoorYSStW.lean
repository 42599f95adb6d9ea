/- slices.Equal of pairs, state.same, slices.EqualFunc of records, state.Same. -/
import Derived.Test.YtckflnibkglheaaGreatDoorYSStAdV
import Derived.Test.YtckflnibkglheaaGreatDoorYSStV
namespace Go.Proofs.YtckflnibkglheaaGreatDoor.State
open Go.RowKit Go.Shelf Go.Proofs.YtckflnibkglheaaGreatDoor.Utf Go.Proofs.YtckflnibkglheaaGreatDoor.Strs Go.Proofs.YtckflnibkglheaaGreatDoor.Addr
open Go.Proofs.YtckflnibkglheaaGreatDoor.Jdec (IsTexts Turn infoStr gb_set gb_below gb_refl)
set_option linter.unusedVariables false
set_option linter.unusedSimpArgs false
set_option maxRecDepth 100000

set_option maxHeartbeats 8000000 in
theorem epairs_any (l l' : List (ByteArray × ByteArray)) (ta ta' : Option Addr) (tc tc' : Nat) (A B : Nat → Prop) (w : World) (h : IsPairs w A ta l) (h' : IsPairs w B ta' l') (hl : l.length ≤ 1048576) (hl' : l'.length ≤ 1048576) :
  Calls Tryz.prog 96 #[.slice ta l.length tc, .slice ta' l'.length tc'] w fun e w' => e = .returned (.bool (decide (l = l'))) ∧ Below w.heap.size w w' := by
 by_cases hne : l.length = l'.length
 ·have hz : ((l.length : Int) != (l'.length : Int)) = false := by rw [bne_eq_false_iff_eq]; omega
  have HN := Hid.out (p := Hid _) hne
  clear hne
  go_enter Tryz.func96, Tryz.ntmps96
  go_wp2_with fail
  go_loopw [13] (fun p wr => ∃ i n : Nat, p = .int .i64 i ∧ i ≤ l.length ∧ Hid (∀ j (h : j < l.length) (h2 : j < l'.length), j < i → l[j] = l'[j]) ∧ wr = w.drewN n) (fun p _ => l.length - (intOf p).toNat)
  case atStart => exact ⟨0, 0, rfl, Nat.zero_le _, fun j _ _ h => by omega, rfl⟩
  case round =>
   obtain ⟨i, n, rfl, hi, hno, rfl⟩ := hrel
   by_cases hlt : i < l.length
   ·have hlt' : i < l'.length := by have := HN.out; omega
    obtain ⟨b, o, rfl, _, hb, hc⟩ := h.resolve_left (by intro e; rw [e] at hlt; simp at hlt)
    obtain ⟨b', o', rfl, _, hb', hc'⟩ := h'.resolve_left (by intro e; rw [e] at hlt'; simp at hlt')
    obtain ⟨k1, k2⟩ := hc i hlt
    obtain ⟨g1, g2⟩ := hc' i hlt'
    obtain ⟨x1, hx1⟩ : ∃ x, l[i].1 = x := ⟨_, rfl⟩
    obtain ⟨x2, hx2⟩ : ∃ x, l[i].2 = x := ⟨_, rfl⟩
    obtain ⟨y1, hy1⟩ : ∃ y, l'[i].1 = y := ⟨_, rfl⟩
    obtain ⟨y2, hy2⟩ : ∃ y, l'[i].2 = y := ⟨_, rfl⟩
    rw [hx1] at k1
    rw [hx2] at k2
    rw [hy1] at g1
    rw [hy2] at g2
    obtain ⟨c1, h1⟩ : ∃ c, (x1.toList == y1.toList) = c := ⟨_, rfl⟩
    obtain ⟨c2, h2⟩ : ∃ c, (x2.toList == y2.toList) = c := ⟨_, rfl⟩
    have HEQ : Hid (l[i] = l'[i] ↔ (c1 && c2) = true) := by
     rw [Hid, ← h1, ← h2, Bool.and_eq_true, bytes_same, bytes_same, ← hx1, ← hx2, ← hy1, ← hy2]
     exact Prod.ext_iff
    clear hc hc' hx1 hx2 hy1 hy2
    by_cases hcc : (c1 && c2) = true
    ·have HF : Hid (∀ j (h : j < l.length) (h2 : j < l'.length), j < i + 1 → l[j] = l'[j]) := by
      intro j h h2 h3
      by_cases e : j = i
      ·subst e; exact HEQ.out.2 hcc
      ·exact hno.out j h h2 (by omega)
     rw [Bool.and_eq_true] at hcc
     obtain ⟨rfl, rfl⟩ := hcc
     go_wp2_with fail
     go_quiet (fail)
     go_wp2_with fail
     go_roundw
     case rel => exact ⟨i + 1, _, by go_num, by omega, HF.out, rfl⟩
     case measure => simp [intOf]; omega
    ·have HF : Hid (decide (l = l') = false) := by
      rw [Hid, decide_eq_false_iff_not]
      intro e
      exact hcc (HEQ.out.1 (by subst e; rfl))
     have hcs : (c1 = false) ∨ (c1 = true ∧ c2 = false) := by cases c1 <;> cases c2 <;> simp_all
     clear hcc
     rcases hcs with rfl | ⟨rfl, rfl⟩
     all_goals
      go_wp2_with fail
      go_quiet (fail)
      go_wp2_with fail
      go_ret
      exact ⟨by rw [HF.out] <;> rfl, Addr.below_drewN (Addr.below_drewN (Below.refl _ _) _) _⟩
   ·have HF : Hid (decide (l = l') = true) := by
     rw [Hid, decide_eq_true_eq]
     exact List.ext_getElem HN.out (fun j h h2 => hno.out j h h2 (by omega))
    go_wp2_with fail
    go_ret
    exact ⟨by rw [HF.out] <;> rfl, Addr.below_drewN (Below.refl _ _) _⟩
 ·have HF : Hid (decide (l = l') = false) := by
   rw [Hid, decide_eq_false_iff_not]; intro e; exact hne (by rw [e])
  have hz : ((l.length : Int) != (l'.length : Int)) = true := by rw [bne_iff_ne]; omega
  clear hne
  go_enter Tryz.func96, Tryz.ntmps96
  go_wp2_with fail
  go_ret
  exact ⟨by rw [HF.out] <;> rfl, Below.refl _ _⟩
set_option maxHeartbeats 8000000 in
theorem srec_any (r s : Rec) (p q : At) (w : World) (h : IsRec w (fun _ => True) p r) (h' : IsRec w (fun _ => True) q s) (hl : r.a.path.length ≤ 1048576) (hl' : s.a.path.length ≤ 1048576) (hn : r.attrs.length ≤ 1048576) (hn' : s.attrs.length ≤ 1048576) :
  Calls Tryz.prog 64 #[recV p r, recV q s] w fun e w' => e = .returned (.bool (sameRec r s)) ∧ Below w.heap.size w w' := by
 obtain ⟨w1, hw1, V1, B1⟩ := rec_new w p r
 obtain ⟨w2, hw2, V2, B2⟩ := rec_new w1 q s
 have hl1 := heap_lt V1.out
 have hl2 := heap_lt V2.out
 have B02 : Hid (Below w.heap.size w w2) := B1.out.trans (B2.out.mono (by omega))
 have V12 : Hid (w2.heap[w.heap.size]? = some (.cells (recArr p r) 32 (0, 0))) := (B2.out.block _ hl1).trans V1.out
 have HKA : Hid (∀ W, Below w2.heap.size w2 W → W.heap[w.heap.size]? = some (.cells (recArr p r) 32 (0, 0))) := fun W hb => (hb.block _ (by omega)).trans V12.out
 have HKB : Hid (∀ W, Below w2.heap.size w2 W → W.heap[w1.heap.size]? = some (.cells (recArr q s) 32 (0, 0))) := fun W hb => (hb.block _ (by omega)).trans V2.out
 obtain ⟨t0, h0⟩ : ∃ t, sameA r.a s.a = t := ⟨_, rfl⟩
 obtain ⟨t1, h1⟩ : ∃ t, (r.prov.toList == s.prov.toList) = t := ⟨_, rfl⟩
 obtain ⟨t2, h2⟩ : ∃ t, (r.id.toList == s.id.toList) = t := ⟨_, rfl⟩
 obtain ⟨t3, h3⟩ : ∃ t, decide (r.attrs = s.attrs) = t := ⟨_, rfl⟩
 have HS : Hid (sameRec r s = (t0 && (t1 && (t2 && t3)))) := by rw [Hid, sameRec, h0, h1, h2, h3]
 have hra := same_any r.a s.a p.pa q.pa p.pc q.pc _ _ w2 (h.path.turn (Turn.below B02.out)) (h'.path.turn (Turn.below B02.out)) hl hl'
 rw [h0] at hra
 have HRA : Hid (Calls Tryz.prog 95 #[.agg #[.slice p.pa r.a.path.length p.pc, .string r.a.type, .string r.a.name, .int .i64 r.a.key, .int .u64 r.a.place, .string r.a.word], .agg #[.slice q.pa s.a.path.length q.pc, .string s.a.type, .string s.a.name, .int .i64 s.a.key, .int .u64 s.a.place, .string s.a.word]] w2 fun e w' => e = .returned (.bool t0) ∧ Below w2.heap.size w2 w') := hra
 have HPP : Hid (∀ W, Below w2.heap.size w2 W → Calls Tryz.prog 96 #[.slice p.ta r.attrs.length p.tc, .slice q.ta s.attrs.length q.tc] W fun e w' => e = .returned (.bool t3) ∧ Below W.heap.size W w') := fun W hb => by
  have hW : Below w.heap.size w W := B02.out.trans (hb.mono (by omega))
  have := epairs_any r.attrs s.attrs p.ta q.ta p.tc q.tc _ _ W (h.attrs.turn (Turn.below hW)) (h'.attrs.turn (Turn.below hW)) hn hn'
  rw [h3] at this
  exact this
 obtain ⟨x0, x1, x2, x3, x4, x5, x6, x7, x8⟩ := rec_cells V12.out
 obtain ⟨y0, y1, y2, y3, y4, y5, y6, y7, y8⟩ := rec_cells V2.out
 unfold recV
 clear h h' h0 h3 hra
 go_enter Tryz.func64, Tryz.ntmps64
 go_wp2_with fail
 refine (Calls.mono HRA.out ?_)
 rintro z w3 ⟨rfl, hb3⟩
 have B3 : Hid (Below w2.heap.size w2 w3) := hb3
 have B03 : Hid (Below w.heap.size w w3) := B02.out.trans (hb3.mono (by omega))
 clear hb3 x0 x1 x2 x3 x4 x5 x6 x7 x8 y0 y1 y2 y3 y4 y5 y6 y7 y8 HRA hw1 hw2
 cases t0
 ·go_wp2_with fail
  go_ret
  exact ⟨by rw [HS.out] <;> rfl, B03.out⟩
 obtain ⟨x0, x1, x2, x3, x4, x5, x6, x7, x8⟩ := rec_cells (HKA.out w3 B3.out)
 obtain ⟨y0, y1, y2, y3, y4, y5, y6, y7, y8⟩ := rec_cells (HKB.out w3 B3.out)
 cases t1
 ·go_wp2_with fail
  go_ret
  exact ⟨by rw [HS.out] <;> rfl, B03.out⟩
 cases t2
 ·go_wp2_with fail
  go_ret
  exact ⟨by rw [HS.out] <;> rfl, B03.out⟩
 have HPW : Hid (Calls Tryz.prog 96 #[.slice p.ta r.attrs.length p.tc, .slice q.ta s.attrs.length q.tc] w3 fun e w' => e = .returned (.bool t3) ∧ Below w3.heap.size w3 w') := HPP.out w3 B3.out
 go_wp2_with fail
 refine (Calls.mono HPW.out ?_)
 rintro z w4 ⟨rfl, hb4⟩
 have B04 : Hid (Below w.heap.size w w4) := B03.out.trans (hb4.mono B03.out.size)
 clear hb4
 cases t3
 ·go_wp2_with fail
  go_ret
  exact ⟨by rw [HS.out] <;> rfl, B04.out⟩
 ·go_wp2_with fail
  go_ret
  exact ⟨by rw [HS.out] <;> rfl, B04.out⟩
theorem sf_ok (r s : Rec) (p q : At) (w : World) (h : IsRec w (fun _ => True) p r) (h' : IsRec w (fun _ => True) q s) (hr : Small r) (hs : Small s) (b : Bool) (hb : sameRec r s = b) :
  Hid (Calls Tryz.prog 64 #[.agg #[.slice p.pa r.a.path.length p.pc, .string r.a.type, .string r.a.name, .int .i64 r.a.key, .int .u64 r.a.place, .string r.a.word, .string r.prov, .string r.id, .slice p.ta r.attrs.length p.tc], .agg #[.slice q.pa s.a.path.length q.pc, .string s.a.type, .string s.a.name, .int .i64 s.a.key, .int .u64 s.a.place, .string s.a.word, .string s.prov, .string s.id, .slice q.ta s.attrs.length q.tc]] w fun e w' => e = .returned (.bool b) ∧ Below w.heap.size w w') := by
 rw [← hb]
 exact srec_any r s p q w h h' (Nat.le_trans hr.l (by omega)) (Nat.le_trans hs.l (by omega)) (Nat.le_trans hr.n (by omega)) (Nat.le_trans hs.n (by omega))
/-- Are two lists of records the same? -/
noncomputable def sameRecs (l m : List Rec) : Bool := @decide (l = m) (Classical.propDecidable _)
theorem sameRecs_iff (l m : List Rec) : sameRecs l m = true ↔ l = m := by rw [sameRecs, @decide_eq_true_eq (l = m) (Classical.propDecidable _)]
set_option maxHeartbeats 8000000 in
theorem eqf_any (l m : List Rec) (ra rb : Option Addr) (rc rd : Nat) (w : World) (h : RecsAt w ra l) (h' : RecsAt w rb m) :
  Calls Tryz.prog 63 #[.slice ra l.length rc, .slice rb m.length rd, .func (.func 64) #[] #[]] w fun e w' => e = .returned (.bool (sameRecs l m)) ∧ Below w.heap.size w w' := by
 have HA : Hid (∀ W, Below w.heap.size w W → RecsAt W ra l) := fun W hb => h.stays hb
 have HB : Hid (∀ W, Below w.heap.size w W → RecsAt W rb m) := fun W hb => h'.stays hb
 have hn := h.n
 have hn' := h'.n
 clear h h'
 by_cases hne : l.length = m.length
 case neg =>
  have hz : ((l.length : Int) != (m.length : Int)) = true := by rw [bne_iff_ne]; omega
  have HF : Hid (sameRecs l m = false) := by
   rw [Hid, ← Bool.not_eq_true, sameRecs_iff]
   intro e
   exact hne (by rw [e])
  clear hne
  go_enter Tryz.func63, Tryz.ntmps63
  go_wp2_with fail
  go_ret
  exact ⟨by rw [HF.out] <;> rfl, Below.refl _ _⟩
 case pos =>
 have hz : ((l.length : Int) != (m.length : Int)) = false := by rw [bne_eq_false_iff_eq]; omega
 have HN := Hid.out (p := Hid _) hne
 clear hne
 go_enter Tryz.func63, Tryz.ntmps63
 go_wp2_with fail
 go_loopw [17] (fun p17 wr => ∃ i : Nat, p17 = .int .i64 i ∧ i ≤ l.length ∧ Hid (∀ j (h : j < l.length) (h2 : j < m.length), j < i → l[j] = m[j]) ∧ Hid (Below w.heap.size w wr)) (fun p17 _ => l.length - (intOf p17).toNat)
 case atStart => exact ⟨0, rfl, Nat.zero_le _, fun j _ _ h => by omega, Below.refl _ _⟩
 case round =>
  obtain ⟨i, rfl, hi, hno, hB⟩ := hrel
  by_cases hlt : i < l.length
  ·have hlt' : i < m.length := by have := HN.out; omega
   obtain ⟨b1, o1, p, hra, hb1, hc, hir⟩ := (HA.out wr hB.out).get hlt
   obtain ⟨b2, o2, q, hrb, hb2, hd, hjr⟩ := (HB.out wr hB.out).get hlt'
   have hsr := (HA.out wr hB.out).s _ (List.getElem_mem hlt)
   have hss := (HB.out wr hB.out).s _ (List.getElem_mem hlt')
   obtain ⟨r, hr⟩ : ∃ r, l[i] = r := ⟨_, rfl⟩
   obtain ⟨s, hs⟩ : ∃ s, m[i] = s := ⟨_, rfl⟩
   rw [hr] at hc hir hsr
   rw [hs] at hd hjr hss
   obtain ⟨w4, hw4, V4, B4⟩ := rec_new wr p r
   obtain ⟨w5, hw5, V5, B5⟩ := rec_new w4 q s
   have B45 : Hid (Below wr.heap.size wr w5) := B4.out.trans (B5.out.mono B4.out.size)
   have V45 : Hid (w5.heap[wr.heap.size]? = some (.cells (recArr p r) 32 (0, 0))) := (B5.out.block _ (heap_lt V4.out)).trans V4.out
   obtain ⟨e, he⟩ : ∃ e, sameRec r s = e := ⟨_, rfl⟩
   have HSF := sf_ok r s p q w5 (hir.turn (Turn.below B45.out)) (hjr.turn (Turn.below B45.out)) hsr hss e he
   have HEQ : Hid (e = true ↔ l[i] = m[i]) := by rw [Hid, ← he, sameRec_iff, hr, hs]
   have hd4 : ∀ j u, (recArr q s)[j]? = some u → w4.cell? ⟨b2, o2 + i * 9 + j, none⟩ = some u := fun j u hu => by rw [cell_blk (B4.out.block b2 hb2)]; exact hd j u hu
   obtain ⟨c0, c1, c2, c3, c4, c5, c6, c7, c8⟩ := recs_nine hc
   obtain ⟨d0, d1, d2, d3, d4, d5, d6, d7, d8⟩ := recs_nine hd4
   obtain ⟨y0, y1, y2, y3, y4, y5, y6, y7, y8⟩ := rec_cells V45.out
   obtain ⟨u0, u1, u2, u3, u4, u5, u6, u7, u8⟩ := rec_cells V5.out
   rw [hra, hrb]
   clear hc hd hd4 hir hjr hsr hss hr hs he hra hrb
   go_wp2_with fail
   refine (Calls.mono HSF.out ?_)
   rintro z w6 ⟨rfl, hb6⟩
   have B6 : Hid (Below w.heap.size w w6) := hB.out.trans ((B45.out.trans (hb6.mono B45.out.size)).mono hB.out.size)
   clear hb6 HSF c0 c1 c2 c3 c4 c5 c6 c7 c8 d0 d1 d2 d3 d4 d5 d6 d7 d8 y0 y1 y2 y3 y4 y5 y6 y7 y8 u0 u1 u2 u3 u4 u5 u6 u7 u8
   cases e
   case false =>
    have HF : Hid (sameRecs l m = false) := by
     rw [Hid, ← Bool.not_eq_true, sameRecs_iff]
     intro e
     have : false = true := HEQ.out.2 (by subst e; rfl)
     cases this
    go_wp2_with fail
    go_ret
    exact ⟨by rw [HF.out] <;> rfl, B6.out⟩
   case true =>
    have HF : Hid (∀ j (h : j < l.length) (h2 : j < m.length), j < i + 1 → l[j] = m[j]) := by
     intro j h h2 h3
     by_cases e : j = i
     ·subst e; exact HEQ.out.1 (by first | rfl | trivial)
     ·exact hno.out j h h2 (by omega)
    go_wp2_with fail
    go_roundw
    case rel => exact ⟨i + 1, by go_num, by omega, HF.out, B6.out⟩
    case measure => simp [intOf]; omega
  ·have HF : Hid (sameRecs l m = true) := by
    rw [Hid, sameRecs_iff]
    exact List.ext_getElem HN.out (fun j h h2 => hno.out j h h2 (by omega))
   go_wp2_with fail
   go_ret
   exact ⟨by rw [HF.out] <;> rfl, hB.out⟩
set_option maxHeartbeats 4000000 in
theorem ssame_any (a b : Sta) (ra rb : Option Addr) (rc rd : Nat) (w : World) (h : RecsAt w ra a.recs) (h' : RecsAt w rb b.recs) :
  Calls Tryz.prog 33 #[staV ra rc a, staV rb rd b] w fun e w' => e = .returned (.bool (sameSta a b)) ∧ Below w.heap.size w w' := by
 obtain ⟨w1, hw1, V1, B1⟩ := sta_new w ra rc a
 obtain ⟨w2, hw2, V2, B2⟩ := sta_new w1 rb rd b
 have hl1 := heap_lt V1.out
 have hl2 := heap_lt V2.out
 have B02 : Hid (Below w.heap.size w w2) := B1.out.trans (B2.out.mono (by omega))
 have V12 : Hid (w2.heap[w.heap.size]? = some (.cells (staArr ra rc a) 26 (0, 0))) := (B2.out.block _ hl1).trans V1.out
 obtain ⟨t1, h1⟩ : ∃ t, ((a.serial : Int) == (b.serial : Int)) = t := ⟨_, rfl⟩
 obtain ⟨t2, h2⟩ : ∃ t, (a.lin.toList == b.lin.toList) = t := ⟨_, rfl⟩
 obtain ⟨t3, h3⟩ : ∃ t, sameRecs a.recs b.recs = t := ⟨_, rfl⟩
 have HS : Hid (sameSta a b = (t1 && (t2 && t3))) := by rw [Hid, sameSta, h1, h2, ← h3]; rfl
 have HEF : Hid (Calls Tryz.prog 63 #[.slice ra a.recs.length rc, .slice rb b.recs.length rd, .func (.func 64) #[] #[]] w2 fun e w' => e = .returned (.bool t3) ∧ Below w2.heap.size w2 w') := by
  rw [← h3]
  exact eqf_any a.recs b.recs ra rb rc rd w2 (h.stays B02.out) (h'.stays B02.out)
 obtain ⟨x0, x1, x2⟩ := sta_cells V12.out
 obtain ⟨y0, y1, y2⟩ := sta_cells V2.out
 unfold staV
 clear h h' h3
 cases t1
 ·go_enter Tryz.func33, Tryz.ntmps33
  go_wp2_with fail
  go_ret
  exact ⟨by rw [HS.out] <;> rfl, B02.out⟩
 cases t2
 ·go_enter Tryz.func33, Tryz.ntmps33
  go_wp2_with fail
  go_ret
  exact ⟨by rw [HS.out] <;> rfl, B02.out⟩
 go_enter Tryz.func33, Tryz.ntmps33
 go_wp2_with fail
 refine (Calls.mono HEF.out ?_)
 rintro z w3 ⟨rfl, hb3⟩
 have B3 : Hid (Below w.heap.size w w3) := B02.out.trans (hb3.mono B02.out.size)
 clear hb3
 cases t3
 ·go_wp2_with fail
  go_ret
  exact ⟨by rw [HS.out] <;> rfl, B3.out⟩
 ·go_wp2_with fail
  go_ret
  exact ⟨by rw [HS.out] <;> rfl, B3.out⟩
end Go.Proofs.YtckflnibkglheaaGreatDoor.State
