/- StateRights: the walk. -/
import Derived.Test.YtehghladpnpcoaaGreatDoorZLsZ
import Derived.Test.YtehghladpnpcoaaGreatDoorZOpS
set_option linter.unusedVariables false
set_option linter.unusedSimpArgs false
set_option maxRecDepth 100000
set_option maxHeartbeats 64000000
namespace Go.Proofs.YtehghladpnpcoaaGreatDoor.State
open Go.RowKit Go.Shelf Go.Proofs.YtehghladpnpcoaaGreatDoor.Utf Go.Proofs.YtehghladpnpcoaaGreatDoor.Strs Go.Proofs.YtehghladpnpcoaaGreatDoor.Addr
open Go.Proofs.YtehghladpnpcoaaGreatDoor.Jdec (IsTexts Turn infoStr gb_set gb_below gb_drew gb_refl)
theorem SoPost.to {s : Sta} {w w' : World} {e : Ending} (h : SoPost s w e w') {t : Sta} {n : Nat} (hs : sortS s = (t, n)) : ∃ a c, e = .returned (.tuple #[.agg #[.int .u64 t.serial, .string t.lin, .slice a t.recs.length c], .int .i64 n]) ∧ Hid (IsRecs w' (fun _ => True) a t.recs) ∧ Hid (t.recs.length ≤ c) ∧ Hid (Below w.heap.size w w') := by
 obtain ⟨hb, a, c, he, hI, hc⟩ := h
 rw [hs] at he hI hc
 exact ⟨a, c, he, hI, hc, hb⟩
theorem RsPost.to {s : Sta} {w w' : World} {e : Ending} (h : RsPost s w e w') {t : Sta} {n : Nat} (hs : sortS s = (t, n)) : ∃ a c, e = .returned (.tuple #[.agg #[.int .u64 t.serial, .string t.lin, .slice a t.recs.length c], .int .i64 n]) ∧ Hid (IsRecs w' (fun _ => True) a t.recs) ∧ Hid (t.recs.length ≤ c) ∧ Hid (Below w.heap.size w w') := by
 obtain ⟨hb, a, c, he, hI, hc⟩ := h
 rw [hs] at he hI hc
 exact ⟨a, c, he, hI, hc, hb⟩
theorem sortS_tells {s t : Sta} {n : Nat} (h : sortS s = (t, n)) (hs : ∀ r ∈ s.recs, Small r) : (∀ r ∈ t.recs, Small r) ∧ t.recs.length ≤ s.recs.length ∧ t.lin.size ≤ s.lin.size ∧ (n = 0 → rightS t = true) := by
 unfold sortS at h
 split at h
 ·split at h
  ·rename_i h1 h2
   injection h with e1 e2
   subst e1
   exact ⟨sortR_small hs, by rw [sortR_len]; exact Nat.le_refl _, Nat.le_refl _, fun _ => h2⟩
  ·injection h with e1 e2
   subst e1 e2
   exact ⟨fun r hr => by (cases hr), Nat.zero_le _, Nat.zero_le _, fun e => by cases e⟩
 ·injection h with e1 e2
  subst e1 e2
  exact ⟨fun r hr => by (cases hr), Nat.zero_le _, Nat.zero_le _, fun e => by cases e⟩
theorem stateRights_any (s : Sta) (ra : Option Addr) (rc : Nat) (w : World) (T : TabsA w) (h : StaIn w ra s) : Calls Tryz.prog 3 #[staV ra rc s] w fun e w' => e = .returned (.bool true) ∧ Below w.heap.size w w' := by
 obtain ⟨w1, hw1, V1, B1⟩ := sta_new w ra rc s
 have hl1 := heap_lt V1.out
 have HKA : Hid (∀ W, Below w1.heap.size w1 W → W.heap[w.heap.size]? = some (.cells (staArr ra rc s) 25 (0, 0))) := fun W hb => (hb.block _ (by omega)).trans V1.out
 have HBW : Hid (∀ W, Below w1.heap.size w1 W → Below w.heap.size w W) := fun W hb => B1.out.trans (hb.mono B1.out.size)
 have HT : Hid (∀ W, Below w1.heap.size w1 W → TabsA W) := fun W hb => (T.stays B1.out).stays hb
 have HS : Hid (∀ W, Below w1.heap.size w1 W → StaIn W ra s) := fun W hb => (h.stays B1.out).stays hb
 have HWK : Hid (Calls Tryz.prog 10 #[] w1 fun e w' => e = .returned (.bool true) ∧ Below w1.heap.size w1 w') := wakes18 w1 (T.stays B1.out)
 unfold staV
 clear T h
 go_enter Tryz.func3, Tryz.ntmps3
 go_wp2_with fail
 refine (Calls.mono HWK.out ?_)
 rintro z w3 ⟨rfl, hb3⟩
 have B3 : Hid (Below w1.heap.size w1 w3) := hb3
 clear hb3 HWK hw1
 obtain ⟨x30, x31, x32⟩ := sta_cells (HKA.out w3 B3.out)
 have HGS := gs_ok s ra rc w3 (HS.out w3 B3.out)
 go_wp2_with fail
 refine (Calls.mono HGS.out ?_)
 rintro z w4 hz
 obtain ⟨g, rfl, hg, hb4⟩ := hz.to
 have B4 : Hid (Below w1.heap.size w1 w4) := B3.out.trans (hb4.out.mono B3.out.size)
 clear hz hb4 HGS x30 x31 x32
 cases g
 case true =>
  go_wp2_with fail
  go_ret
  exact ⟨rfl, HBW.out w4 B4.out⟩
 have hsz := hg.out rfl
 have h30 := hsz.1
 have hn3 : s.recs.length ≤ 3000 := by omega
 have h1000 := hsz.2.1
 have HSM := hdQ hsz.2.2
 have HR : Hid (∀ W, Below w1.heap.size w1 W → RecsAt W ra s.recs) := fun W hb => ⟨(HS.out W hb).t, hn3, HSM.out⟩
 clear hsz hg
 obtain ⟨t, n, hst⟩ : ∃ t n, sortS s = (t, n) := ⟨_, _, rfl⟩
 have HST := hdQ hst
 obtain ⟨ht1, ht2, ht3, ht4⟩ := sortS_tells hst HSM.out
 have HTS := hdQ ht1
 have HTN := hdQ ht2
 have HTL : Hid (t.lin.size ≤ 1000) := Nat.le_trans ht3 h1000
 have HTG : Hid (n = 0 → rightS t = true) := ht4
 clear hst ht1 ht2 ht3 ht4
 obtain ⟨rs, hrs⟩ : ∃ b, rightS s = b := ⟨_, rfl⟩
 have HRS := hdQ hrs
 have HSO := sort_any s ra rc w4 (HR.out w4 B4.out) (by omega) (HT.out w4 B4.out)
 unfold staV at HSO
 obtain ⟨x40, x41, x42⟩ := sta_cells (HKA.out w4 B4.out)
 clear hrs
 go_wp2_with fail
 refine (Calls.mono HSO ?_)
 rintro z w5 hz
 obtain ⟨xa, xc, rfl, hx1, hx2, hb5⟩ := hz.to HST.out
 have B5 : Hid (Below w1.heap.size w1 w5) := B4.out.trans (hb5.out.mono B4.out.size)
 clear hz hb5 HSO x40 x41 x42
 obtain ⟨w6, hw6, V6, B6⟩ := sta_new w5 xa xc t
 have B16 : Hid (Below w1.heap.size w1 w6) := B5.out.trans (B6.out.mono B5.out.size)
 have HSO2 := rsort18_any s ra rc w6 (HR.out w6 B16.out) (by omega)
 unfold staV at HSO2
 obtain ⟨x60, x61, x62⟩ := sta_cells (HKA.out w6 B16.out)
 go_wp2_with fail
 refine (Calls.mono HSO2 ?_)
 rintro z w7 hz
 obtain ⟨ya, yc, rfl, hy1, hy2, hb7⟩ := hz.to HST.out
 have B7 : Hid (Below w1.heap.size w1 w7) := B16.out.trans (hb7.out.mono B16.out.size)
 have V67 : Hid (w7.heap[w5.heap.size]? = some (.cells (staArr xa xc t) 25 (0, 0))) := (hb7.out.block _ (heap_lt V6.out)).trans V6.out
 have HX7 : Hid (RecsAt w7 xa t.recs) := ⟨(hx1.out.turn (Turn.below B6.out)).turn (Turn.below hb7.out), by have := HTN.out; omega, HTS.out⟩
 have HY7 : Hid (RecsAt w7 ya t.recs) := ⟨hy1.out, by have := HTN.out; omega, HTS.out⟩
 clear hz hb7 HSO2 x60 x61 x62 hw6
 obtain ⟨w8, hw8, V8, B8⟩ := sta_new w7 ya yc t
 have B18 : Hid (Below w1.heap.size w1 w8) := B7.out.trans (B8.out.mono B7.out.size)
 obtain ⟨x80, x81, x82⟩ := sta_cells (HKA.out w8 B18.out)
 have HK2' : Hid (∀ W, Below w8.heap.size w8 W → W.heap[w5.heap.size]? = some (.cells (staArr xa xc t) 25 (0, 0))) := fun W hb => (hb.block _ (by have := heap_lt V67.out; have := B8.out.size; omega)).trans ((B8.out.block _ (heap_lt V67.out)).trans V67.out)
 have HK3' : Hid (∀ W, Below w8.heap.size w8 W → W.heap[w7.heap.size]? = some (.cells (staArr ya yc t) 25 (0, 0))) := fun W hb => (hb.block _ (heap_lt V8.out)).trans V8.out
 go_wp2_with fail
 clear x80 x81 x82 hw8
 go_loopw [26] (fun p26 wr => ∃ i : Nat, p26 = .int .i64 i ∧ i ≤ s.recs.length ∧ Hid (Below w8.heap.size w8 wr)) (fun p26 _ => s.recs.length - (intOf p26).toNat)
 case atStart => exact ⟨0, rfl, Nat.zero_le _, Below.refl _ _⟩
 case round =>
  obtain ⟨i, rfl, hi, hB⟩ := hrel
  have BX0 : Hid (Below w1.heap.size w1 wr) := B18.out.trans (hB.out.mono B18.out.size)
  by_cases hlt : i < s.recs.length
  ·obtain ⟨b, o, p, hra, hb, hcr, hir⟩ := (HR.out wr BX0.out).get hlt
   have hsm := HSM.out _ (List.getElem_mem hlt)
   obtain ⟨r, hr⟩ : ∃ r, s.recs[i] = r := ⟨_, rfl⟩
   rw [hr] at hcr hir hsm
   obtain ⟨z0, z1, z2, z3, z4, z5, z6, z7, z8⟩ := recs_nine hcr
   obtain ⟨w8', hw8, V8', B8'⟩ := rec_new wr p r
   have V8 := hdQ V8'.out
   have B8 := hdQ B8'.out
   obtain ⟨rb, hrb⟩ : ∃ b, recB r = b := ⟨_, rfl⟩
   have HRB := hdQ hrb
   have HSM1 := hdQ hsm
   have HIR : Hid (∀ W, Below wr.heap.size wr W → IsRec W (fun _ => True) p r) := fun W hW => hir.turn (Turn.below hW)
   have HC1 := rec_ok r p w8'.drew (HIR.out _ B8.out.drew) hsm (HT.out _ (BX0.out.trans (B8.out.drew.mono BX0.out.size))) rb hrb
   have hi0 : (0 : Int) ≤ (i : Int) := by omega
   have hi1 : (i : Int) < (s.recs.length : Int) := by omega
   obtain ⟨d0, d1, d2, d3, d4, d5, d6, d7, d8⟩ := rec_cells (w := w8'.drew) V8.out
   rw [hra]
   clear hra hr hrb hir hcr hsm
   go_wp2_with fail
   clear z0 z1 z2 z3 z4 z5 z6 z7 z8 hw8
   cases rb
   all_goals
    refine wp_region_held_drew (S := (fun w' => w'.cell? ⟨wr.heap.size, 0, none⟩ = some (.slice p.pa r.a.path.length p.pc) ∧ w'.cell? ⟨wr.heap.size, 1, none⟩ = some (.string r.a.type) ∧ w'.cell? ⟨wr.heap.size, 2, none⟩ = some (.string r.a.name) ∧ w'.cell? ⟨wr.heap.size, 3, none⟩ = some (.int .i64 r.a.key) ∧ w'.cell? ⟨wr.heap.size, 4, none⟩ = some (.int .u64 r.a.place) ∧ w'.cell? ⟨wr.heap.size, 5, none⟩ = some (.string r.a.word) ∧ w'.cell? ⟨wr.heap.size, 6, none⟩ = some (.string r.prov) ∧ w'.cell? ⟨wr.heap.size, 7, none⟩ = some (.string r.id) ∧ w'.cell? ⟨wr.heap.size, 8, none⟩ = some (.slice p.ta r.attrs.length p.tc))) (by kernel_rfl) ?_ (fun hHeld => ?_)
    ·(first | (with_reducible exact ⟨d0, d1, d2, d3, d4, d5, d6, d7, d8⟩) | (with_reducible exact ⟨e0, e1, e2, e3, e4, e5, e6, e7, e8⟩) | (with_reducible exact ⟨g0, g1, g2, g3, g4, g5, g6, g7, g8⟩))
    refine tv 0 (.agg #[.slice p.pa r.a.path.length p.pc, .string r.a.type, .string r.a.name, .int .i64 r.a.key, .int .u64 r.a.place, .string r.a.word, .string r.prov, .string r.id, .slice p.ta r.attrs.length p.tc]) ?_ ?_
    ·(intro w hs; (obtain ⟨q0, q1, q2, q3, q4, q5, q6, q7, q8⟩ := hs); go_simp <;> with_reducible rfl)
    refine tv 2 (.agg #[.slice p.pa r.a.path.length p.pc, .string r.a.type, .string r.a.name, .int .i64 r.a.key, .int .u64 r.a.place, .string r.a.word, .string r.prov, .string r.id, .slice p.ta r.attrs.length p.tc]) ?_ ?_
    ·(intro w hs; (obtain ⟨q0, q1, q2, q3, q4, q5, q6, q7, q8⟩ := hs); go_simp <;> with_reducible rfl)
    try simp only [nz]
    refine rd 1 (fun K hK => ?_)
    try simp only [nz]
    go_simp
    (go_at_call 14; refine (Calls.mono HC1.out ?_); rintro z w9 ⟨rfl, hb9⟩; have B9 : Hid (Below wr.heap.size wr w9) := (B8.out.drew).trans (hb9.mono (by have := B8.out.size; simp; omega)); have V9 : Hid (w9.heap[wr.heap.size]? = some (.cells (recArr p r) 38 (0, 0))) := (hb9.block _ (heap_lt V8.out)).trans V8.out; clear hb9; obtain ⟨e0, e1, e2, e3, e4, e5, e6, e7, e8⟩ := rec_cells V9.out; have HC2 := rrec_ok r p w9 (HIR.out w9 B9.out) HSM1.out _ HRB.out)
    clear hHeld
    refine hK.out _ _ ?_ (fun hHeld => ?_)
    ·(first | (with_reducible exact ⟨d0, d1, d2, d3, d4, d5, d6, d7, d8⟩) | (with_reducible exact ⟨e0, e1, e2, e3, e4, e5, e6, e7, e8⟩) | (with_reducible exact ⟨g0, g1, g2, g3, g4, g5, g6, g7, g8⟩))
    clear hK K
    try simp only [nz]
    refine rd 3 (fun K hK => ?_)
    try simp only [nz]
    go_simp
    (go_at_call 15; refine (Calls.mono HC2.out ?_); rintro z w10 ⟨rfl, hb10⟩; have B10 : Hid (Below wr.heap.size wr w10) := B9.out.trans (hb10.mono B9.out.size); have V10 : Hid (w10.heap[wr.heap.size]? = some (.cells (recArr p r) 38 (0, 0))) := (hb10.block _ (heap_lt V9.out)).trans V9.out; clear hb10; obtain ⟨g0, g1, g2, g3, g4, g5, g6, g7, g8⟩ := rec_cells V10.out)
    clear hHeld
    refine hK.out _ _ ?_ (fun hHeld => ?_)
    ·(first | (with_reducible exact ⟨d0, d1, d2, d3, d4, d5, d6, d7, d8⟩) | (with_reducible exact ⟨e0, e1, e2, e3, e4, e5, e6, e7, e8⟩) | (with_reducible exact ⟨g0, g1, g2, g3, g4, g5, g6, g7, g8⟩))
    clear hK K
    try simp only [nz]
    refine tk 4 ?_
    try simp only [nz]
    refine wpAnyH_done (by kernel_rfl) ?_ _
    have BN : Hid (Below w8.heap.size w8 w10) := hB.out.trans (B10.out.mono hB.out.size)
    clear d0 d1 d2 d3 d4 d5 d6 d7 d8 e0 e1 e2 e3 e4 e5 e6 e7 e8 g0 g1 g2 g3 g4 g5 g6 g7 g8
    go_wp2_with fail
    go_roundw
    case rel => exact ⟨i + 1, by go_num, by omega, BN.out⟩
    case measure => simp [intOf]; omega
  ·obtain rfl : i = s.recs.length := by omega
   clear hlt hi
   have HK1 := HKA
   have BX : Hid (∀ W, Below wr.heap.size wr W → Below w1.heap.size w1 W) := fun W hW => BX0.out.trans (hW.mono BX0.out.size)
   have HK2 : Hid (∀ W, Below wr.heap.size wr W → W.heap[w5.heap.size]? = some (.cells (staArr xa xc t) 25 (0, 0))) := fun W hW => HK2'.out W (hB.out.trans (hW.mono hB.out.size))
   have HK3 : Hid (∀ W, Below wr.heap.size wr W → W.heap[w7.heap.size]? = some (.cells (staArr ya yc t) 25 (0, 0))) := fun W hW => HK3'.out W (hB.out.trans (hW.mono hB.out.size))
   have hb7r : Below w7.heap.size w7 wr := B8.out.trans (hB.out.mono B8.out.size)
   have HRX : Hid (∀ W, Below wr.heap.size wr W → RecsAt W xa t.recs) := fun W hW => (HX7.out.stays hb7r).stays hW
   have HRY : Hid (∀ W, Below wr.heap.size wr W → RecsAt W ya t.recs) := fun W hW => (HY7.out.stays hb7r).stays hW
   have HDR : Hid (Below wr.heap.size wr wr.drew) := (Below.refl _ _).drew
   have HC1 := pr18_ok s ra rc wr.drew (HR.out _ (BX.out _ HDR.out)) (by omega) (HT.out _ (BX.out _ HDR.out)) rs HRS.out
   obtain ⟨ds0, ds1, ds2⟩ := sta_cells (HK1.out wr.drew (BX.out _ HDR.out))
   obtain ⟨dx0, dx1, dx2⟩ := sta_cells (HK2.out wr.drew HDR.out)
   obtain ⟨dy0, dy1, dy2⟩ := sta_cells (HK3.out wr.drew HDR.out)
   clear hb7r
   by_cases hn0 : n = 0
   ·have HGD : Hid (rightS t = true) := HTG.out hn0
    subst hn0
    go_wp2_with fail
    refine wp_region_held_drew (S := (fun w' => w'.cell? ⟨w.heap.size, 0, none⟩ = some (.int .u64 s.serial) ∧ w'.cell? ⟨w.heap.size, 1, none⟩ = some (.string s.lin) ∧ w'.cell? ⟨w.heap.size, 2, none⟩ = some (.slice ra s.recs.length rc) ∧ w'.cell? ⟨w5.heap.size, 0, none⟩ = some (.int .u64 t.serial) ∧ w'.cell? ⟨w5.heap.size, 1, none⟩ = some (.string t.lin) ∧ w'.cell? ⟨w5.heap.size, 2, none⟩ = some (.slice xa t.recs.length xc) ∧ w'.cell? ⟨w7.heap.size, 0, none⟩ = some (.int .u64 t.serial) ∧ w'.cell? ⟨w7.heap.size, 1, none⟩ = some (.string t.lin) ∧ w'.cell? ⟨w7.heap.size, 2, none⟩ = some (.slice ya t.recs.length yc))) (by kernel_rfl) ?_ (fun hHeld => ?_)
    ·(first | (with_reducible exact ⟨ds0, ds1, ds2, dx0, dx1, dx2, dy0, dy1, dy2⟩) | (with_reducible exact ⟨es0, es1, es2, ex0, ex1, ex2, ey0, ey1, ey2⟩) | (with_reducible exact ⟨fs0, fs1, fs2, fx0, fx1, fx2, fy0, fy1, fy2⟩) | (with_reducible exact ⟨gs0, gs1, gs2, gx0, gx1, gx2, gy0, gy1, gy2⟩) | (with_reducible exact ⟨hs0, hs1, hs2, hx0, hx1, hx2, hy0, hy1, hy2⟩))
    refine tv 0 (.agg #[.int .u64 s.serial, .string s.lin, .slice ra s.recs.length rc]) ?_ ?_
    ·(intro w hs; (obtain ⟨q0, q1, q2, q3, q4, q5, q6, q7, q8⟩ := hs); go_simp <;> with_reducible rfl)
    refine tv 2 (.agg #[.int .u64 s.serial, .string s.lin, .slice ra s.recs.length rc]) ?_ ?_
    ·(intro w hs; (obtain ⟨q0, q1, q2, q3, q4, q5, q6, q7, q8⟩ := hs); go_simp <;> with_reducible rfl)
    try simp only [nz]
    refine rd 1 (fun K hK => ?_)
    try simp only [nz]
    go_simp
    (go_at_call 16; refine (Calls.mono HC1.out ?_); rintro z w11 ⟨rfl, hb11⟩; have C11 : Hid (Below wr.heap.size wr w11) := HDR.out.trans hb11; clear hb11; obtain ⟨es0, es1, es2⟩ := sta_cells (HK1.out w11 (BX.out w11 C11.out)); obtain ⟨ex0, ex1, ex2⟩ := sta_cells (HK2.out w11 C11.out); obtain ⟨ey0, ey1, ey2⟩ := sta_cells (HK3.out w11 C11.out); have HC2 := rr_ok s ra rc w11 (HR.out w11 (BX.out w11 C11.out)) (by omega) rs HRS.out)
    clear hHeld
    refine hK.out _ _ ?_ (fun hHeld => ?_)
    ·(first | (with_reducible exact ⟨ds0, ds1, ds2, dx0, dx1, dx2, dy0, dy1, dy2⟩) | (with_reducible exact ⟨es0, es1, es2, ex0, ex1, ex2, ey0, ey1, ey2⟩) | (with_reducible exact ⟨fs0, fs1, fs2, fx0, fx1, fx2, fy0, fy1, fy2⟩) | (with_reducible exact ⟨gs0, gs1, gs2, gx0, gx1, gx2, gy0, gy1, gy2⟩) | (with_reducible exact ⟨hs0, hs1, hs2, hx0, hx1, hx2, hy0, hy1, hy2⟩))
    clear hK K
    try simp only [nz]
    refine rd 3 (fun K hK => ?_)
    try simp only [nz]
    go_simp
    (go_at_call 17; refine (Calls.mono HC2.out ?_); rintro z w12 ⟨rfl, hb12⟩; have C12 : Hid (Below wr.heap.size wr w12) := C11.out.trans (hb12.mono C11.out.size); clear hb12; obtain ⟨fs0, fs1, fs2⟩ := sta_cells (HK1.out w12 (BX.out w12 C12.out)); obtain ⟨fx0, fx1, fx2⟩ := sta_cells (HK2.out w12 C12.out); obtain ⟨fy0, fy1, fy2⟩ := sta_cells (HK3.out w12 C12.out); have HC3 := sm_ok t t xa ya xc yc w12 (HRX.out w12 C12.out) (HRY.out w12 C12.out) true ((sameSta_iff _ _).2 rfl))
    clear hHeld
    refine hK.out _ _ ?_ (fun hHeld => ?_)
    ·(first | (with_reducible exact ⟨ds0, ds1, ds2, dx0, dx1, dx2, dy0, dy1, dy2⟩) | (with_reducible exact ⟨es0, es1, es2, ex0, ex1, ex2, ey0, ey1, ey2⟩) | (with_reducible exact ⟨fs0, fs1, fs2, fx0, fx1, fx2, fy0, fy1, fy2⟩) | (with_reducible exact ⟨gs0, gs1, gs2, gx0, gx1, gx2, gy0, gy1, gy2⟩) | (with_reducible exact ⟨hs0, hs1, hs2, hx0, hx1, hx2, hy0, hy1, hy2⟩))
    clear hK K
    try simp only [nz]
    refine tk 4 ?_
    refine tk 5 ?_
    refine tv 6 (.agg #[.int .u64 t.serial, .string t.lin, .slice xa t.recs.length xc]) ?_ ?_
    ·(intro w hs; (obtain ⟨q0, q1, q2, q3, q4, q5, q6, q7, q8⟩ := hs); go_simp <;> with_reducible rfl)
    try simp only [nz]
    refine tv 7 (.agg #[.int .u64 t.serial, .string t.lin, .slice ya t.recs.length yc]) ?_ ?_
    ·(intro w hs; (obtain ⟨q0, q1, q2, q3, q4, q5, q6, q7, q8⟩ := hs); go_simp <;> with_reducible rfl)
    try simp only [nz]
    refine rd 8 (fun K hK => ?_)
    try simp only [nz]
    go_simp
    (go_at_call 18; refine (Calls.mono HC3.out ?_); rintro z w13 ⟨rfl, hb13⟩; have C13 : Hid (Below wr.heap.size wr w13) := C12.out.trans (hb13.mono C12.out.size); clear hb13; obtain ⟨gs0, gs1, gs2⟩ := sta_cells (HK1.out w13 (BX.out w13 C13.out)); obtain ⟨gx0, gx1, gx2⟩ := sta_cells (HK2.out w13 C13.out); obtain ⟨gy0, gy1, gy2⟩ := sta_cells (HK3.out w13 C13.out); have HC4 := pr18_ok t xa xc w13 (HRX.out w13 C13.out) (by have := HTL.out; omega) (HT.out w13 (BX.out w13 C13.out)) true HGD.out)
    clear hHeld
    refine hK.out _ _ ?_ (fun hHeld => ?_)
    ·(first | (with_reducible exact ⟨ds0, ds1, ds2, dx0, dx1, dx2, dy0, dy1, dy2⟩) | (with_reducible exact ⟨es0, es1, es2, ex0, ex1, ex2, ey0, ey1, ey2⟩) | (with_reducible exact ⟨fs0, fs1, fs2, fx0, fx1, fx2, fy0, fy1, fy2⟩) | (with_reducible exact ⟨gs0, gs1, gs2, gx0, gx1, gx2, gy0, gy1, gy2⟩) | (with_reducible exact ⟨hs0, hs1, hs2, hx0, hx1, hx2, hy0, hy1, hy2⟩))
    clear hK K
    try simp only [nz]
    refine tk 9 ?_
    refine tk 10 ?_
    refine tk 11 ?_
    try simp only [nz]
    refine tk 12 ?_
    refine tk 13 ?_
    refine tk 14 ?_
    try simp only [nz]
    refine tk 15 ?_
    refine tk 16 ?_
    refine tk 17 ?_
    try simp only [nz]
    refine tk 18 ?_
    refine tv 19 (.agg #[.int .u64 t.serial, .string t.lin, .slice xa t.recs.length xc]) ?_ ?_
    ·(intro w hs; (obtain ⟨q0, q1, q2, q3, q4, q5, q6, q7, q8⟩ := hs); go_simp <;> with_reducible rfl)
    try simp only [nz]
    refine rd 20 (fun K hK => ?_)
    try simp only [nz]
    go_simp
    (go_at_call 16; refine (Calls.mono HC4.out ?_); rintro z w14 ⟨rfl, hb14⟩; have C14 : Hid (Below wr.heap.size wr w14) := C13.out.trans (hb14.mono C13.out.size); clear hb14; obtain ⟨hs0, hs1, hs2⟩ := sta_cells (HK1.out w14 (BX.out w14 C14.out)); obtain ⟨hx0, hx1, hx2⟩ := sta_cells (HK2.out w14 C14.out); obtain ⟨hy0, hy1, hy2⟩ := sta_cells (HK3.out w14 C14.out))
    clear hHeld
    refine hK.out _ _ ?_ (fun hHeld => ?_)
    ·(first | (with_reducible exact ⟨ds0, ds1, ds2, dx0, dx1, dx2, dy0, dy1, dy2⟩) | (with_reducible exact ⟨es0, es1, es2, ex0, ex1, ex2, ey0, ey1, ey2⟩) | (with_reducible exact ⟨fs0, fs1, fs2, fx0, fx1, fx2, fy0, fy1, fy2⟩) | (with_reducible exact ⟨gs0, gs1, gs2, gx0, gx1, gx2, gy0, gy1, gy2⟩) | (with_reducible exact ⟨hs0, hs1, hs2, hx0, hx1, hx2, hy0, hy1, hy2⟩))
    clear hK K
    try simp only [nz]
    refine tk 21 ?_
    refine tk 22 ?_
    refine tk 23 ?_
    try simp only [nz]
    refine wpAnyH_done (by kernel_rfl) ?_ _
    go_wp2_with fail
    go_ret
    exact ⟨rfl, HBW.out _ (BX.out _ C14.out)⟩
   ·have hnz : ((n : Int) == 0) = false := by rw [bnQ]; omega
    have hnz2 : ((n : Int) != 0) = true := by simp; omega
    have hnz3 : (n == 0) = false := by rw [bnQ]; exact hn0
    have hnz4 : (n != 0) = true := by simp; exact hn0
    go_wp2_with fail
    refine wp_region_held_drew (S := (fun w' => w'.cell? ⟨w.heap.size, 0, none⟩ = some (.int .u64 s.serial) ∧ w'.cell? ⟨w.heap.size, 1, none⟩ = some (.string s.lin) ∧ w'.cell? ⟨w.heap.size, 2, none⟩ = some (.slice ra s.recs.length rc) ∧ w'.cell? ⟨w5.heap.size, 0, none⟩ = some (.int .u64 t.serial) ∧ w'.cell? ⟨w5.heap.size, 1, none⟩ = some (.string t.lin) ∧ w'.cell? ⟨w5.heap.size, 2, none⟩ = some (.slice xa t.recs.length xc) ∧ w'.cell? ⟨w7.heap.size, 0, none⟩ = some (.int .u64 t.serial) ∧ w'.cell? ⟨w7.heap.size, 1, none⟩ = some (.string t.lin) ∧ w'.cell? ⟨w7.heap.size, 2, none⟩ = some (.slice ya t.recs.length yc))) (by kernel_rfl) ?_ (fun hHeld => ?_)
    ·(first | (with_reducible exact ⟨ds0, ds1, ds2, dx0, dx1, dx2, dy0, dy1, dy2⟩) | (with_reducible exact ⟨es0, es1, es2, ex0, ex1, ex2, ey0, ey1, ey2⟩) | (with_reducible exact ⟨fs0, fs1, fs2, fx0, fx1, fx2, fy0, fy1, fy2⟩) | (with_reducible exact ⟨gs0, gs1, gs2, gx0, gx1, gx2, gy0, gy1, gy2⟩) | (with_reducible exact ⟨hs0, hs1, hs2, hx0, hx1, hx2, hy0, hy1, hy2⟩))
    refine tv 0 (.agg #[.int .u64 s.serial, .string s.lin, .slice ra s.recs.length rc]) ?_ ?_
    ·(intro w hs; (obtain ⟨q0, q1, q2, q3, q4, q5, q6, q7, q8⟩ := hs); go_simp <;> with_reducible rfl)
    refine tv 2 (.agg #[.int .u64 s.serial, .string s.lin, .slice ra s.recs.length rc]) ?_ ?_
    ·(intro w hs; (obtain ⟨q0, q1, q2, q3, q4, q5, q6, q7, q8⟩ := hs); go_simp <;> with_reducible rfl)
    try simp only [nz]
    refine rd 1 (fun K hK => ?_)
    try simp only [nz]
    go_simp
    (go_at_call 16; refine (Calls.mono HC1.out ?_); rintro z w11 ⟨rfl, hb11⟩; have C11 : Hid (Below wr.heap.size wr w11) := HDR.out.trans hb11; clear hb11; obtain ⟨es0, es1, es2⟩ := sta_cells (HK1.out w11 (BX.out w11 C11.out)); obtain ⟨ex0, ex1, ex2⟩ := sta_cells (HK2.out w11 C11.out); obtain ⟨ey0, ey1, ey2⟩ := sta_cells (HK3.out w11 C11.out); have HC2 := rr_ok s ra rc w11 (HR.out w11 (BX.out w11 C11.out)) (by omega) rs HRS.out)
    clear hHeld
    refine hK.out _ _ ?_ (fun hHeld => ?_)
    ·(first | (with_reducible exact ⟨ds0, ds1, ds2, dx0, dx1, dx2, dy0, dy1, dy2⟩) | (with_reducible exact ⟨es0, es1, es2, ex0, ex1, ex2, ey0, ey1, ey2⟩) | (with_reducible exact ⟨fs0, fs1, fs2, fx0, fx1, fx2, fy0, fy1, fy2⟩) | (with_reducible exact ⟨gs0, gs1, gs2, gx0, gx1, gx2, gy0, gy1, gy2⟩) | (with_reducible exact ⟨hs0, hs1, hs2, hx0, hx1, hx2, hy0, hy1, hy2⟩))
    clear hK K
    try simp only [nz]
    refine rd 3 (fun K hK => ?_)
    try simp only [nz]
    go_simp
    (go_at_call 17; refine (Calls.mono HC2.out ?_); rintro z w12 ⟨rfl, hb12⟩; have C12 : Hid (Below wr.heap.size wr w12) := C11.out.trans (hb12.mono C11.out.size); clear hb12; obtain ⟨fs0, fs1, fs2⟩ := sta_cells (HK1.out w12 (BX.out w12 C12.out)); obtain ⟨fx0, fx1, fx2⟩ := sta_cells (HK2.out w12 C12.out); obtain ⟨fy0, fy1, fy2⟩ := sta_cells (HK3.out w12 C12.out); have HC3 := sm_ok t t xa ya xc yc w12 (HRX.out w12 C12.out) (HRY.out w12 C12.out) true ((sameSta_iff _ _).2 rfl))
    clear hHeld
    refine hK.out _ _ ?_ (fun hHeld => ?_)
    ·(first | (with_reducible exact ⟨ds0, ds1, ds2, dx0, dx1, dx2, dy0, dy1, dy2⟩) | (with_reducible exact ⟨es0, es1, es2, ex0, ex1, ex2, ey0, ey1, ey2⟩) | (with_reducible exact ⟨fs0, fs1, fs2, fx0, fx1, fx2, fy0, fy1, fy2⟩) | (with_reducible exact ⟨gs0, gs1, gs2, gx0, gx1, gx2, gy0, gy1, gy2⟩) | (with_reducible exact ⟨hs0, hs1, hs2, hx0, hx1, hx2, hy0, hy1, hy2⟩))
    clear hK K
    try simp only [nz]
    refine tk 4 ?_
    refine tk 5 ?_
    refine tv 6 (.agg #[.int .u64 t.serial, .string t.lin, .slice xa t.recs.length xc]) ?_ ?_
    ·(intro w hs; (obtain ⟨q0, q1, q2, q3, q4, q5, q6, q7, q8⟩ := hs); go_simp <;> with_reducible rfl)
    try simp only [nz]
    refine tv 7 (.agg #[.int .u64 t.serial, .string t.lin, .slice ya t.recs.length yc]) ?_ ?_
    ·(intro w hs; (obtain ⟨q0, q1, q2, q3, q4, q5, q6, q7, q8⟩ := hs); go_simp <;> with_reducible rfl)
    try simp only [nz]
    refine rd 8 (fun K hK => ?_)
    try simp only [nz]
    go_simp
    (go_at_call 18; refine (Calls.mono HC3.out ?_); rintro z w13 ⟨rfl, hb13⟩; have C13 : Hid (Below wr.heap.size wr w13) := C12.out.trans (hb13.mono C12.out.size); clear hb13; obtain ⟨gs0, gs1, gs2⟩ := sta_cells (HK1.out w13 (BX.out w13 C13.out)); obtain ⟨gx0, gx1, gx2⟩ := sta_cells (HK2.out w13 C13.out); obtain ⟨gy0, gy1, gy2⟩ := sta_cells (HK3.out w13 C13.out))
    clear hHeld
    refine hK.out _ _ ?_ (fun hHeld => ?_)
    ·(first | (with_reducible exact ⟨ds0, ds1, ds2, dx0, dx1, dx2, dy0, dy1, dy2⟩) | (with_reducible exact ⟨es0, es1, es2, ex0, ex1, ex2, ey0, ey1, ey2⟩) | (with_reducible exact ⟨fs0, fs1, fs2, fx0, fx1, fx2, fy0, fy1, fy2⟩) | (with_reducible exact ⟨gs0, gs1, gs2, gx0, gx1, gx2, gy0, gy1, gy2⟩) | (with_reducible exact ⟨hs0, hs1, hs2, hx0, hx1, hx2, hy0, hy1, hy2⟩))
    clear hK K
    try simp only [nz]
    refine tk 9 ?_
    refine tk 10 ?_
    refine tk 11 ?_
    try simp only [nz]
    refine tk 12 ?_
    refine tk 13 ?_
    refine tk 14 ?_
    try simp only [nz]
    refine tk 15 ?_
    refine tk 16 ?_
    refine tk 17 ?_
    try simp only [nz]
    refine tk 18 ?_
    refine tn 19 ?_
    refine tn 20 ?_
    try simp only [nz]
    refine tk 21 ?_
    refine tk 22 ?_
    refine tk 23 ?_
    try simp only [nz]
    refine wpAnyH_done (by kernel_rfl) ?_ _
    go_wp2_with fail
    go_ret
    exact ⟨rfl, HBW.out _ (BX.out _ C13.out)⟩
theorem stateRights_arg (v : Value) (s : Sta) (w : World) (h : StaArg w v s) (T : TabsA w) : Calls Tryz.prog 3 #[v] w fun e w' => e = .returned (.bool true) ∧ Below w.heap.size w w' := by
 obtain ⟨ra, rc, rfl, h1, h2, _, _⟩ := h
 exact stateRights_any s ra rc w T h1
end Go.Proofs.YtehghladpnpcoaaGreatDoor.State
