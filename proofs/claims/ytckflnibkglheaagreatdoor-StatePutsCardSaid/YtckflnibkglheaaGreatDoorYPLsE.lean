/- tabulariumlaw18.StatePuts. -/
import Derived.Test.YtckflnibkglheaaGreatDoorYPLsC
namespace Go.Proofs.YtckflnibkglheaaGreatDoor.State
open Go.RowKit Go.Shelf Go.Proofs.YtckflnibkglheaaGreatDoor.Utf Go.Proofs.YtckflnibkglheaaGreatDoor.Strs Go.Proofs.YtckflnibkglheaaGreatDoor.Addr
open Go.Proofs.YtckflnibkglheaaGreatDoor.Jdec (IsTexts Turn infoStr gb_set gb_below gb_refl)
set_option linter.unusedVariables false
set_option linter.unusedSimpArgs false
set_option maxRecDepth 100000

/-- Put in its place. -/
def PutIs (l : List Rec) (r : Rec) (l' : List Rec) : Prop := ∃ i nx, Place l (printA r.a) i ∧ Next l (printA r.a) i nx ∧ l' = putR l r i nx
theorem PutIs.good {l l' : List Rec} {r : Rec} (h : PutIs l r l') (hg : Good l) (hr : recB r = true) (hs : Small r) : Good l' := by
 obtain ⟨i, nx, h1, h2, rfl⟩ := h
 exact good_put hg hr hs h1 h2
theorem PutIs.mem {l l' : List Rec} {r : Rec} (h : PutIs l r l') (hg : Good l) (hr : recB r = true) (hs : Small r) (x : Rec) : x ∈ l' ↔ x = r ∨ x ∈ l ∧ x.a ≠ r.a := by
 obtain ⟨i, nx, h1, h2, rfl⟩ := h
 exact mem_put hg hr hs h1 h2 x
theorem PutIs.len {l l' : List Rec} {r : Rec} (h : PutIs l r l') : l'.length ≤ l.length + 1 := by
 obtain ⟨i, nx, h1, h2, rfl⟩ := h
 have h3 := next_le h2 h1
 rw [putR, List.length_append, List.length_cons, List.length_take, List.length_drop]; omega
theorem PutIs.both {l l' l2 : List Rec} {r : Rec} {k : Nat} (h : PutIs l r l') (hg : Good l) (hr : recB r = true) (hs : Small r) (hl : (∃ j, ∃ hj : j < l.length, l[j].a = r.a ∧ l2 = dropR l j) ∨ ((∀ x ∈ l, x.a ≠ r.a) ∧ l2 = l)) (hB : Behind l2 (printA r.a) k) : putR l2 r k k = l' := by
 obtain ⟨i, nx, h1, h2, rfl⟩ := h
 exact put_both hg hr hs h1 h2 hl hB
theorem pu_cases {s : Sta} {r : Rec} {w w' : World} {e : Ending} (hg : Good s.recs) (hs : Small r) (hn : s.recs.length ≤ 2000) (h : PuPost s r w e w') : Hid (Below w.heap.size w w') ∧
  ((Hid (recB r = false) ∧ e = .returned (.tuple #[.agg #[.int .u64 0, .string ⟨#[]⟩, .slice none 0 0], .int .i64 1])) ∨
  (Hid (recB r = true) ∧ ∃ (l' : List Rec) (a' : Option Addr) (c' : Nat), Hid (PutIs s.recs r l') ∧ e = .returned (.tuple #[.agg #[.int .u64 s.serial, .string s.lin, .slice a' l'.length c'], .int .i64 0]) ∧ Hid (StaAt w' a' c' { s with recs := l' }) ∧ Hid (Good l'))) := by
 obtain ⟨hb, h⟩ := h
 refine ⟨hb, ?_⟩
 rcases h with ⟨h1, h2⟩ | ⟨h1, i, nx, hP, hN, a', c', e1, hI, hc⟩
 ·exact .inl ⟨h1, h2⟩
 ·have hp : PutIs s.recs r (s.recs.take i ++ r :: s.recs.drop nx) := ⟨i, nx, hP, hN, rfl⟩
  have hgd := hp.good hg h1 hs
  have hlen := hp.len
  exact .inr ⟨h1, _, a', c', hp, e1, ⟨⟨hI.any, by show (s.recs.take i ++ r :: s.recs.drop nx).length ≤ 3000; omega, hgd.s⟩, hc, hgd.sorted⟩, hgd⟩
theorem gr18_ok (r : Rec) (p : At) (w : World) (h : RecIn w p r) : Hid (Calls Tryz.prog 16 #[.agg #[.slice p.pa r.a.path.length p.pc, .string r.a.type, .string r.a.name, .int .i64 r.a.key, .int .u64 r.a.place, .string r.a.word, .string r.prov, .string r.id, .slice p.ta r.attrs.length p.tc]] w (GrPost r w)) := gr_ok r p w h
theorem pu_ok (s : Sta) (ra : Option Addr) (rc : Nat) (r : Rec) (p : At) (w : World) (h : StaAt w ra rc s) (hi : IsRec w (fun _ => True) p r) (hs : Small r) (hn : s.recs.length ≤ 2000) (T : TabsA w) : Hid (Calls Tryz.prog 19 #[.agg #[.int .u64 s.serial, .string s.lin, .slice ra s.recs.length rc], .agg #[.slice p.pa r.a.path.length p.pc, .string r.a.type, .string r.a.name, .int .i64 r.a.key, .int .u64 r.a.place, .string r.a.word, .string r.prov, .string r.id, .slice p.ta r.attrs.length p.tc]] w (PuPost s r w)) := put_any s ra rc r p w h hi hs hn T
theorem ru_ok (A : Nat → Prop) (s : Sta) (ra : Option Addr) (rc : Nat) (r : Rec) (p : At) (w : World) (h : RecsAt w ra s.recs) (hc : s.recs.length ≤ rc) (hA : IsRecs w A ra s.recs) (hi : IsRec w A p r) (hs : Small r) : Hid (Calls Tryz.prog 24 #[.agg #[.int .u64 s.serial, .string s.lin, .slice ra s.recs.length rc], .agg #[.slice p.pa r.a.path.length p.pc, .string r.a.type, .string r.a.name, .int .i64 r.a.key, .int .u64 r.a.place, .string r.a.word, .string r.prov, .string r.id, .slice p.ta r.attrs.length p.tc]] w (RuPost A s r w)) := rPut_any A s ra rc r p w h hc hA hi hs
theorem ru_cases {A : Nat → Prop} {s : Sta} {r : Rec} {w w' : World} {e : Ending} {l' : List Rec} (hp : PutIs s.recs r l') (hg : Good s.recs) (hr : recB r = true) (hs : Small r) (h : RuPost A s r w e w') :
  ∃ a' c', e = .returned (.agg #[.int .u64 s.serial, .string s.lin, .slice a' l'.length c']) ∧ Hid (IsRecs w' (fun b => A b ∨ w.heap.size ≤ b) a' l') ∧ Hid (l'.length ≤ c') ∧ Hid (Below w.heap.size w w') := by
 obtain ⟨hb, l2, hl, k, hB, a', c', e1, hI, hc⟩ := h
 have e2 := hp.both hg hr hs hl hB
 rw [e2] at e1 hI hc
 exact ⟨a', c', e1, hI, hc, hb⟩
set_option maxHeartbeats 32000000 in
theorem statePuts_any (s : Sta) (ra : Option Addr) (rc : Nat) (r : Rec) (p : At) (w : World) (T : TabsA w) (h : StaIn w ra s) (hc : s.recs.length ≤ rc) (hr : RecIn w p r) :
  Calls Tryz.prog 4 #[staV ra rc s, recV p r] w fun e w' => e = .returned (.bool true) ∧ Below w.heap.size w w' := by
 obtain ⟨w1, hw1, V1, B1⟩ := sta_new w ra rc s
 obtain ⟨w2, hw2, V2, B2⟩ := rec_new w1 p r
 have hl1 := heap_lt V1.out
 have hl2 := heap_lt V2.out
 have B02 : Hid (Below w.heap.size w w2) := B1.out.trans (B2.out.mono (by omega))
 have V12 : Hid (w2.heap[w.heap.size]? = some (.cells (staArr ra rc s) 26 (0, 0))) := (B2.out.block _ hl1).trans V1.out
 have HKA : Hid (∀ W, Below w2.heap.size w2 W → W.heap[w.heap.size]? = some (.cells (staArr ra rc s) 26 (0, 0))) := fun W hb => (hb.block _ (by omega)).trans V12.out
 have HKB : Hid (∀ W, Below w2.heap.size w2 W → W.heap[w1.heap.size]? = some (.cells (recArr p r) 32 (0, 0))) := fun W hb => (hb.block _ (by omega)).trans V2.out
 have HBW : Hid (∀ W, Below w2.heap.size w2 W → Below w.heap.size w W) := fun W hb => B02.out.trans (hb.mono B02.out.size)
 have HT : Hid (∀ W, Below w2.heap.size w2 W → TabsA W) := fun W hb => (T.stays B02.out).stays hb
 have HS : Hid (∀ W, Below w2.heap.size w2 W → StaIn W ra s) := fun W hb => (h.stays B02.out).stays hb
 have HR1 : Hid (∀ W, Below w2.heap.size w2 W → RecIn W p r) := fun W hb => (hr.stays B02.out).stays hb
 have HI : Hid (∀ W, Below w2.heap.size w2 W → IsRec W (fun _ => True) p r) := fun W hb => (HR1.out W hb).isRec
 have HWK : Hid (Calls Tryz.prog 15 #[] w2 fun e w' => e = .returned (.bool true) ∧ Below w2.heap.size w2 w') := wakes18 w2 (T.stays B02.out)
 unfold staV recV
 clear T h hr
 go_enter Tryz.func4, Tryz.ntmps4
 go_wp2_with fail
 refine (Calls.mono HWK.out ?_)
 rintro z w3 ⟨rfl, hb3⟩
 have B3 : Hid (Below w2.heap.size w2 w3) := hb3
 clear hb3 HWK hw1 hw2
 obtain ⟨x30, x31, x32⟩ := sta_cells (HKA.out w3 B3.out)
 obtain ⟨y30, y31, y32, y33, y34, y35, y36, y37, y38⟩ := rec_cells (HKB.out w3 B3.out)
 have HGS := gs_ok s ra rc w3 (HS.out w3 B3.out)
 go_wp2_with fail
 refine (Calls.mono HGS.out ?_)
 rintro z w4 hz
 obtain ⟨g, rfl, hg, hb4⟩ := hz.to
 have B4 : Hid (Below w2.heap.size w2 w4) := B3.out.trans (hb4.out.mono B3.out.size)
 clear hz hb4 HGS x30 x31 x32 y30 y31 y32 y33 y34 y35 y36 y37 y38
 cases g
 case true =>
  go_wp2_with fail
  go_ret
  exact ⟨rfl, HBW.out w4 B4.out⟩
 have hsz := hg.out rfl
 have h30 := hsz.1
 have hn3 : s.recs.length ≤ 3000 := by omega
 have hn2 : s.recs.length ≤ 2000 := by omega
 have h1000 := hsz.2.1
 have HSM := Hid.out (p := Hid _) hsz.2.2
 have HR : Hid (∀ W, Below w2.heap.size w2 W → RecsAt W ra s.recs) := fun W hb => ⟨(HS.out W hb).t, hn3, HSM.out⟩
 clear hsz hg
 obtain ⟨rs, hrs⟩ : ∃ b, rightS s = b := ⟨_, rfl⟩
 have HRR := rr_ok s ra rc w4 (HR.out w4 B4.out) (Nat.le_trans h1000 (by omega)) rs hrs
 have HRS := Hid.out (p := Hid _) hrs
 obtain ⟨x40, x41, x42⟩ := sta_cells (HKA.out w4 B4.out)
 obtain ⟨y40, y41, y42, y43, y44, y45, y46, y47, y48⟩ := rec_cells (HKB.out w4 B4.out)
 clear hrs
 go_wp2_with fail
 refine (Calls.mono HRR.out ?_)
 rintro z w5 ⟨rfl, hb5⟩
 have B5 : Hid (Below w2.heap.size w2 w5) := B4.out.trans (hb5.mono B4.out.size)
 clear hb5 HRR x40 x41 x42 y40 y41 y42 y43 y44 y45 y46 y47 y48
 cases rs
 case false =>
  go_wp2_with fail
  go_ret
  exact ⟨rfl, HBW.out w5 B5.out⟩
 have HG : Hid (Good s.recs) := rightS_good HRS.out HSM.out
 have HGR := gr18_ok r p w5 (HR1.out w5 B5.out)
 obtain ⟨x50, x51, x52⟩ := sta_cells (HKA.out w5 B5.out)
 obtain ⟨y50, y51, y52, y53, y54, y55, y56, y57, y58⟩ := rec_cells (HKB.out w5 B5.out)
 go_wp2_with fail
 refine (Calls.mono HGR.out ?_)
 rintro z w6 hz
 obtain ⟨gr, rfl, hgr, hb6⟩ := hz.to
 have B6 : Hid (Below w2.heap.size w2 w6) := B5.out.trans (hb6.out.mono B5.out.size)
 clear hz hb6 HGR x50 x51 x52 y50 y51 y52 y53 y54 y55 y56 y57 y58
 cases gr
 case true =>
  go_wp2_with fail
  go_ret
  exact ⟨rfl, HBW.out w6 B6.out⟩
 have HRSM : Hid (Small r) := hgr.out rfl
 have HST : Hid (∀ W, Below w2.heap.size w2 W → StaAt W ra rc s) := fun W hb => ⟨HR.out W hb, hc, HG.out.sorted⟩
 have HPU := pu_ok s ra rc r p w6 (HST.out w6 B6.out) (HI.out w6 B6.out) HRSM.out hn2 (HT.out w6 B6.out)
 obtain ⟨x60, x61, x62⟩ := sta_cells (HKA.out w6 B6.out)
 obtain ⟨y60, y61, y62, y63, y64, y65, y66, y67, y68⟩ := rec_cells (HKB.out w6 B6.out)
 clear hgr
 go_wp2_with fail
 refine (Calls.mono HPU.out ?_)
 rintro z w7 hz
 obtain ⟨hb7, hz⟩ := pu_cases HG.out HRSM.out hn2 hz
 have B7 : Hid (Below w2.heap.size w2 w7) := B6.out.trans (hb7.out.mono B6.out.size)
 clear hb7 HPU x60 x61 x62 y60 y61 y62 y63 y64 y65 y66 y67 y68
 rcases hz with ⟨HRB, rfl⟩ | ⟨HRB, l', a', c', HPI, rfl, hST, hGL⟩
 case inl =>
  obtain ⟨z7, hz7, Vz7, Bz7, Zz7⟩ := zsta_new w7
  obtain ⟨w8, ht7⟩ : ∃ w8, (((z7.setCell ⟨w7.heap.size, 0, none⟩ (.int .u64 0)).setCell ⟨w7.heap.size, 1, none⟩ (.string ⟨#[]⟩)).setCell ⟨w7.heap.size, 2, none⟩ (.slice none 0 0)) = w8 := ⟨_, rfl⟩
  have Gt7 : Hid (z7.grownBy w8 (some w7.heap.size)) := by rw [← ht7]; exact (((gb_set _ _ _ _).trans (gb_set _ _ _ _)).trans (gb_set _ _ _ _))
  have V8 : Hid (w8.heap[w7.heap.size]? = some (.cells (staArr none 0 Sta.zero) 26 (0, 0))) := by rw [← ht7]; exact set3 (t := Sta.zero) Vz7.out
  have B78 : Hid (Below w7.heap.size w7 w8) := Bz7.out.grown Gt7.out Bz7.out.size (fun x hx => by injection hx with hx; omega)
  have fz70 := frozen_of Vz7.out 0
  have fz71 := frozen_of Vz7.out 1
  have fz72 := frozen_of Vz7.out 2
  obtain ⟨cz70, cz71, cz72⟩ := sta_cells Vz7.out
  have B8 : Hid (Below w2.heap.size w2 w8) := B7.out.trans (B78.out.mono B7.out.size)
  have HRC := rrec_ok r p w8 (HI.out w8 B8.out) HRSM.out false HRB.out
  obtain ⟨x80, x81, x82⟩ := sta_cells (HKA.out w8 B8.out)
  obtain ⟨y80, y81, y82, y83, y84, y85, y86, y87, y88⟩ := rec_cells (HKB.out w8 B8.out)
  go_wp2_with fail
  refine (Calls.mono HRC.out ?_)
  rintro z w9 ⟨rfl, hb9⟩
  have B9 : Hid (Below w2.heap.size w2 w9) := B8.out.trans (hb9.mono B8.out.size)
  have V9 : Hid (w9.heap[w7.heap.size]? = some (.cells (staArr none 0 Sta.zero) 26 (0, 0))) := (hb9.block _ (heap_lt V8.out)).trans V8.out
  have HSS : Hid (Calls Tryz.prog 20 #[.agg #[.int .u64 0, .string ⟨#[]⟩, .slice none 0 0], .agg #[.int .u64 0, .string ⟨#[]⟩, .slice none 0 0]] w9 fun e w' => e = .returned (.bool true) ∧ Below w9.heap.size w9 w') := sm_ok Sta.zero Sta.zero none none 0 0 w9 (RecsAt.nil _ _) (RecsAt.nil _ _) true ((sameSta_iff _ _).2 rfl)
  obtain ⟨m0, m1, m2⟩ := zsta_cells V9.out
  clear hb9 HRC x80 x81 x82 y80 y81 y82 y83 y84 y85 y86 y87 y88
  go_wp2_with fail
  refine (Calls.mono HSS.out ?_)
  rintro z w10 ⟨rfl, hb10⟩
  have B10 : Hid (Below w2.heap.size w2 w10) := B9.out.trans (hb10.mono B9.out.size)
  clear hb10
  go_wp2_with fail
  go_ret
  exact ⟨rfl, HBW.out w10 B10.out⟩
 case inr =>
  obtain ⟨z7, hz7, Vz7, Bz7, Zz7⟩ := zsta_new w7
  obtain ⟨w8, ht7⟩ : ∃ w8, (((z7.setCell ⟨w7.heap.size, 0, none⟩ (.int .u64 s.serial)).setCell ⟨w7.heap.size, 1, none⟩ (.string s.lin)).setCell ⟨w7.heap.size, 2, none⟩ (.slice a' l'.length c')) = w8 := ⟨_, rfl⟩
  have Gt7 : Hid (z7.grownBy w8 (some w7.heap.size)) := by rw [← ht7]; exact (((gb_set _ _ _ _).trans (gb_set _ _ _ _)).trans (gb_set _ _ _ _))
  have V8 : Hid (w8.heap[w7.heap.size]? = some (.cells (staArr a' c' { s with recs := l' }) 26 (0, 0))) := by rw [← ht7]; exact set3 (t := { s with recs := l' }) Vz7.out
  have B78 : Hid (Below w7.heap.size w7 w8) := Bz7.out.grown Gt7.out Bz7.out.size (fun x hx => by injection hx with hx; omega)
  have fz70 := frozen_of Vz7.out 0
  have fz71 := frozen_of Vz7.out 1
  have fz72 := frozen_of Vz7.out 2
  obtain ⟨cz70, cz71, cz72⟩ := sta_cells Vz7.out
  have B8 : Hid (Below w2.heap.size w2 w8) := B7.out.trans (B78.out.mono B7.out.size)
  have HSX : Hid (∀ W, Below w8.heap.size w8 W → StaAt W a' c' { s with recs := l' }) := fun W hb => (hST.out.stays B78.out).stays hb
  have HRC := rrec_ok r p w8 (HI.out w8 B8.out) HRSM.out true HRB.out
  obtain ⟨x80, x81, x82⟩ := sta_cells (HKA.out w8 B8.out)
  obtain ⟨y80, y81, y82, y83, y84, y85, y86, y87, y88⟩ := rec_cells (HKB.out w8 B8.out)
  go_wp2_with fail
  refine (Calls.mono HRC.out ?_)
  rintro z w9 ⟨rfl, hb9⟩
  have B9 : Hid (Below w2.heap.size w2 w9) := B8.out.trans (hb9.mono B8.out.size)
  have B89 : Hid (Below w8.heap.size w8 w9) := hb9
  have V9 : Hid (w9.heap[w7.heap.size]? = some (.cells (staArr a' c' { s with recs := l' }) 26 (0, 0))) := (hb9.block _ (heap_lt V8.out)).trans V8.out
  have HF1 := fi_ok { s with recs := l' } a' c' r.a p.pa p.pc w9 (HSX.out w9 hb9) ((HI.out w9 B9.out).adr HRSM.out) (HT.out w9 B9.out)
  obtain ⟨m0, m1, m2⟩ := sta_cells V9.out
  clear hb9 HRC x80 x81 x82 y80 y81 y82 y83 y84 y85 y86 y87 y88
  obtain ⟨x90, x91, x92⟩ := sta_cells (HKA.out w9 B9.out)
  obtain ⟨y90, y91, y92, y93, y94, y95, y96, y97, y98⟩ := rec_cells (HKB.out w9 B9.out)
  go_wp2_with fail
  refine (Calls.mono HF1.out ?_)
  rintro z w10 hz
  obtain ⟨hb10, hz⟩ := fi_cases (s := { s with recs := l' }) hGL.out HRSM.out.p hz
  have HRIN : Hid (r ∈ l') := (HPI.out.mem HG.out HRB.out HRSM.out r).2 (.inl rfl)
  rcases hz with ⟨i1, hi1, p2, r2, e1, e2, rfl, hI2⟩ | ⟨hno, _⟩
  case inr => exact absurd rfl (hno.out r HRIN.out)
  obtain rfl : r2 = r := hGL.out.inj (by rw [← e1.out]; exact List.getElem_mem hi1) HRIN.out e2.out
  have B10 : Hid (Below w2.heap.size w2 w10) := B9.out.trans (hb10.out.mono B9.out.size)
  have B810 : Hid (Below w8.heap.size w8 w10) := B89.out.trans (hb10.out.mono B89.out.size)
  clear hb10 HF1 m0 m1 m2 hz7 ht7 fz70 fz71 fz72 cz70 cz71 cz72 x90 x91 x92 y90 y91 y92 y93 y94 y95 y96 y97 y98
  obtain ⟨z10, hz10, Vz10, Bz10, Zz10⟩ := zrec_new w10
  obtain ⟨w11, ht10⟩ : ∃ w11, (((((((((z10.setCell ⟨w10.heap.size, 0, none⟩ (.slice p2.pa r2.a.path.length p2.pc)).setCell ⟨w10.heap.size, 1, none⟩ (.string r2.a.type)).setCell ⟨w10.heap.size, 2, none⟩ (.string r2.a.name)).setCell ⟨w10.heap.size, 3, none⟩ (.int .i64 r2.a.key)).setCell ⟨w10.heap.size, 4, none⟩ (.int .u64 r2.a.place)).setCell ⟨w10.heap.size, 5, none⟩ (.string r2.a.word)).setCell ⟨w10.heap.size, 6, none⟩ (.string r2.prov)).setCell ⟨w10.heap.size, 7, none⟩ (.string r2.id)).setCell ⟨w10.heap.size, 8, none⟩ (.slice p2.ta r2.attrs.length p2.tc)) = w11 := ⟨_, rfl⟩
  have Gt10 : Hid (z10.grownBy w11 (some w10.heap.size)) := by rw [← ht10]; exact (((((((((gb_set _ _ _ _).trans (gb_set _ _ _ _)).trans (gb_set _ _ _ _)).trans (gb_set _ _ _ _)).trans (gb_set _ _ _ _)).trans (gb_set _ _ _ _)).trans (gb_set _ _ _ _)).trans (gb_set _ _ _ _)).trans (gb_set _ _ _ _))
  have V11 : Hid (w11.heap[w10.heap.size]? = some (.cells (recArr p2 r2) 32 (0, 0))) := by rw [← ht10]; exact set9 Vz10.out p2 r2
  have B1011 : Hid (Below w10.heap.size w10 w11) := Bz10.out.grown Gt10.out Bz10.out.size (fun x hx => by injection hx with hx; omega)
  obtain ⟨fz100, fz101, fz102, fz103, fz104, fz105, fz106, fz107, fz108⟩ := rec_frozen Vz10.out
  obtain ⟨cz100, cz101, cz102, cz103, cz104, cz105, cz106, cz107, cz108⟩ := rec_cells Vz10.out
  have B11 : Hid (Below w2.heap.size w2 w11) := B10.out.trans (B1011.out.mono B10.out.size)
  have B811 : Hid (Below w8.heap.size w8 w11) := B810.out.trans (B1011.out.mono B810.out.size)
  have HK2 : Hid (∀ W, Below w11.heap.size w11 W → Below w2.heap.size w2 W) := fun W hb => B11.out.trans (hb.mono B11.out.size)
  have HK8 : Hid (∀ W, Below w11.heap.size w11 W → Below w8.heap.size w8 W) := fun W hb => B811.out.trans (hb.mono B811.out.size)
  have HKX : Hid (∀ W, Below w11.heap.size w11 W → W.heap[w7.heap.size]? = some (.cells (staArr a' c' { s with recs := l' }) 26 (0, 0))) := fun W hb => ((HK8.out W hb).block _ (heap_lt V8.out)).trans V8.out
  have HKY : Hid (∀ W, Below w11.heap.size w11 W → W.heap[w10.heap.size]? = some (.cells (recArr p2 r2) 32 (0, 0))) := fun W hb => (hb.block _ (heap_lt V11.out)).trans V11.out
  have HI2 : Hid (∀ W, Below w11.heap.size w11 W → IsRec W (fun _ => True) p2 r2) := fun W hb => (hI2.out.turn (Turn.below B1011.out)).turn (Turn.below hb)
  have HLIN : Hid (decide (badZ s.lin.data.toList < 0) = true) := rightS_lin HRS.out
  have HL6 : Hid (s.lin.size ≤ 6000) := by show s.lin.size ≤ 6000; omega
  have HTRUE : Hid (∀ (W : World), Below w2.heap.size w2 W → IsRecs W (fun _ => True) ra s.recs) := fun W hb => (HR.out W hb).t
  have hdr : Below w11.heap.size w11 w11.drew := (Below.refl _ _).drew
  have HDR : Hid (Below w11.heap.size w11 w11.drew) := hdr
  have HRU := ru_ok _ s ra rc r2 p w11.drew (HR.out _ (HK2.out _ hdr)) hc (HTRUE.out _ (HK2.out _ hdr)) (HI.out _ (HK2.out _ hdr)) HRSM.out
  obtain ⟨rr0, rr1, rr2, rr3, rr4, rr5, rr6, rr7, rr8⟩ := rec_cells (HKY.out w11 (Below.refl _ _))
  obtain ⟨m0, m1, m2⟩ := sta_cells (HKX.out w11 (Below.refl _ _))
  obtain ⟨x10, x11, x12⟩ := sta_cells (HKA.out w11 B11.out)
  obtain ⟨y10, y11, y12, y13, y14, y15, y16, y17, y18⟩ := rec_cells (HKB.out w11 B11.out)
  clear hdr
  go_wp2_with fail
  go_region_held3 (fun w' => w'.cell? ⟨w10.heap.size, 0, none⟩ = some (.slice p2.pa r2.a.path.length p2.pc) ∧ w'.cell? ⟨w10.heap.size, 1, none⟩ = some (.string r2.a.type) ∧ w'.cell? ⟨w10.heap.size, 2, none⟩ = some (.string r2.a.name) ∧ w'.cell? ⟨w10.heap.size, 3, none⟩ = some (.int .i64 r2.a.key) ∧ w'.cell? ⟨w10.heap.size, 4, none⟩ = some (.int .u64 r2.a.place) ∧ w'.cell? ⟨w10.heap.size, 5, none⟩ = some (.string r2.a.word) ∧ w'.cell? ⟨w10.heap.size, 6, none⟩ = some (.string r2.prov) ∧ w'.cell? ⟨w10.heap.size, 7, none⟩ = some (.string r2.id) ∧ w'.cell? ⟨w10.heap.size, 8, none⟩ = some (.slice p2.ta r2.attrs.length p2.tc) ∧ w'.cell? ⟨w.heap.size, 0, none⟩ = some (.int .u64 s.serial) ∧ w'.cell? ⟨w.heap.size, 1, none⟩ = some (.string s.lin) ∧ w'.cell? ⟨w.heap.size, 2, none⟩ = some (.slice ra s.recs.length rc) ∧ w'.cell? ⟨w7.heap.size, 0, none⟩ = some (.int .u64 s.serial) ∧ w'.cell? ⟨w7.heap.size, 1, none⟩ = some (.string s.lin) ∧ w'.cell? ⟨w7.heap.size, 2, none⟩ = some (.slice a' l'.length c') ∧ w'.cell? ⟨w1.heap.size, 0, none⟩ = some (.slice p.pa r2.a.path.length p.pc) ∧ w'.cell? ⟨w1.heap.size, 1, none⟩ = some (.string r2.a.type) ∧ w'.cell? ⟨w1.heap.size, 2, none⟩ = some (.string r2.a.name) ∧ w'.cell? ⟨w1.heap.size, 3, none⟩ = some (.int .i64 r2.a.key) ∧ w'.cell? ⟨w1.heap.size, 4, none⟩ = some (.int .u64 r2.a.place) ∧ w'.cell? ⟨w1.heap.size, 5, none⟩ = some (.string r2.a.word) ∧ w'.cell? ⟨w1.heap.size, 6, none⟩ = some (.string r2.prov) ∧ w'.cell? ⟨w1.heap.size, 7, none⟩ = some (.string r2.id) ∧ w'.cell? ⟨w1.heap.size, 8, none⟩ = some (.slice p.ta r2.attrs.length p.tc)) (go_keep)
   (first
    | (go_at_call 26; refine (Calls.mono (sre_ok r2 r2 p2 p w14 (HI2.out w14 C14.out) (HI.out w14 (HK2.out w14 C14.out)) HRSM.out HRSM.out true ((sameRec_iff _ _).2 rfl)).out ?_); rintro z w15 ⟨rfl, hb15⟩; have C15 : Hid (Below w11.heap.size w11 w15) := C14.out.trans (hb15.mono C14.out.size); clear hb15; obtain ⟨dr0, dr1, dr2, dr3, dr4, dr5, dr6, dr7, dr8⟩ := rec_cells (HKY.out w15 C15.out); obtain ⟨dx0, dx1, dx2⟩ := sta_cells (HKA.out w15 (HK2.out w15 C15.out)); obtain ⟨dm0, dm1, dm2⟩ := sta_cells (HKX.out w15 C15.out); obtain ⟨dy0, dy1, dy2, dy3, dy4, dy5, dy6, dy7, dy8⟩ := rec_cells (HKB.out w15 (HK2.out w15 C15.out)))
    | (go_at_call 25; refine (Calls.mono (pr18_ok { s with recs := l' } a' c' w13 (HSX.out _ (HK8.out w13 C13.out)).r HL6.out (HT.out w13 (HK2.out w13 C13.out)) true (good_rightS hGL.out HLIN.out)).out ?_); rintro z w14 ⟨rfl, hb14⟩; have C14 : Hid (Below w11.heap.size w11 w14) := C13.out.trans (hb14.mono C13.out.size); clear hb14; obtain ⟨cr0, cr1, cr2, cr3, cr4, cr5, cr6, cr7, cr8⟩ := rec_cells (HKY.out w14 C14.out); obtain ⟨cx0, cx1, cx2⟩ := sta_cells (HKA.out w14 (HK2.out w14 C14.out)); obtain ⟨cm0, cm1, cm2⟩ := sta_cells (HKX.out w14 C14.out); obtain ⟨cy0, cy1, cy2, cy3, cy4, cy5, cy6, cy7, cy8⟩ := rec_cells (HKB.out w14 (HK2.out w14 C14.out)))
    | (go_at_call 20; refine (Calls.mono (sm_ok { s with recs := l' } { s with recs := l' } a' a4 c' c4 w12 (HSX.out _ (HK8.out w12 C12.out)).r HR4.out true ((sameSta_iff _ _).2 rfl)).out ?_); rintro z w13 ⟨rfl, hb13⟩; have C13 : Hid (Below w11.heap.size w11 w13) := C12.out.trans (hb13.mono C12.out.size); clear hb13; obtain ⟨br0, br1, br2, br3, br4, br5, br6, br7, br8⟩ := rec_cells (HKY.out w13 C13.out); obtain ⟨bx0, bx1, bx2⟩ := sta_cells (HKA.out w13 (HK2.out w13 C13.out)); obtain ⟨bm0, bm1, bm2⟩ := sta_cells (HKX.out w13 C13.out); obtain ⟨by0, by1, by2, by3, by4, by5, by6, by7, by8⟩ := rec_cells (HKB.out w13 (HK2.out w13 C13.out)))
    | (go_at_call 24; refine (Calls.mono HRU.out ?_); rintro z w12 hz; obtain ⟨a4, c4, rfl, hI4, hC4, hb12⟩ := ru_cases HPI.out HG.out HRB.out HRSM.out hz; have C12 : Hid (Below w11.heap.size w11 w12) := HDR.out.trans hb12.out; have HR4 : Hid (RecsAt w12 a4 l') := ⟨hI4.out.any, (HSX.out _ (HK8.out w12 C12.out)).r.n, hGL.out.s⟩; clear hz hb12 hI4; obtain ⟨ar0, ar1, ar2, ar3, ar4, ar5, ar6, ar7, ar8⟩ := rec_cells (HKY.out w12 C12.out); obtain ⟨ax0, ax1, ax2⟩ := sta_cells (HKA.out w12 (HK2.out w12 C12.out)); obtain ⟨am0, am1, am2⟩ := sta_cells (HKX.out w12 C12.out); obtain ⟨ay0, ay1, ay2, ay3, ay4, ay5, ay6, ay7, ay8⟩ := rec_cells (HKB.out w12 (HK2.out w12 C12.out))))
  all_goals
   obtain ⟨fx0, fx1, fx2⟩ := sta_cells (HKA.out w15 (HK2.out w15 C15.out))
   have HKW : Hid (∀ W, Below w15.heap.size w15 W → Below w11.heap.size w11 W) := fun W hb => C15.out.trans (hb.mono C15.out.size)
   go_wp2_with fail
   clear rr0 rr1 rr2 rr3 rr4 rr5 rr6 rr7 rr8 m0 m1 m2 x10 x11 x12 y10 y11 y12 y13 y14 y15 y16 y17 y18 ar0 ar1 ar2 ar3 ar4 ar5 ar6 ar7 ar8 ax0 ax1 ax2 am0 am1 am2 ay0 ay1 ay2 ay3 ay4 ay5 ay6 ay7 ay8 br0 br1 br2 br3 br4 br5 br6 br7 br8 bx0 bx1 bx2 bm0 bm1 bm2 by0 by1 by2 by3 by4 by5 by6 by7 by8 cr0 cr1 cr2 cr3 cr4 cr5 cr6 cr7 cr8 cx0 cx1 cx2 cm0 cm1 cm2 cy0 cy1 cy2 cy3 cy4 cy5 cy6 cy7 cy8 dr0 dr1 dr2 dr3 dr4 dr5 dr6 dr7 dr8 dx0 dx1 dx2 dm0 dm1 dm2 dy0 dy1 dy2 dy3 dy4 dy5 dy6 dy7 dy8 hz10 ht10 fx0 fx1 fx2
   go_loopw [77] (fun p77 wr => ∃ i : Nat, p77 = .int .i64 i ∧ i ≤ s.recs.length ∧ Hid (Below w15.heap.size w15 wr)) (fun p77 _ => s.recs.length - (intOf p77).toNat)
   case atStart => exact ⟨0, rfl, Nat.zero_le _, Below.refl _ _⟩
   case round =>
    obtain ⟨i, rfl, hi, hB⟩ := hrel
    have D0 : Hid (Below w11.heap.size w11 wr) := HKW.out wr hB.out
    by_cases hlt : i < s.recs.length
    ·obtain ⟨b, o, p3, hra, hb, hcr, hir⟩ := (HR.out wr (HK2.out wr D0.out)).get hlt
     have hmem : s.recs[i] ∈ s.recs := List.getElem_mem hlt
     have hsm := HSM.out _ hmem
     obtain ⟨q, hq⟩ : ∃ q, s.recs[i] = q := ⟨_, rfl⟩
     rw [hq] at hcr hir hsm hmem
     have HMEM := Hid.out (p := Hid _) hmem
     have HQS := Hid.out (p := Hid _) hsm
     obtain ⟨w16, hw16, V16, B16⟩ := rec_new wr p3 q
     have D16 : Hid (Below w11.heap.size w11 w16) := D0.out.trans (B16.out.mono D0.out.size)
     have HIQ : Hid (∀ W, Below w16.heap.size w16 W → IsRec W (fun _ => True) p3 q) := fun W hb => (hir.turn (Turn.below B16.out)).turn (Turn.below hb)
     have HF2 := fi_ok { s with recs := l' } a' c' q.a p3.pa p3.pc w16 (HSX.out _ (HK8.out _ D16.out)) ((HIQ.out w16 (Below.refl _ _)).adr hsm) (HT.out _ (HK2.out _ D16.out))
     obtain ⟨z0, z1, z2, z3, z4, z5, z6, z7, z8⟩ := recs_nine hcr
     obtain ⟨u0, u1, u2, u3, u4, u5, u6, u7, u8⟩ := rec_cells V16.out
     obtain ⟨m0, m1, m2⟩ := sta_cells (HKX.out w16 D16.out)
     rw [hra]
     clear hcr hir hsm hmem hq hra
     go_wp2_with fail
     refine (Calls.mono HF2.out ?_)
     rintro z w17 hz
     obtain ⟨hb17, hz⟩ := fi_cases (s := { s with recs := l' }) hGL.out HQS.out.p hz
     have HMX : Hid (∃ x ∈ l', x.a = q.a) := by
      by_cases e : q.a = r2.a
      ·exact ⟨r2, HRIN.out, e.symm⟩
      ·exact ⟨q, (HPI.out.mem HG.out HRB.out HRSM.out q).2 (.inr ⟨HMEM.out, e⟩), rfl⟩
     rcases hz with ⟨i2, hi2, p4, r4, e3, e4, rfl, hI4⟩ | ⟨hno, _⟩
     case inr => obtain ⟨x, hx, e⟩ := HMX.out; exact absurd e (hno.out x hx)
     have HR4M : Hid (r4 ∈ l') := by rw [← e3.out]; exact List.getElem_mem hi2
     have B1617 : Hid (Below w16.heap.size w16 w17) := hb17.out
     have D17 : Hid (Below w11.heap.size w11 w17) := D16.out.trans (hb17.out.mono D16.out.size)
     have B17 : Hid (Below w15.heap.size w15 w17) := hB.out.trans ((B16.out.trans (hb17.out.mono B16.out.size)).mono hB.out.size)
     clear hb17 HF2 z0 z1 z2 z3 z4 z5 z6 z7 z8 u0 u1 u2 u3 u4 u5 u6 u7 u8 m0 m1 m2
     obtain ⟨z17, hz17, Vz17, Bz17, Zz17⟩ := zrec_new w17
     obtain ⟨w18, ht17⟩ : ∃ w18, (((((((((z17.setCell ⟨w17.heap.size, 0, none⟩ (.slice p4.pa r4.a.path.length p4.pc)).setCell ⟨w17.heap.size, 1, none⟩ (.string r4.a.type)).setCell ⟨w17.heap.size, 2, none⟩ (.string r4.a.name)).setCell ⟨w17.heap.size, 3, none⟩ (.int .i64 r4.a.key)).setCell ⟨w17.heap.size, 4, none⟩ (.int .u64 r4.a.place)).setCell ⟨w17.heap.size, 5, none⟩ (.string r4.a.word)).setCell ⟨w17.heap.size, 6, none⟩ (.string r4.prov)).setCell ⟨w17.heap.size, 7, none⟩ (.string r4.id)).setCell ⟨w17.heap.size, 8, none⟩ (.slice p4.ta r4.attrs.length p4.tc)) = w18 := ⟨_, rfl⟩
     have Gt17 : Hid (z17.grownBy w18 (some w17.heap.size)) := by rw [← ht17]; exact (((((((((gb_set _ _ _ _).trans (gb_set _ _ _ _)).trans (gb_set _ _ _ _)).trans (gb_set _ _ _ _)).trans (gb_set _ _ _ _)).trans (gb_set _ _ _ _)).trans (gb_set _ _ _ _)).trans (gb_set _ _ _ _)).trans (gb_set _ _ _ _))
     have V18 : Hid (w18.heap[w17.heap.size]? = some (.cells (recArr p4 r4) 32 (0, 0))) := by rw [← ht17]; exact set9 Vz17.out p4 r4
     have B18 : Hid (Below w17.heap.size w17 w18) := Bz17.out.grown Gt17.out Bz17.out.size (fun x hx => by injection hx with hx; omega)
     obtain ⟨fz170, fz171, fz172, fz173, fz174, fz175, fz176, fz177, fz178⟩ := rec_frozen Vz17.out
     obtain ⟨cz170, cz171, cz172, cz173, cz174, cz175, cz176, cz177, cz178⟩ := rec_cells Vz17.out
     have D18 : Hid (Below w11.heap.size w11 w18) := D17.out.trans (B18.out.mono D17.out.size)
     have B1618 : Hid (Below w16.heap.size w16 w18) := B1617.out.trans (B18.out.mono B1617.out.size)
     have V1618 : Hid (w18.heap[wr.heap.size]? = some (.cells (recArr p3 q) 32 (0, 0))) := (B1618.out.block _ (heap_lt V16.out)).trans V16.out
     obtain ⟨sa, hsa⟩ : ∃ b, sameA q.a r2.a = b := ⟨_, rfl⟩
     have HSA := rsa_ok q p3 r2.a p.pa p.pc w18 (HIQ.out w18 B1618.out) HQS.out ((HI.out _ (HK2.out _ D18.out)).adr HRSM.out) sa hsa
     have HSAE : Hid (sa = false → r4 = q) := fun h => by
      have hne : q.a ≠ r2.a := fun e => by rw [← hsa, (sameA_iff _ _).2 e] at h; cases h
      exact hGL.out.inj HR4M.out ((HPI.out.mem HG.out HRB.out HRSM.out q).2 (.inr ⟨HMEM.out, hne⟩)) e4.out
     obtain ⟨u0, u1, u2, u3, u4, u5, u6, u7, u8⟩ := rec_cells V1618.out
     obtain ⟨y0, y1, y2, y3, y4, y5, y6, y7, y8⟩ := rec_cells (HKB.out w18 (HK2.out w18 D18.out))
     clear hsa
     go_wp2_with fail
     refine (Calls.mono HSA.out ?_)
     rintro z w19 ⟨rfl, hb19⟩
     have B19 : Hid (Below w15.heap.size w15 w19) := B17.out.trans ((B18.out.trans (hb19.mono B18.out.size)).mono B17.out.size)
     have B1819 : Hid (Below w18.heap.size w18 w19) := hb19
     clear hb19 HSA y0 y1 y2 y3 y4 y5 y6 y7 y8 u0 u1 u2 u3 u4 u5 u6 u7 u8
     cases sa
     case true =>
      go_wp2_with fail
      go_roundw
      case rel => exact ⟨i + 1, by go_num, by omega, B19.out⟩
      case measure => simp [intOf]; omega
     case false =>
      obtain rfl := HSAE.out rfl
      have V19 : Hid (w19.heap[w17.heap.size]? = some (.cells (recArr p4 r4) 32 (0, 0))) := (B1819.out.block _ (heap_lt V18.out)).trans V18.out
      have V1619 : Hid (w19.heap[wr.heap.size]? = some (.cells (recArr p3 r4) 32 (0, 0))) := (B1819.out.block _ (heap_lt V1618.out)).trans V1618.out
      have B1619 : Hid (Below w16.heap.size w16 w19) := B1618.out.trans (B1819.out.mono B1618.out.size)
      have HSE := sre_ok r4 r4 p4 p3 w19 ((hI4.out.turn (Turn.below B18.out)).turn (Turn.below B1819.out)) (HIQ.out w19 B1619.out) HQS.out HQS.out true ((sameRec_iff _ _).2 rfl)
      obtain ⟨u0, u1, u2, u3, u4, u5, u6, u7, u8⟩ := rec_cells V1619.out
      obtain ⟨y0, y1, y2, y3, y4, y5, y6, y7, y8⟩ := rec_cells V19.out
      go_wp2_with fail
      refine (Calls.mono HSE.out ?_)
      rintro z w20 ⟨rfl, hb20⟩
      have B20 : Hid (Below w15.heap.size w15 w20) := B19.out.trans (hb20.mono B19.out.size)
      clear hb20
      go_wp2_with fail
      go_roundw
      case rel => exact ⟨i + 1, by go_num, by omega, B20.out⟩
      case measure => simp [intOf]; omega
    ·go_wp2_with fail
     go_ret
     exact ⟨rfl, HBW.out wr (HK2.out wr D0.out)⟩
theorem statePuts_arg (v : Value) (s : Sta) (u : Value) (r : Rec) (w : World) (h : StaArg w v s) (h' : RecArg w u r) (T : TabsA w) :
  Calls Tryz.prog 4 #[v, u] w fun e w' => e = .returned (.bool true) ∧ Below w.heap.size w w' := by
 obtain ⟨ra, rc, rfl, h1, h2, _, _⟩ := h
 obtain ⟨p, rfl, h3⟩ := h'
 exact statePuts_any s ra rc r p w T h1 h2 h3
end Go.Proofs.YtckflnibkglheaaGreatDoor.State
