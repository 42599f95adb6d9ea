/- state.search. -/
import Derived.Test.YtehghladpnpcoaaGreatDoorZStJ
set_option linter.unusedVariables false
set_option linter.unusedSimpArgs false
set_option maxRecDepth 100000
set_option maxHeartbeats 16000000
namespace Go.Proofs.YtehghladpnpcoaaGreatDoor.State
open Go.RowKit Go.Shelf Go.Proofs.YtehghladpnpcoaaGreatDoor.Utf Go.Proofs.YtehghladpnpcoaaGreatDoor.Strs Go.Proofs.YtehghladpnpcoaaGreatDoor.Addr
open Go.Proofs.YtehghladpnpcoaaGreatDoor.Jdec (IsTexts Turn infoStr gb_set gb_below gb_drew gb_refl)
theorem less_trans {x y z : List UInt8} (h1 : Op.bytesLess x y = true) (h2 : Op.bytesLess y z = true) : Op.bytesLess x z = true := by
 rw [bytesLess_eq, dtQ] at *
 exact List.lt_trans h1 h2
theorem less_irrefl (x : List UInt8) : Op.bytesLess x x = false := by
 rw [bytesLess_eq, dfQ]
 exact List.lt_irrefl x
def Sorted (l : List Rec) : Prop := ∀ i j (hi : i < l.length) (hj : j < l.length), i < j → Op.bytesLess (printA l[i].a) (printA l[j].a) = true
structure Place (l : List Rec) (t : List UInt8) (i : Nat) : Prop where
 n : i ≤ l.length
 lo : ∀ m (h : m < l.length), m < i → Op.bytesLess (printA l[m].a) t = true
 hi : ∀ m (h : m < l.length), i ≤ m → Op.bytesLess (printA l[m].a) t = false
theorem scmp_any (r : Rec) (p : At) (t : ByteArray) (w : World) (h : IsRec w (fun _ => True) p r) (hs : Small r) (T : TabsA w) : Calls Tryz.prog 98 #[.agg #[.slice p.pa r.a.path.length p.pc, .string r.a.type, .string r.a.name, .int .i64 r.a.key, .int .u64 r.a.place, .string r.a.word, .string r.prov, .string r.id, .slice p.ta r.attrs.length p.tc], .string t] w fun e w' => e = .returned (.int .i64 (Lib.compareBytes (printA r.a) t.data.toList)) ∧ Below w.heap.size w w' := by
 obtain ⟨w1, hw1, V1, B1⟩ := rec_new w p r
 have hir := h.turn (Turn.below B1.out)
 have hpr : Hid (Calls Tryz.prog 43 #[.agg #[.slice p.pa r.a.path.length p.pc, .string r.a.type, .string r.a.name, .int .i64 r.a.key, .int .u64 r.a.place, .string r.a.word]] w1 fun e w' => e = .returned (.string ⟨(printA r.a).toArray⟩) ∧ Below w1.heap.size w1 w') := print_any r.a p.pa p.pc _ w1 hir.path hs.l hs.s hs.ty hs.nm hs.wd hs.p (T.stays B1.out)
 have HCM : Hid (∀ W x, Calls Tryz.prog 72 #[.string x, .string t] W fun e w' => e = .returned (.int .i64 (Lib.compareBytes x.data.toList t.data.toList)) ∧ w' = W) := fun W x => Tryz.strings_Compare x t W
 obtain ⟨x0, x1, x2, x3, x4, x5, x6, x7, x8⟩ := rec_cells V1.out
 obtain ⟨q, hq⟩ : ∃ q : ByteArray, (⟨(printA r.a).toArray⟩ : ByteArray) = q := ⟨_, rfl⟩
 rw [hq] at hpr
 have HQ : Hid (printA r.a = q.data.toList) := by rw [Hid, ← hq]
 clear h hs hir T hq
 go_enter Tryz.func98, Tryz.ntmps98
 go_wp2_with fail
 refine (Calls.mono hpr.out ?_)
 rintro z w2 ⟨rfl, hb2⟩
 have B2 : Hid (Below w.heap.size w w2) := B1.out.trans (hb2.mono B1.out.size)
 clear hb2
 go_wp2_with fail
 refine (Calls.mono (HCM.out _ q) ?_)
 rintro z w3 ⟨rfl, rfl⟩
 go_wp2_with fail
 go_ret
 exact ⟨by rw [HQ.out]; rfl, B2.out⟩
theorem scmp_ok (r : Rec) (p : At) (t : ByteArray) (w : World) (h : IsRec w (fun _ => True) p r) (hs : Small r) (T : TabsA w) :
  Hid (Calls Tryz.prog 98 #[.agg #[.slice p.pa r.a.path.length p.pc, .string r.a.type, .string r.a.name, .int .i64 r.a.key, .int .u64 r.a.place, .string r.a.word, .string r.prov, .string r.id, .slice p.ta r.attrs.length p.tc], .string t] w fun e w' => e = .returned (.int .i64 (Lib.compareBytes (printA r.a) t.data.toList)) ∧ Below w.heap.size w w') := scmp_any r p t w h hs T
theorem bsf_any (l : List Rec) (ra : Option Addr) (rc : Nat) (t : ByteArray) (w : World) (h : RecsAt w ra l) (hsr : Sorted l) (T : TabsA w) : Calls Tryz.prog 97 #[.slice ra l.length rc, .string t, .func (.func 98) #[] #[]] w fun e w' => ∃ i : Nat, ∃ ok : Bool, e = .returned (.tuple #[.int .i64 i, .bool ok]) ∧ Place l t.data.toList i ∧ (ok = true ↔ ∃ h : i < l.length, printA l[i].a = t.data.toList) ∧ Below w.heap.size w w' := by
 have HR : Hid (∀ W, Below w.heap.size w W → RecsAt W ra l) := fun W hb => h.stays hb
 have HT : Hid (∀ W, Below w.heap.size w W → TabsA W) := fun W hb => T.stays hb
 have HSR := hdQ hsr
 have hn := h.n
 clear h hsr T
 go_enter Tryz.func97, Tryz.ntmps97
 go_wp2_with fail
 go_loopw [9, 10] (fun p9 p10 wr => ∃ i j : Nat, p9 = .int .i64 i ∧ p10 = .int .i64 j ∧ i ≤ j ∧ j ≤ l.length ∧ Hid (∀ m (h : m < l.length), m < i → Op.bytesLess (printA l[m].a) t.data.toList = true) ∧ Hid (∀ m (h : m < l.length), j ≤ m → Op.bytesLess (printA l[m].a) t.data.toList = false) ∧ Hid (Below w.heap.size w wr)) (fun p9 p10 _ => (intOf p10).toNat - (intOf p9).toNat)
 case atStart => exact ⟨0, l.length, rfl, rfl, Nat.zero_le _, Nat.le_refl _, fun m _ h => by omega, fun m _ h => by omega, Below.refl _ _⟩
 case round =>
  obtain ⟨i, j, rfl, rfl, hij, hj, hlo, hhi, hB⟩ := hrel
  by_cases hlt : i < j
  ·obtain ⟨m, hm⟩ : ∃ m, (i + j) / 2 = m := ⟨_, rfl⟩
   have hmi : i ≤ m := by omega
   have hmj : m < j := by omega
   have hml : m < l.length := by omega
   obtain ⟨s, hs⟩ : ∃ s, i + j = s := ⟨_, rfl⟩
   have gs : (i : Int) + (j : Int) = (s : Int) := by omega
   have w1 : IntKind.i64.wrap (s : Int) = (s : Int) := IntWalk.i64_in _ (by omega)
   have w2 : IntKind.u64.wrap (s : Int) = (s : Int) := IntWalk.u64_in _ (by omega)
   have gm : (s : Int) / 2 = (m : Int) := by omega
   have w3 : IntKind.i64.wrap (m : Int) = (m : Int) := IntWalk.i64_in _ (by omega)
   have w4 : IntKind.u64.wrap (m : Int) = (m : Int) := IntWalk.u64_in _ (by omega)
   obtain ⟨b, o, p, hra, hb, hcr, hir⟩ := (HR.out wr hB.out).get hml
   have hsr := (HR.out wr hB.out).s _ (List.getElem_mem hml)
   obtain ⟨r, hr⟩ : ∃ r, l[m] = r := ⟨_, rfl⟩
   rw [hr] at hcr hir hsr
   obtain ⟨z0, z1, z2, z3, z4, z5, z6, z7, z8⟩ := recs_nine hcr
   have HCP := scmp_ok r p t wr hir hsr (HT.out wr hB.out)
   have HRr := hdQ hr
   have HRA : Hid (ra = some ⟨b, o, none⟩) := hra
   have HLO : Hid (Op.bytesLess (printA r.a) t.data.toList = true → ∀ k (h : k < l.length), k < m + 1 → Op.bytesLess (printA l[k].a) t.data.toList = true) := fun hr2 k h h2 => by
    by_cases e : k = m
    ·subst e; rw [hr]; exact hr2
    ·have := HSR.out k m h hml (by omega)
     rw [hr] at this
     exact less_trans this hr2
   have HHI : Hid (Op.bytesLess (printA r.a) t.data.toList = false → ∀ k (h : k < l.length), m ≤ k → Op.bytesLess (printA l[k].a) t.data.toList = false) := fun hr2 k h h2 => by
    by_cases e : k = m
    ·subst e; rw [hr]; exact hr2
    ·have := HSR.out m k hml h (by omega)
     rw [hr] at this
     cases h3 : Op.bytesLess (printA l[k].a) t.data.toList
     ·rfl
     ·rw [less_trans this h3] at hr2; cases hr2
   clear hcr hir hsr hm hs hr
   rw [hra]
   clear hra
   go_wp2_with fail
   refine (Calls.mono HCP.out ?_)
   rintro z w5 ⟨rfl, hb5⟩
   have B5 : Hid (Below w.heap.size w w5) := hB.out.trans (hb5.mono hB.out.size)
   have hcc := cmp_cases (printA r.a) t.data.toList
   obtain ⟨c, hc⟩ : ∃ c, Lib.compareBytes (printA r.a) t.data.toList = c := ⟨_, rfl⟩
   rw [hc] at hcc ⊢
   clear hc hb5 z0 z1 z2 z3 z4 z5 z6 z7 z8 HCP
   rcases hcc with ⟨rfl, h2, h3⟩ | ⟨rfl, h2, h3⟩ | ⟨rfl, h2, h3⟩
   ·have HN := HLO.out h2
    have HN2 := hdQ HN
    clear HN h2 h3
    go_wp2_with fail
    go_roundw
    case rel => exact ⟨m + 1, j, by go_num, rfl, by omega, hj, HN2.out, hhi.out, B5.out⟩
    case measure => simp [intOf]; omega
   all_goals
    have HN := HHI.out h2
    have HN2 := hdQ HN
    clear HN h2 h3
    go_wp2_with fail
    go_roundw
    case rel => exact ⟨i, m, rfl, rfl, by omega, by omega, hlo.out, HN2.out, B5.out⟩
    case measure => simp [intOf]; omega
  ·have hje : j = i := by omega
   subst hje
   clear hlt
   by_cases hil : j < l.length
   ·obtain ⟨b, o, p, hra, hb, hcr, hir⟩ := (HR.out wr hB.out).get hil
    have hsr := (HR.out wr hB.out).s _ (List.getElem_mem hil)
    obtain ⟨r, hr⟩ : ∃ r, l[j] = r := ⟨_, rfl⟩
    rw [hr] at hcr hir hsr
    obtain ⟨z0, z1, z2, z3, z4, z5, z6, z7, z8⟩ := recs_nine hcr
    have HCP := scmp_ok r p t wr hir hsr (HT.out wr hB.out)
    have HRr := hdQ hr
    have hq1 : decide ((j : Int) < (l.length : Int)) = true := by rw [dtQ]; omega
    clear hcr hir hsr hr
    rw [hra]
    clear hra
    go_wp2_with fail
    refine (Calls.mono HCP.out ?_)
    rintro z w5 ⟨rfl, hb5⟩
    have B5 : Hid (Below w.heap.size w w5) := hB.out.trans (hb5.mono hB.out.size)
    have hcc := compare_zero (printA r.a) t.data.toList
    obtain ⟨c, hc⟩ : ∃ c, Lib.compareBytes (printA r.a) t.data.toList = c := ⟨_, rfl⟩
    rw [hc] at hcc ⊢
    have HCC := hdQ hcc
    clear hc hb5 z0 z1 z2 z3 z4 z5 z6 z7 z8 HCP hcc
    obtain ⟨q, hq⟩ : ∃ q, (c == (0 : Int)) = q := ⟨_, rfl⟩
    go_wp2_with fail
    refine bodyPost_ret (v := .tuple #[.int .i64 j, .bool q]) (by simp [results, Tryz.results97, go_sem]) rfl ?_
    refine ⟨j, q, rfl, ⟨by omega, hlo.out, hhi.out⟩, ?_, B5.out⟩
    rw [← hq, beq_iff_eq, HCC.out]
    exact ⟨fun e => ⟨hil, by rw [HRr.out]; exact e⟩, fun ⟨_, e⟩ => by rw [HRr.out] at e; exact e⟩
   ·have hq1 : decide ((j : Int) < (l.length : Int)) = false := by rw [dfQ]; omega
    go_wp2_with fail
    refine bodyPost_ret (v := .tuple #[.int .i64 j, .bool false]) (by simp [results, Tryz.results97, go_sem]) rfl ?_
    exact ⟨j, false, rfl, ⟨by omega, hlo.out, hhi.out⟩, ⟨(fun e => (by cases e)), (fun e => (by obtain ⟨h, _⟩ := e; exact absurd h hil))⟩, hB.out⟩
def SePost (l : List Rec) (t : List UInt8) (w : World) (e : Ending) (w' : World) : Prop := ∃ i : Nat, ∃ ok : Bool, e = .returned (.tuple #[.int .i64 i, .bool ok]) ∧ Place l t i ∧ (ok = true ↔ ∃ h : i < l.length, printA l[i].a = t) ∧ Below w.heap.size w w'
theorem SePost.to {l : List Rec} {t : List UInt8} {w w' : World} {e : Ending} (h : SePost l t w e w') : ∃ i : Nat, ∃ ok : Bool, e = .returned (.tuple #[.int .i64 i, .bool ok]) ∧ Hid (Place l t i) ∧ Hid (ok = true ↔ ∃ h : i < l.length, printA l[i].a = t) ∧ Hid (Below w.heap.size w w') := h
theorem bsf_ok (l : List Rec) (ra : Option Addr) (rc : Nat) (t : ByteArray) (w : World) (h : RecsAt w ra l) (hsr : Sorted l) (T : TabsA w) :
  Hid (Calls Tryz.prog 97 #[.slice ra l.length rc, .string t, .func (.func 98) #[] #[]] w (SePost l t.data.toList w)) := bsf_any l ra rc t w h hsr T
theorem search_any (s : Sta) (ra : Option Addr) (rc : Nat) (a : Adr) (pa : Option Addr) (pc : Nat) (w : World) (h : RecsAt w ra s.recs) (hsr : Sorted s.recs) (ha : AdrAt w pa a) (T : TabsA w) : Calls Tryz.prog 67 #[staV ra rc s, wordsA pa pc a] w (SePost s.recs (printA a) w) := by
 obtain ⟨w1, hw1, V1, B1⟩ := sta_new w ra rc s
 obtain ⟨w2, hw2, V2, B2⟩ := adr_new w1 pa pc a
 have hl1 := heap_lt V1.out
 have hl2 := heap_lt V2.out
 have B02 : Hid (Below w.heap.size w w2) := B1.out.trans (B2.out.mono (by omega))
 have V12 : Hid (w2.heap[w.heap.size]? = some (.cells (staArr ra rc s) 25 (0, 0))) := (B2.out.block _ hl1).trans V1.out
 obtain ⟨x0, x1, x2⟩ := sta_cells V12.out
 obtain ⟨y0, y1, y2, y3, y4, y5⟩ := adr_cells V2.out
 have hdr : Below w2.heap.size w2 w2.drew := (Below.refl _ _).drew
 have had := (ha.stays B02.out).stays hdr
 have hpr : Hid (Calls Tryz.prog 43 #[.agg #[.slice pa a.path.length pc, .string a.type, .string a.name, .int .i64 a.key, .int .u64 a.place, .string a.word]] w2.drew fun e w' => e = .returned (.string ⟨(printA a).toArray⟩) ∧ Below w2.drew.heap.size w2.drew w') := print_any a pa pc _ w2.drew had.t had.l had.s had.ty had.nm had.wd had.p ((T.stays B02.out).stays hdr)
 obtain ⟨q, hq⟩ : ∃ q : ByteArray, (⟨(printA a).toArray⟩ : ByteArray) = q := ⟨_, rfl⟩
 rw [hq] at hpr
 have HQ : Hid (printA a = q.data.toList) := by rw [Hid, ← hq]
 have HBS : Hid (∀ W, Below w2.heap.size w2 W → Hid (Calls Tryz.prog 97 #[.slice ra s.recs.length rc, .string q, .func (.func 98) #[] #[]] W (SePost s.recs q.data.toList W))) := fun W hb => bsf_ok s.recs ra rc q W ((h.stays B02.out).stays hb) hsr ((T.stays B02.out).stays hb)
 have HDR := hdQ hdr
 have HV1 : Hid (∀ W, Below w2.heap.size w2 W → W.heap[w.heap.size]? = some (.cells (staArr ra rc s) 25 (0, 0))) := fun W hb => (hb.block _ (by omega)).trans V12.out
 have HV2 : Hid (∀ W, Below w2.heap.size w2 W → W.heap[w1.heap.size]? = some (.cells (arrA pa pc a) 35 (0, 0))) := fun W hb => (hb.block _ (by omega)).trans V2.out
 unfold staV wordsA
 clear h hsr ha T had hdr hq
 go_enter Tryz.func67, Tryz.ntmps67
 go_wp2_with fail
 go_region_held3 (fun w' => w'.cell? ⟨w.heap.size, 2, none⟩ = some (.slice ra s.recs.length rc) ∧ w'.cell? ⟨w1.heap.size, 0, none⟩ = some (.slice pa a.path.length pc) ∧ w'.cell? ⟨w1.heap.size, 1, none⟩ = some (.string a.type) ∧ w'.cell? ⟨w1.heap.size, 2, none⟩ = some (.string a.name) ∧ w'.cell? ⟨w1.heap.size, 3, none⟩ = some (.int .i64 a.key) ∧ w'.cell? ⟨w1.heap.size, 4, none⟩ = some (.int .u64 a.place) ∧ w'.cell? ⟨w1.heap.size, 5, none⟩ = some (.string a.word)) (go_keep)
  (first
   | (go_at_call 97; refine (Calls.mono (HBS.out w4 B24.out).out ?_); rintro z w5 hz; obtain ⟨i, ok, rfl, hP, hO, hb5⟩ := hz.to; have B25 : Hid (Below w2.heap.size w2 w5) := B24.out.trans (hb5.out.mono B24.out.size); clear hb5; obtain ⟨m0, m1, m2⟩ := sta_cells (HV1.out w5 B25.out); obtain ⟨n0, n1, n2, n3, n4, n5⟩ := adr_cells (HV2.out w5 B25.out))
   | (go_at_call 43; refine (Calls.mono hpr.out ?_); rintro z w4 ⟨rfl, hb4⟩; have B24 : Hid (Below w2.heap.size w2 w4) := HDR.out.trans hb4; clear hb4; obtain ⟨f0, f1, f2⟩ := sta_cells (HV1.out w4 B24.out); obtain ⟨g0, g1, g2, g3, g4, g5⟩ := adr_cells (HV2.out w4 B24.out)))
 all_goals
  go_wp2_with fail
  refine bodyPost_ret (v := .tuple #[.int .i64 i, .bool ok]) (by simp [results, Tryz.results67, go_sem]) rfl ?_
  exact ⟨i, ok, rfl, by rw [HQ.out]; exact hP.out, by rw [HQ.out]; exact hO.out, B02.out.trans (B25.out.mono B02.out.size)⟩
structure StaAt (w : World) (ra : Option Addr) (rc : Nat) (s : Sta) : Prop where
 r : RecsAt w ra s.recs
 c : s.recs.length ≤ rc
 o : Sorted s.recs
theorem StaAt.stays {w w' : World} {ra : Option Addr} {rc : Nat} {s : Sta} (h : StaAt w ra rc s) (hb : Below w.heap.size w w') : StaAt w' ra rc s := ⟨h.r.stays hb, h.c, h.o⟩
def Sta.zero : Sta := ⟨0, ⟨#[]⟩, []⟩
theorem RecsAt.take {w : World} {a : Option Addr} {l : List Rec} (h : RecsAt w a l) (k : Nat) : RecsAt w a (l.take k) :=
 ⟨recs_take h.t k, by rw [List.length_take]; have := h.n; omega, fun r hr => h.s r (List.mem_of_mem_take hr)⟩
theorem RecsAt.drop {w : World} {b o : Nat} {l : List Rec} (h : RecsAt w (some ⟨b, o, none⟩) l) (k : Nat) : RecsAt w (some ⟨b, o + k * 9, none⟩) (l.drop k) :=
 ⟨recs_drop h.t k, by rw [List.length_drop]; have := h.n; omega, fun r hr => h.s r (List.mem_of_mem_drop hr)⟩
theorem RecsAt.nil (w : World) (a : Option Addr) : RecsAt w a [] := ⟨.inl rfl, by simp, fun r h => by cases h⟩
theorem JnPost.to {s : Sta} {l : List Rec} {w w' : World} {e : Ending} (h : JnPost s l w e w') : ∃ a c, e = .returned (.agg #[.int .u64 s.serial, .string s.lin, .slice a l.length c]) ∧ Hid (IsRecs w' (fun b => w.heap.size ≤ b) a l) ∧ Hid (l.length ≤ c) ∧ Hid (Below w.heap.size w w') := h
theorem se_ok (s : Sta) (ra : Option Addr) (rc : Nat) (a : Adr) (pa : Option Addr) (pc : Nat) (w : World) (h : StaAt w ra rc s) (ha : AdrAt w pa a) (T : TabsA w) :
  Hid (Calls Tryz.prog 67 #[.agg #[.int .u64 s.serial, .string s.lin, .slice ra s.recs.length rc], .agg #[.slice pa a.path.length pc, .string a.type, .string a.name, .int .i64 a.key, .int .u64 a.place, .string a.word]] w (SePost s.recs (printA a) w)) := search_any s ra rc a pa pc w h.r h.o ha T
def Is (l : List Rec) (t : List UInt8) (i : Nat) : Prop := ∃ h : i < l.length, printA l[i].a = t
theorem three_lists (W : World) (a1 a3 a2 : Option Addr) (c1 c2 c3 n1 n3 : Nat) (l1 l2 l3 : List Rec) (e1 : l1.length = n1) (e2 : l2.length = 1) (e3 : l3.length = n3) (h1 : RecsAt W a1 l1) (h2 : RecsAt W a2 l2) (h3 : RecsAt W a3 l3) : ∃ w1, W.alloc (.cells #[.slice a1 n1 c1, .slice a2 1 c2, .slice a3 n3 c3] 23) = w1 ∧ Hid (IsLists w1 W.heap.size 0 [l1, l2, l3]) ∧ Hid (Below W.heap.size W w1) := by
 have hB : Below W.heap.size W (W.alloc (.cells #[.slice a1 n1 c1, .slice a2 1 c2, .slice a3 n3 c3] 23)) := (Below.refl _ _).alloc (Nat.le_refl _) _
 refine ⟨_, rfl, ⟨by simp, fun i hi => ?_⟩, hB⟩
 have hh := heap_alloc_new W (.cells #[.slice a1 n1 c1, .slice a2 1 c2, .slice a3 n3 c3] 23)
 match i, hi with
 | 0, _ => exact ⟨a1, c1, by subst e1; exact cell_of hh 0, h1.stays hB⟩
 | 1, _ => exact ⟨a2, c2, (by show _ = some (Value.slice a2 l2.length c2); rw [e2]; exact cell_of hh 1), h2.stays hB⟩
 | 2, _ => exact ⟨a3, c3, by subst e3; exact cell_of hh 2, h3.stays hB⟩
theorem join_three (s : Sta) (ra : Option Addr) (rc : Nat) (lb : Nat) (l1 l2 : List Rec) (r : Rec) (w : World) (hL : IsLists w lb 0 [l1, [r], l2]) (hf : (l1 ++ r :: l2).length ≤ 3000) : Hid (Calls Tryz.prog 68 #[.agg #[.int .u64 s.serial, .string s.lin, .slice ra s.recs.length rc], .slice (some ⟨lb, 0, none⟩) 3 3] w (JnPost s (l1 ++ r :: l2) w)) := by
 have h := join_any s ra rc lb 0 3 [l1, [r], l2] w hL (by simp) (by simpa using hf)
 have e : [l1, [r], l2].flatten = l1 ++ r :: l2 := by simp
 rw [e] at h
 exact h
theorem slice_rest {w : World} {ra : Option Addr} {rc : Nat} {l : List Rec} (h : RecsAt w ra l) (hc : l.length ≤ rc) (k : Nat) : RecsAt w (if rc = k then ra else Option.map (fun x => x.add (k * 9)) ra) (l.drop k) := by
 by_cases hk : l.length ≤ k
 ·rw [List.drop_of_length_le hk]; exact RecsAt.nil _ _
 ·rw [if_neg (by omega)]
  obtain ⟨b, o, p, rfl, _⟩ := h.get (i := k) (by omega)
  have e : Option.map (fun x : Addr => x.add (k * 9)) (some (⟨b, o, none⟩ : Addr)) = some ⟨b, o + k * 9, none⟩ := by
   simp only [Option.map_some]
   congr 1
   unfold Addr.add; split <;> simp_all
  rw [e]
  exact h.drop k
theorem one_rec {w : World} {b : Nat} {p : At} {r : Rec} (h : w.heap[b]? = some (.cells (recArr p r) 38 (0, 0))) (hI : IsRec w (fun _ => True) p r) (hs : Small r) : RecsAt w (some ⟨b, 0, none⟩) [r] := by
 refine ⟨.inr ⟨b, 0, rfl, trivial, heap_lt h, fun _ => p, fun i hi => ?_⟩, by simp, fun x hx => by rw [List.mem_singleton.1 hx]; exact hs⟩
 obtain rfl : i = 0 := by simpa using hi
 refine ⟨fun j u hu => ?_, hI⟩
 rw [Nat.zero_mul, Nat.zero_add, cell_of h j]
 exact hu
theorem rec_ok (r : Rec) (p : At) (w : World) (h : IsRec w (fun _ => True) p r) (hs : Small r) (T : TabsA w) (b : Bool) (hb : recB r = b) : Hid (Calls Tryz.prog 14 #[.agg #[.slice p.pa r.a.path.length p.pc, .string r.a.type, .string r.a.name, .int .i64 r.a.key, .int .u64 r.a.place, .string r.a.word, .string r.prov, .string r.id, .slice p.ta r.attrs.length p.tc]] w fun e w' => e = .returned (.bool b) ∧ Below w.heap.size w w') := by
 rw [← hb]
 exact record_any r p w h hs T
def Next (l : List Rec) (t : List UInt8) (i nx : Nat) : Prop := (Is l t i ∧ nx = i + 1) ∨ (¬ Is l t i ∧ nx = i)
def PuPost (s : Sta) (r : Rec) (w : World) (e : Ending) (w' : World) : Prop := Below w.heap.size w w' ∧
 ((recB r = false ∧ e = .returned (.tuple #[staV none 0 Sta.zero, .int .i64 1])) ∨
 (recB r = true ∧ ∃ i nx, Place s.recs (printA r.a) i ∧ Next s.recs (printA r.a) i nx ∧
  ∃ a c, e = .returned (.tuple #[staV a c { s with recs := s.recs.take i ++ r :: s.recs.drop nx }, .int .i64 0]) ∧ IsRecs w' (fun b => w.heap.size ≤ b) a (s.recs.take i ++ r :: s.recs.drop nx) ∧ (s.recs.take i ++ r :: s.recs.drop nx).length ≤ c))
theorem pu_ret (s : Sta) (x : Int) (w' : World) (tm : Array Value) (b : Nat) (a : Option Addr) (c : Nat) (Q : Ending → World → Prop) (hb : w'.heap[b]? = some (.cells (staArr a c s) 25 (0, 0))) (h2 : tm[4]? = some (.pointer (some ⟨b, 0, none⟩))) (h3 : tm[5]? = some (.int .i64 x)) (hq : Q (.returned (.tuple #[staV a c s, .int .i64 x])) w') : bodyPost Tryz.prog Tryz.f34 Q Exit.ret { tmps := tm, defers := [] } w' := by
 obtain ⟨c0, c1, c2⟩ := sta_cells hb
 refine bodyPost_ret (v := .tuple #[staV a c s, .int .i64 x]) ?_ rfl hq
 simp [results, Tryz.results34, go_sem, h2, h3, c0, c1, c2, staV]
theorem put_any (s : Sta) (ra : Option Addr) (rc : Nat) (r : Rec) (p : At) (w : World) (h : StaAt w ra rc s) (hi : IsRec w (fun _ => True) p r) (hs : Small r) (hn : s.recs.length ≤ 2000) (T : TabsA w) : Calls Tryz.prog 34 #[staV ra rc s, recV p r] w (PuPost s r w) := by
 obtain ⟨w1, hw1, V1, B1⟩ := sta_new w ra rc s
 obtain ⟨w2, hw2, V2, B2⟩ := rec_new w1 p r
 obtain ⟨w3, hw3, V3, B3, Z3⟩ := zsta_new w2
 have hl1 := heap_lt V1.out
 have hl2 := heap_lt V2.out
 have hl3 := heap_lt V3.out
 have B02 : Hid (Below w.heap.size w w2) := B1.out.trans (B2.out.mono (by omega))
 have B03 : Hid (Below w.heap.size w w3) := B02.out.trans (B3.out.mono (by omega))
 have V13 : Hid (w3.heap[w.heap.size]? = some (.cells (staArr ra rc s) 25 (0, 0))) := (B3.out.block _ (by omega)).trans ((B2.out.block _ hl1).trans V1.out)
 have V23 : Hid (w3.heap[w1.heap.size]? = some (.cells (recArr p r) 38 (0, 0))) := (B3.out.block _ hl2).trans V2.out
 obtain ⟨bb, hbb⟩ : ∃ b, recB r = b := ⟨_, rfl⟩
 have HRC := rec_ok r p w3 (hi.turn (Turn.below B03.out)) hs (T.stays B03.out) bb hbb
 have HB := hdQ hbb
 have HH : Hid (∀ W, Below w.heap.size w W → StaAt W ra rc s) := fun W hb => h.stays hb
 have HT : Hid (∀ W, Below w.heap.size w W → TabsA W) := fun W hb => T.stays hb
 have HIR : Hid (∀ W, Below w.heap.size w W → IsRec W (fun _ => True) p r) := fun W hb => hi.turn (Turn.below hb)
 have HSM := hdQ hs
 have HN3 : Hid (s.recs.length ≤ 2000) := hn
 have HS2 := hdQ B02.out.size
 have hrc := h.c
 obtain ⟨y0, y1, y2, y3, y4, y5, y6, y7, y8⟩ := rec_cells V23.out
 unfold staV recV
 clear h hi hs T hbb hn
 go_enter Tryz.func34, Tryz.ntmps34
 go_wp2_with fail
 refine (Calls.mono HRC.out ?_)
 rintro z w3b ⟨rfl, hb3⟩
 have B03b : Hid (Below w.heap.size w w3b) := B03.out.trans (hb3.mono B03.out.size)
 have V13b : Hid (w3b.heap[w.heap.size]? = some (.cells (staArr ra rc s) 25 (0, 0))) := (hb3.block _ (by omega)).trans V13.out
 have V23b : Hid (w3b.heap[w1.heap.size]? = some (.cells (recArr p r) 38 (0, 0))) := (hb3.block _ (by omega)).trans V23.out
 have V33b : Hid (w3b.heap[w2.heap.size]? = some (.cells (staArr none 0 ⟨0, ⟨#[]⟩, []⟩) 25 (0, 0))) := (hb3.block _ hl3).trans V3.out
 clear hb3 y0 y1 y2 y3 y4 y5 y6 y7 y8 HRC hw1 hw2 hw3
 cases bb
 case false =>
  obtain ⟨g0, g1, g2⟩ := sta_cells V33b.out
  have f0 := frozen_of V33b.out 0
  have f1 := frozen_of V33b.out 1
  have f2 := frozen_of V33b.out 2
  go_wp2_with fail
  have hg : w3b.grownBy (((w3b.setCell ⟨w2.heap.size, 0, none⟩ (.int .u64 0)).setCell ⟨w2.heap.size, 1, none⟩ (.string ⟨#[]⟩)).setCell ⟨w2.heap.size, 2, none⟩ (.slice none 0 0)) (some w2.heap.size) := ((gb_set _ _ _ _).trans (gb_set _ _ _ _)).trans (gb_set _ _ _ _)
  have hset : (((w3b.setCell ⟨w2.heap.size, 0, none⟩ (.int .u64 0)).setCell ⟨w2.heap.size, 1, none⟩ (.string ⟨#[]⟩)).setCell ⟨w2.heap.size, 2, none⟩ (.slice none 0 0)).heap[w2.heap.size]? = some (.cells (staArr none 0 Sta.zero) 25 (0, 0)) := set3 (t := Sta.zero) V33b.out
  exact pu_ret Sta.zero 1 _ _ w2.heap.size none 0 (PuPost s r w) hset (by rfl) (by rfl) ⟨B03b.out.grown hg B03b.out.size (fun k hk => by injection hk with hk; have := HS2.out; omega), .inl ⟨HB.out, rfl⟩⟩
 case true =>
  have hne1 : w2.heap.size ≠ w.heap.size := by omega
  have hne2 : w2.heap.size ≠ w1.heap.size := by omega
  have HSE := se_ok s ra rc r.a p.pa p.pc w3b (HH.out w3b B03b.out) ((HIR.out w3b B03b.out).adr HSM.out) (HT.out w3b B03b.out)
  obtain ⟨x0, x1, x2⟩ := sta_cells V13b.out
  obtain ⟨y0, y1, y2, y3, y4, y5, y6, y7, y8⟩ := rec_cells V23b.out
  go_wp2_with fail
  refine (Calls.mono HSE.out ?_)
  rintro z w4 hz
  obtain ⟨i, ok, rfl, hP, hO, hb4⟩ := hz.to
  have B04 : Hid (Below w.heap.size w w4) := B03b.out.trans (hb4.out.mono B03b.out.size)
  have V14 : Hid (w4.heap[w.heap.size]? = some (.cells (staArr ra rc s) 25 (0, 0))) := (hb4.out.block _ (heap_lt V13b.out)).trans V13b.out
  have V24 : Hid (w4.heap[w1.heap.size]? = some (.cells (recArr p r) 38 (0, 0))) := (hb4.out.block _ (heap_lt V23b.out)).trans V23b.out
  have V34 : Hid (w4.heap[w2.heap.size]? = some (.cells (staArr none 0 ⟨0, ⟨#[]⟩, []⟩) 25 (0, 0))) := (hb4.out.block _ (heap_lt V33b.out)).trans V33b.out
  have hin := hP.out.n
  clear hz hb4 x0 x1 x2 y0 y1 y2 y3 y4 y5 y6 y7 y8 HSE
  obtain ⟨x0, x1, x2⟩ := sta_cells V14.out
  obtain ⟨y0, y1, y2, y3, y4, y5, y6, y7, y8⟩ := rec_cells V24.out
  cases ok
  case true =>
   have hil : i < s.recs.length := by obtain ⟨h, _⟩ := hO.out.1 rfl; exact h
   have HWH : Hid (Next s.recs (printA r.a) i (i + 1)) := .inl ⟨hO.out.1 rfl, rfl⟩
   have wi1 : IntKind.i64.wrap ((i : Int) + 1) = ((i + 1 : Nat) : Int) := by rw [IntWalk.i64_in _ (by have := HN3.out; omega)]; omega
   have hb0 : (0 : Int) ≤ (i : Int) + 1 := by omega
   have hb1 : (i : Int) + 1 ≤ (s.recs.length : Int) := by omega
   have h1 := (HH.out w4 B04.out).r.take i
   have h2 := slice_rest (HH.out w4 B04.out).r (HH.out w4 B04.out).c (i + 1)
   obtain ⟨a2, ha2⟩ : ∃ q : Option Addr, (if rc = i + 1 then ra else Option.map (fun x => x.add ((i + 1) * 9)) ra) = q := ⟨_, rfl⟩
   rw [ha2] at h2
   have hlen : (s.recs.take i ++ r :: s.recs.drop (i + 1)).length ≤ 3000 := by
    have := HN3.out
    rw [List.length_append, List.length_cons, List.length_take, List.length_drop]; omega
   have e1 : (s.recs.take i).length = i := by rw [List.length_take]; omega
   have e2 : (s.recs.drop (i + 1)).length = s.recs.length - (i + 1) := List.length_drop
   obtain ⟨l1, hl1⟩ : ∃ l, s.recs.take i = l := ⟨_, rfl⟩
   obtain ⟨l2, hl2⟩ : ∃ l, s.recs.drop (i + 1) = l := ⟨_, rfl⟩
   rw [hl1] at h1 e1 hlen
   rw [hl2] at h2 e2 hlen
   have HL1 := hdQ hl1
   have HL2 := hdQ hl2
   have hirc : i ≤ rc := by omega
   clear hl1 hl2 hO
   obtain ⟨w5, hw5, V5, B5⟩ := rec_new w4 p r
   have hRr : RecsAt w5 (some ⟨w4.heap.size, 0, none⟩) [r] := one_rec V5.out (HIR.out w5 (B04.out.trans (B5.out.mono B04.out.size))) HSM.out
   obtain ⟨w6, hw6, L6, B6⟩ := three_lists w5 ra a2 (some ⟨w4.heap.size, 0, none⟩) rc 1 (rc - (i + 1)) i (s.recs.length - (i + 1)) l1 [r] l2 e1 rfl e2 (h1.stays B5.out) hRr (h2.stays B5.out)
   have hdr : Below w6.heap.size w6 w6.drew := (Below.refl _ _).drew
   have HJ := join_three s ra rc w5.heap.size l1 l2 r w6.drew (L6.out.stays hdr) hlen
   have B46 : Hid (Below w4.heap.size w4 w6) := B5.out.trans (B6.out.mono B5.out.size)
   have B47 : Hid (Below w4.heap.size w4 w6.drew) := B46.out.trans (hdr.mono B46.out.size)
   have V37 : Hid (w6.drew.heap[w2.heap.size]? = some (.cells (staArr none 0 ⟨0, ⟨#[]⟩, []⟩) 25 (0, 0))) := (B47.out.block _ (heap_lt V34.out)).trans V34.out
   have V17 : Hid (w6.drew.heap[w.heap.size]? = some (.cells (staArr ra rc s) 25 (0, 0))) := (B47.out.block _ (heap_lt V14.out)).trans V14.out
   have V27 : Hid (w6.drew.heap[w1.heap.size]? = some (.cells (recArr p r) 38 (0, 0))) := (B47.out.block _ (heap_lt V24.out)).trans V24.out
   obtain ⟨m0, m1, m2⟩ := sta_cells V17.out
   obtain ⟨n0, n1, n2, n3, n4, n5, n6, n7, n8⟩ := rec_cells V27.out
   have V15 : Hid (w5.heap[w.heap.size]? = some (.cells (staArr ra rc s) 25 (0, 0))) := (B5.out.block _ (heap_lt V14.out)).trans V14.out
   have V25 : Hid (w5.heap[w1.heap.size]? = some (.cells (recArr p r) 38 (0, 0))) := (B5.out.block _ (heap_lt V24.out)).trans V24.out
   obtain ⟨m50, m51, m52⟩ := sta_cells V15.out
   obtain ⟨n50, n51, n52, n53, n54, n55, n56, n57, n58⟩ := rec_cells V25.out
   have H4 := hdQ (heap_lt V34.out)
   clear h1 h2 e1 e2 hlen hRr hdr
   go_wp2_with fail
   go_region_held3 (fun w' => w'.cell? ⟨w.heap.size, 0, none⟩ = some (.int .u64 s.serial) ∧ w'.cell? ⟨w.heap.size, 1, none⟩ = some (.string s.lin) ∧ w'.cell? ⟨w.heap.size, 2, none⟩ = some (.slice ra s.recs.length rc) ∧ w'.cell? ⟨w1.heap.size, 0, none⟩ = some (.slice p.pa r.a.path.length p.pc) ∧ w'.cell? ⟨w1.heap.size, 1, none⟩ = some (.string r.a.type) ∧ w'.cell? ⟨w1.heap.size, 2, none⟩ = some (.string r.a.name) ∧ w'.cell? ⟨w1.heap.size, 3, none⟩ = some (.int .i64 r.a.key) ∧ w'.cell? ⟨w1.heap.size, 4, none⟩ = some (.int .u64 r.a.place) ∧ w'.cell? ⟨w1.heap.size, 5, none⟩ = some (.string r.a.word) ∧ w'.cell? ⟨w1.heap.size, 6, none⟩ = some (.string r.prov) ∧ w'.cell? ⟨w1.heap.size, 7, none⟩ = some (.string r.id) ∧ w'.cell? ⟨w1.heap.size, 8, none⟩ = some (.slice p.ta r.attrs.length p.tc)) (go_keep) (first
    | (go_at_call 68; refine (Calls.mono HJ.out ?_); rintro z w8 hz; obtain ⟨ja, jc, rfl, hI, hC, hb8⟩ := hz.to; have V38 : Hid (w8.heap[w2.heap.size]? = some (.cells (staArr none 0 ⟨0, ⟨#[]⟩, []⟩) 25 (0, 0))) := (hb8.out.block _ (heap_lt V37.out)).trans V37.out; obtain ⟨k0, k1, k2⟩ := sta_cells V38.out; have e0 := frozen_of V38.out 0; have e1 := frozen_of V38.out 1; have e2 := frozen_of V38.out 2; have hB8 : Hid (Below w4.heap.size w4 w8) := B47.out.trans (hb8.out.mono B47.out.size); obtain ⟨l3, hl3⟩ : ∃ l, l1 ++ r :: l2 = l := ⟨_, rfl⟩; rw [hl3] at hI hC ⊢; have HL3 := hdQ hl3; have V18 : Hid (w8.heap[w.heap.size]? = some (.cells (staArr ra rc s) 25 (0, 0))) := (hb8.out.block _ (heap_lt V17.out)).trans V17.out; have V28 : Hid (w8.heap[w1.heap.size]? = some (.cells (recArr p r) 38 (0, 0))) := (hb8.out.block _ (heap_lt V27.out)).trans V27.out; obtain ⟨m80, m81, m82⟩ := sta_cells V18.out; obtain ⟨n80, n81, n82, n83, n84, n85, n86, n87, n88⟩ := rec_cells V28.out; clear hz hl3))
   all_goals
    go_wp2_with fail
    have hg : w8.grownBy (((w8.setCell ⟨w2.heap.size, 0, none⟩ (.int .u64 s.serial)).setCell ⟨w2.heap.size, 1, none⟩ (.string s.lin)).setCell ⟨w2.heap.size, 2, none⟩ (.slice ja l3.length jc)) (some w2.heap.size) := ((gb_set _ _ _ _).trans (gb_set _ _ _ _)).trans (gb_set _ _ _ _)
    have hset : (((w8.setCell ⟨w2.heap.size, 0, none⟩ (.int .u64 s.serial)).setCell ⟨w2.heap.size, 1, none⟩ (.string s.lin)).setCell ⟨w2.heap.size, 2, none⟩ (.slice ja l3.length jc)).heap[w2.heap.size]? = some (.cells (staArr ja jc { s with recs := l3 }) 25 (0, 0)) := set3 (t := { s with recs := l3 }) V38.out
    have B08 : Below w.heap.size w w8 := B04.out.trans (hB8.out.mono B04.out.size)
    have hI2 : IsRecs (((w8.setCell ⟨w2.heap.size, 0, none⟩ (.int .u64 s.serial)).setCell ⟨w2.heap.size, 1, none⟩ (.string s.lin)).setCell ⟨w2.heap.size, 2, none⟩ (.slice ja l3.length jc)) (fun b => w.heap.size ≤ b) ja l3 := hI.out.turn ⟨hg.size, fun b hb hl => ⟨hg.block b hl (fun e => by injection e with e; have h1 := H4.out; have h2 := B47.out.size; omega), (by have h0 : w6.drew.heap.size ≤ b := hb; have h1 := B47.out.size; have h2 := B04.out.size; omega)⟩⟩
    have hll : s.recs.take i ++ r :: s.recs.drop (i + 1) = l3 := by rw [HL1.out, HL2.out]; exact HL3.out
    refine pu_ret { s with recs := l3 } 0 _ _ w2.heap.size ja jc (PuPost s r w) hset (by rfl) (by rfl) ⟨B08.grown hg B08.size (fun k hk => by injection hk with hk; have := HS2.out; omega), .inr ⟨HB.out, i, i + 1, hP.out, HWH.out, ja, jc, by rw [hll], by rw [hll]; exact hI2, by rw [hll]; exact hC.out⟩⟩
  case false =>
   have HWH : Hid (Next s.recs (printA r.a) i i) := .inr ⟨fun e => (by have := hO.out.2 e; cases this), rfl⟩
   have h1 := (HH.out w4 B04.out).r.take i
   have h2 := slice_rest (HH.out w4 B04.out).r (HH.out w4 B04.out).c (i)
   obtain ⟨a2, ha2⟩ : ∃ q : Option Addr, (if rc = i then ra else Option.map (fun x => x.add (i * 9)) ra) = q := ⟨_, rfl⟩
   rw [ha2] at h2
   have hlen : (s.recs.take i ++ r :: s.recs.drop (i)).length ≤ 3000 := by
    have := HN3.out
    rw [List.length_append, List.length_cons, List.length_take, List.length_drop]; omega
   have e1 : (s.recs.take i).length = i := by rw [List.length_take]; omega
   have e2 : (s.recs.drop (i)).length = s.recs.length - i := List.length_drop
   obtain ⟨l1, hl1⟩ : ∃ l, s.recs.take i = l := ⟨_, rfl⟩
   obtain ⟨l2, hl2⟩ : ∃ l, s.recs.drop (i) = l := ⟨_, rfl⟩
   rw [hl1] at h1 e1 hlen
   rw [hl2] at h2 e2 hlen
   have HL1 := hdQ hl1
   have HL2 := hdQ hl2
   have hirc : i ≤ rc := by omega
   clear hl1 hl2 hO
   obtain ⟨w5, hw5, V5, B5⟩ := rec_new w4 p r
   have hRr : RecsAt w5 (some ⟨w4.heap.size, 0, none⟩) [r] := one_rec V5.out (HIR.out w5 (B04.out.trans (B5.out.mono B04.out.size))) HSM.out
   obtain ⟨w6, hw6, L6, B6⟩ := three_lists w5 ra a2 (some ⟨w4.heap.size, 0, none⟩) rc 1 (rc - i) i (s.recs.length - i) l1 [r] l2 e1 rfl e2 (h1.stays B5.out) hRr (h2.stays B5.out)
   have hdr : Below w6.heap.size w6 w6.drew := (Below.refl _ _).drew
   have HJ := join_three s ra rc w5.heap.size l1 l2 r w6.drew (L6.out.stays hdr) hlen
   have B46 : Hid (Below w4.heap.size w4 w6) := B5.out.trans (B6.out.mono B5.out.size)
   have B47 : Hid (Below w4.heap.size w4 w6.drew) := B46.out.trans (hdr.mono B46.out.size)
   have V37 : Hid (w6.drew.heap[w2.heap.size]? = some (.cells (staArr none 0 ⟨0, ⟨#[]⟩, []⟩) 25 (0, 0))) := (B47.out.block _ (heap_lt V34.out)).trans V34.out
   have V17 : Hid (w6.drew.heap[w.heap.size]? = some (.cells (staArr ra rc s) 25 (0, 0))) := (B47.out.block _ (heap_lt V14.out)).trans V14.out
   have V27 : Hid (w6.drew.heap[w1.heap.size]? = some (.cells (recArr p r) 38 (0, 0))) := (B47.out.block _ (heap_lt V24.out)).trans V24.out
   obtain ⟨m0, m1, m2⟩ := sta_cells V17.out
   obtain ⟨n0, n1, n2, n3, n4, n5, n6, n7, n8⟩ := rec_cells V27.out
   have V15 : Hid (w5.heap[w.heap.size]? = some (.cells (staArr ra rc s) 25 (0, 0))) := (B5.out.block _ (heap_lt V14.out)).trans V14.out
   have V25 : Hid (w5.heap[w1.heap.size]? = some (.cells (recArr p r) 38 (0, 0))) := (B5.out.block _ (heap_lt V24.out)).trans V24.out
   obtain ⟨m50, m51, m52⟩ := sta_cells V15.out
   obtain ⟨n50, n51, n52, n53, n54, n55, n56, n57, n58⟩ := rec_cells V25.out
   have H4 := hdQ (heap_lt V34.out)
   clear h1 h2 e1 e2 hlen hRr hdr
   go_wp2_with fail
   go_region_held3 (fun w' => w'.cell? ⟨w.heap.size, 0, none⟩ = some (.int .u64 s.serial) ∧ w'.cell? ⟨w.heap.size, 1, none⟩ = some (.string s.lin) ∧ w'.cell? ⟨w.heap.size, 2, none⟩ = some (.slice ra s.recs.length rc) ∧ w'.cell? ⟨w1.heap.size, 0, none⟩ = some (.slice p.pa r.a.path.length p.pc) ∧ w'.cell? ⟨w1.heap.size, 1, none⟩ = some (.string r.a.type) ∧ w'.cell? ⟨w1.heap.size, 2, none⟩ = some (.string r.a.name) ∧ w'.cell? ⟨w1.heap.size, 3, none⟩ = some (.int .i64 r.a.key) ∧ w'.cell? ⟨w1.heap.size, 4, none⟩ = some (.int .u64 r.a.place) ∧ w'.cell? ⟨w1.heap.size, 5, none⟩ = some (.string r.a.word) ∧ w'.cell? ⟨w1.heap.size, 6, none⟩ = some (.string r.prov) ∧ w'.cell? ⟨w1.heap.size, 7, none⟩ = some (.string r.id) ∧ w'.cell? ⟨w1.heap.size, 8, none⟩ = some (.slice p.ta r.attrs.length p.tc)) (go_keep) (first
    | (go_at_call 68; refine (Calls.mono HJ.out ?_); rintro z w8 hz; obtain ⟨ja, jc, rfl, hI, hC, hb8⟩ := hz.to; have V38 : Hid (w8.heap[w2.heap.size]? = some (.cells (staArr none 0 ⟨0, ⟨#[]⟩, []⟩) 25 (0, 0))) := (hb8.out.block _ (heap_lt V37.out)).trans V37.out; obtain ⟨k0, k1, k2⟩ := sta_cells V38.out; have e0 := frozen_of V38.out 0; have e1 := frozen_of V38.out 1; have e2 := frozen_of V38.out 2; have hB8 : Hid (Below w4.heap.size w4 w8) := B47.out.trans (hb8.out.mono B47.out.size); obtain ⟨l3, hl3⟩ : ∃ l, l1 ++ r :: l2 = l := ⟨_, rfl⟩; rw [hl3] at hI hC ⊢; have HL3 := hdQ hl3; have V18 : Hid (w8.heap[w.heap.size]? = some (.cells (staArr ra rc s) 25 (0, 0))) := (hb8.out.block _ (heap_lt V17.out)).trans V17.out; have V28 : Hid (w8.heap[w1.heap.size]? = some (.cells (recArr p r) 38 (0, 0))) := (hb8.out.block _ (heap_lt V27.out)).trans V27.out; obtain ⟨m80, m81, m82⟩ := sta_cells V18.out; obtain ⟨n80, n81, n82, n83, n84, n85, n86, n87, n88⟩ := rec_cells V28.out; clear hz hl3))
   all_goals
    go_wp2_with fail
    have hg : w8.grownBy (((w8.setCell ⟨w2.heap.size, 0, none⟩ (.int .u64 s.serial)).setCell ⟨w2.heap.size, 1, none⟩ (.string s.lin)).setCell ⟨w2.heap.size, 2, none⟩ (.slice ja l3.length jc)) (some w2.heap.size) := ((gb_set _ _ _ _).trans (gb_set _ _ _ _)).trans (gb_set _ _ _ _)
    have hset : (((w8.setCell ⟨w2.heap.size, 0, none⟩ (.int .u64 s.serial)).setCell ⟨w2.heap.size, 1, none⟩ (.string s.lin)).setCell ⟨w2.heap.size, 2, none⟩ (.slice ja l3.length jc)).heap[w2.heap.size]? = some (.cells (staArr ja jc { s with recs := l3 }) 25 (0, 0)) := set3 (t := { s with recs := l3 }) V38.out
    have B08 : Below w.heap.size w w8 := B04.out.trans (hB8.out.mono B04.out.size)
    have hI2 : IsRecs (((w8.setCell ⟨w2.heap.size, 0, none⟩ (.int .u64 s.serial)).setCell ⟨w2.heap.size, 1, none⟩ (.string s.lin)).setCell ⟨w2.heap.size, 2, none⟩ (.slice ja l3.length jc)) (fun b => w.heap.size ≤ b) ja l3 := hI.out.turn ⟨hg.size, fun b hb hl => ⟨hg.block b hl (fun e => by injection e with e; have h1 := H4.out; have h2 := B47.out.size; omega), (by have h0 : w6.drew.heap.size ≤ b := hb; have h1 := B47.out.size; have h2 := B04.out.size; omega)⟩⟩
    have hll : s.recs.take i ++ r :: s.recs.drop (i) = l3 := by rw [HL1.out, HL2.out]; exact HL3.out
    refine pu_ret { s with recs := l3 } 0 _ _ w2.heap.size ja jc (PuPost s r w) hset (by rfl) (by rfl) ⟨B08.grown hg B08.size (fun k hk => by injection hk with hk; have := HS2.out; omega), .inr ⟨HB.out, i, i, hP.out, HWH.out, ja, jc, by rw [hll], by rw [hll]; exact hI2, by rw [hll]; exact hC.out⟩⟩
end Go.Proofs.YtehghladpnpcoaaGreatDoor.State
