/- state.Sort. -/
import Derived.Test.YtehghladpnpcoaaGreatDoorZLsY
import Derived.Deep.RegionHeld3
import Derived.IntWalk
set_option linter.unusedVariables false
set_option linter.unusedSimpArgs false
set_option maxRecDepth 100000
set_option maxHeartbeats 64000000
namespace Go.Proofs.YtehghladpnpcoaaGreatDoor.State
open Go.RowKit Go.Shelf Go.Proofs.YtehghladpnpcoaaGreatDoor.Utf Go.Proofs.YtehghladpnpcoaaGreatDoor.Strs Go.Proofs.YtehghladpnpcoaaGreatDoor.Addr
open Go.Proofs.YtehghladpnpcoaaGreatDoor.Jdec (IsTexts Turn infoStr gb_set gb_below gb_drew gb_refl)
theorem CpPost2.two {r : Rec} {w w' : World} {e : Ending} (h : CpPost2 r w e w') : ∃ p : At, e = .returned (.agg #[.slice p.pa r.a.path.length p.pc, .string r.a.type, .string r.a.name, .int .i64 r.a.key, .int .u64 r.a.place, .string r.a.word, .string r.prov, .string r.id, .slice p.ta r.attrs.length p.tc]) ∧ Hid (IsTexts w' (PartT 9 w.heap.size w') p.pa r.a.path) ∧ Hid (IsPairs w' (PartT 72 w.heap.size w') p.ta r.attrs) ∧ (r.attrs = [] → p.ta = none ∧ p.tc = 0) ∧ Hid (Below w.heap.size w w') := h
def SoPost (s : Sta) (w : World) (e : Ending) (w' : World) : Prop := Below w.heap.size w w' ∧ ∃ a c, e = .returned (.tuple #[.agg #[.int .u64 (sortS s).1.serial, .string (sortS s).1.lin, .slice a (sortS s).1.recs.length c], .int .i64 (sortS s).2]) ∧ IsRecs w' (fun _ => True) a (sortS s).1.recs ∧ (sortS s).1.recs.length ≤ c
theorem so_ret (s : Sta) (x : Int) (w' : World) (tm : Array Value) (b : Nat) (a : Option Addr) (c : Nat) (Q : Ending → World → Prop) (hb : w'.heap[b]? = some (.cells (staArr a c s) 25 (0, 0))) (h2 : tm[2]? = some (.pointer (some ⟨b, 0, none⟩))) (h3 : tm[3]? = some (.int .i64 x)) (hq : Q (.returned (.tuple #[staV a c s, .int .i64 x])) w') : bodyPost Tryz.prog Tryz.f12 Q Exit.ret { tmps := tm, defers := [] } w' := by
 obtain ⟨c0, c1, c2⟩ := sta_cells hb
 refine bodyPost_ret (v := .tuple #[staV a c s, .int .i64 x]) ?_ rfl hq
 simp [results, Tryz.results12, go_sem, h2, h3, c0, c1, c2, staV]
theorem kd_ten {w : World} {b i : Nat} {k : Kd} (h : w.rangeAt b (0 + i * 10) (encK k)) : w.cell? ⟨b, i * 10, none⟩ = some (.string k.s) ∧ w.cell? ⟨b, i * 10 + 1, none⟩ = some (.slice k.p.pa k.r.a.path.length k.p.pc) ∧ w.cell? ⟨b, i * 10 + 2, none⟩ = some (.string k.r.a.type) ∧ w.cell? ⟨b, i * 10 + 3, none⟩ = some (.string k.r.a.name) ∧ w.cell? ⟨b, i * 10 + 4, none⟩ = some (.int .i64 k.r.a.key) ∧ w.cell? ⟨b, i * 10 + 5, none⟩ = some (.int .u64 k.r.a.place) ∧ w.cell? ⟨b, i * 10 + 6, none⟩ = some (.string k.r.a.word) ∧ w.cell? ⟨b, i * 10 + 7, none⟩ = some (.string k.r.prov) ∧ w.cell? ⟨b, i * 10 + 8, none⟩ = some (.string k.r.id) ∧ w.cell? ⟨b, i * 10 + 9, none⟩ = some (.slice k.p.ta k.r.attrs.length k.p.tc) := by
 have hh : w.rangeAt b (i * 10) (encK k) := by rw [Nat.zero_add] at h; exact h
 exact ⟨hh 0 _ rfl, hh 1 _ rfl, hh 2 _ rfl, hh 3 _ rfl, hh 4 _ rfl, hh 5 _ rfl, hh 6 _ rfl, hh 7 _ rfl, hh 8 _ rfl, hh 9 _ rfl⟩
theorem kd_box {w : World} {b : Nat} {k : Kd} (h : w.heap[b]? = some (.cells (encK k).toArray 78 (0, 0))) : w.cell? ⟨b, 0, none⟩ = some (.string k.s) ∧ w.cell? ⟨b, 1, none⟩ = some (.slice k.p.pa k.r.a.path.length k.p.pc) ∧ w.cell? ⟨b, 2, none⟩ = some (.string k.r.a.type) ∧ w.cell? ⟨b, 3, none⟩ = some (.string k.r.a.name) ∧ w.cell? ⟨b, 4, none⟩ = some (.int .i64 k.r.a.key) ∧ w.cell? ⟨b, 5, none⟩ = some (.int .u64 k.r.a.place) ∧ w.cell? ⟨b, 6, none⟩ = some (.string k.r.a.word) ∧ w.cell? ⟨b, 7, none⟩ = some (.string k.r.prov) ∧ w.cell? ⟨b, 8, none⟩ = some (.string k.r.id) ∧ w.cell? ⟨b, 9, none⟩ = some (.slice k.p.ta k.r.attrs.length k.p.tc) :=
 ⟨cell_of h 0, cell_of h 1, cell_of h 2, cell_of h 3, cell_of h 4, cell_of h 5, cell_of h 6, cell_of h 7, cell_of h 8, cell_of h 9⟩
theorem tl_eq {x y : ByteArray} (h : x.toList = y.toList) : x = y := by
 rw [ByteArray.toList_eq, ByteArray.toList_eq] at h
 have e := Array.ext' h
 calc x = ⟨x.data⟩ := rfl
  _ = ⟨y.data⟩ := by rw [e]
structure TI (s : Sta) (bk x9 : Nat) (w16 : World) (g : Nat → Kd) (i : Nat) (a : Option Addr) (c : Nat) (wr : World) : Prop where
 V : wr.heap[x9]? = some (.cells (staArr a c ⟨s.serial, s.lin, (List.range i).map fun j => (g j).r⟩) 25 (0, 0))
 R : RowR wr (x9 + 1) (fun b => bk < b ∧ b < x9) (.slice a i c) ((List.range i).map fun j => (g j).r)
 O : OkTo g i
 B : Below w16.heap.size w16 wr
theorem sort_any (s : Sta) (ra : Option Addr) (rc : Nat) (w : World) (h : RecsAt w ra s.recs) (hl : s.lin.size ≤ 6000) (T : TabsA w) : Calls Tryz.prog 12 #[staV ra rc s] w (SoPost s w) := by
 obtain ⟨w1, hw1, V1, B1⟩ := sta_new w ra rc s
 obtain ⟨w2, hw2, V2, B2, Z2⟩ := zsta_new w1
 have hl1 := heap_lt V1.out
 have hl2 := heap_lt V2.out
 have HS1 := hdQ B1.out.size
 have B02 : Hid (Below w.heap.size w w2) := B1.out.trans (B2.out.mono (by omega))
 have HKA : Hid (∀ W, Below w2.heap.size w2 W → W.heap[w.heap.size]? = some (.cells (staArr ra rc s) 25 (0, 0))) := fun W hb => (hb.block _ (by omega)).trans ((B2.out.block _ hl1).trans V1.out)
 have HKZ : Hid (∀ W, Below w2.heap.size w2 W → W.heap[w1.heap.size]? = some (.cells (staArr none 0 Sta.zero) 25 (0, 0))) := fun W hb => (hb.block _ hl2).trans V2.out
 have HBW : Hid (∀ W, Below w2.heap.size w2 W → Below w.heap.size w W) := fun W hb => B02.out.trans (hb.mono B02.out.size)
 have HR : Hid (∀ W, Below w.heap.size w W → RecsAt W ra s.recs) := fun W hb => h.stays hb
 have HT : Hid (∀ W, Below w.heap.size w W → TabsA W) := fun W hb => T.stays hb
 have HSZ : Hid (w.heap.size < w2.heap.size ∧ w1.heap.size < w2.heap.size ∧ w.heap.size < w1.heap.size) := ⟨by omega, by omega, hl1⟩
 have hn := h.n
 obtain ⟨v, hv⟩ : ∃ b, decide (badZ s.lin.data.toList < 0) = b := ⟨_, rfl⟩
 have HV0 := hdQ hv
 have HVA := utf_ok s.lin w2 hl (T.stays B02.out).t.z v hv
 obtain ⟨x0, x1, x2⟩ := sta_cells (HKA.out w2 (Below.refl _ _))
 have VZ3 : Hid (w2.heap[w1.heap.size]? = some (.cells (staArr none 0 Sta.zero) 25 (0, 0))) := HKZ.out w2 (Below.refl _ _)
 unfold staV
 clear h hv T
 go_enter Tryz.func12, Tryz.ntmps12
 go_wp2_with fail
 refine (Calls.mono HVA.out ?_)
 rintro z w3 ⟨rfl, rfl⟩
 clear HVA hw1 hw2
 cases v
 case false =>
  have HSO : Hid (sortS s = (Sta.zero, 1)) := by rw [Hid, sortS, HV0.out]; rfl
  have HB3 : Hid (Below w.heap.size w w2) := B02.out
  obtain ⟨z3, hz3⟩ : ∃ q, (((w2.setCell ⟨w1.heap.size, 0, none⟩ (.int .u64 0)).setCell ⟨w1.heap.size, 1, none⟩ (.string ⟨#[]⟩)).setCell ⟨w1.heap.size, 2, none⟩ (.slice none 0 0)) = q := ⟨_, rfl⟩
  have Gz3 : Hid (w2.grownBy z3 (some w1.heap.size)) := by rw [← hz3]; exact (((gb_set _ _ _ _).trans (gb_set _ _ _ _)).trans (gb_set _ _ _ _))
  have Vz3 : Hid (z3.heap[w1.heap.size]? = some (.cells (staArr none 0 Sta.zero) 25 (0, 0))) := by rw [← hz3]; exact set3 (t := Sta.zero) VZ3.out
  have Bz3 : Hid (Below w.heap.size w z3) := HB3.out.grown Gz3.out HB3.out.size (fun x hx => by injection hx with hx; have := HS1.out; omega)
  obtain ⟨rz30, rz31, rz32⟩ := sta_cells VZ3.out
  obtain ⟨sz30, sz31, sz32⟩ := sta_cells Vz3.out
  have fz30 := frozen_of VZ3.out 0
  have fz31 := frozen_of VZ3.out 1
  have fz32 := frozen_of VZ3.out 2
  go_wp2_with fail
  refine so_ret Sta.zero 1 _ _ w1.heap.size none 0 (SoPost s w) Vz3.out (by rfl) (by rfl) ?_
  rw [SoPost, HSO.out]
  exact ⟨Bz3.out, none, 0, rfl, .inl rfl, Nat.le_refl _⟩
 go_wp2_with fail
 clear x0 x1 x2 VZ3
 go_loopw [20] (fun p20 wr => ∃ i : Nat, p20 = .int .i64 i ∧ i ≤ s.recs.length ∧ Hid (∀ r ∈ s.recs.take i, looseB r = true) ∧ Hid (Below w2.heap.size w2 wr)) (fun p20 _ => s.recs.length - (intOf p20).toNat)
 case atStart => exact ⟨0, rfl, Nat.zero_le _, fun r h => by simp at h, Below.refl _ _⟩
 case round =>
  obtain ⟨i, rfl, hi, hL, hB⟩ := hrel
  have HBr : Hid (Below w.heap.size w wr) := HBW.out wr hB.out
  obtain ⟨xk0, xk1, xk2⟩ := sta_cells (HKA.out wr hB.out)
  by_cases hlt : i < s.recs.length
  ·obtain ⟨b, o, p, hra, hb, hcr, hir⟩ := (HR.out wr HBr.out).get hlt
   have hsm := (HR.out wr HBr.out).s _ (List.getElem_mem hlt)
   obtain ⟨r, hr⟩ : ∃ r, s.recs[i] = r := ⟨_, rfl⟩
   rw [hr] at hcr hir hsm
   have HRq := hdQ hr
   obtain ⟨z0, z1, z2, z3, z4, z5, z6, z7, z8⟩ := recs_nine hcr
   rw [hra] at xk2
   obtain ⟨w4, hw4, V4, B4⟩ := rec_new wr p r
   obtain ⟨lo, hlo⟩ : ∃ b, looseB r = b := ⟨_, rfl⟩
   have HLO := hdQ hlo
   have B04 : Hid (Below w.heap.size w w4) := HBr.out.trans (B4.out.mono HBr.out.size)
   have HLS : Hid (Calls Tryz.prog 38 #[.agg #[.slice p.pa r.a.path.length p.pc, .string r.a.type, .string r.a.name, .int .i64 r.a.key, .int .u64 r.a.place, .string r.a.word, .string r.prov, .string r.id, .slice p.ta r.attrs.length p.tc]] w4 fun e w' => e = .returned (.bool lo) ∧ Below w4.heap.size w4 w') := by rw [← hlo]; exact loose_any r p w4 (hir.turn (Turn.below B4.out)) hsm (HT.out w4 B04.out)
   obtain ⟨y0, y1, y2, y3, y4, y5, y6, y7, y8⟩ := rec_cells V4.out
   rw [hra]
   clear hra hr hlo hir hcr hsm
   go_wp2_with fail
   refine (Calls.mono HLS.out ?_)
   rintro z w5 ⟨rfl, hb5⟩
   have B5 : Hid (Below w2.heap.size w2 w5) := hB.out.trans ((B4.out.trans (hb5.mono B4.out.size)).mono hB.out.size)
   have HB5 : Hid (Below w.heap.size w w5) := HBW.out w5 B5.out
   clear hb5 HLS y0 y1 y2 y3 y4 y5 y6 y7 y8 z0 z1 z2 z3 z4 z5 z6 z7 z8 xk0 xk1 xk2 hw4
   cases lo
   case false =>
    have HSO : Hid (sortS s = (Sta.zero, 1)) := by
     have h1 : s.recs.all looseB = false := by
      rw [List.all_eq_false]
      exact ⟨s.recs[i], List.getElem_mem hlt, by rw [HRq.out, HLO.out]; simp⟩
     rw [Hid, sortS, h1, Bool.and_false]
     rfl
    have VZ5 : Hid (w5.heap[w1.heap.size]? = some (.cells (staArr none 0 Sta.zero) 25 (0, 0))) := HKZ.out w5 B5.out
    obtain ⟨z5, hz5⟩ : ∃ q, (((w5.setCell ⟨w1.heap.size, 0, none⟩ (.int .u64 0)).setCell ⟨w1.heap.size, 1, none⟩ (.string ⟨#[]⟩)).setCell ⟨w1.heap.size, 2, none⟩ (.slice none 0 0)) = q := ⟨_, rfl⟩
    have Gz5 : Hid (w5.grownBy z5 (some w1.heap.size)) := by rw [← hz5]; exact (((gb_set _ _ _ _).trans (gb_set _ _ _ _)).trans (gb_set _ _ _ _))
    have Vz5 : Hid (z5.heap[w1.heap.size]? = some (.cells (staArr none 0 Sta.zero) 25 (0, 0))) := by rw [← hz5]; exact set3 (t := Sta.zero) VZ5.out
    have Bz5 : Hid (Below w.heap.size w z5) := HB5.out.grown Gz5.out HB5.out.size (fun x hx => by injection hx with hx; have := HS1.out; omega)
    obtain ⟨rz50, rz51, rz52⟩ := sta_cells VZ5.out
    obtain ⟨sz50, sz51, sz52⟩ := sta_cells Vz5.out
    have fz50 := frozen_of VZ5.out 0
    have fz51 := frozen_of VZ5.out 1
    have fz52 := frozen_of VZ5.out 2
    go_wp2_with fail
    refine so_ret Sta.zero 1 _ _ w1.heap.size none 0 (SoPost s w) Vz5.out (by rfl) (by rfl) ?_
    rw [SoPost, HSO.out]
    exact ⟨Bz5.out, none, 0, rfl, .inl rfl, Nat.le_refl _⟩
   case true =>
    have HLN : Hid (∀ x ∈ s.recs.take (i + 1), looseB x = true) := fun x hx => by
     rw [List.take_add_one, List.getElem?_eq_getElem hlt] at hx
     rcases List.mem_append.1 hx with h1 | h1
     ·exact hL.out x h1
     ·rw [Option.toList_some, List.mem_singleton] at h1
      rw [h1, HRq.out]; exact HLO.out
    go_wp2_with fail
    go_roundw
    case rel => exact ⟨i + 1, by go_num, by omega, HLN.out, B5.out⟩
    case measure => simp [intOf]; omega
  ·obtain rfl : i = s.recs.length := by omega
   have HLA : Hid (∀ r ∈ s.recs, looseB r = true) := by have := hL.out; rw [List.take_length] at this; exact this
   obtain ⟨wa, rfl⟩ : ∃ wa, wa = wr := ⟨wr, rfl⟩
   clear hL hlt hi
   obtain ⟨w7, hr7, HK7, B7⟩ := make_keys wa s.recs.length hn
   have HR7 := hdQ hr7
   obtain ⟨bk, hbk⟩ : ∃ z, wa.heap.size = z := ⟨_, rfl⟩
   rw [hbk] at HR7 HK7
   have HBK := hdQ hbk
   have B27 : Hid (Below w2.heap.size w2 w7) := hB.out.trans (B7.out.mono hB.out.size)
   have HZK : Hid (w2.heap.size ≤ bk ∧ bk < w7.heap.size) := ⟨by have := hB.out.size; omega, by obtain ⟨cs, h1, _⟩ := HK7.out; exact heap_lt h1⟩
   have HG2 : Hid (∀ W, w7.grownBy W (some bk) → Below w2.heap.size w2 W) := fun W hg => B27.out.grown hg B27.out.size (fun x hx => by injection hx with hx; have := HZK.out.1; omega)
   have hx7 := sta_cells (HKA.out w7 B27.out)
   obtain ⟨y70, y71, y72⟩ := hx7
   clear hr7 hbk
   go_wp2_with (at_make; refine wpList_make_run (.int .i64 (s.recs.length : Int)) (.int .i64 (s.recs.length : Int)) 68 HR7.out rfl _ _ rfl rfl rfl ?_)
   clear xk0 xk1 xk2 y70 y71 y72 HR7
   go_loopw [36] (fun p36 wr => ∃ (i : Nat) (f : Nat → Kd), p36 = .int .i64 i ∧ i ≤ s.recs.length ∧ Hid (KI s w7 bk i f wr)) (fun p36 _ => s.recs.length - (intOf p36).toNat)
   case atStart => exact ⟨0, fun _ => ⟨⟨#[]⟩, At.zero, Rec.zero⟩, rfl, Nat.zero_le _, KI.init HK7.out _⟩
   case round =>
    obtain ⟨i, f, rfl, hi, HI⟩ := hrel
    have hB2 : Hid (Below w2.heap.size w2 wr) := HG2.out wr HI.out.g
    have HBr : Hid (Below w.heap.size w wr) := HBW.out wr hB2.out
    have HZR : Hid (w7.heap.size ≤ wr.heap.size) := HI.out.g.size
    by_cases hlt : i < s.recs.length
    ·obtain ⟨b, o, p, hra, hb, hcr, hir⟩ := (HR.out wr HBr.out).get hlt
     have hsm := (HR.out wr HBr.out).s _ (List.getElem_mem hlt)
     obtain ⟨r, hr⟩ : ∃ r, s.recs[i] = r := ⟨_, rfl⟩
     rw [hr] at hcr hir hsm
     have HRq := hdQ hr
     have HSM := hdQ hsm
     obtain ⟨z0, z1, z2, z3, z4, z5, z6, z7, z8⟩ := recs_nine hcr
     obtain ⟨w8, hw8, V8, B8⟩ := rec_new wr p r
     have HZ8 : Hid (wr.heap.size ≤ w8.heap.size) := B8.out.size
     have HCP : Hid (Calls Tryz.prog 39 #[.agg #[.slice p.pa r.a.path.length p.pc, .string r.a.type, .string r.a.name, .int .i64 r.a.key, .int .u64 r.a.place, .string r.a.word, .string r.prov, .string r.id, .slice p.ta r.attrs.length p.tc]] w8 (CpPost2 r w8)) := copied2_any r p w8 (hir.turn (Turn.below B8.out)) hsm.l hsm.n
     obtain ⟨y0, y1, y2, y3, y4, y5, y6, y7, y8⟩ := rec_cells V8.out
     have hl8 := heap_lt V8.out
     have hi0 : (0 : Int) ≤ (i : Int) := by omega
     have hi1 : (i : Int) < (s.recs.length : Int) := by omega
     rw [hra]
     clear hra hr hir hcr hsm
     go_wp2_with fail
     refine (Calls.mono HCP.out ?_)
     rintro z w9 hz
     obtain ⟨p', rfl, htx, htp, hnil, hb9⟩ := hz.two
     have B9 : Hid (Below wr.heap.size wr w9) := B8.out.trans (hb9.out.mono B8.out.size)
     have V9 : Hid (w9.heap[wr.heap.size]? = some (.cells (recArr p r) 38 (0, 0))) := (hb9.out.block _ hl8).trans V8.out
     have HNIL : Hid (r.attrs = [] → p'.ta = none ∧ p'.tc = 0) := hnil
     clear hz HCP y0 y1 y2 y3 y4 y5 y6 y7 y8 z0 z1 z2 z3 z4 z5 z6 z7 z8 hw8 hnil
     obtain ⟨c0, c1, c2, c3, c4, c5, c6, c7, c8⟩ := rec_cells V9.out
     obtain ⟨f0, f1, f2, f3, f4, f5, f6, f7, f8⟩ := rec_frozen V9.out
     obtain ⟨w10, hw10⟩ : ∃ q, (((((((((w9.setCell ⟨wr.heap.size, 0, none⟩ (.slice p'.pa r.a.path.length p'.pc)).setCell ⟨wr.heap.size, 1, none⟩ (.string r.a.type)).setCell ⟨wr.heap.size, 2, none⟩ (.string r.a.name)).setCell ⟨wr.heap.size, 3, none⟩ (.int .i64 r.a.key)).setCell ⟨wr.heap.size, 4, none⟩ (.int .u64 r.a.place)).setCell ⟨wr.heap.size, 5, none⟩ (.string r.a.word)).setCell ⟨wr.heap.size, 6, none⟩ (.string r.prov)).setCell ⟨wr.heap.size, 7, none⟩ (.string r.id)).setCell ⟨wr.heap.size, 8, none⟩ (.slice p'.ta r.attrs.length p'.tc)) = q := ⟨_, rfl⟩
     have G10 : Hid (w9.grownBy w10 (some wr.heap.size)) := by rw [← hw10]; exact (((((((((gb_set _ _ _ _).trans (gb_set _ _ _ _)).trans (gb_set _ _ _ _)).trans (gb_set _ _ _ _)).trans (gb_set _ _ _ _)).trans (gb_set _ _ _ _)).trans (gb_set _ _ _ _)).trans (gb_set _ _ _ _)).trans (gb_set _ _ _ _))
     have V10 : Hid (w10.heap[wr.heap.size]? = some (.cells (recArr p' r) 38 (0, 0))) := by rw [← hw10]; exact set9 V9.out p' r
     have B10 : Hid (Below wr.heap.size wr w10) := B9.out.grown G10.out B9.out.size (fun x hx => by injection hx with hx; omega)
     have TX10 : Hid (IsTexts w10.drew (PartT 9 w8.heap.size w10.drew) p'.pa r.a.path) := (htx.out.turn (partT_grown (by decide) G10.out (Nat.le_refl _) V9.out)).turn (partT_below ((Below.refl _ _).drew) (Nat.le_refl _))
     have TP10 : Hid (IsPairs w10.drew (PartT 72 w8.heap.size w10.drew) p'.ta r.attrs) := (htp.out.turn (partT_grown (by decide) G10.out (Nat.le_refl _) V9.out)).turn (partT_below ((Below.refl _ _).drew) (Nat.le_refl _))
     have hl9 := hb9.out.size
     clear htx htp hb9
     have q8d : w10.drew.cell? ⟨wr.heap.size, 8, none⟩ = some (.slice p'.ta r.attrs.length p'.tc) := cell_of (w := w10.drew) V10.out 8
     go_wp2_with fail
     clear c0 c1 c2 c3 c4 c5 c6 c7 c8 f0 f1 f2 f3 f4 f5 f6 f7 f8 hw10
     refine wp_region_held_drew (S := (fun w' => w'.cell? ⟨wr.heap.size, 8, none⟩ = some (.slice p'.ta r.attrs.length p'.tc))) (by kernel_rfl) ?_ (fun hHeld => ?_)
     ·(first | (with_reducible exact q8) | (with_reducible exact q8d))
     refine tk 0 ?_
     refine tv 1 (.slice p'.ta r.attrs.length p'.tc) ?_ ?_
     ·(intro w hs; have q := hs; go_simp <;> with_reducible rfl)
     try simp only [nz]
     refine rd 2 (fun K hK => ?_)
     try simp only [nz]
     go_simp
     (go_at_call 41; refine (Calls.mono (Go.Proofs.YtehghladpnpcoaaGreatDoor.Stable.mkP_any w10.drew) ?_); rintro z w11 ⟨rfl, hk11, hb11⟩; have B11 : Hid (Below wr.heap.size wr w11) := B10.out.drew.trans (hb11.mono (by have := B10.out.size; simp; omega)); have K11 : Hid (Go.Proofs.YtehghladpnpcoaaGreatDoor.Stable.KeyAtP w11 w10.drew.heap.size) := hk11; have V11 : Hid (w11.heap[wr.heap.size]? = some (.cells (recArr p' r) 38 (0, 0))) := (hb11.block _ (heap_lt V10.out)).trans V10.out; have TX11 : Hid (IsTexts w11 (PartT 9 w8.heap.size w11) p'.pa r.a.path) := TX10.out.turn (partT_below (w := w10.drew) hb11 (Nat.le_refl _)); have TP11 : Hid (IsPairs w11 (PartT 72 w8.heap.size w11) p'.ta r.attrs) := TP10.out.turn (partT_below (w := w10.drew) hb11 (Nat.le_refl _)); clear hk11 hb11; have q8 : w11.cell? ⟨wr.heap.size, 8, none⟩ = some (.slice p'.ta r.attrs.length p'.tc) := cell_of V11.out 8; have HSP := sortPairs_any r.attrs p'.ta p'.tc w10.drew.heap.size w8.heap.size w11 TP11.out HNIL.out HSM.out.n K11.out)
     clear hHeld
     refine hK.out _ _ ?_ (fun hHeld => ?_)
     ·(first | (with_reducible exact q8) | (with_reducible exact q8d))
     clear hK K
     try simp only [nz]
     refine rd 3 (fun K hK => ?_)
     try simp only [nz]
     go_simp
     (go_at_call 40; refine (Calls.mono HSP ?_); rintro z w12 ⟨⟨v, rfl⟩, g, hgp, hgw, hgi, ro, hgg, hgr⟩; have B12 : Hid (Below wr.heap.size wr w12) := below_sorted B11.out (HZ8.out) (by have := B11.out.size; omega) hgg hgr; have V12 : Hid (w12.heap[wr.heap.size]? = some (.cells (recArr p' r) 38 (0, 0))) := rec_sorted V11.out hgg hgr; have TX12 : Hid (IsTexts w12 (PartT 9 w8.heap.size w12) p'.pa r.a.path) := texts_sorted TX11.out hgg hgr; have TP12 : Hid (IsPairs w12 (PartT 72 w8.heap.size w12) p'.ta g) := hgi; have HGP := hdQ hgp; have HGW := hdQ hgw; clear hgp hgw hgi hgg hgr HSP; have q8 : w12.cell? ⟨wr.heap.size, 8, none⟩ = some (.slice p'.ta r.attrs.length p'.tc) := cell_of V12.out 8)
     clear hHeld
     refine hK.out _ _ ?_ (fun hHeld => ?_)
     ·(first | (with_reducible exact q8) | (with_reducible exact q8d))
     clear hK K
     try simp only [nz]
     refine wpAnyH_done (by kernel_rfl) ?_ _
     obtain ⟨r', hr'⟩ : ∃ r', ({ r with attrs := g } : Rec) = r' := ⟨_, rfl⟩
     have HR' := hdQ hr'
     have hgl : g.length = r.attrs.length := HGP.out.length_eq
     obtain ⟨q, hq⟩ : ∃ q : ByteArray, (⟨(printA r.a).toArray⟩ : ByteArray) = q := ⟨_, rfl⟩
     have HQ := hdQ hq
     have HB12 : Hid (Below w.heap.size w w12.drew) := (HBr.out.trans (B12.out.mono HBr.out.size)).drew
     have HI12 : Hid (IsRec w12.drew (fun b => bk < b) p' r') := by
      have e1 := HZK.out.2
      have e2 := HZR.out
      have e3 := HZ8.out
      refine ⟨?_, ?_⟩
      ·rw [← hr']
       exact TX12.out.turn ⟨Nat.le_refl _, fun b hb _ => ⟨rfl, by have h1 : w8.heap.size ≤ b := hb.1; omega⟩⟩
      ·rw [← hr']
       exact TP12.out.turn ⟨Nat.le_refl _, fun b hb _ => ⟨rfl, by have h1 : w8.heap.size ≤ b := hb.1; omega⟩⟩
     have HPR : Hid (Calls Tryz.prog 43 #[.agg #[.slice p'.pa r.a.path.length p'.pc, .string r.a.type, .string r.a.name, .int .i64 r.a.key, .int .u64 r.a.place, .string r.a.word]] w12.drew fun e w' => e = .returned (.string q) ∧ Below w12.drew.heap.size w12.drew w') := by
      have ha : AdrAt w12.drew p'.pa r.a := ⟨TX12.out.turn ⟨Nat.le_refl _, fun b _ _ => ⟨rfl, trivial⟩⟩, HSM.out.l, HSM.out.s, HSM.out.ty, HSM.out.nm, HSM.out.wd, HSM.out.p⟩
      have h1 := print_any r.a p'.pa p'.pc _ w12.drew ha.t ha.l ha.s ha.ty ha.nm ha.wd ha.p (HT.out _ HB12.out)
      rw [hq] at h1
      exact h1
     have HVE : Hid (Value.agg (encK ⟨q, p', r'⟩).toArray = .agg #[.string q, .slice p'.pa r.a.path.length p'.pc, .string r.a.type, .string r.a.name, .int .i64 r.a.key, .int .u64 r.a.place, .string r.a.word, .string r.prov, .string r.id, .slice p'.ta r.attrs.length p'.tc]) := by rw [Hid, ← hr']; simp [encK, hgl]
     have HKP : Hid (Kept s.recs[i] ⟨q, p', r'⟩) := by
      rw [Hid, HRq.out, ← hr']
      exact ⟨hq.symm, rfl, HGP.out, HGW.out⟩
     obtain ⟨d0, d1, d2, d3, d4, d5, d6, d7, d8⟩ := rec_cells (w := w12.drew) V12.out
     have wri : IntKind.i64.wrap (i : Int) = (i : Int) := IntWalk.i64_in _ (by omega)
     clear hr' hgl hq q8
     go_wp2_with fail
     refine wp_region_held_drew (S := (fun w' => w'.cell? ⟨wr.heap.size, 0, none⟩ = some (.slice p'.pa r.a.path.length p'.pc) ∧ w'.cell? ⟨wr.heap.size, 1, none⟩ = some (.string r.a.type) ∧ w'.cell? ⟨wr.heap.size, 2, none⟩ = some (.string r.a.name) ∧ w'.cell? ⟨wr.heap.size, 3, none⟩ = some (.int .i64 r.a.key) ∧ w'.cell? ⟨wr.heap.size, 4, none⟩ = some (.int .u64 r.a.place) ∧ w'.cell? ⟨wr.heap.size, 5, none⟩ = some (.string r.a.word) ∧ w'.cell? ⟨wr.heap.size, 6, none⟩ = some (.string r.prov) ∧ w'.cell? ⟨wr.heap.size, 7, none⟩ = some (.string r.id) ∧ w'.cell? ⟨wr.heap.size, 8, none⟩ = some (.slice p'.ta r.attrs.length p'.tc))) (by kernel_rfl) ?_ (fun hHeld => ?_)
     ·(first | (with_reducible exact ⟨d0, d1, d2, d3, d4, d5, d6, d7, d8⟩) | (with_reducible exact ⟨e0, e1, e2, e3, e4, e5, e6, e7, e8⟩) | (with_reducible exact ⟨g0, g1, g2, g3, g4, g5, g6, g7, g8⟩))
     refine tk 0 ?_
     refine tk 1 ?_
     refine tk 2 ?_
     try simp only [nz]
     refine tv 3 (.agg #[.slice p'.pa r.a.path.length p'.pc, .string r.a.type, .string r.a.name, .int .i64 r.a.key, .int .u64 r.a.place, .string r.a.word]) ?_ ?_
     ·(intro w hs; (obtain ⟨q0, q1, q2, q3, q4, q5, q6, q7, q8⟩ := hs); go_simp <;> with_reducible rfl)
     refine tv 5 (.agg #[.slice p'.pa r.a.path.length p'.pc, .string r.a.type, .string r.a.name, .int .i64 r.a.key, .int .u64 r.a.place, .string r.a.word, .string r.prov, .string r.id, .slice p'.ta r.attrs.length p'.tc]) ?_ ?_
     ·(intro w hs; (obtain ⟨q0, q1, q2, q3, q4, q5, q6, q7, q8⟩ := hs); go_simp <;> with_reducible rfl)
     try simp only [nz]
     refine rd 4 (fun K hK => ?_)
     try simp only [nz]
     go_simp
     (go_at_call 43; refine (Calls.mono HPR.out ?_); rintro z w13 ⟨rfl, hb13⟩; have B13 : Hid (Below wr.heap.size wr w13) := (B12.out.drew).trans (hb13.mono (by have := B12.out.size; simp; omega)); have V13 : Hid (w13.heap[wr.heap.size]? = some (.cells (recArr p' r) 38 (0, 0))) := (hb13.block _ (heap_lt V12.out)).trans V12.out; have HI13 : Hid (IsRec w13 (fun b => bk < b) p' r') := (HI12.out.turn (Turn.below (w := w12.drew) hb13)); clear hb13; have ST := HI.out.store hlt B13.out ⟨q, p', r'⟩; rw [HVE.out] at ST; have HNX : Hid (KI s w7 bk (i + 1) _ (w13.setCells bk (i * 10) (encK ⟨q, p', r'⟩))) := HI.out.next hlt B13.out ⟨q, p', r'⟩ HKP.out HI13.out; have V14 : Hid ((w13.setCells bk (i * 10) (encK ⟨q, p', r'⟩)).heap[wr.heap.size]? = some (.cells (recArr p' r) 38 (0, 0))) := ((Stable.gb_many bk _ w13 _).block _ (heap_lt V13.out) (fun e => by injection e with e; have e1 := HZK.out.2; have e2 := HZR.out; omega)).trans V13.out; obtain ⟨w14, hw14⟩ : ∃ z, w13.setCells bk (i * 10) (encK ⟨q, p', r'⟩) = z := ⟨_, rfl⟩; rw [hw14] at ST HNX V14; have ST' := hdQ ST; clear ST hw14; obtain ⟨e0, e1, e2, e3, e4, e5, e6, e7, e8⟩ := rec_cells V13.out; obtain ⟨g0, g1, g2, g3, g4, g5, g6, g7, g8⟩ := rec_cells V14.out)
     clear hHeld
     refine hK.out _ _ ?_ (fun hHeld => ?_)
     ·(first | (with_reducible exact ⟨d0, d1, d2, d3, d4, d5, d6, d7, d8⟩) | (with_reducible exact ⟨e0, e1, e2, e3, e4, e5, e6, e7, e8⟩) | (with_reducible exact ⟨g0, g1, g2, g3, g4, g5, g6, g7, g8⟩))
     clear hK K
     try simp only [nz]
     refine tk 6 ?_
     refine tk 7 ?_
     try simp only [nz]
     refine rd 8 (fun K hK => ?_)
     rw [if_pos (by rfl)]
     refine Go.Proofs.YtehghladpnpcoaaGreatDoor.Stable.wp_storeAt rfl rfl rfl ST'.out ?_
     clear hHeld
     refine hK.out _ _ ?_ (fun hHeld => ?_)
     ·(first | (with_reducible exact ⟨d0, d1, d2, d3, d4, d5, d6, d7, d8⟩) | (with_reducible exact ⟨e0, e1, e2, e3, e4, e5, e6, e7, e8⟩) | (with_reducible exact ⟨g0, g1, g2, g3, g4, g5, g6, g7, g8⟩))
     clear hK K
     try simp only [nz]
     refine wpAnyH_done (by kernel_rfl) ?_ _
     clear d0 d1 d2 d3 d4 d5 d6 d7 d8 e0 e1 e2 e3 e4 e5 e6 e7 e8 g0 g1 g2 g3 g4 g5 g6 g7 g8
     go_wp2_with fail
     go_roundw
     case rel => exact ⟨i + 1, _, by go_num, by omega, HNX.out⟩
     case measure => simp [intOf]; omega
    ·obtain rfl : i = s.recs.length := by omega
     obtain ⟨wb, rfl⟩ : ∃ wb, wb = wr := ⟨wr, rfl⟩
     clear hlt hi
     have hbkw : bk < wb.heap.size := by have := HZK.out.2; have := HZR.out; omega
     have hnb : wb.heap.size ≠ bk := by omega
     go_wp2_with fail
     refine (Calls.mono (Stable.mkK_any wb) ?_)
     rintro z w15 ⟨rfl, hk15, hb15⟩
     have B15 : Hid (Below wb.heap.size wb w15) := hb15
     have HCM := Stable.sortStableK_any elemK (weak_key _ nameK ltK_key) bk 0 s.recs.length wb.heap.size s.recs.length f w15 (HI.out.arr.stays hb15) (Stable.cmpAtK elemK nameK keyK_any wb.heap.size bk w15 hk15 hnb) hn
     clear hk15 hb15
     go_wp2_with fail
     refine (Calls.mono HCM ?_)
     rintro z w16 ⟨⟨v, rfl⟩, g, hA16, hM16, hS16, hG16⟩
     have HA16 := hdQ hA16
     have HS16 := hdQ hS16
     have HG16 : Hid (w7.grownBy w16 (some bk)) := (HI.out.g.trans (gb_below B15.out _)).trans hG16
     have HB16 : Hid (Below w2.heap.size w2 w16) := HG2.out w16 HG16.out
     have HTL := hdQ (sorted_tells (by have := HV0.out; rwa [dtQ] at this) HLA.out HI.out hM16 hS16)
     have HRI : Hid (∀ j, j < s.recs.length → IsRec w16 (fun b => bk < b ∧ b < w16.heap.size) (g j).p (g j).r) := fun j hj => by
      obtain ⟨k, _, hk, e⟩ := hM16.ins j (Nat.zero_le _) hj
      rw [e]
      have h1 := (HI.out.k k hk hk).2
      have hg2 : wb.grownBy w16 (some bk) := (gb_below B15.out _).trans hG16
      exact h1.turn ⟨hg2.size, fun b hA hl => ⟨hg2.block b hl (fun e => by injection e with e; have h2 : bk < b := hA; omega), hA, Nat.lt_of_lt_of_le hl hg2.size⟩⟩
     have HLN : Hid (∀ (x : Rec) (j : Nat), j < s.recs.length → ∀ {k : Kd}, g j = k → x = k.r → ∃ m, ∃ hm : m < s.recs.length, x.attrs.length = s.recs[m].attrs.length) := fun x j hj k hk hx => by
      obtain ⟨m, _, hm, e⟩ := hM16.ins j (Nat.zero_le _) hj
      refine ⟨m, hm, ?_⟩
      rw [hx, ← hk, e]
      exact (HI.out.k m hm hm).1.em.length_eq
     have HZ16 : Hid (bk < w16.heap.size ∧ w2.heap.size ≤ w16.heap.size) := ⟨by have := HA16.out.lt; omega, HB16.out.size⟩
     obtain ⟨x0, x1, x2⟩ := sta_cells (HKA.out w16 HB16.out)
     clear hA16 hM16 hS16 hG16 HCM hbkw hnb
     obtain ⟨z17, hz17, Vz17, Bz17, Zz17⟩ := zsta_new w16
     obtain ⟨t17, ht17⟩ : ∃ t17, (((z17.setCell ⟨w16.heap.size, 0, none⟩ (.int .u64 s.serial)).setCell ⟨w16.heap.size, 1, none⟩ (.string s.lin)).setCell ⟨w16.heap.size, 2, none⟩ (.slice none 0 0)) = t17 := ⟨_, rfl⟩
     have Gt17 : Hid (z17.grownBy t17 (some w16.heap.size)) := by rw [← ht17]; exact (((gb_set _ _ _ _).trans (gb_set _ _ _ _)).trans (gb_set _ _ _ _))
     have Vt17 : Hid (t17.heap[w16.heap.size]? = some (.cells (staArr none 0 { s with recs := [] }) 25 (0, 0))) := by rw [← ht17]; exact set3 (t := { s with recs := [] }) Vz17.out
     have Bt17 : Hid (Below w16.heap.size w16 t17) := Bz17.out.grown Gt17.out Bz17.out.size (fun x hx => by injection hx with hx; omega)
     have fz170 := frozen_of Vz17.out 0
     have fz171 := frozen_of Vz17.out 1
     have fz172 := frozen_of Vz17.out 2
     obtain ⟨cz170, cz171, cz172⟩ := sta_cells Vz17.out
     go_wp2_with fail
     clear x0 x1 x2 ht17 hz17 cz170 cz171 cz172 fz170 fz171 fz172
     obtain ⟨x9, hx9⟩ : ∃ z, w16.heap.size = z := ⟨_, rfl⟩
     have HX9 := hdQ hx9
     rw [hx9] at Vt17 Bt17 HRI HZ16 ⊢
     clear hx9
     go_loopw [66] (fun p66 wr => ∃ (i : Nat) (a : Option Addr) (c : Nat), p66 = .int .i64 i ∧ i ≤ s.recs.length ∧ Hid (TI s bk x9 w16 g i a c wr)) (fun p66 _ => s.recs.length - (intOf p66).toNat)
     case atStart => exact ⟨0, none, 0, rfl, Nat.zero_le _, ⟨Vt17.out, RowR.nil _ _ _, fun j hj => by omega, by rw [HX9.out]; exact Bt17.out⟩⟩
     case round =>
      obtain ⟨i, a, c, rfl, hi, HI3⟩ := hrel
      have HZR3 : Hid (x9 < wr.heap.size) := heap_lt HI3.out.V
      have HBR : Hid (Below w2.heap.size w2 wr) := HB16.out.trans (HI3.out.B.mono HB16.out.size)
      by_cases hlt : i < s.recs.length
      ·have AR := HA16.out.stays HI3.out.B
       have HAR := hdQ AR
       obtain ⟨k, hk⟩ : ∃ k, g i = k := ⟨_, rfl⟩
       have HK := hdQ hk
       obtain ⟨z0, z1, z2, z3, z4, z5, z6, z7, z8, z9⟩ := kd_ten (k := k) (by rw [← hk]; exact AR.c i hlt)
       obtain ⟨w20, hw20, V20, B20⟩ := kd_new wr k
       have HIK : Hid (IsRec w16 (fun b => bk < b ∧ b < x9) k.p k.r) := by rw [← hk]; exact HRI.out i hlt
       obtain ⟨rb, hrb⟩ : ∃ b, risingB k.r.attrs = b := ⟨_, rfl⟩
       have HRB := hdQ hrb
       have BK : Hid (Below w16.heap.size w16 w20.drew) := (HI3.out.B.trans (B20.out.mono HI3.out.B.size)).drew
       have HAL : Hid (k.r.attrs.length ≤ 3000) := by
        obtain ⟨j, hj, e⟩ : ∃ j, ∃ hj : j < s.recs.length, k.r.attrs.length = s.recs[j].attrs.length := HLN.out k.r i hlt hk rfl
        rw [Hid, e]; exact ((HR.out w (Below.refl _ _)).s _ (List.getElem_mem hj)).n
       have HRS : Hid (Calls Tryz.prog 47 #[.slice k.p.ta k.r.attrs.length k.p.tc] w20.drew fun e w' => e = .returned (.bool rb) ∧ Below w20.drew.heap.size w20.drew w') := by
        rw [← hrb]
        exact rising_any k.r.attrs k.p.ta k.p.tc _ w20.drew (HIK.out.attrs.turn (Turn.mono _ (fun _ h _ => h)) |>.turn ⟨BK.out.size, fun b hA hl => ⟨BK.out.block b hl, hA⟩⟩) HAL.out
       have hi0 : (0 : Int) ≤ (i : Int) := by omega
       have hi1 : (i : Int) < (s.recs.length : Int) := by omega
       have d0 : w20.drew.cell? ⟨wr.heap.size, 0, none⟩ = some (.string k.s) := cell_of (w := w20.drew) V20.out 0
       have d9 : w20.drew.cell? ⟨wr.heap.size, 9, none⟩ = some (.slice k.p.ta k.r.attrs.length k.p.tc) := cell_of (w := w20.drew) V20.out 9
       clear AR hk hrb
       go_wp2_with fail
       clear z0 z1 z2 z3 z4 z5 z6 z7 z8 z9 hw20
       by_cases h0 : 0 < i
       ·obtain ⟨ip, hip⟩ : ∃ z, i - 1 = z := ⟨_, rfl⟩
        have HIP : Hid (i - 1 = ip) := hip
        have gip : (i : Int) - 1 = (ip : Int) := by omega
        have hp0 : (0 : Int) ≤ (ip : Int) := by omega
        have hp1 : (ip : Int) < (s.recs.length : Int) := by omega
        have wip : IntKind.i64.wrap (ip : Int) = (ip : Int) := IntWalk.i64_in _ (by omega)
        have tg1 : decide ((0 : Int) < (i : Int)) = true := by rw [dtQ]; omega
        have tg2 : decide (0 < i) = true := by rw [dtQ]; exact h0
        obtain ⟨kp, hkp⟩ : ∃ k, g ip = k := ⟨_, rfl⟩
        have HKP : Hid (g ip = kp) := hkp
        have HPV : Hid (∀ W, Below wr.heap.size wr W → W.cell? ⟨bk, ip * 10, none⟩ = some (.string kp.s)) := fun W hW => by
         have h1 := (kd_ten (k := kp) (by rw [← hkp]; exact HAR.out.c ip (by omega))).1
         rw [cell_blk (hW.block bk HAR.out.lt)]; exact h1
        have dp : w20.drew.cell? ⟨bk, ip * 10, none⟩ = some (.string kp.s) := HPV.out _ B20.out.drew
        clear hip hkp
        obtain ⟨es, hes⟩ : ∃ b, (kp.s.toList == k.s.toList) = b := ⟨_, rfl⟩
        have HES := hdQ hes
        cases es
        case false =>
         have hes2 : (k.s.toList == kp.s.toList) = false := by rw [bnQ] at hes ⊢; exact fun e => hes e.symm
         refine wp_region_held_drew (S := (fun w' => w'.cell? ⟨bk, ip * 10, none⟩ = some (.string kp.s) ∧ w'.cell? ⟨wr.heap.size, 0, none⟩ = some (.string k.s) ∧ w'.cell? ⟨wr.heap.size, 9, none⟩ = some (.slice k.p.ta k.r.attrs.length k.p.tc))) (by kernel_rfl) ?_ (fun hHeld => ?_)
         ·(first | (with_reducible exact ⟨dp, d0, d9⟩) | (with_reducible exact ⟨mp, m0, m9⟩))
         refine tk 0 ?_
         refine tk 1 ?_
         refine tk 2 ?_
         try simp only [nz]
         refine tk 3 ?_
         refine tk 4 ?_
         refine tk 5 ?_
         try simp only [nz]
         refine tk 6 ?_
         refine tk 7 ?_
         refine tv 8 (.string kp.s) ?_ ?_
         ·(intro w hs; (obtain ⟨q0, q1, q2⟩ := hs); go_simp <;> with_reducible rfl)
         try simp only [nz]
         refine tk 9 ?_
         refine tv 10 (.string k.s) ?_ ?_
         ·(intro w hs; (obtain ⟨q0, q1, q2⟩ := hs); go_simp <;> with_reducible rfl)
         refine tk 11 ?_
         try simp only [nz]
         refine tk 12 ?_
         refine tk 13 ?_
         refine tk 14 ?_
         try simp only [nz]
         refine tk 15 ?_
         refine tv 16 (.slice k.p.ta k.r.attrs.length k.p.tc) ?_ ?_
         ·(intro w hs; (obtain ⟨q0, q1, q2⟩ := hs); go_simp <;> with_reducible rfl)
         try simp only [nz]
         refine rd 17 (fun K hK => ?_)
         try simp only [nz]
         go_simp
         (go_at_call 47; refine (Calls.mono HRS.out ?_); rintro z w21 ⟨rfl, hb21⟩; have B21 : Hid (Below wr.heap.size wr w21) := (B20.out.drew).trans (hb21.mono (by have := B20.out.size; simp; omega)); have V21 : Hid (w21.heap[wr.heap.size]? = some (.cells (encK k).toArray 78 (0, 0))) := (hb21.block _ (heap_lt V20.out)).trans V20.out; clear hb21; have m0 : w21.cell? ⟨wr.heap.size, 0, none⟩ = some (.string k.s) := cell_of V21.out 0; have m9 : w21.cell? ⟨wr.heap.size, 9, none⟩ = some (.slice k.p.ta k.r.attrs.length k.p.tc) := cell_of V21.out 9; have mp : w21.cell? ⟨bk, ip * 10, none⟩ = some (.string kp.s) := HPV.out w21 B21.out)
         clear hHeld
         refine hK.out _ _ ?_ (fun hHeld => ?_)
         ·(first | (with_reducible exact ⟨dp, d0, d9⟩) | (with_reducible exact ⟨mp, m0, m9⟩))
         clear hK K
         try simp only [nz]
         refine tk 18 ?_
         refine tk 19 ?_
         try simp only [nz]
         refine wpAnyH_done (by kernel_rfl) ?_ _
         cases rb
         case false => 
          have HSO : Hid (sortS s = (Sta.zero, 6)) := HTL.out.2 (not_ok hlt (.inl (by rw [HK.out]; exact HRB.out)))
          have BE2 : Hid (Below w2.heap.size w2 w21) := HBR.out.trans (B21.out.mono HBR.out.size)
          have BE : Hid (Below w.heap.size w w21) := HBW.out _ BE2.out
          have VZE : Hid (w21.heap[w1.heap.size]? = some (.cells (staArr none 0 Sta.zero) 25 (0, 0))) := HKZ.out _ BE2.out
          obtain ⟨z9, hz9⟩ : ∃ q, (((w21.setCell ⟨w1.heap.size, 0, none⟩ (.int .u64 0)).setCell ⟨w1.heap.size, 1, none⟩ (.string ⟨#[]⟩)).setCell ⟨w1.heap.size, 2, none⟩ (.slice none 0 0)) = q := ⟨_, rfl⟩
          have Gz9 : Hid (w21.grownBy z9 (some w1.heap.size)) := by rw [← hz9]; exact (((gb_set _ _ _ _).trans (gb_set _ _ _ _)).trans (gb_set _ _ _ _))
          have Vz9 : Hid (z9.heap[w1.heap.size]? = some (.cells (staArr none 0 Sta.zero) 25 (0, 0))) := by rw [← hz9]; exact set3 (t := Sta.zero) VZE.out
          have Bz9 : Hid (Below w.heap.size w z9) := BE.out.grown Gz9.out BE.out.size (fun x hx => by injection hx with hx; have := HS1.out; omega)
          obtain ⟨rz90, rz91, rz92⟩ := sta_cells VZE.out
          obtain ⟨sz90, sz91, sz92⟩ := sta_cells Vz9.out
          have fz90 := frozen_of VZE.out 0
          have fz91 := frozen_of VZE.out 1
          have fz92 := frozen_of VZE.out 2
          go_wp2_with fail
          refine so_ret Sta.zero 6 _ _ w1.heap.size none 0 (SoPost s w) Vz9.out (by rfl) (by rfl) ?_
          rw [SoPost, HSO.out]
          exact ⟨Bz9.out, none, 0, rfl, .inl rfl, Nat.le_refl _⟩
         case true => 
          have HON : Hid (OkTo g (i + 1)) := fun j hj => by
           by_cases e : j = i
           ·rw [e]
            exact ⟨by rw [HK.out]; exact HRB.out, fun _ => by rw [HIP.out, HKP.out, HK.out]; intro e; have := HES.out; rw [e] at this; simp at this⟩
           ·exact HI3.out.O j (by omega)
          have V9 : Hid (w21.heap[x9]? = some (.cells (staArr a c ⟨s.serial, s.lin, (List.range i).map fun j => (g j).r⟩) 25 (0, 0))) := (B21.out.block _ HZR3.out).trans HI3.out.V
          obtain ⟨w22, hw22, V22, B22⟩ := rec_new w21 k.p k.r
          have hz16 := HZ16.out
          have HR22 : RowR w22 (x9 + 1) (fun b => bk < b ∧ b < x9) (.slice a i c) ((List.range i).map fun j => (g j).r) := (HI3.out.R.below B21.out).below B22.out
          have BL2 : Below w16.heap.size w16 w22 := HI3.out.B.trans ((B21.out.trans (B22.out.mono B21.out.size)).mono HI3.out.B.size)
          have hpr : Recs w22 (fun b => bk < b ∧ b < x9) [(k.p, k.r)] [k.r] := ⟨rfl, fun x hx => by
           rw [List.mem_singleton.1 hx]
           exact HIK.out.turn ⟨BL2.size, fun b hA hl => ⟨BL2.block b hl, hA⟩⟩⟩
          have hx22 : x9 + 1 ≤ w22.heap.size := by have := BL2.size; have := HZR3.out; have := B21.out.size; have := B22.out.size; omega
          obtain ⟨a', c', w23, hr23, R23, G23, O23⟩ := append_recs w22 (x9 + 1) (fun b => bk < b ∧ b < x9) (fun b h => by have h2 : bk < b ∧ b < x9 := h; omega) (.slice a i c) _ [k.r] [(k.p, k.r)] (some ⟨w21.heap.size, 0, none⟩) i 1 (i + 1) 1 HR22 hpr (rec_cellsAt V22.out) (by simp) rfl rfl (by omega) hx22
          have HR23 := hdQ hr23
          have V922 : w22.heap[x9]? = some (.cells (staArr a c ⟨s.serial, s.lin, (List.range i).map fun j => (g j).r⟩) 25 (0, 0)) := (B22.out.block _ (heap_lt V9.out)).trans V9.out
          have V923 : Hid (w23.heap[x9]? = some (.cells (staArr a c ⟨s.serial, s.lin, (List.range i).map fun j => (g j).r⟩) 25 (0, 0))) := (G23.out.block _ (heap_lt V922) (fun e => by have := O23.out x9 e.symm; omega)).trans V922
          obtain ⟨w24, hw24⟩ : ∃ q, w23.setCell ⟨x9, 2, none⟩ (.slice a' (i + 1) c') = q := ⟨_, rfl⟩
          have G24 : w23.grownBy w24 (some x9) := by rw [← hw24]; exact gb_set _ _ _ _
          have HNX : Hid (TI s bk x9 w16 g (i + 1) a' c' w24) := by
           have el : ((List.range i).map fun j => (g j).r) ++ [k.r] = (List.range (i + 1)).map fun j => (g j).r := by rw [List.range_succ, List.map_append]; simp [HK.out]
           refine ⟨?_, ?_, HON.out, ?_⟩
           ·rw [← hw24, heap_set_same V923.out]
            simp [staArr]
           ·rw [← el]
            exact R23.out.kept G24 (fun b e => by
             injection e with e; subst e
             exact ⟨fun h => by have h2 : bk < x9 ∧ x9 < x9 := h; omega, fun e2 => by
              obtain ⟨_, _, _, _, _, ho⟩ := R23.out.form
              have := ho _ e2; omega⟩)
           ·have b23 : Below w16.heap.size w16 w23 := BL2.grown G23.out BL2.size (fun x hx => by have := O23.out x hx; have := HX9.out; omega)
            exact b23.grown G24 b23.size (fun x hx => by injection hx with hx; have := HX9.out; omega)
          obtain ⟨n0, n1, n2⟩ := sta_cells V9.out
          rw [show ((List.range i).map fun j => (g j).r).length = i by simp] at n2
          obtain ⟨l0, l1, l2⟩ := sta_cells V923.out
          have f92 := frozen_of V923.out 2
          obtain ⟨e0, e1, e2, e3, e4, e5, e6, e7, e8, e9⟩ := kd_box V21.out
          clear HR22 hpr hr23 hx22 hz16 V922 G24 BL2
          go_wp2_with (at_builtin; refine wpList_append_run (.slice a i c) (.slice (some ⟨w21.heap.size, 0, none⟩) 1 1) 23 HR23.out rfl _ _ rfl rfl rfl ?_)
          go_roundw
          case rel => exact ⟨i + 1, a', c', by go_num, by omega, HNX.out⟩
          case measure => simp [intOf]; omega
        case true =>
         have hes2 : (k.s.toList == kp.s.toList) = true := by rw [beq_iff_eq] at hes ⊢; exact hes.symm
         have hwd : Below wr.heap.size wr w20.drew := B20.out.drew
         have HWD := hdQ hwd
         refine wp_region_held_drew (S := (fun w' => w'.cell? ⟨bk, ip * 10, none⟩ = some (.string kp.s) ∧ w'.cell? ⟨wr.heap.size, 0, none⟩ = some (.string k.s) ∧ w'.cell? ⟨wr.heap.size, 9, none⟩ = some (.slice k.p.ta k.r.attrs.length k.p.tc))) (by kernel_rfl) ?_ (fun hHeld => ?_)
         ·(with_reducible exact ⟨dp, d0, d9⟩)
         refine tk 0 ?_
         refine tk 1 ?_
         refine tk 2 ?_
         try simp only [nz]
         refine tk 3 ?_
         refine tk 4 ?_
         refine tk 5 ?_
         try simp only [nz]
         refine tk 6 ?_
         refine tk 7 ?_
         refine tv 8 (.string kp.s) ?_ ?_
         ·(intro w hs; (obtain ⟨q0, q1, q2⟩ := hs); go_simp <;> with_reducible rfl)
         try simp only [nz]
         refine tk 9 ?_
         refine tv 10 (.string k.s) ?_ ?_
         ·(intro w hs; (obtain ⟨q0, q1, q2⟩ := hs); go_simp <;> with_reducible rfl)
         refine tk 11 ?_
         try simp only [nz]
         refine tk 12 ?_
         refine tk 13 ?_
         refine tn 14 ?_
         try simp only [nz]
         refine tn 15 ?_
         refine tn 16 ?_
         refine tn 17 ?_
         try simp only [nz]
         refine tn 18 ?_
         refine tk 19 ?_
         try simp only [nz]
         refine wpAnyH_done (by kernel_rfl) ?_ _
         obtain ⟨w21, hw21⟩ : ∃ z, w20.drew = z := ⟨_, rfl⟩
         rw [hw21] at HWD ⊢
         clear hw21 d0 d9 dp
         have HSO : Hid (sortS s = (Sta.zero, 6)) := HTL.out.2 (not_ok hlt (.inr ⟨h0, by rw [HK.out, HIP.out, HKP.out]; exact tl_eq (by have := HES.out; rwa [beq_iff_eq] at this)⟩))
         have BE2 : Hid (Below w2.heap.size w2 w21) := HBR.out.trans (HWD.out.mono HBR.out.size)
         have BE : Hid (Below w.heap.size w w21) := HBW.out _ BE2.out
         have VZE : Hid (w21.heap[w1.heap.size]? = some (.cells (staArr none 0 Sta.zero) 25 (0, 0))) := HKZ.out _ BE2.out
         obtain ⟨z9, hz9⟩ : ∃ q, (((w21.setCell ⟨w1.heap.size, 0, none⟩ (.int .u64 0)).setCell ⟨w1.heap.size, 1, none⟩ (.string ⟨#[]⟩)).setCell ⟨w1.heap.size, 2, none⟩ (.slice none 0 0)) = q := ⟨_, rfl⟩
         have Gz9 : Hid (w21.grownBy z9 (some w1.heap.size)) := by rw [← hz9]; exact (((gb_set _ _ _ _).trans (gb_set _ _ _ _)).trans (gb_set _ _ _ _))
         have Vz9 : Hid (z9.heap[w1.heap.size]? = some (.cells (staArr none 0 Sta.zero) 25 (0, 0))) := by rw [← hz9]; exact set3 (t := Sta.zero) VZE.out
         have Bz9 : Hid (Below w.heap.size w z9) := BE.out.grown Gz9.out BE.out.size (fun x hx => by injection hx with hx; have := HS1.out; omega)
         obtain ⟨rz90, rz91, rz92⟩ := sta_cells VZE.out
         obtain ⟨sz90, sz91, sz92⟩ := sta_cells Vz9.out
         have fz90 := frozen_of VZE.out 0
         have fz91 := frozen_of VZE.out 1
         have fz92 := frozen_of VZE.out 2
         go_wp2_with fail
         refine so_ret Sta.zero 6 _ _ w1.heap.size none 0 (SoPost s w) Vz9.out (by rfl) (by rfl) ?_
         rw [SoPost, HSO.out]
         exact ⟨Bz9.out, none, 0, rfl, .inl rfl, Nat.le_refl _⟩
       ·have tg1 : decide ((0 : Int) < (i : Int)) = false := by rw [dfQ]; omega
        have tg2 : decide (0 < i) = false := by rw [dfQ]; exact h0
        refine wp_region_held_drew (S := (fun w' => w'.cell? ⟨wr.heap.size, 9, none⟩ = some (.slice k.p.ta k.r.attrs.length k.p.tc))) (by kernel_rfl) ?_ (fun hHeld => ?_)
        ·(first | (with_reducible exact d9) | (with_reducible exact m9))
        refine tk 0 ?_
        refine tk 1 ?_
        refine tk 2 ?_
        try simp only [nz]
        refine tn 3 ?_
        refine tn 4 ?_
        refine tn 5 ?_
        try simp only [nz]
        refine tn 6 ?_
        refine tn 7 ?_
        refine tn 8 ?_
        try simp only [nz]
        refine tn 9 ?_
        refine tn 10 ?_
        refine tn 11 ?_
        try simp only [nz]
        refine tk 12 ?_
        refine tk 13 ?_
        refine tk 14 ?_
        try simp only [nz]
        refine tk 15 ?_
        refine tv 16 (.slice k.p.ta k.r.attrs.length k.p.tc) ?_ ?_
        ·(intro w hs; (have q2 := hs); go_simp <;> with_reducible rfl)
        try simp only [nz]
        refine rd 17 (fun K hK => ?_)
        try simp only [nz]
        go_simp
        (go_at_call 47; refine (Calls.mono HRS.out ?_); rintro z w21 ⟨rfl, hb21⟩; have B21 : Hid (Below wr.heap.size wr w21) := (B20.out.drew).trans (hb21.mono (by have := B20.out.size; simp; omega)); have V21 : Hid (w21.heap[wr.heap.size]? = some (.cells (encK k).toArray 78 (0, 0))) := (hb21.block _ (heap_lt V20.out)).trans V20.out; clear hb21; have m0 : w21.cell? ⟨wr.heap.size, 0, none⟩ = some (.string k.s) := cell_of V21.out 0; have m9 : w21.cell? ⟨wr.heap.size, 9, none⟩ = some (.slice k.p.ta k.r.attrs.length k.p.tc) := cell_of V21.out 9)
        clear hHeld
        refine hK.out _ _ ?_ (fun hHeld => ?_)
        ·(first | (with_reducible exact d9) | (with_reducible exact m9))
        clear hK K
        try simp only [nz]
        refine tk 18 ?_
        refine tk 19 ?_
        try simp only [nz]
        refine wpAnyH_done (by kernel_rfl) ?_ _
        cases rb
        case false => 
         have HSO : Hid (sortS s = (Sta.zero, 6)) := HTL.out.2 (not_ok hlt (.inl (by rw [HK.out]; exact HRB.out)))
         have BE2 : Hid (Below w2.heap.size w2 w21) := HBR.out.trans (B21.out.mono HBR.out.size)
         have BE : Hid (Below w.heap.size w w21) := HBW.out _ BE2.out
         have VZE : Hid (w21.heap[w1.heap.size]? = some (.cells (staArr none 0 Sta.zero) 25 (0, 0))) := HKZ.out _ BE2.out
         obtain ⟨z9, hz9⟩ : ∃ q, (((w21.setCell ⟨w1.heap.size, 0, none⟩ (.int .u64 0)).setCell ⟨w1.heap.size, 1, none⟩ (.string ⟨#[]⟩)).setCell ⟨w1.heap.size, 2, none⟩ (.slice none 0 0)) = q := ⟨_, rfl⟩
         have Gz9 : Hid (w21.grownBy z9 (some w1.heap.size)) := by rw [← hz9]; exact (((gb_set _ _ _ _).trans (gb_set _ _ _ _)).trans (gb_set _ _ _ _))
         have Vz9 : Hid (z9.heap[w1.heap.size]? = some (.cells (staArr none 0 Sta.zero) 25 (0, 0))) := by rw [← hz9]; exact set3 (t := Sta.zero) VZE.out
         have Bz9 : Hid (Below w.heap.size w z9) := BE.out.grown Gz9.out BE.out.size (fun x hx => by injection hx with hx; have := HS1.out; omega)
         obtain ⟨rz90, rz91, rz92⟩ := sta_cells VZE.out
         obtain ⟨sz90, sz91, sz92⟩ := sta_cells Vz9.out
         have fz90 := frozen_of VZE.out 0
         have fz91 := frozen_of VZE.out 1
         have fz92 := frozen_of VZE.out 2
         go_wp2_with fail
         refine so_ret Sta.zero 6 _ _ w1.heap.size none 0 (SoPost s w) Vz9.out (by rfl) (by rfl) ?_
         rw [SoPost, HSO.out]
         exact ⟨Bz9.out, none, 0, rfl, .inl rfl, Nat.le_refl _⟩
        case true => 
         have HON : Hid (OkTo g (i + 1)) := fun j hj => by
          by_cases e : j = i
          ·rw [e]
           exact ⟨by rw [HK.out]; exact HRB.out, fun h => absurd h h0⟩
          ·exact HI3.out.O j (by omega)
         have V9 : Hid (w21.heap[x9]? = some (.cells (staArr a c ⟨s.serial, s.lin, (List.range i).map fun j => (g j).r⟩) 25 (0, 0))) := (B21.out.block _ HZR3.out).trans HI3.out.V
         obtain ⟨w22, hw22, V22, B22⟩ := rec_new w21 k.p k.r
         have hz16 := HZ16.out
         have HR22 : RowR w22 (x9 + 1) (fun b => bk < b ∧ b < x9) (.slice a i c) ((List.range i).map fun j => (g j).r) := (HI3.out.R.below B21.out).below B22.out
         have BL2 : Below w16.heap.size w16 w22 := HI3.out.B.trans ((B21.out.trans (B22.out.mono B21.out.size)).mono HI3.out.B.size)
         have hpr : Recs w22 (fun b => bk < b ∧ b < x9) [(k.p, k.r)] [k.r] := ⟨rfl, fun x hx => by
          rw [List.mem_singleton.1 hx]
          exact HIK.out.turn ⟨BL2.size, fun b hA hl => ⟨BL2.block b hl, hA⟩⟩⟩
         have hx22 : x9 + 1 ≤ w22.heap.size := by have := BL2.size; have := HZR3.out; have := B21.out.size; have := B22.out.size; omega
         obtain ⟨a', c', w23, hr23, R23, G23, O23⟩ := append_recs w22 (x9 + 1) (fun b => bk < b ∧ b < x9) (fun b h => by have h2 : bk < b ∧ b < x9 := h; omega) (.slice a i c) _ [k.r] [(k.p, k.r)] (some ⟨w21.heap.size, 0, none⟩) i 1 (i + 1) 1 HR22 hpr (rec_cellsAt V22.out) (by simp) rfl rfl (by omega) hx22
         have HR23 := hdQ hr23
         have V922 : w22.heap[x9]? = some (.cells (staArr a c ⟨s.serial, s.lin, (List.range i).map fun j => (g j).r⟩) 25 (0, 0)) := (B22.out.block _ (heap_lt V9.out)).trans V9.out
         have V923 : Hid (w23.heap[x9]? = some (.cells (staArr a c ⟨s.serial, s.lin, (List.range i).map fun j => (g j).r⟩) 25 (0, 0))) := (G23.out.block _ (heap_lt V922) (fun e => by have := O23.out x9 e.symm; omega)).trans V922
         obtain ⟨w24, hw24⟩ : ∃ q, w23.setCell ⟨x9, 2, none⟩ (.slice a' (i + 1) c') = q := ⟨_, rfl⟩
         have G24 : w23.grownBy w24 (some x9) := by rw [← hw24]; exact gb_set _ _ _ _
         have HNX : Hid (TI s bk x9 w16 g (i + 1) a' c' w24) := by
          have el : ((List.range i).map fun j => (g j).r) ++ [k.r] = (List.range (i + 1)).map fun j => (g j).r := by rw [List.range_succ, List.map_append]; simp [HK.out]
          refine ⟨?_, ?_, HON.out, ?_⟩
          ·rw [← hw24, heap_set_same V923.out]
           simp [staArr]
          ·rw [← el]
           exact R23.out.kept G24 (fun b e => by
            injection e with e; subst e
            exact ⟨fun h => by have h2 : bk < x9 ∧ x9 < x9 := h; omega, fun e2 => by
             obtain ⟨_, _, _, _, _, ho⟩ := R23.out.form
             have := ho _ e2; omega⟩)
          ·have b23 : Below w16.heap.size w16 w23 := BL2.grown G23.out BL2.size (fun x hx => by have := O23.out x hx; have := HX9.out; omega)
           exact b23.grown G24 b23.size (fun x hx => by injection hx with hx; have := HX9.out; omega)
         obtain ⟨n0, n1, n2⟩ := sta_cells V9.out
         rw [show ((List.range i).map fun j => (g j).r).length = i by simp] at n2
         obtain ⟨l0, l1, l2⟩ := sta_cells V923.out
         have f92 := frozen_of V923.out 2
         obtain ⟨e0, e1, e2, e3, e4, e5, e6, e7, e8, e9⟩ := kd_box V21.out
         clear HR22 hpr hr23 hx22 hz16 V922 G24 BL2
         go_wp2_with (at_builtin; refine wpList_append_run (.slice a i c) (.slice (some ⟨w21.heap.size, 0, none⟩) 1 1) 23 HR23.out rfl _ _ rfl rfl rfl ?_)
         go_roundw
         case rel => exact ⟨i + 1, a', c', by go_num, by omega, HNX.out⟩
         case measure => simp [intOf]; omega
      ·obtain rfl : i = s.recs.length := by omega
       have HSO : Hid (sortS s = (⟨s.serial, s.lin, (List.range s.recs.length).map fun j => (g j).r⟩, 0)) := HTL.out.1 (ok_all HS16.out HI3.out.O)
       obtain ⟨a0, c0, hv0, hc0, hI0, _⟩ := HI3.out.R.form
       rw [show ((List.range s.recs.length).map fun j => (g j).r).length = s.recs.length by simp] at hv0 hc0
       injection hv0 with e1 _ e2
       subst e1 e2
       have HIR := hdQ hI0
       have HCC := hdQ hc0
       have BE : Hid (Below w.heap.size w wr) := HBW.out _ HBR.out
       have VZE : Hid (wr.heap[w1.heap.size]? = some (.cells (staArr none 0 Sta.zero) 25 (0, 0))) := HKZ.out _ HBR.out
       obtain ⟨z9, hz9⟩ : ∃ q, (((wr.setCell ⟨w1.heap.size, 0, none⟩ (.int .u64 s.serial)).setCell ⟨w1.heap.size, 1, none⟩ (.string s.lin)).setCell ⟨w1.heap.size, 2, none⟩ (.slice a s.recs.length c)) = q := ⟨_, rfl⟩
       have Gz9 : Hid (wr.grownBy z9 (some w1.heap.size)) := by rw [← hz9]; exact (((gb_set _ _ _ _).trans (gb_set _ _ _ _)).trans (gb_set _ _ _ _))
       have Vz9 : Hid (z9.heap[w1.heap.size]? = some (.cells (staArr a c ⟨s.serial, s.lin, (List.range s.recs.length).map fun j => (g j).r⟩) 25 (0, 0))) := by
        have h1 := set3 (t := ⟨s.serial, s.lin, (List.range s.recs.length).map fun j => (g j).r⟩) (a' := a) (c' := c) VZE.out
        rw [show ((List.range s.recs.length).map fun j => (g j).r).length = s.recs.length by simp] at h1
        rw [← hz9]; exact h1
       have Bz9 : Hid (Below w.heap.size w z9) := BE.out.grown Gz9.out BE.out.size (fun x hx => by injection hx with hx; have := HS1.out; omega)
       obtain ⟨rz90, rz91, rz92⟩ := sta_cells VZE.out
       obtain ⟨sz90, sz91, sz92⟩ := sta_cells Vz9.out
       have fz90 := frozen_of VZE.out 0
       have fz91 := frozen_of VZE.out 1
       have fz92 := frozen_of VZE.out 2
       obtain ⟨n0, n1, n2⟩ := sta_cells HI3.out.V
       rw [show ((List.range s.recs.length).map fun j => (g j).r).length = s.recs.length by simp] at n2
       have HI9 : Hid (IsRecs z9 (fun _ => True) a ((List.range s.recs.length).map fun j => (g j).r)) := by
        refine IsRecs.turn HIR.out ⟨Gz9.out.size, fun b hA hl => ⟨Gz9.out.block b hl (fun e => ?_), trivial⟩⟩
        injection e with e
        have h1 : (bk < b ∧ b < x9) ∨ x9 + 1 ≤ b := hA
        have h2 := HZK.out
        have h3 := HSZ.out
        have h4 := HZ16.out
        omega
       clear hc0 hI0
       go_wp2_with fail
       refine so_ret ⟨s.serial, s.lin, (List.range s.recs.length).map fun j => (g j).r⟩ 0 _ _ w1.heap.size a c (SoPost s w) Vz9.out (by rfl) (by rfl) ?_
       rw [SoPost, HSO.out]
       exact ⟨Bz9.out, a, c, by simp [staV], HI9.out, by simpa using HCC.out⟩
end Go.Proofs.YtehghladpnpcoaaGreatDoor.State
