/- book.state. -/
import Derived.Test.YtehghladpnpcoaaGreatDoorVKeys
set_option linter.unusedVariables false
set_option linter.unusedSimpArgs false
set_option maxRecDepth 100000
set_option maxHeartbeats 32000000
namespace Go.Proofs.YtehghladpnpcoaaGreatDoor.State.Edit
open Go.RowKit Go.Shelf Go.Proofs.YtehghladpnpcoaaGreatDoor.Utf Go.Proofs.YtehghladpnpcoaaGreatDoor.Strs Go.Proofs.YtehghladpnpcoaaGreatDoor.Addr Go.Proofs.YtehghladpnpcoaaGreatDoor.State
open Go.Proofs.YtehghladpnpcoaaGreatDoor.Jdec (IsTexts Turn infoStr gb_set gb_below gb_refl)
structure SI (wL wr : World) (sb : Nat) (s : Sta) (acc : List Rec) (a : Option Addr) (c : Nat) : Prop where
  A : wr.heap[sb]? = some (.cells (staArr a c { s with recs := acc }) 25 (0, 0))
  G : wL.grownBy wr (some sb)
  K : RecRow wr wL.heap.size (.slice a acc.length c) acc
theorem SI.stays {wL wr wx : World} {sb : Nat} {s : Sta} {acc : List Rec} {a : Option Addr} {c : Nat} (h : SI wL wr sb s acc a c) (hb : Below wr.heap.size wr wx) : SI wL wx sb s acc a c :=
  ⟨(hb.block _ (heap_lt h.A)).trans h.A, h.G.trans (gb_below hb _), h.K.below hb⟩
theorem SI.next {wL w5 w6 : World} {sb : Nat} {s : Sta} {ac : List Rec} {r : Rec} {a : Option Addr} {c g cap : Nat} (hsb : sb < wL.heap.size) (J5 : SI wL w5 sb s ac a c) (hown : ∀ bb, (Value.slice a ac.length c).ownBlock = some bb → wL.heap.size ≤ bb)
    (G6 : w5.grownBy w6 (Value.slice a ac.length c).ownBlock) (K6 : RecRow w6 wL.heap.size (.slice (some ⟨g, 0, none⟩) (ac.length + 1) cap) (ac ++ [r])) (A6 : w6.heap[sb]? = some (.cells (staArr a c { s with recs := ac }) 25 (0, 0))) :
    SI wL (w6.setCell ⟨sb, 2, none⟩ (.slice (some ⟨g, 0, none⟩) (ac.length + 1) cap)) sb s (ac ++ [r]) (some ⟨g, 0, none⟩) cap := by
  have hgs := gb_set w6 sb 2 (.slice (some ⟨g, 0, none⟩) (ac.length + 1) cap)
  have hs5 := J5.G.size
  have hlen : (ac ++ [r]).length = ac.length + 1 := by simp
  refine ⟨?_, ⟨hgs.os.trans (G6.os.trans J5.G.os), hgs.tape.trans (G6.tape.trans J5.G.tape), hgs.output.trans (G6.output.trans J5.G.output), Nat.le_trans hs5 (Nat.le_trans G6.size hgs.size), fun k hk hne => ?_⟩, ?_⟩
  · rw [heap_set_same A6]
    simp [staArr]
  · rw [hgs.block k (Nat.lt_of_lt_of_le (Nat.lt_of_lt_of_le hk hs5) G6.size) hne, G6.block k (Nat.lt_of_lt_of_le hk hs5) (fun e => by have := hown k e.symm; omega), J5.G.block k hk hne]
  · rw [hlen]
    exact K6.kept hgs (fun b e => by injection e with e; omega)
theorem bst_ret (s : Sta) (l : List Rec) (w w' : World) (tm : Array Value) (b : Nat) (a : Option Addr) (c : Nat) (hb : w'.heap[b]? = some (.cells (staArr a c { s with recs := l }) 25 (0, 0))) (h2 : tm[2]? = some (.pointer (some ⟨b, 0, none⟩))) (hI : IsRecs w' (fun b => w.heap.size ≤ b) a l) (hc : l.length ≤ c) (hB : Below w.heap.size w w') : bodyPost Tryz.prog Tryz.f58 (JnPost s l w) Exit.ret { tmps := tm, defers := [] } w' := by
  obtain ⟨c0, c1, c2⟩ := sta_cells hb
  refine bodyPost_ret (v := staV a c { s with recs := l }) ?_ rfl ⟨a, c, rfl, hI, hc, hB⟩
  simp [results, Tryz.results58, go_sem, h2, c0, c1, c2, staV]
theorem bstate_any {w0 w : World} {b bm n : Nat} {s : Sta} (h : BkAt w0 w b bm n s) (hg : Good s.recs) (hl : s.recs.length ≤ 3000) (hn : n ≤ 100000) : Calls Tryz.prog 58 #[.pointer (some ⟨b, 0, none⟩)] w (JnPost s s.recs w) := by
  obtain ⟨w1, hw1, V1, B1, Z1⟩ := zsta_new w
  have hdr : Below w1.heap.size w1 w1.drew := (Below.refl _ _).drew
  have H1 : Hid (BkAt w0 w1 b bm n s) := h.below B1.out
  have H1d : Hid (BkAt w0 w1.drew b bm n s) := H1.out.below hdr
  have hds : w1.drew.heap.size = w1.heap.size := rfl
  obtain ⟨z2, hz2, Vz2, Bz2, Zz2⟩ := zsta_new w1.drew
  have Vz2 : Hid (z2.heap[w1.heap.size]? = some (.cells (staArr none 0 ⟨0, ⟨#[]⟩, []⟩) 25 (0, 0))) := Vz2
  have Hz2 : Hid (BkAt w0 z2 b bm n s) := H1d.out.below Bz2.out
  obtain ⟨q0, q1, q2⟩ := book_cells Hz2.out.blk
  obtain ⟨w2, ht2⟩ : ∃ w2, (((z2.setCell ⟨w1.heap.size, 0, none⟩ (.int .u64 s.serial)).setCell ⟨w1.heap.size, 1, none⟩ (.string s.lin)).setCell ⟨w1.heap.size, 2, none⟩ (.slice none 0 0)) = w2 := ⟨_, rfl⟩
  have Gt2 : Hid (z2.grownBy w2 (some w1.heap.size)) := by rw [← ht2]; exact (((gb_set _ _ _ _).trans (gb_set _ _ _ _)).trans (gb_set _ _ _ _))
  have V2 : Hid (w2.heap[w1.heap.size]? = some (.cells (staArr none 0 ⟨s.serial, s.lin, []⟩) 25 (0, 0))) := by rw [← ht2]; exact set3 (t := ⟨s.serial, s.lin, []⟩) Vz2.out
  have B2 : Hid (Below w1.heap.size w1.drew w2) := Bz2.out.grown Gt2.out Bz2.out.size (fun x hx => by injection hx with hx; omega)
  have fz20 := frozen_of Vz2.out 0
  have fz21 := frozen_of Vz2.out 1
  have fz22 := frozen_of Vz2.out 2
  obtain ⟨cz20, cz21, cz22⟩ := sta_cells Vz2.out
  have H2 : Hid (BkAt w0 w2 b bm n s) := H1d.out.below B2.out
  obtain ⟨u0, u1, u2⟩ := book_cells H1.out.blk
  obtain ⟨v0, v1, v2⟩ := book_cells H1d.out.blk
  obtain ⟨x0, x1, x2⟩ := book_cells H2.out.blk
  have HKY : Hid (Calls Tryz.prog 91 #[.map (some bm)] w2 fun e w' => e = .returned (.func (.func 118) #[] #[.pointer (some ⟨w2.heap.size, 0, none⟩)]) ∧ w' = w2.alloc (.cells #[.map (some bm)] 132)) := callsIn_wide.1 (Tryz.maps_Keys_91 (some bm) w2)
  have HSO := keys_ok H2.out.map hg hn
  have HG := hdQ hg
  have HB1 := hdQ hdr
  have HS1 : Hid (w1.heap.size = w.heap.size + 1) := Z1.out
  have HLL : Hid (s.recs.length ≤ 3000) := hl
  have HLN : Hid (n ≤ 100000) := hn
  clear h hg hdr hn
  go_enter Tryz.func58, Tryz.ntmps58
  go_wp2_with fail
  go_region
  all_goals
    go_wp2_with fail
    refine (Calls.mono HKY.out ?_)
    rintro z w3 ⟨rfl, rfl⟩
    go_wp2_with fail
    refine (Calls.mono HSO.out ?_)
    rintro z wL ⟨ka, kc, ks, rfl, hke, hkt, hbL⟩
    have B2L : Hid (Below w2.heap.size w2 wL) := hbL.out
    have HL : Hid (BkAt w0 wL b bm n s) := H2.out.below B2L.out
    have hsL := B2L.out.size
    have hs2 : w1.heap.size < w2.heap.size := heap_lt V2.out
    have HSL : Hid (w1.heap.size < wL.heap.size) := Nat.lt_of_lt_of_le hs2 hsL
    have HBw : Hid (Below w.heap.size w wL) := (B1.out.trans (HB1.out.mono B1.out.size)).trans (((B2.out.mono B1.out.size).trans (B2L.out.mono (by have := B1.out.size; omega))))
    have J0 : Hid (SI wL wL w1.heap.size s [] none 0) := ⟨(B2L.out.block _ hs2).trans V2.out, gb_refl _ _, RecRow.nil _ _⟩
    have HR : Hid (∀ wr, wL.grownBy wr (some w1.heap.size) → wr.heap[w.heap.size]? = some (.cells (staArr none 0 ⟨0, ⟨#[]⟩, []⟩) 25 (0, 0))) := fun wr hG => by
      have h1 : w.heap.size < w1.heap.size := heap_lt V1.out
      have h2 : w1.drew.heap[w.heap.size]? = w1.heap[w.heap.size]? := rfl
      rw [hG.block _ (by omega) (fun e => by injection e with e; omega), B2L.out.block _ (by omega), B2.out.block _ (by omega), h2]
      exact V1.out
    clear hbL hsL hs2 q0 q1 q2 u0 u1 u2 v0 v1 v2 x0 x1 x2 hw1 hz2 ht2 fz20 fz21 fz22 cz20 cz21 cz22 HKY HSO
    go_wp2_with fail
    go_loopw [23] (fun p23 wr => ∃ (i : Nat) (a : Option Addr) (c : Nat), p23 = .int .i64 i ∧ i ≤ s.recs.length ∧ Hid (SI wL wr w1.heap.size s (s.recs.take i) a c)) (fun p23 _ => s.recs.length - (intOf p23).toNat)
    case atStart => exact ⟨0, none, 0, rfl, Nat.zero_le _, J0.out⟩
    case round =>
      obtain ⟨i, a, c, rfl, hi, hJ⟩ := hrel
      have HUP : Hid (BkAt w0 wr b bm n s) := ⟨HL.out.up.grown hJ.out.G HL.out.up.size (fun k hk => by injection hk with hk; have := H1d.out.up.size; omega), (hJ.out.G.block _ (heap_lt HL.out.blk) (fun e => by injection e with e; have := heap_lt H1d.out.blk; omega)).trans HL.out.blk, HL.out.lo, HL.out.ne, HL.out.map.kept hJ.out.G (fun e => by injection e with e; have := H1d.out.map.lt; omega)⟩
      by_cases hlt : i < s.recs.length
      · have hlk : i < ks.length := by have := congrArg List.length hke.out; rw [List.length_map, List.length_map] at this; omega
        obtain ⟨kb, ko, rfl, hkb, hkl, hkc⟩ := hkt.out.resolve_left (by rintro rfl; simp at hlk)
        have hq : ks[i].data.toList = printA s.recs[i].a := by
          have h1 : (ks.map (fun q : ByteArray => q.data.toList))[i]? = (s.recs.map (fun r => printA r.a))[i]? := by rw [hke.out]
          rw [List.getElem?_map, List.getElem?_map, List.getElem?_eq_getElem hlk, List.getElem?_eq_getElem hlt] at h1
          injection h1
        have hkw : wr.cell? ⟨kb, ko + i, none⟩ = some (.string ks[i]) := by
          rw [cell_blk (hJ.out.G.block kb hkl (fun e => by injection e with e; have : w2.heap.size < kb := hkb; have := heap_lt V2.out; omega))]
          exact hkc i hlk
        have hsm := HG.out.s _ (List.getElem_mem hlt)
        have hmem : s.recs[i] ∈ s.recs := List.getElem_mem hlt
        have htk : s.recs.take (i + 1) = s.recs.take i ++ [s.recs[i]] := by rw [List.take_add_one, List.getElem?_eq_getElem hlt]; rfl
        have hac3 : (s.recs.take i).length ≤ 3000 := by rw [List.length_take]; have := HLL.out; omega
        obtain ⟨q, hqe⟩ : ∃ q, ks[i] = q := ⟨_, rfl⟩
        obtain ⟨r, hr⟩ : ∃ r, s.recs[i] = r := ⟨_, rfl⟩
        obtain ⟨ac, hac⟩ : ∃ ac, s.recs.take i = ac := ⟨_, rfl⟩
        rw [hqe] at hq hkw
        rw [hr] at hq hsm hmem htk
        rw [hac] at htk hac3 hJ
        have HTK := hdQ htk
        have hqs : q.size ≤ 100000 := by have := print_len (small_adr hsm); rw [← hq] at this; have h0 : q.data.toList.length = q.size := by simp
                                         omega
        obtain ⟨p, hpi, hlkp⟩ := HUP.out.map.look_in HG.out hmem hq hqs
        have hlk2 : (Instr.lookup 132 (.map (some bm)) (.string q) false).run Tryz.prog wr = .ok (.agg #[.slice p.pa r.a.path.length p.pc, .string r.a.type, .string r.a.name, .int .i64 r.a.key, .int .u64 r.a.place, .string r.a.word, .string r.prov, .string r.id, .slice p.ta r.attrs.length p.tc]) wr := hlkp wr (Below.refl _ _)
        obtain ⟨b0, b1, b2⟩ := book_cells HUP.out.blk
        obtain ⟨z4, hz4, Vz4, Bz4, Zz4⟩ := zrec_new wr
        obtain ⟨w4, ht4⟩ : ∃ w4, (((((((((z4.setCell ⟨wr.heap.size, 0, none⟩ (.slice p.pa r.a.path.length p.pc)).setCell ⟨wr.heap.size, 1, none⟩ (.string r.a.type)).setCell ⟨wr.heap.size, 2, none⟩ (.string r.a.name)).setCell ⟨wr.heap.size, 3, none⟩ (.int .i64 r.a.key)).setCell ⟨wr.heap.size, 4, none⟩ (.int .u64 r.a.place)).setCell ⟨wr.heap.size, 5, none⟩ (.string r.a.word)).setCell ⟨wr.heap.size, 6, none⟩ (.string r.prov)).setCell ⟨wr.heap.size, 7, none⟩ (.string r.id)).setCell ⟨wr.heap.size, 8, none⟩ (.slice p.ta r.attrs.length p.tc)) = w4 := ⟨_, rfl⟩
        have Gt4 : Hid (z4.grownBy w4 (some wr.heap.size)) := by rw [← ht4]; exact (((((((((gb_set _ _ _ _).trans (gb_set _ _ _ _)).trans (gb_set _ _ _ _)).trans (gb_set _ _ _ _)).trans (gb_set _ _ _ _)).trans (gb_set _ _ _ _)).trans (gb_set _ _ _ _)).trans (gb_set _ _ _ _)).trans (gb_set _ _ _ _))
        have V4 : Hid (w4.heap[wr.heap.size]? = some (.cells (recArr p r) 38 (0, 0))) := by rw [← ht4]; exact set9 Vz4.out p r
        have B4 : Hid (Below wr.heap.size wr w4) := Bz4.out.grown Gt4.out Bz4.out.size (fun x hx => by injection hx with hx; omega)
        obtain ⟨fz40, fz41, fz42, fz43, fz44, fz45, fz46, fz47, fz48⟩ := rec_frozen Vz4.out
        obtain ⟨cz40, cz41, cz42, cz43, cz44, cz45, cz46, cz47, cz48⟩ := rec_cells Vz4.out
        have U4 : Hid (Below w0.heap.size w0 w4) := HUP.out.up.trans (B4.out.mono HUP.out.up.size)
        have hp1 := hsm.l
        have hp2 := hsm.n
        have HC1 := cloneT_any r.a.path p.pa p.pc _ w4 ((hpi.turn (Turn.below U4.out)).path) hp1
        have HPI := hdQ hpi
        have hp2h := hdQ hp2
        obtain ⟨y0, y1, y2, y3, y4, y5, y6, y7, y8⟩ := rec_cells V4.out
        clear hlkp hpi hp1 hp2 hsm hmem htk hac hr hqe hq hqs hkc hkb hkl hlk
        go_wp2_with fail
        refine (Calls.mono HC1.out ?_)
        rintro z w5 ⟨ka', kc', rfl, T5, b5⟩
        have V5 : Hid (w5.heap[wr.heap.size]? = some (.cells (recArr p r) 38 (0, 0))) := (b5.out.block _ (heap_lt V4.out)).trans V4.out
        obtain ⟨w6, hw6⟩ : ∃ w6, w5.setCell ⟨wr.heap.size, 0, none⟩ (.slice ka' r.a.path.length kc') = w6 := ⟨_, rfl⟩
        have V6 : Hid (w6.heap[wr.heap.size]? = some (.cells (recArr ⟨ka', kc', p.ta, p.tc⟩ r) 38 (0, 0))) := by rw [← hw6, Hid, heap_set_same V5.out]; rfl
        have G6 : Hid (w5.grownBy w6 (some wr.heap.size)) := by rw [← hw6]; exact gb_set _ _ _ _
        have h4 : wr.heap.size ≤ w4.heap.size := B4.out.size
        have C6 : Hid (Below wr.heap.size wr w6) := (B4.out.trans (b5.out.mono h4)).grown G6.out (Nat.le_trans h4 b5.out.size) (fun k hk => by injection hk with hk; omega)
        have U6 : Hid (Below w0.heap.size w0 w6) := HUP.out.up.trans (C6.out.mono HUP.out.up.size)
        have HC2 := cloneP_any r.attrs p.ta p.tc _ w6 ((HPI.out.turn (Turn.below U6.out)).attrs) hp2h.out
        have T6 : Hid (IsTexts w6 (PartT 9 w4.heap.size w6) ka' r.a.path) := T5.out.turn (partT_grown (by decide) G6.out (Nat.le_refl _) V5.out)
        have f0 := frozen_of V5.out 0
        have e0 : w5.cell? ⟨wr.heap.size, 0, none⟩ = some (.slice p.pa r.a.path.length p.pc) := cell_of V5.out 0
        obtain ⟨m0, m1, m2, m3, m4, m5, m6, m7, m8⟩ := rec_cells V6.out
        clear y0 y1 y2 y3 y4 y5 y6 y7 y8 hz4 ht4 HC1
        go_wp2_with fail
        refine (Calls.mono HC2.out ?_)
        rintro z w7 ⟨ta', tc', rfl, P7, b7⟩
        have V7 : Hid (w7.heap[wr.heap.size]? = some (.cells (recArr ⟨ka', kc', p.ta, p.tc⟩ r) 38 (0, 0))) := (b7.out.block _ (heap_lt V6.out)).trans V6.out
        obtain ⟨w8, hw8⟩ : ∃ w8, w7.setCell ⟨wr.heap.size, 8, none⟩ (.slice ta' r.attrs.length tc') = w8 := ⟨_, rfl⟩
        have V8 : Hid (w8.heap[wr.heap.size]? = some (.cells (recArr ⟨ka', kc', ta', tc'⟩ r) 38 (0, 0))) := by rw [← hw8, Hid, heap_set_same V7.out]; rfl
        have G8 : Hid (w7.grownBy w8 (some wr.heap.size)) := by rw [← hw8]; exact gb_set _ _ _ _
        have C8 : Hid (Below wr.heap.size wr w8) := (C6.out.trans (b7.out.mono C6.out.size)).grown G8.out (Nat.le_trans C6.out.size b7.out.size) (fun k hk => by injection hk with hk; omega)
        have hJ8 : Hid (SI wL w8 w1.heap.size s ac a c) := hJ.out.stays C8.out
        have hLr : wL.heap.size ≤ wr.heap.size := hJ.out.G.size
        have I8 : Hid (IsRec w8 (Part wL.heap.size w8) ⟨ka', kc', ta', tc'⟩ r) :=
          ⟨((T6.out.turn (partT_below b7.out (Nat.le_refl _))).turn (partT_grown (by decide) G8.out (Nat.le_refl _) V7.out)).turn (Turn.mono _ (fun x hx _ => by have := partT_part (by decide) hx; exact ⟨by have := this.1; omega, this.2⟩)),
           (P7.out.turn (partT_grown (by decide) G8.out (Nat.le_refl _) V7.out)).turn (Turn.mono _ (fun x hx _ => by have := partT_part (by decide) hx; exact ⟨by have := this.1; have := C6.out.size; omega, this.2⟩))⟩
        obtain ⟨g, cap, w9, hap, K9, G9, hg9⟩ := app_rec w8 wL.heap.size (.slice a ac.length c) ac ⟨ka', kc', ta', tc'⟩ r hJ8.out.K I8.out hac3 (Nat.le_trans hLr C8.out.size)
        obtain ⟨w8a, hw8a, V8a, B8a⟩ := rec_new w8 ⟨ka', kc', ta', tc'⟩ r
        rw [hw8a] at hap
        have HAP := hdQ hap
        have hown : ∀ bb, (Value.slice a ac.length c).ownBlock = some bb → wL.heap.size ≤ bb := fun bb e => by
          obtain ⟨ps, _, ho, _⟩ := hJ8.out.K
          exact (ho.lt bb e).1
        have A9 : Hid (w9.heap[w1.heap.size]? = some (.cells (staArr a c { s with recs := ac }) 25 (0, 0))) := (G9.out.block _ (heap_lt hJ8.out.A) (fun e => by have := hown _ e.symm; have := HSL.out; omega)).trans hJ8.out.A
        have J10 : Hid (SI wL (w9.setCell ⟨w1.heap.size, 2, none⟩ (.slice (some ⟨g, 0, none⟩) (ac.length + 1) cap)) w1.heap.size s (ac ++ [r]) (some ⟨g, 0, none⟩) cap) := SI.next HSL.out hJ8.out hown G9.out K9.out A9.out
        have f8 := frozen_of V7.out 8
        have e8 : w7.cell? ⟨wr.heap.size, 8, none⟩ = some (.slice p.ta r.attrs.length p.tc) := cell_of V7.out 8
        have e2 : w9.cell? ⟨w1.heap.size, 2, none⟩ = some (.slice a ac.length c) := cell_of A9.out 2
        have f2 := frozen_of A9.out 2
        have c2 : w8.cell? ⟨w1.heap.size, 2, none⟩ = some (.slice a ac.length c) := cell_of hJ8.out.A 2
        obtain ⟨n0, n1, n2, n3, n4, n5, n6, n7, n8⟩ := rec_cells V8.out
        clear m0 m1 m2 m3 m4 m5 m6 m7 m8 hap hown hac3 hLr h4 HC2
        go_wp2_with (at_builtin; refine wpList_append_run (.slice a ac.length c) (.slice (some ⟨w8.heap.size, 0, none⟩) 1 1) 23 HAP.out rfl _ _ rfl rfl rfl ?_)
        go_roundw
        case rel => exact ⟨i + 1, _, _, by go_num, by omega, by rw [HTK.out]; exact J10.out⟩
        case measure => simp [intOf]; omega
      · have hje : i = s.recs.length := by omega
        have JE : Hid (SI wL wr w1.heap.size s s.recs a c) := by have := hJ.out; rw [hje, List.take_length] at this; exact this
        obtain ⟨l, hll⟩ : ∃ l, s.recs = l := ⟨_, rfl⟩
        have HLE := hdQ hll
        have V10 : Hid (wr.heap[w.heap.size]? = some (.cells (staArr none 0 ⟨0, ⟨#[]⟩, []⟩) 25 (0, 0))) := HR.out wr JE.out.G
        have hA : Hid (wr.heap[w1.heap.size]? = some (.cells (staArr a c { s with recs := l }) 25 (0, 0))) := by rw [← hll]; exact JE.out.A
        obtain ⟨x0, x1, x2⟩ := sta_cells hA.out
        have f0 := frozen_of V10.out 0
        have f1 := frozen_of V10.out 1
        have f2 := frozen_of V10.out 2
        obtain ⟨r0, r1, r2⟩ := sta_cells V10.out
        have JE2 : Hid (SI wL wr w1.heap.size s l a c) := by rw [← hll]; exact JE.out
        clear hll hje hJ
        go_wp2_with fail
        have hgw : wr.grownBy (((wr.setCell ⟨w.heap.size, 0, none⟩ (.int .u64 s.serial)).setCell ⟨w.heap.size, 1, none⟩ (.string s.lin)).setCell ⟨w.heap.size, 2, none⟩ (.slice a l.length c)) (some w.heap.size) := ((gb_set _ _ _ _).trans (gb_set _ _ _ _)).trans (gb_set _ _ _ _)
        have hBr : Below w.heap.size w wr := HBw.out.grown JE.out.G HBw.out.size (fun k hk => by injection hk with hk; have := HS1.out; omega)
        rw [HLE.out]
        refine bst_ret s l w _ _ w.heap.size a c (set3 (t := { s with recs := l }) V10.out) rfl ?_ JE2.out.K.cap (hBr.grown hgw hBr.size (fun k hk => by injection hk with hk; omega))
        have hrr : IsRecs _ _ a l := (JE2.out.K.kept hgw (fun b e => by injection e with e; have := HBw.out.size; have := HSL.out; have := HS1.out; omega)).recs
        exact hrr.turn (Turn.mono _ (fun b hb _ => by have := HBw.out.size; omega))
end Go.Proofs.YtehghladpnpcoaaGreatDoor.State.Edit
