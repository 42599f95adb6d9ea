/- edit.open. -/
import Derived.Test.YtehghladpnpcoaaGreatDoorVEdC
import Derived.Test.YtehghladpnpcoaaGreatDoorVEdD
import Derived.Test.YtehghladpnpcoaaGreatDoorVEdS
set_option linter.unusedVariables false
set_option linter.unusedSimpArgs false
set_option maxRecDepth 100000
set_option maxHeartbeats 16000000
namespace Go.Proofs.YtehghladpnpcoaaGreatDoor.State.Edit
open Go.RowKit Go.Shelf Go.Proofs.YtehghladpnpcoaaGreatDoor.Utf Go.Proofs.YtehghladpnpcoaaGreatDoor.Strs Go.Proofs.YtehghladpnpcoaaGreatDoor.Addr Go.Proofs.YtehghladpnpcoaaGreatDoor.State
open Go.Proofs.YtehghladpnpcoaaGreatDoor.Jdec (IsTexts Turn infoStr gb_set gb_below gb_refl)
theorem take_mem {l : List Rec} (hg : Good l) {i : Nat} (h : i < l.length) (x : Rec) : x ∈ l.take (i + 1) ↔ x = l[i] ∨ x ∈ l.take i ∧ printA x.a ≠ printA l[i].a := by
  have e : l.take (i + 1) = l.take i ++ [l[i]] := by rw [List.take_add_one, List.getElem?_eq_getElem h]; rfl
  rw [e, List.mem_append, List.mem_singleton]
  constructor
  · rintro (h1 | h1)
    · refine .inr ⟨h1, fun e2 => ?_⟩
      obtain ⟨j, hj, rfl⟩ := List.getElem_of_mem h1
      rw [List.length_take] at hj
      rw [List.getElem_take] at e2
      have := hg.sorted j i (by omega) h (by omega)
      rw [e2, less_irrefl] at this; cases this
    · exact .inl h1
  · rintro (h1 | h1)
    · exact .inr h1
    · exact .inl h1.1
theorem open_any (s : Sta) (ra : Option Addr) (rc : Nat) (w : World) (h : RecsAt w ra s.recs) (hg : Good s.recs) (T : TabsA w) : Calls Tryz.prog 56 #[.agg #[.int .u64 s.serial, .string s.lin, .slice ra s.recs.length rc]] w fun e w' => ∃ b bm, e = .returned (.pointer (some ⟨b, 0, none⟩)) ∧ Hid (BkAt w w' b bm s.recs.length s) := by
  obtain ⟨w1, hw1, V1, B1⟩ := sta_new w ra rc s
  obtain ⟨x0, x1, x2⟩ := sta_cells V1.out
  obtain ⟨w2, hw2, M2, B2⟩ : ∃ w2, w1.alloc (.map #[] 0) = w2 ∧ Hid (BookAt w w2 w1.heap.size 0 []) ∧ Hid (Below w1.heap.size w1 w2) := ⟨_, rfl, BookAt.nil w w1 B1.out.size, (Below.refl _ _).alloc (Nat.le_refl _) _⟩
  have z2 : w1.heap.size < w2.heap.size := M2.out.lt
  obtain ⟨w3, hw3, V3, B3⟩ : ∃ w3, w2.alloc (.cells #[.int .u64 s.serial, .string s.lin, .map (some w1.heap.size)] 134) = w3 ∧ Hid (w3.heap[w2.heap.size]? = some (.cells (bookArr s w1.heap.size) 134 (0, 0))) ∧ Hid (Below w2.heap.size w2 w3) := ⟨_, rfl, heap_alloc_new _ _, (Below.refl _ _).alloc (Nat.le_refl _) _⟩
  have s1 := B1.out.size
  have H3 : Hid (BkAt w w3 w2.heap.size w1.heap.size 0 ⟨s.serial, s.lin, s.recs.take 0⟩) := ⟨(B1.out.trans (B2.out.mono s1)).trans (B3.out.mono (by omega)), V3.out, by omega, by omega, M2.out.below B3.out⟩
  have HR0 := hdQ h
  have HT : Hid (∀ W, Below w.heap.size w W → TabsA W) := fun W hb => T.stays hb
  have HG := hdQ hg
  have hn : s.recs.length ≤ 3000 := h.n
  clear h hg T z2 s1
  have hmm := @Go.RowKit.run_makeMap Tryz.prog
  have x3 : w3.cell? ⟨w.heap.size, 2, none⟩ = some (.slice ra s.recs.length rc) := cell_of ((B3.out.block _ (Nat.lt_of_lt_of_le (heap_lt V1.out) B2.out.size)).trans ((B2.out.block _ (heap_lt V1.out)).trans V1.out)) 2
  go_enter Tryz.func56, Tryz.ntmps56
  go_wp2_with fail
  clear hmm hw1 hw2 hw3 x0 x1 x2 x3
  go_loopw [16] (fun p16 wr => ∃ (i : Nat), p16 = .int .i64 i ∧ i ≤ s.recs.length ∧ Hid (BkAt w wr w2.heap.size w1.heap.size i ⟨s.serial, s.lin, s.recs.take i⟩)) (fun p16 _ => s.recs.length - (intOf p16).toNat)
  case atStart => exact ⟨0, rfl, Nat.zero_le _, H3.out⟩
  case round =>
    obtain ⟨i, rfl, hi, hB⟩ := hrel
    by_cases hlt : i < s.recs.length
    · obtain ⟨b, o, p, hra, hb, hcr0, hir0⟩ := HR0.out.get hlt
      have hcr : ∀ j u, (recArr p s.recs[i])[j]? = some u → wr.cell? ⟨b, o + i * 9 + j, none⟩ = some u := fun j u hu => by rw [cell_blk (hB.out.up.block b hb)]; exact hcr0 j u hu
      have hir : IsRec wr (fun _ => True) p s.recs[i] := hir0.turn (Turn.below hB.out.up)
      have HI : Hid (IsRec w (fun _ => True) p s.recs[i]) := hir0
      have hsm := HR0.out.s _ (List.getElem_mem hlt)
      have htk := take_mem HG.out hlt
      obtain ⟨r, hr⟩ : ∃ r, s.recs[i] = r := ⟨_, rfl⟩
      rw [hr] at hcr hir hsm htk HI
      have HTK := hdQ htk
      obtain ⟨q, hq⟩ : ∃ q, (⟨(printA r.a).toArray⟩ : ByteArray) = q := ⟨_, rfl⟩
      have KQ : Hid (Key r.a q) := key_of (small_adr hsm) hq
      obtain ⟨z0, z1, z2, z3, z4, z5, z6, z7, z8⟩ := recs_nine hcr
      obtain ⟨w4, hw4, V4, B4⟩ := rec_new wr p r
      have hdr : Below w4.heap.size w4 w4.drew := (Below.refl _ _).drew
      have H4 : Hid (BkAt w w4 w2.heap.size w1.heap.size i ⟨s.serial, s.lin, s.recs.take i⟩) := hB.out.below B4.out
      have H4d : Hid (BkAt w w4.drew w2.heap.size w1.heap.size i ⟨s.serial, s.lin, s.recs.take i⟩) := H4.out.below hdr
      have HPR : Hid (Calls Tryz.prog 43 #[.agg #[.slice p.pa r.a.path.length p.pc, .string r.a.type, .string r.a.name, .int .i64 r.a.key, .int .u64 r.a.place, .string r.a.word]] w4.drew fun e w' => e = .returned (.string q) ∧ Below w4.drew.heap.size w4.drew w') := adr_print (((hir.turn (Turn.below B4.out)).turn (Turn.below hdr)).adr hsm) p.pc (HT.out _ H4d.out.up) hq
      have V4d : Hid (w4.drew.heap[wr.heap.size]? = some (.cells (recArr p r) 38 (0, 0))) := (hdr.block _ (heap_lt V4.out)).trans V4.out
      obtain ⟨y0, y1, y2, y3, y4, y5, y6, y7, y8⟩ := rec_cells V4.out
      obtain ⟨u0, u1, u2, u3, u4, u5, u6, u7, u8⟩ := rec_cells V4d.out
      obtain ⟨k0, k1, k2⟩ := book_cells H4.out.blk
      obtain ⟨l0, l1, l2⟩ := book_cells H4d.out.blk
      clear hcr hir hsm htk hr hq hcr0 hir0 hb hdr
      subst hra
      go_wp2_with fail
      go_region_law (go_simp; go_at_call 43; refine (Calls.mono HPR.out ?_); rintro z w5 ⟨rfl, hb5⟩; have H5 : Hid (BkAt w w5 w2.heap.size w1.heap.size i ⟨s.serial, s.lin, s.recs.take i⟩) := H4d.out.below hb5; obtain ⟨w6, hup, M6, G6⟩ := H5.out.map.store (l' := s.recs.take (i + 1)) HI.out KQ.out.p KQ.out.s (by omega) HTK.out; have hup2 : (Instr.mapUpdate 132 (.map (some w1.heap.size)) (.string q) (.agg #[.slice p.pa r.a.path.length p.pc, .string r.a.type, .string r.a.name, .int .i64 r.a.key, .int .u64 r.a.place, .string r.a.word, .string r.prov, .string r.id, .slice p.ta r.attrs.length p.tc])).run Tryz.prog w5 = .ok () w6 := hup; have H6 : Hid (BkAt w w6 w2.heap.size w1.heap.size (i + 1) ⟨s.serial, s.lin, s.recs.take (i + 1)⟩) := H5.out.turn G6 M6; obtain ⟨m0, m1, m2, m3, m4, m5, m6, m7, m8⟩ := rec_cells ((hb5.block _ (heap_lt V4d.out)).trans V4d.out); obtain ⟨n0, n1, n2⟩ := book_cells H5.out.blk; clear hb5 hup M6 G6)
      all_goals
        go_wp2_with fail
        go_roundw
        case rel => exact ⟨i + 1, by go_num, by omega, H6.out⟩
        case measure => simp [intOf]; omega
    · have hje : i = s.recs.length := by omega
      have HE : Hid (BkAt w wr w2.heap.size w1.heap.size s.recs.length s) := by have := hB.out; rw [hje, List.take_length] at this; exact this
      clear hje
      go_wp2_with fail
      go_ret
      exact ⟨_, _, rfl, HE.out⟩
end Go.Proofs.YtehghladpnpcoaaGreatDoor.State.Edit
set_option linter.unusedVariables false
set_option linter.unusedSimpArgs false
set_option maxRecDepth 100000
set_option maxHeartbeats 16000000
namespace Go.Proofs.YtehghladpnpcoaaGreatDoor.State.Edit
open Go.RowKit Go.Shelf Go.Proofs.YtehghladpnpcoaaGreatDoor.Utf Go.Proofs.YtehghladpnpcoaaGreatDoor.Strs Go.Proofs.YtehghladpnpcoaaGreatDoor.Addr Go.Proofs.YtehghladpnpcoaaGreatDoor.State
open Go.Proofs.YtehghladpnpcoaaGreatDoor.Jdec (IsTexts Turn infoStr gb_set gb_below gb_refl)
theorem do_ret (s : Sta) (x : Int) (w' : World) (tm : Array Value) (b : Nat) (a : Option Addr) (c : Nat) (Q : Ending → World → Prop) (hb : w'.heap[b]? = some (.cells (staArr a c s) 25 (0, 0))) (h2 : tm[4]? = some (.pointer (some ⟨b, 0, none⟩))) (h3 : tm[5]? = some (.int .i64 x)) (hq : Q (.returned (.tuple #[staV a c s, .int .i64 x])) w') : bodyPost Tryz.prog Tryz.f23 Q Exit.ret { tmps := tm, defers := [] } w' := by
  obtain ⟨c0, c1, c2⟩ := sta_cells hb
  refine bodyPost_ret (v := .tuple #[staV a c s, .int .i64 x]) ?_ rfl hq
  simp [results, Tryz.results23, go_sem, h2, h3, c0, c1, c2, staV]
def EdPost (s : Sta) (c : Cmd) (w : World) (e : Ending) (w' : World) : Prop := ∃ a c' s', e = .returned (.tuple #[.agg #[.int .u64 s'.serial, .string s'.lin, .slice a s'.recs.length c'], .int .i64 (errC s c)]) ∧ Hid (Done s c s') ∧ Hid (RecsAt w' a s'.recs) ∧ Hid (s'.recs.length ≤ c' ∧ s'.recs.length ≤ s.recs.length + 1) ∧ Hid (Below w.heap.size w w')
theorem edo_any (s : Sta) (ra : Option Addr) (rc : Nat) (k : CAt) (c : Cmd) (w : World) (h : RecsAt w ra s.recs) (hg : Good s.recs) (hc : CmdAt w k c) (T : TabsA w) (hn : s.recs.length ≤ 2999) (hsn : s.serial < 18446744073709551616) : Hid (Calls Tryz.prog 23 #[.agg #[.int .u64 s.serial, .string s.lin, .slice ra s.recs.length rc], .agg #[.int .i64 c.kind, .slice k.pf c.fr.path.length k.fc, .string c.fr.type, .string c.fr.name, .int .i64 c.fr.key, .int .u64 c.fr.place, .string c.fr.word, .slice k.pt c.ad.path.length k.tc, .string c.ad.type, .string c.ad.name, .int .i64 c.ad.key, .int .u64 c.ad.place, .string c.ad.word, .slice k.p.pa c.r.a.path.length k.p.pc, .string c.r.a.type, .string c.r.a.name, .int .i64 c.r.a.key, .int .u64 c.r.a.place, .string c.r.a.word, .string c.r.prov, .string c.r.id, .slice k.p.ta c.r.attrs.length k.p.tc]] w (EdPost s c w)) := by
  show Calls _ _ _ _ _
  obtain ⟨w1, hw1, V1, B1⟩ := sta_new w ra rc s
  obtain ⟨w2, hw2, V2, B2⟩ := cmd_new w1 k c
  obtain ⟨w3, hw3, V3, B3, Z3⟩ := zsta_new w2
  have hl1 := heap_lt V1.out
  have hl2 := heap_lt V2.out
  have hs1 := B1.out.size
  have hs2 := B2.out.size
  have hs3 : w3.heap.size = w2.heap.size + 1 := Z3.out
  have B03 : Hid (Below w.heap.size w w3) := (B1.out.trans (B2.out.mono hs1)).trans (B3.out.mono (by omega))
  have V13 : Hid (w3.heap[w.heap.size]? = some (.cells (staArr ra rc s) 25 (0, 0))) := (B3.out.block _ (by omega)).trans ((B2.out.block _ hl1).trans V1.out)
  have V23 : Hid (w3.heap[w1.heap.size]? = some (.cells (cmdArr k c) 44 (0, 0))) := (B3.out.block _ hl2).trans V2.out
  have KO := open_any s ra rc w3 (h.stays B03.out) hg (T.stays B03.out)
  have HKO : Hid (Calls Tryz.prog 56 #[.agg #[.int .u64 s.serial, .string s.lin, .slice ra s.recs.length rc]] w3 fun e w' => ∃ b bm, e = .returned (.pointer (some ⟨b, 0, none⟩)) ∧ Hid (BkAt w3 w' b bm s.recs.length s)) := KO
  have HKD : Hid (∀ W b bm, BkAt w3 W b bm s.recs.length s → Calls Tryz.prog 57 #[.pointer (some ⟨b, 0, none⟩), .agg #[.int .i64 c.kind, .slice k.pf c.fr.path.length k.fc, .string c.fr.type, .string c.fr.name, .int .i64 c.fr.key, .int .u64 c.fr.place, .string c.fr.word, .slice k.pt c.ad.path.length k.tc, .string c.ad.type, .string c.ad.name, .int .i64 c.ad.key, .int .u64 c.ad.place, .string c.ad.word, .slice k.p.pa c.r.a.path.length k.p.pc, .string c.r.a.type, .string c.r.a.name, .int .i64 c.r.a.key, .int .u64 c.r.a.place, .string c.r.a.word, .string c.r.prov, .string c.r.id, .slice k.p.ta c.r.attrs.length k.p.tc]] W (DoPost w3 b bm s.recs.length s c W)) := fun W b bm hb => do_any hb hg (hc.stays B03.out) (T.stays B03.out) (by omega) hsn
  obtain ⟨x0, x1, x2⟩ := sta_cells V13.out
  have HN : Hid (s.recs.length ≤ 2999) := hn
  have HZ3 := hdQ hs3
  have HS2 : Hid (w.heap.size ≤ w2.heap.size) := by show _ ≤ _; omega
  have HL2 := hdQ hl2
  clear h hg hc T KO hn hsn hs3 hl1 hl2 hs1 hs2
  go_enter Tryz.func23, Tryz.ntmps23
  go_wp2_with fail
  refine (Calls.mono HKO.out ?_)
  rintro z w4 ⟨b, bm, rfl, H4⟩
  have V24 : Hid (w4.heap[w1.heap.size]? = some (.cells (cmdArr k c) 44 (0, 0))) := (H4.out.up.block _ (heap_lt V23.out)).trans V23.out
  have LD := cmd_load V24.out
  clear x0 x1 x2 hw1 hw2 hw3 HKO
  go_wp2_with (refine wpList_load_run LD.out rfl _ rfl rfl ?_)
  refine (Calls.mono (HKD.out w4 b bm H4.out) ?_)
  rintro z w5 ⟨rfl, s', hD, hL, H5, K5⟩
  have HD := hdQ hD
  have HL' := hdQ hL
  have HH5 := hdQ H5
  have V35 : Hid (w5.heap[w2.heap.size]? = some (.cells (staArr none 0 ⟨0, ⟨#[]⟩, []⟩) 25 (0, 0))) := (H5.up.block _ (heap_lt V3.out)).trans V3.out
  have KS : Hid (Calls Tryz.prog 58 #[.pointer (some ⟨b, 0, none⟩)] w5 (JnPost s' s'.recs w5)) := bstate_any H5 hD.good (by have := HN.out; omega) (by have := HN.out; omega)
  clear LD hD hL H5 K5
  go_wp2_with fail
  refine (Calls.mono KS.out ?_)
  rintro z w6 ⟨a, c', rfl, hI, hc', hb6⟩
  have V36 : Hid (w6.heap[w2.heap.size]? = some (.cells (staArr none 0 ⟨0, ⟨#[]⟩, []⟩) 25 (0, 0))) := (hb6.block _ (heap_lt V35.out)).trans V35.out
  have f0 := frozen_of V36.out 0
  have f1 := frozen_of V36.out 1
  have f2 := frozen_of V36.out 2
  obtain ⟨r0, r1, r2⟩ := sta_cells V36.out
  have HI := hdQ hI
  have HC' := hdQ hc'
  have HB6 := hdQ hb6
  clear hI hc' hb6
  unfold staV
  go_wp2_with fail
  have hg6 : w6.grownBy (((w6.setCell ⟨w2.heap.size, 0, none⟩ (.int .u64 s'.serial)).setCell ⟨w2.heap.size, 1, none⟩ (.string s'.lin)).setCell ⟨w2.heap.size, 2, none⟩ (.slice a s'.recs.length c')) (some w2.heap.size) := ((gb_set _ _ _ _).trans (gb_set _ _ _ _)).trans (gb_set _ _ _ _)
  have h35 : w3.heap.size ≤ w5.heap.size := HH5.out.up.size
  have hB : Below w.heap.size w w6 := (B03.out.trans (HH5.out.up.mono B03.out.size)).trans (HB6.out.mono (Nat.le_trans B03.out.size h35))
  refine do_ret s' (errC s c) _ _ w2.heap.size a c' _ (set3 (t := s') V36.out) rfl rfl ⟨a, c', s', rfl, HD.out, ⟨?_, by have := HN.out; have := HL'.out; omega, HD.out.good.s⟩, ⟨HC'.out, HL'.out⟩, hB.grown hg6 hB.size (fun x hx => by injection hx with hx; have := HS2.out; omega)⟩
  have ht : Turn w6 _ (fun x => w5.heap.size ≤ x) (fun _ => True) := ⟨hg6.size, fun x hx hl => ⟨hg6.block x hl (fun e => by injection e with e; have := HZ3.out; omega), trivial⟩⟩
  exact IsRecs.turn HI.out ht
end Go.Proofs.YtehghladpnpcoaaGreatDoor.State.Edit
