/- tabulariumref18.Right. -/
import Derived.Test.YtfdjolfenghmaaaGreatDoorWStA
import Derived.Test.YtfdjolfenghmaaaGreatDoorWStO
set_option linter.unusedVariables false
set_option linter.unusedSimpArgs false
set_option maxRecDepth 100000
set_option maxHeartbeats 8000000
namespace Go.Proofs.YtfdjolfenghmaaaGreatDoor.State
open Go.RowKit Go.Shelf Utf Strs Go.Proofs.YtfdjolfenghmaaaGreatDoor.Addr
open Jdec (IsTexts Turn infoStr gb_set gb_below gb_refl)
theorem rrec_ok (r : Rec) (p : At) (w : World) (h : IsRec w (fun _ => True) p r) (hs : Small r) (b : Bool) (hb : recB r = b) : Hid (Calls Tryz.prog 12 #[.agg #[.slice p.pa r.a.path.length p.pc, .string r.a.type, .string r.a.name, .int .i64 r.a.key, .int .u64 r.a.place, .string r.a.word, .string r.prov, .string r.id, .slice p.ta r.attrs.length p.tc]] w fun e w' => e = .returned (.bool b) /\ Below w.heap.size w w') := by
  rw [<-hb];exact rrecord_any r p w h hs
theorem rpr_ok (r : Rec) (p : At) (w : World) (h : IsRec w (fun _ => True) p r) (hs : Small r) (q : ByteArray) (hq : (⟨(printA r.a).toArray⟩ : ByteArray) = q) : Hid (Calls Tryz.prog 13 #[.agg #[.slice p.pa r.a.path.length p.pc, .string r.a.type, .string r.a.name, .int .i64 r.a.key, .int .u64 r.a.place, .string r.a.word]] w fun e w' => e = .returned (.string q) /\ Below w.heap.size w w') := by
  have h := (h.adr hs).rprint p.pc;rw [hq] at h;exact h
structure RInv2 (l : List Rec) (i : Nat) : Prop where
  r : ∀ j (h : j < l.length), j < i -> recB l[j] = true
  o : ∀ j (h : j + 1 < l.length), j + 1 < i -> Op.bytesLess (printA l[j].a) (printA l[j + 1].a) = true
theorem rright18_any (s : Sta) (ra : Option Addr) (rc : Nat) (w : World) (h : RecsAt w ra s.recs) (hl : s.lin.size <= 6000) : Calls Tryz.prog 6 #[staV ra rc s] w fun e w' => e = .returned (.bool (rightS s)) /\ Below w.heap.size w w' := by
  obtain ⟨w1, hw1, V1, B1⟩ := sta_new w ra rc s;have hl1 := heap_lt V1.out;obtain ⟨v1, hv1⟩ : ∃ x, decide (badZ s.lin.data.toList < 0) = x := ⟨_, rfl⟩;have HRS : Hid (rightS s = (v1 && @decide (Rows s.recs) (Classical.propDecidable _))) := by rw [Hid, rightS, hv1]
  have HUT := rutf_ok s.lin w1 hl v1 hv1;have HR : Hid (∀ W, Below w1.heap.size w1 W -> RecsAt W ra s.recs) := fun W hb => (h.stays B1.out).stays hb;have HKA : Hid (∀ W, Below w1.heap.size w1 W -> W.heap[w.heap.size]? = some (.cells (staArr ra rc s) 25 (0, 0))) := fun W hb => (hb.block _ hl1).trans V1.out;have HBW : Hid (∀ W, Below w1.heap.size w1 W -> Below w.heap.size w W) := fun W hb => B1.out.trans (hb.mono (by omega));have hn := h.n;obtain ⟨x0, x1, x2⟩ := sta_cells V1.out;unfold staV;clear hv1 h;go_enter Tryz.func6, Tryz.ntmps6
  go_wp2_with fail
  refine (Calls.mono HUT.out ?_);rintro z w2 ⟨rfl, hb2⟩;have B2 : Hid (Below w1.heap.size w1 w2) := hb2;clear hb2 HUT x0 x1 x2;cases v1
  case false =>
    go_wp2_with fail
    go_ret
    exact ⟨by rw [HRS.out] <;> rfl, HBW.out w2 B2.out⟩
  go_wp2_with fail
  clear hw1
  go_loopw [3] (fun p3 wr => ∃ (i : Nat), p3 = .int .i64 i /\ i <= s.recs.length /\ Hid (RInv2 s.recs i) /\ Hid (Below w1.heap.size w1 wr)) (fun p3 _ => s.recs.length - (intOf p3).toNat)
  case atStart => exact ⟨0, rfl, Nat.zero_le _, ⟨fun j _ h => by omega, fun j _ h => by omega⟩, B2.out⟩
  case round =>
    obtain ⟨i, rfl, hi, hI, hB⟩ := hrel;obtain ⟨x0, x1, x2⟩ := sta_cells (HKA.out wr hB.out);by_cases hlt : i < s.recs.length
    · obtain ⟨b, o, p, hra, hb, hcr, hir⟩ := (HR.out wr hB.out).get hlt;have hsm := (HR.out wr hB.out).s _ (List.getElem_mem hlt);obtain ⟨r, hr⟩ : ∃ r, s.recs[i] = r := ⟨_, rfl⟩;rw [hr] at hcr hir hsm;obtain ⟨z0, z1, z2, z3, z4, z5, z6, z7, z8⟩ := recs_nine hcr;have HRA := hZz hra;have HCR : Hid (∀ W, Below wr.heap.size wr W -> ∀ j u, (recArr p r)[j]? = some u -> W.cell? ⟨b, o + i * 9 + j, none⟩ = some u) := fun W hW j u hu => by rw [cell_blk (hW.block b hb)]; exact hcr j u hu
      have hdr : Below wr.heap.size wr wr.drew := (Below.refl _ _).drew;have HDR : Hid (Below wr.heap.size wr wr.drew) := hdr;have HIR : Hid (∀ W, Below wr.heap.size wr W -> IsRec W (fun _ => True) p r) := fun W hW => hir.turn (Turn.below hW);have HSM := hZz hsm;obtain ⟨rb, hrb⟩ : ∃ b, recB r = b := ⟨_, rfl⟩;have HRC := rrec_ok r p wr.drew (HIR.out _ hdr) hsm rb hrb;obtain ⟨xd0, xd1, xd2⟩ := sta_cells (HKA.out wr.drew (hB.out.trans (hdr.mono hB.out.size)));obtain ⟨zd0, zd1, zd2, zd3, zd4, zd5, zd6, zd7, zd8⟩ := recs_nine (HCR.out wr.drew hdr);have HRB := hZz hrb;have HRi := hZz hr;have hbr : Below w1.heap.size w1 wr := hB.out;have HW : Hid (∀ W, Below wr.heap.size wr W -> Below w1.heap.size w1 W) := fun W hW => hbr.trans (hW.mono hbr.size);rw [hra] at x2 xd2;clear hcr hir hsm hrb hr hra hdr hbr;rcases Bool.eq_false_or_eq_true rb with rfl | rfl
      case inr =>
        have HF : Hid (rightS s = false) := by
          rw [Hid, <-Bool.not_eq_true, rightS_iff];rintro ⟨_, h⟩;have := h.r i hlt;rw [HRi.out, HRB.out] at this;cases this
        go_wp2_with fail
        refine wp_region_held_drew (S := (fun w' => w'.cell? ⟨w.heap.size, 2, none⟩ = some (.slice (some ⟨b, o, none⟩) s.recs.length rc) /\ w'.cell? ⟨b, o + i * 9, none⟩ = some (.slice p.pa r.a.path.length p.pc) /\ w'.cell? ⟨b, o + i * 9 + 1, none⟩ = some (.string r.a.type) /\ w'.cell? ⟨b, o + i * 9 + 2, none⟩ = some (.string r.a.name) /\ w'.cell? ⟨b, o + i * 9 + 3, none⟩ = some (.int .i64 r.a.key) /\ w'.cell? ⟨b, o + i * 9 + 4, none⟩ = some (.int .u64 r.a.place) /\ w'.cell? ⟨b, o + i * 9 + 5, none⟩ = some (.string r.a.word) /\ w'.cell? ⟨b, o + i * 9 + 6, none⟩ = some (.string r.prov) /\ w'.cell? ⟨b, o + i * 9 + 7, none⟩ = some (.string r.id) /\ w'.cell? ⟨b, o + i * 9 + 8, none⟩ = some (.slice p.ta r.attrs.length p.tc))) (by kernel_rfl) ?_ (fun hHeld => ?_)
        · go_keep
        refine tk 0 ?_;refine tl 1 ?_;refine tk 2 ?_
        try simp only [nz]
        refine tk 3 ?_;refine tl 4 ?_
        try simp only [nz]
        refine rd 5 (fun K hK => ?_)
        try simp only [nz]
        go_simp
        go_at_call 12; refine (Calls.mono HRC.out ?_); rintro z w4 ⟨rfl, hb4⟩; have B4 : Hid (Below wr.heap.size wr w4) := HDR.out.trans hb4; clear hb4; obtain ⟨as0, as1, as2⟩ := sta_cells (HKA.out w4 (HW.out _ B4.out)); rw [HRA.out] at as2; obtain ⟨az0, az1, az2, az3, az4, az5, az6, az7, az8⟩ := recs_nine (HCR.out w4 B4.out)
        clear hHeld;refine hK.out _ _ ?_ (fun hHeld => ?_)
        · go_keep
        clear hK K
        try simp only [nz]
        refine tk 6 ?_;refine tk 7 ?_;refine tn 8 ?_
        try simp only [nz]
        refine tn 9 ?_;refine tn 10 ?_;refine tn 11 ?_
        try simp only [nz]
        refine tn 12 ?_;refine tn 13 ?_;refine tn 14 ?_
        try simp only [nz]
        refine tn 15 ?_;refine tn 16 ?_;refine tn 17 ?_
        try simp only [nz]
        refine tn 18 ?_;refine tn 19 ?_;refine tn 20 ?_
        try simp only [nz]
        refine tn 21 ?_;refine tn 22 ?_;refine tn 23 ?_
        try simp only [nz]
        refine tn 24 ?_;refine tn 25 ?_;refine tn 26 ?_
        try simp only [nz]
        refine tn 27 ?_;refine tk 28 ?_
        try simp only [nz]
        refine wpAnyH_done (by kernel_rfl) ?_ _
        all_goals
          go_wp2_with fail
          go_ret
          exact ⟨by rw [HF.out] <;> rfl, HBW.out w4 (HW.out _ B4.out)⟩
      rcases Nat.eq_zero_or_pos i with hi0 | hi0
      · subst hi0
        have HN : Hid (RInv2 s.recs 1) := ⟨fun j hj h => (by obtain rfl : j = 0 := by omega
                                                             rw [HRi.out]; exact HRB.out), fun j _ h => by omega⟩
        simp only [Nat.zero_mul, Nat.add_zero] at z0 z1 z2 z3 z4 z5 z6 z7 z8 zd0 zd1 zd2 zd3 zd4 zd5 zd6 zd7 zd8 HCR
        go_wp2_with fail
        refine wp_region_held_drew (S := (fun w' => w'.cell? ⟨w.heap.size, 2, none⟩ = some (.slice (some ⟨b, o, none⟩) s.recs.length rc) /\ w'.cell? ⟨b, o, none⟩ = some (.slice p.pa r.a.path.length p.pc) /\ w'.cell? ⟨b, o + 1, none⟩ = some (.string r.a.type) /\ w'.cell? ⟨b, o + 2, none⟩ = some (.string r.a.name) /\ w'.cell? ⟨b, o + 3, none⟩ = some (.int .i64 r.a.key) /\ w'.cell? ⟨b, o + 4, none⟩ = some (.int .u64 r.a.place) /\ w'.cell? ⟨b, o + 5, none⟩ = some (.string r.a.word) /\ w'.cell? ⟨b, o + 6, none⟩ = some (.string r.prov) /\ w'.cell? ⟨b, o + 7, none⟩ = some (.string r.id) /\ w'.cell? ⟨b, o + 8, none⟩ = some (.slice p.ta r.attrs.length p.tc))) (by kernel_rfl) ?_ (fun hHeld => ?_)
        · go_keep
        refine tk 0 ?_;refine tl 1 ?_;refine tk 2 ?_
        try simp only [nz]
        refine tk 3 ?_;refine tl 4 ?_
        try simp only [nz]
        refine rd 5 (fun K hK => ?_)
        try simp only [nz]
        go_simp
        go_at_call 12; refine (Calls.mono HRC.out ?_); rintro z w4 ⟨rfl, hb4⟩; have B4 : Hid (Below wr.heap.size wr w4) := HDR.out.trans hb4; clear hb4; obtain ⟨as0, as1, as2⟩ := sta_cells (HKA.out w4 (HW.out _ B4.out)); rw [HRA.out] at as2; obtain ⟨az0, az1, az2, az3, az4, az5, az6, az7, az8⟩ := recs_nine (HCR.out w4 B4.out)
        clear hHeld;refine hK.out _ _ ?_ (fun hHeld => ?_)
        · go_keep
        clear hK K
        try simp only [nz]
        refine tk 6 ?_;refine tk 7 ?_;refine tk 8 ?_
        try simp only [nz]
        refine tk 9 ?_;refine tk 10 ?_;refine tn 11 ?_
        try simp only [nz]
        refine tn 12 ?_;refine tn 13 ?_;refine tn 14 ?_
        try simp only [nz]
        refine tn 15 ?_;refine tn 16 ?_;refine tn 17 ?_
        try simp only [nz]
        refine tn 18 ?_;refine tn 19 ?_;refine tn 20 ?_
        try simp only [nz]
        refine tn 21 ?_;refine tn 22 ?_;refine tn 23 ?_
        try simp only [nz]
        refine tn 24 ?_;refine tn 25 ?_;refine tn 26 ?_
        try simp only [nz]
        refine tk 27 ?_;refine tk 28 ?_
        try simp only [nz]
        refine wpAnyH_done (by kernel_rfl) ?_ _
        all_goals
          go_wp2_with fail
          go_roundw
          case rel => exact ⟨1, rfl, by omega, HN.out, HW.out _ B4.out⟩
          case measure => simp [intOf]; omega
      · obtain ⟨k, hk⟩ : ∃ k, k + 1 = i := ⟨i - 1, by omega⟩;have hkl : k < s.recs.length := by omega
        have gk : (i : Int) - 1 = (k : Int) := by omega
        have wk : IntKind.i64.wrap (k : Int) = (k : Int) := IntWalk.i64_in _ (by omega);obtain ⟨b2, o2, p2, hra2, hb2, hcq, hiq⟩ := (HR.out wr hB.out).get hkl;have hsm2 := (HR.out wr hB.out).s _ (List.getElem_mem hkl);have he : b2 = b /\ o2 = o := by rw [HRA.out] at hra2; injection hra2 with h; injection h with h1 h2; exact ⟨h1.symm, h2.symm⟩
        obtain ⟨rfl, rfl⟩ := he;obtain ⟨r2, hr2⟩ : ∃ r, s.recs[k] = r := ⟨_, rfl⟩;rw [hr2] at hcq hiq hsm2;obtain ⟨y0, y1, y2, y3, y4, y5, y6, y7, y8⟩ := recs_nine hcq;have HCQ : Hid (∀ W, Below wr.heap.size wr W -> ∀ j u, (recArr p2 r2)[j]? = some u -> W.cell? ⟨b2, o2 + k * 9 + j, none⟩ = some u) := fun W hW j u hu => by rw [cell_blk (hW.block b2 hb2)]; exact hcq j u hu
        obtain ⟨q1, hq1⟩ : ∃ q : ByteArray, (⟨(printA r.a).toArray⟩ : ByteArray) = q := ⟨_, rfl⟩;obtain ⟨q2, hq2⟩ : ∃ q : ByteArray, (⟨(printA r2.a).toArray⟩ : ByteArray) = q := ⟨_, rfl⟩;have HIQ : Hid (∀ W, Below wr.heap.size wr W -> IsRec W (fun _ => True) p2 r2) := fun W hW => hiq.turn (Turn.below hW);have HP1 : Hid (∀ W, Below wr.heap.size wr W -> _) := fun W hW => rpr_ok r p W (HIR.out W hW) HSM.out q1 hq1;have HP2 : Hid (∀ W, Below wr.heap.size wr W -> _) := fun W hW => rpr_ok r2 p2 W (HIQ.out W hW) hsm2 q2 hq2;have HQ1 : Hid (printA s.recs[i].a = q1.data.toList) := by rw [Hid, HRi.out, <-hq1]
        have HQ2 : Hid (printA s.recs[k].a = q2.data.toList) := by rw [Hid, hr2, <-hq2]
        obtain ⟨c1, h1⟩ : ∃ c, Op.bytesLess q2.toList q1.toList = c := ⟨_, rfl⟩;have HLT : Hid (Op.bytesLess (printA s.recs[k].a) (printA s.recs[i].a) = c1) := by rw [Hid, HQ1.out, HQ2.out, <-ByteArray.toList_eq, <-ByteArray.toList_eq]; exact h1
        have hi1 : decide ((0 : Int) < (i : Int)) = true := by rw [decide_eq_true_eq]; omega
        have hi2 : decide (0 < i) = true := by rw [decide_eq_true_eq]; omega
        have HK := hZz hk;clear hk hra2 hcq hiq hsm2 hr2 hq1 hq2;go_wp2_with fail
        refine wp_region_held_drew (S := (fun w' => w'.cell? ⟨w.heap.size, 2, none⟩ = some (.slice (some ⟨b2, o2, none⟩) s.recs.length rc) /\ w'.cell? ⟨b2, o2 + i * 9, none⟩ = some (.slice p.pa r.a.path.length p.pc) /\ w'.cell? ⟨b2, o2 + i * 9 + 1, none⟩ = some (.string r.a.type) /\ w'.cell? ⟨b2, o2 + i * 9 + 2, none⟩ = some (.string r.a.name) /\ w'.cell? ⟨b2, o2 + i * 9 + 3, none⟩ = some (.int .i64 r.a.key) /\ w'.cell? ⟨b2, o2 + i * 9 + 4, none⟩ = some (.int .u64 r.a.place) /\ w'.cell? ⟨b2, o2 + i * 9 + 5, none⟩ = some (.string r.a.word) /\ w'.cell? ⟨b2, o2 + i * 9 + 6, none⟩ = some (.string r.prov) /\ w'.cell? ⟨b2, o2 + i * 9 + 7, none⟩ = some (.string r.id) /\ w'.cell? ⟨b2, o2 + i * 9 + 8, none⟩ = some (.slice p.ta r.attrs.length p.tc) /\ w'.cell? ⟨b2, o2 + k * 9, none⟩ = some (.slice p2.pa r2.a.path.length p2.pc) /\ w'.cell? ⟨b2, o2 + k * 9 + 1, none⟩ = some (.string r2.a.type) /\ w'.cell? ⟨b2, o2 + k * 9 + 2, none⟩ = some (.string r2.a.name) /\ w'.cell? ⟨b2, o2 + k * 9 + 3, none⟩ = some (.int .i64 r2.a.key) /\ w'.cell? ⟨b2, o2 + k * 9 + 4, none⟩ = some (.int .u64 r2.a.place) /\ w'.cell? ⟨b2, o2 + k * 9 + 5, none⟩ = some (.string r2.a.word))) (by kernel_rfl) ?_ (fun hHeld => ?_)
        · go_keep
        refine tk 0 ?_;refine tl 1 ?_;refine tk 2 ?_
        try simp only [nz]
        refine tk 3 ?_;refine tl 4 ?_
        try simp only [nz]
        refine rd 5 (fun K hK => ?_)
        try simp only [nz]
        go_simp
        go_at_call 12; refine (Calls.mono HRC.out ?_); rintro z w4 ⟨rfl, hb4⟩; have B4 : Hid (Below wr.heap.size wr w4) := HDR.out.trans hb4; clear hb4; obtain ⟨as0, as1, as2⟩ := sta_cells (HKA.out w4 (HW.out _ B4.out)); rw [HRA.out] at as2; obtain ⟨az0, az1, az2, az3, az4, az5, az6, az7, az8⟩ := recs_nine (HCR.out w4 B4.out); obtain ⟨ay0, ay1, ay2, ay3, ay4, ay5, ay6, ay7, ay8⟩ := recs_nine (HCQ.out w4 B4.out)
        clear hHeld;refine hK.out _ _ ?_ (fun hHeld => ?_)
        · go_keep
        clear hK K
        try simp only [nz]
        refine tk 6 ?_;refine tk 7 ?_;refine tk 8 ?_
        try simp only [nz]
        refine tk 9 ?_;refine tk 10 ?_;refine tk 11 ?_
        try simp only [nz]
        refine tl 12 ?_;refine tk 13 ?_;refine tk 14 ?_
        try simp only [nz]
        refine tk 15 ?_;refine tk 16 ?_;refine tl 17 ?_
        try simp only [nz]
        refine tk 19 ?_;refine tl 20 ?_;refine tk 21 ?_
        try simp only [nz]
        refine tk 22 ?_;refine tk 23 ?_;refine tl 24 ?_
        try simp only [nz]
        refine rd 18 (fun K hK => ?_)
        try simp only [nz]
        go_simp
        go_at_call 13; refine (Calls.mono (HP2.out w4 B4.out).out ?_); rintro z w5 ⟨rfl, hb5⟩; have B5 := bel B4 hb5; clear hb5; obtain ⟨cs0, cs1, cs2⟩ := sta_cells (HKA.out w5 (HW.out _ B5.out)); rw [HRA.out] at cs2; obtain ⟨cz0, cz1, cz2, cz3, cz4, cz5, cz6, cz7, cz8⟩ := recs_nine (HCR.out w5 B5.out); obtain ⟨cy0, cy1, cy2, cy3, cy4, cy5, cy6, cy7, cy8⟩ := recs_nine (HCQ.out w5 B5.out)
        clear hHeld;refine hK.out _ _ ?_ (fun hHeld => ?_)
        · go_keep
        clear hK K
        try simp only [nz]
        refine rd 25 (fun K hK => ?_)
        try simp only [nz]
        go_simp
        go_at_call 13; refine (Calls.mono (HP1.out w5 B5.out).out ?_); rintro z w6 ⟨rfl, hb6⟩; have B6 := bel B5 hb6; clear hb6; obtain ⟨ds0, ds1, ds2⟩ := sta_cells (HKA.out w6 (HW.out _ B6.out)); rw [HRA.out] at ds2; obtain ⟨dz0, dz1, dz2, dz3, dz4, dz5, dz6, dz7, dz8⟩ := recs_nine (HCR.out w6 B6.out); obtain ⟨dy0, dy1, dy2, dy3, dy4, dy5, dy6, dy7, dy8⟩ := recs_nine (HCQ.out w6 B6.out)
        clear hHeld;refine hK.out _ _ ?_ (fun hHeld => ?_)
        · go_keep
        clear hK K
        try simp only [nz]
        refine tk 26 ?_;refine tk 27 ?_;refine tk 28 ?_
        try simp only [nz]
        refine wpAnyH_done (by kernel_rfl) ?_ _
        all_goals
          cases c1
          case false =>
            have HF : Hid (rightS s = false) := by
              rw [Hid, <-Bool.not_eq_true, rightS_iff];rintro ⟨_, h⟩;have e := HK.out;subst e;have h4 := h.o k hlt;rw [HLT.out] at h4;cases h4
            go_wp2_with fail
            go_ret
            exact ⟨by rw [HF.out] <;> rfl, HBW.out w6 (HW.out _ B6.out)⟩
          case true =>
            have HN : Hid (RInv2 s.recs (i + 1)) := by
              refine ⟨fun j hj h => ?_, fun j hj h => ?_⟩
              · by_cases e : j = i
                · subst e; rw [HRi.out]; exact HRB.out
                · exact hI.out.r j hj (by omega)
              · by_cases e : j + 1 = i
                · have e2 : j = k := by have := HK.out; omega
                  subst e2;simp only [e]
                  exact HLT.out
                · exact hI.out.o j hj (by omega)
            go_wp2_with fail
            go_roundw
            case rel => exact ⟨i + 1, by go_num, by omega, HN.out, HW.out _ B6.out⟩
            case measure => simp [intOf]; omega
    · have HF : Hid (rightS s = true) := by
        rw [Hid, HRS.out, Bool.true_and, @decide_eq_true_eq (Rows s.recs) (Classical.propDecidable _)];exact ⟨fun j hj => hI.out.r j hj (by omega), fun j hj => hI.out.o j hj (by omega)⟩
      go_wp2_with fail
      go_ret
      exact ⟨by rw [HF.out] <;> rfl, HBW.out wr hB.out⟩
end Go.Proofs.YtfdjolfenghmaaaGreatDoor.State
