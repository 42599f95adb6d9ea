/- tabulariumref09: objects. (Written by gen/cute.py.) -/
import Derived.Test.YtbfkgddhpabioaaGreatDoorCutE
namespace Go.Proofs.YtbfkgddhpabioaaGreatDoor.Jdec
open Go.RowKit Go.Proofs.YtbfkgddhpabioaaGreatDoor.Strs
set_option linter.unusedVariables false
set_option linter.unusedSimpArgs false
set_option maxRecDepth 100000

set_option maxHeartbeats 16000000 in
theorem rmany_object (s : ByteArray) (k : Nat) (dp : Nat) (val : Val) (w : World) (hs : s.size ≤ 1000000) (hk : k < s.size) (hdp : dp ≤ 64) (hc : (s[k].toNat : Int) = 123) (hval : RVal s ((dp : Int) + 1) val) (hvo : ValOk s.data.toList val) :
    Calls Tryz.prog 28 #[.string s, .int .i64 k, .int .i64 dp] w (GPost (GAtE (manyV true s.data.toList val k)) w) := by
  obtain ⟨i0, hi, hz0, hz1, hz2⟩ := info_parts infoVal2
  have HI := Hid.out (p := Hid _) hi; clear hi
  have HZ := Hid.out (p := Hid _) hz0; clear hz0
  obtain ⟨j0, hj, hjz, hj1, hj2⟩ := info_parts infoStr2
  have HJ := Hid.out (p := Hid _) hj; clear hj
  have HJZ := Hid.out (p := Hid _) hjz; clear hjz
  have HV : Hid (RVal s ((dp : Int) + 1) val) := hval
  have HVO : Hid (ValOk s.data.toList val) := hvo
  clear hval hvo
  have hl : s.data.toList.length = s.size := by simp
  have HL := Hid.out (p := Hid _) hl
  obtain ⟨q0, hq0⟩ : ∃ q0, skip s.data.toList (k + 1) = q0 := ⟨_, rfl⟩
  have hqs : q0 ≤ s.size := by have := skip_le s.data.toList (k + 1) (by omega); omega
  have hbl := fun w => rblanks_any s (k + 1) w (by omega) (by omega)
  rw [hq0] at hbl
  have HBL := Hid.out (p := Hid _) hbl
  obtain ⟨RES, hRES⟩ : ∃ RES, manyS true s.data.toList val (s.size + 1) q0 [] = RES := ⟨_, rfl⟩
  have HR := Hid.out (p := Hid _) hRES
  have HM : Hid (manyV true s.data.toList val k = if s.data.toList[q0]? = some 125 then .ok (q0 + 1) else RES) := by rw [Hid, manyV, hq0, hl, hRES]; rfl
  obtain ⟨w1, hw1, R1, B1, S1⟩ := got_new w
  obtain ⟨b, hb⟩ : ∃ b, w1.heap.size = b := ⟨_, rfl⟩
  have HbR : Hid (b = w.heap.size + 1) := by rw [← hb]; exact S1.out
  have hdw : IntKind.i64.wrap ((dp : Int) + 1) = (dp : Int) + 1 := IntWalk.i64_in _ (by omega)
  clear hl hq0 hbl hRES
  go_enter Tryz.func28, Tryz.ntmps28
  go_wp2_with fail
  obtain ⟨w2, hw2, Y2, G2, _⟩ := box_new w1 ⟨6, false, false, ⟨#[]⟩, 0, ⟨#[]⟩, none, 0, 0, none, 0, 0⟩
  dsimp only at hw2
  have R2 := kept_z R1.out G2.out
  have B2 := Hid.out (p := Hid _) (B1.out.trans (G2.out.mono B1.out.size))
  rw [hb] at Y2
  have Y2 : Hid (w2.heap[b]? = some (.cells (Raw.mk 6 false false ⟨#[]⟩ 0 ⟨#[]⟩ none 0 0 none 0 0).arr 29 (0, 0))) := Y2
  rw [hw2]
  have hbne : b ≠ w.heap.size := by have := HbR.out; omega
  have hbn2 : w.heap.size ≠ b := by have := HbR.out; omega
  clear R1 B1 S1 G2 hw1 hw2 hb
  refine (Calls.mono (HBL.out w2) ?_)
  rintro x w2' ⟨rfl, rfl⟩
  obtain ⟨T0, hT0⟩ : ∃ T, decide (s.data.toList[q0]? = some 125) = T := ⟨_, rfl⟩
  have HT0 := Hid.out (p := Hid _) hT0
  clear hT0
  go_upto_region 7 with (fail)
  go_cut [32] from 22 (fun p32 wx => w2 = wx ∧ p32 = .bool T0)
  case first =>
    by_cases hlt : q0 < s.size
    · cases T0
      · have hbe : ((s[q0].toNat : Int) == 125) = false := byte_no (byte_get s q0 hlt) (of_decide_eq_false HT0.out)
        go_wp2_with fail
        go_meet
        exact ⟨rfl, rfl⟩
      · have hbe : ((s[q0].toNat : Int) == 125) = true := byte_yes (byte_get s q0 hlt) (of_decide_eq_true HT0.out)
        go_wp2_with fail
        go_meet
        exact ⟨rfl, rfl⟩
    · cases T0
      · go_wp2_with fail
        go_meet
        exact ⟨rfl, rfl⟩
      · exact absurd (get_lt (of_decide_eq_true HT0.out)) (by rw [HL.out]; exact hlt)
  case rest =>
  obtain ⟨rfl, rfl⟩ := hcut
  cases T0
  case true =>
    have hq := of_decide_eq_true HT0.out
    have HF : Hid (manyV true s.data.toList val k = .ok (q0 + 1)) := by rw [Hid, HM.out, if_pos hq]
    have hlt : q0 < s.size := by have := get_lt hq; rw [HL.out] at this; exact this
    clear hq
    obtain ⟨⟨x0, x1, x2, x3, x4, x5, x6, x7⟩, _⟩ := val_cells Y2.out
    obtain ⟨⟨c0, c1, c2, c3, c4, c5, c6, c7, c8, c9, c10⟩, f0, f1, f2, f3, f4, f5, f6, f7, f8, f9, f10⟩ := got_cells R2.out
    go_wp2_with fail
    refine got_fin rfl R2.out rfl B2.out (Nat.le_refl _) ⟨6, false, false, ⟨#[]⟩, 0, ⟨#[]⟩, none, 0, 0, none, 0, 0⟩ ((q0 : Int) + 1) 0 0 ?_
    rw [HF.out]
    exact ⟨rfl, by omega⟩
  case false =>
    have HF : Hid (manyV true s.data.toList val k = RES) := by rw [Hid, HM.out, if_neg (of_decide_eq_false HT0.out)]
    have HO : Hid (RO w2 b 6 [] 0 none 0 none 0) := ⟨Y2.out, World.ownsRow_nil _ _ _ _, [], World.ownsRow_nil _ _ _ _⟩
    clear HT0 HM Y2 HBL
    go_wp2_with fail
    go_loopw [9] (fun p9 wr => ∃ (p n m : Nat) (ks : List ByteArray) (ka : Option Addr) (kc : Nat) (va : Option Addr) (vc : Nat), p9 = .int .i64 p ∧ p ≤ s.size ∧ ks.length ≤ p ∧ m ≤ p ∧ Hid (RO wr b 6 ks m ka kc va vc) ∧ Hid (wr.heap[w.heap.size]? = some (.cells (gArr Raw.zero 0 0 0) 31 (0, 0))) ∧ Hid (Below w.heap.size w wr) ∧ s.size - p < n ∧ Hid (RES = manyS true s.data.toList val n p ks)) (fun p9 _ => s.size + 1 - (intOf p9).toNat)
    case atStart => exact ⟨q0, s.size + 1, 0, [], none, 0, none, 0, rfl, hqs, Nat.zero_le _, Nat.zero_le _, HO.out, R2.out, B2.out, by omega, HR.out.symm⟩
    case round =>
      obtain ⟨p, n, m, ks, ka, kc, va, vc, rfl, hp, hks, hm, hO, hR, hB, hn, hres⟩ := hrel
      obtain ⟨n, rfl⟩ : ∃ n', n = n' + 1 := ⟨n - 1, by omega⟩
      have x0 : wr.cell? ⟨b, 0, none⟩ = some (.int .i64 6) := cell_of hO.out.Y 0
      clear HR HO R2 B2
      have x6 : wr.cell? ⟨b, 6, none⟩ = some (.slice ka ks.length kc) := cell_of hO.out.Y 6
      go_wp2_with fail
      refine (rfield_any s p ka kc ks wr hs hp (by omega) hO.out.texts).mono ?_
      rintro x w3 ⟨a, en, at_, e, rfl, hr, hb⟩
      dsimp only [gVal]
      have O3 := Hid.out (p := Hid _) (hO.out.stays hb)
      have R3 := kept_z hR.out hb
      have B3 := Hid.out (p := Hid _) (hB.out.trans (hb.mono hB.out.size))
      clear hb x0 x6 hO hR hB
      obtain ⟨e1, he1⟩ : ∃ e1, w3.heap.size = e1 := ⟨_, rfl⟩
      have hbe1 : b < e1 := by rw [← he1]; exact O3.out.lt
      have hne1 : e1 ≠ b := by omega
      have hne2 : e1 ≠ w.heap.size := by have := HbR.out; omega
      cases hf : fieldS s.data.toList ks p with
      | error y =>
        rw [hf] at hr
        obtain ⟨rfl, rfl⟩ : e = (y.2 : Int) ∧ at_ = (y.1 : Int) := hr
        have hy := field_err (by rw [HL.out]; exact hp) hf
        have hez : ((y.2 : Int) != 0) = true := by rw [bne_iff_ne]; omega
        have HF2 : Hid (manyV true s.data.toList val k = .error y) := by rw [Hid, HF.out, hres.out, manyS, headS, if_pos rfl, hf]
        obtain ⟨w4, hw4, X4, b4⟩ := got_put w3 a en y.1 y.2
        have R4 := kept_z R3.out b4.out
        have B4 := Hid.out (p := Hid _) (B3.out.trans (b4.out.mono B3.out.size))
        rw [he1] at X4
        obtain ⟨⟨d0, d1, d2, d3, d4, d5, d6, d7, d8, d9, d10⟩, g0, g1, g2, g3, g4, g5, g6, g7, g8, g9, g10⟩ := got_cells X4.out
        obtain ⟨⟨c0, c1, c2, c3, c4, c5, c6, c7, c8, c9, c10⟩, f0, f1, f2, f3, f4, f5, f6, f7, f8, f9, f10⟩ := got_cells R4.out
        clear hf hy b4
        go_wp2_with fail
        refine got_fin rfl R4.out rfl B4.out (Nat.le_refl _) a en y.1 y.2 ?_
        rw [HF2.out]
        exact ⟨rfl, rfl⟩
      | ok z =>
      obtain ⟨d, r⟩ := z
      rw [hf] at hr
      obtain ⟨he0, rfl, rfl⟩ : e = 0 ∧ en = (r : Int) ∧ a.str = d := hr
      have hez : (e != 0) = false := by rw [he0]; rfl
      clear he0
      have HH : Hid (headS true s.data.toList ks p = .ok (ks ++ [a.str], r)) := by rw [Hid, headS, if_pos rfl, hf]
      obtain ⟨hpr, hrs, hksr⟩ := head_fits (by rw [HL.out]; exact hp) HH.out
      rw [HL.out] at hrs
      obtain ⟨w4, hw4, X4, b4⟩ := got_put w3 a r at_ e
      have R4 := kept_z R3.out b4.out
      have B4 := Hid.out (p := Hid _) (B3.out.trans (b4.out.mono B3.out.size))
      have O4 := Hid.out (p := Hid _) (O3.out.stays b4.out)
      rw [he1] at X4
      obtain ⟨⟨d0, d1, d2, d3, d4, d5, d6, d7, d8, d9, d10⟩, g0, g1, g2, g3, g4, g5, g6, g7, g8, g9, g10⟩ := got_cells X4.out
      have x6 : w4.cell? ⟨b, 6, none⟩ = some (.slice ka ks.length kc) := cell_of O4.out.Y 6
      have hb4 : b < w4.heap.size := O4.out.lt
      have KK : Hid (w4.ownsRow (b + 1) 9 1 (.slice ka ks.length kc) ks.length (ks.map Value.string)) := O4.out.K
      clear hf b4 O3 R3 B3
      go_wp2_with (at_builtin; refine wpList_append_lies _ rfl _ _ 26 rfl (b + 1) 9 j0 _ 1 16 Tryz.underlying26 HJ.out HJZ.out hj1 hj2 rfl (by omega) (.slice ka ks.length kc) ks.length (ks.map Value.string) rfl (KK.out.alloc _) ⟨w4.heap.size, 0, none⟩ 1 1 [.string a.str] rfl rfl (World.news_of_block (cs := #[.string a.str]) (t := 9) (fr := (0, 0)) (heap_alloc_new w4 _)) (by simp [Value.oneCell']) (by omega) (by unfold maxLen; omega) (by omega) (by simp; omega) (w4.heap.size + 1) (by simp) ?_)
      intro g cap w7 hown hgrow hat7 hlt7
      have hne : some b ≠ (Value.slice ka ks.length kc).ownBlock := row_ne KK.out
      have Y7 := kid_far O4.out.Y hgrow hne
      have E7 := kid_far X4.out hgrow (own_ne KK.out X4.out (by decide))
      clear x6 d0 d1 d2 d3 d4 d5 d6 d7 d8 d9 d10 g0 g1 g2 g3 g4 g5 g6 g7 g8 g9 g10
      have x6 : w7.cell? ⟨b, 6, none⟩ = some (.slice ka ks.length kc) := cell_of Y7.out 6
      have m6 := frozen_of Y7.out 6
      have d8 : w7.cell? ⟨e1, 8, none⟩ = some (.int .i64 r) := cell_of E7.out 8
      obtain ⟨o8, b8⟩ := RO.key O4.out hown hgrow hat7
      have O8 := Hid.out (p := Hid _) o8
      have G8 := Hid.out (p := Hid _) b8
      clear hown hgrow hat7 hlt7 hne o8 b8 hw4 he1
      go_wp2_with fail
      have R8 := kept_of R4.out G8.out (by have := HbR.out; omega)
      have B8 := Hid.out (p := Hid _) (B4.out.trans (G8.out.mono (by have := HbR.out; omega)))
      clear x6 m6 d8 Y7 E7 KK X4 G8 R4 B4 O4
      generalize w7.setCell ⟨b, 6, none⟩ (.slice (some ⟨g, 0, none⟩) (ks.length + 1) cap) = w8 at *
      generalize ks ++ [a.str] = ks' at *
      clear hne1 hne2 hbe1
      refine (Calls.mono (HV.out r w8 hrs) ?_)
      rintro x w9 ⟨a9, en, at_, e, rfl, hg, hb⟩
      dsimp only [gVal]
      have O9 := Hid.out (p := Hid _) (O8.out.stays hb)
      have R9 := kept_z R8.out hb
      have B9 := Hid.out (p := Hid _) (B8.out.trans (hb.mono B8.out.size))
      clear hb O8 R8 B8
      obtain ⟨e2, he2⟩ : ∃ e2, w9.heap.size = e2 := ⟨_, rfl⟩
      have hbe2 : b < e2 := by rw [← he2]; exact O9.out.lt
      have hne1 : e2 ≠ b := by omega
      have hne2 : e2 ≠ w.heap.size := by have := HbR.out; omega
      have hfit := HVO.out r (by rw [HL.out]; exact hrs)
      cases hv : val r with
      | error y =>
        rw [hv] at hg
        obtain ⟨rfl, rfl⟩ : e = (y.2 : Int) ∧ at_ = (y.1 : Int) := hg
        have hy := (hfit.err _ hv).2
        have hez : ((y.2 : Int) != 0) = true := by rw [bne_iff_ne]; omega
        have HF2 : Hid (manyV true s.data.toList val k = .error y) := by rw [Hid, HF.out, hres.out, manyS, HH.out]; simp only; rw [hv]
        obtain ⟨w10, hw10, X10, b10⟩ := got_put w9 a9 en y.1 y.2
        have R10 := kept_z R9.out b10.out
        have B10 := Hid.out (p := Hid _) (B9.out.trans (b10.out.mono B9.out.size))
        rw [he2] at X10
        obtain ⟨⟨d0, d1, d2, d3, d4, d5, d6, d7, d8, d9, d10⟩, g0, g1, g2, g3, g4, g5, g6, g7, g8, g9, g10⟩ := got_cells X10.out
        obtain ⟨⟨c0, c1, c2, c3, c4, c5, c6, c7, c8, c9, c10⟩, f0, f1, f2, f3, f4, f5, f6, f7, f8, f9, f10⟩ := got_cells R10.out
        clear hv hy b10 hfit
        go_wp2_with fail
        refine got_fin rfl R10.out rfl B10.out (Nat.le_refl _) a9 en y.1 y.2 ?_
        rw [HF2.out]
        exact ⟨rfl, rfl⟩
      | ok z =>
      obtain ⟨v, t⟩ := z
      rw [hv] at hg
      obtain ⟨he0, rfl⟩ : e = 0 ∧ en = (t : Int) := hg
      have hez : (e != 0) = false := by rw [he0]; rfl
      clear he0
      have ht := hfit.ok _ hv
      simp only [HL.out] at ht
      obtain ⟨ht1, ht2⟩ := ht
      obtain ⟨p2, hp2⟩ : ∃ p2, skip s.data.toList t = p2 := ⟨_, rfl⟩
      have hp21 : t ≤ p2 := by rw [← hp2]; exact skip_ge _ _
      have hp22 : p2 ≤ s.size := by have := skip_le s.data.toList t (by rw [HL.out]; exact ht2); rw [HL.out, hp2] at this; exact this
      have hbl := fun w => rblanks_any s t w (by omega) ht2
      rw [hp2] at hbl
      have HBL := Hid.out (p := Hid _) hbl
      have HRES : Hid (RES = if s.data.toList[p2]? = some 125 then .ok (p2 + 1) else if s.data.toList[p2]? = some 44 then manyS true s.data.toList val n (skip s.data.toList (p2 + 1)) ks' else .error (here s.data.toList p2)) := by
        rw [Hid, hres.out, manyS, HH.out]; simp only; rw [hv]; simp only; exact many_ends hp2
      obtain ⟨w10, hw10, X10, b10⟩ := got_put w9 a9 t at_ e
      have R10 := kept_z R9.out b10.out
      have B10 := Hid.out (p := Hid _) (B9.out.trans (b10.out.mono B9.out.size))
      have O10 := Hid.out (p := Hid _) (O9.out.stays b10.out)
      rw [he2] at X10
      obtain ⟨⟨d0, d1, d2, d3, d4, d5, d6, d7, d8, d9, d10⟩, g0, g1, g2, g3, g4, g5, g6, g7, g8, g9, g10⟩ := got_cells X10.out
      have x7 : w10.cell? ⟨b, 7, none⟩ = some (.slice va m vc) := cell_of O10.out.Y 7
      have hb10 : b < w10.heap.size := O10.out.lt
      obtain ⟨xs, hxs⟩ := O10.out.V
      have HX : Hid (w10.ownsRow (b + 1) 29 8 (.slice va m vc) m xs) := hxs
      clear hv b10 O9 R9 B9 hbl hp2 hfit hxs
      go_wp2_with (at_builtin; refine wpList_append_lies _ rfl _ _ 27 rfl (b + 1) 29 i0 _ 8 112 Tryz.underlying27 HI.out HZ.out hz1 hz2 rfl (by omega) (.slice va m vc) m xs rfl (HX.out.alloc _) ⟨w10.heap.size, 0, none⟩ 1 1 a9.cells rfl rfl (World.news_of_block (cs := a9.arr) (t := 29) (fr := (0, 0)) (heap_alloc_new w10 _)) (by simp [Raw.cells, Value.oneCell']) (by omega) (by unfold maxLen; omega) (by omega) (by simp; omega) (w10.heap.size + 1) (by simp) ?_)
      intro gv cap2 w11 hown hgrow hat7 hlt7
      have hne : some b ≠ (Value.slice va m vc).ownBlock := row_ne HX.out
      have Y11 := kid_far O10.out.Y hgrow hne
      have E11 := kid_far X10.out hgrow (own_ne HX.out X10.out (by decide))
      clear x7 d0 d1 d2 d3 d4 d5 d6 d7 d8 d9 d10 g0 g1 g2 g3 g4 g5 g6 g7 g8 g9 g10
      have x7 : w11.cell? ⟨b, 7, none⟩ = some (.slice va m vc) := cell_of Y11.out 7
      have m7 := frozen_of Y11.out 7
      have d8 : w11.cell? ⟨e2, 8, none⟩ = some (.int .i64 t) := cell_of E11.out 8
      obtain ⟨o12, b12⟩ := RO.kid O10.out HX.out hown hgrow hat7
      have O12 := Hid.out (p := Hid _) o12
      have G12 := Hid.out (p := Hid _) b12
      clear hown hgrow hat7 hlt7 hne o12 b12 hw10 he2
      go_wp2_with fail
      have R12 := kept_of R10.out G12.out (by have := HbR.out; omega)
      have B12 := Hid.out (p := Hid _) (B10.out.trans (G12.out.mono (by have := HbR.out; omega)))
      clear x7 m7 d8 Y11 E11 HX X10 G12 R10 B10 O10
      generalize w11.setCell ⟨b, 7, none⟩ (.slice (some ⟨gv, 0, none⟩) (m + 1) cap2) = w12 at *
      refine (Calls.mono (HBL.out w12) ?_)
      rintro x w12' ⟨rfl, rfl⟩
      obtain ⟨T1, hT1⟩ : ∃ T, decide (s.data.toList[p2]? = some 125) = T := ⟨_, rfl⟩
      have HT1 := Hid.out (p := Hid _) hT1
      clear hT1 HBL
      go_upto_region 20 with (fail)
      go_cut [89] from 37 to 110 (fun p89 wx => w12 = wx ∧ p89 = .bool T1)
      case first =>
        by_cases hlt : p2 < s.size
        · cases T1
          · have hbe : ((s[p2].toNat : Int) == 125) = false := byte_no (byte_get s p2 hlt) (of_decide_eq_false HT1.out)
            go_wp2_with fail
            go_meet
            exact ⟨rfl, rfl⟩
          · have hbe : ((s[p2].toNat : Int) == 125) = true := byte_yes (byte_get s p2 hlt) (of_decide_eq_true HT1.out)
            go_wp2_with fail
            go_meet
            exact ⟨rfl, rfl⟩
        · cases T1
          · go_wp2_with fail
            go_meet
            exact ⟨rfl, rfl⟩
          · exact absurd (get_lt (of_decide_eq_true HT1.out)) (by rw [HL.out]; exact hlt)
      case rest =>
      obtain ⟨rfl, rfl⟩ := hcut
      cases T1
      case true =>
        have HF2 : Hid (manyV true s.data.toList val k = .ok (p2 + 1)) := by rw [Hid, HF.out, HRES.out, if_pos (of_decide_eq_true HT1.out)]
        have hlt : p2 < s.size := by have := get_lt (of_decide_eq_true HT1.out); rw [HL.out] at this; exact this
        obtain ⟨⟨x0, x1, x2, x3, x4, x5, x6, x7⟩, _⟩ := val_cells O12.out.Y
        obtain ⟨⟨c0, c1, c2, c3, c4, c5, c6, c7, c8, c9, c10⟩, f0, f1, f2, f3, f4, f5, f6, f7, f8, f9, f10⟩ := got_cells R12.out
        clear HRES HT1
        go_wp2_with fail
        refine got_fin rfl R12.out rfl B12.out (Nat.le_refl _) ⟨6, false, false, ⟨#[]⟩, 0, ⟨#[]⟩, (some ⟨g, 0, none⟩), ks'.length, cap, some ⟨gv, 0, none⟩, m + 1, cap2⟩ ((p2 : Int) + 1) 0 0 ?_
        rw [HF2.out]
        exact ⟨rfl, by omega⟩
      case false =>
      obtain ⟨T2, hT2⟩ : ∃ T, decide (s.data.toList[p2]? ≠ some 44) = T := ⟨_, rfl⟩
      have HT2 := Hid.out (p := Hid _) hT2
      have HRES2 : Hid (RES = if s.data.toList[p2]? = some 44 then manyS true s.data.toList val n (skip s.data.toList (p2 + 1)) ks' else .error (here s.data.toList p2)) := by rw [Hid, HRES.out, if_neg (of_decide_eq_false HT1.out)]
      clear hT2 HRES HT1
      go_upto_region 22 with (fail)
      go_cut [103] from 37 to 110 (fun p103 wx => w12 = wx ∧ p103 = .bool T2)
      case first =>
        by_cases hlt : p2 < s.size
        · have hpz : decide ((s.size : Int) ≤ (p2 : Int)) = false := by rw [decide_eq_false_iff_not]; omega
          have hpn : decide (s.size ≤ p2) = false := by rw [decide_eq_false_iff_not]; omega
          cases T2
          · have hbe : ((s[p2].toNat : Int) != 44) = false := byte_ney (byte_get s p2 hlt) (Decidable.of_not_not (of_decide_eq_false HT2.out))
            go_wp2_with fail
            go_meet
            exact ⟨rfl, rfl⟩
          · have hbe : ((s[p2].toNat : Int) != 44) = true := byte_nen (byte_get s p2 hlt) (of_decide_eq_true HT2.out)
            go_wp2_with fail
            go_meet
            exact ⟨rfl, rfl⟩
        · have hpz : decide ((s.size : Int) ≤ (p2 : Int)) = true := by rw [decide_eq_true_eq]; omega
          have hpn : decide (s.size ≤ p2) = true := by rw [decide_eq_true_eq]; omega
          cases T2
          · exact absurd (get_lt (Decidable.of_not_not (of_decide_eq_false HT2.out))) (by rw [HL.out]; exact hlt)
          · go_wp2_with fail
            go_meet
            exact ⟨rfl, rfl⟩
      case rest =>
      obtain ⟨rfl, rfl⟩ := hcut
      cases T2
      case true =>
        have HF2 : Hid (manyV true s.data.toList val k = .error (here s.data.toList p2)) := by rw [Hid, HF.out, HRES2.out, if_neg (of_decide_eq_true HT2.out)]
        clear HRES2 HT2
        go_wp2_with fail
        refine (rhere_any s p2 w12 (by omega) (by omega)).mono ?_
        rintro x wz ⟨az, enz, atz, ez, rfl, hrz, hbz⟩
        dsimp only [gVal]
        have Rz := kept_z R12.out hbz
        have Bz := Hid.out (p := Hid _) (B12.out.trans (hbz.mono B12.out.size))
        have HBz := Hid.out (p := Hid _) (GAtE.bad HF2.out rfl rfl hrz)
        clear hbz hrz
        obtain ⟨⟨c0, c1, c2, c3, c4, c5, c6, c7, c8, c9, c10⟩, f0, f1, f2, f3, f4, f5, f6, f7, f8, f9, f10⟩ := got_cells Rz.out
        go_wp2_with fail
        exact got_fin rfl Rz.out rfl Bz.out (Nat.le_refl _) az enz atz ez HBz.out
      case false =>
        have hq := Decidable.of_not_not (of_decide_eq_false HT2.out)
        have HF2 : Hid (RES = manyS true s.data.toList val n (skip s.data.toList (p2 + 1)) ks') := by rw [Hid, HRES2.out, if_pos hq]
        have hlt : p2 < s.size := by have := get_lt hq; rw [HL.out] at this; exact this
        clear hq HRES2 HT2
        go_wp2_with fail
        refine (rblanks_any s (p2 + 1) w12 (by omega) hlt).mono ?_
        rintro x w13 ⟨rfl, rfl⟩
        obtain ⟨p3, hp3⟩ : ∃ p3, skip s.data.toList (p2 + 1) = p3 := ⟨_, rfl⟩
        have hp31 : p2 + 1 ≤ p3 := by rw [← hp3]; exact skip_ge _ _
        have hp32 : p3 ≤ s.size := by have := skip_le s.data.toList (p2 + 1) (by rw [HL.out]; exact hlt); rw [HL.out, hp3] at this; exact this
        rw [hp3] at HF2 ⊢
        clear hp3
        go_wp2_with fail
        go_roundw
        case rel => exact ⟨p3, n, m + 1, ks', (some ⟨g, 0, none⟩), cap, some ⟨gv, 0, none⟩, cap2, rfl, hp32, by omega, by omega, O12.out, R12.out, B12.out, by omega, HF2.out⟩
        case measure => simp [intOf]; omega
end Go.Proofs.YtbfkgddhpabioaaGreatDoor.Jdec
