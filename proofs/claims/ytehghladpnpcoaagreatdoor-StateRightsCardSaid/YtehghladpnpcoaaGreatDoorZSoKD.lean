/- slices: symMerge (tabularium/state.keyed). -/
import Derived.Test.YtehghladpnpcoaaGreatDoorZSoKC
set_option linter.unusedVariables false
set_option linter.unusedSimpArgs false
set_option maxRecDepth 100000
set_option maxHeartbeats 256000000
namespace Go.Proofs.YtehghladpnpcoaaGreatDoor.Stable
open Go.RowKit Go.Shelf
open Go.Proofs.YtehghladpnpcoaaGreatDoor.Jdec (gb_set gb_below gb_drew gb_refl)
theorem merge3K {α : Type} {enc : α → List Value} {cv : α → α → Int} (E : Hid (Elem Tryz.prog 78 10 enc)) (HW : Hid (Weak (ltOf cv))) (b o n kb : Nat) (c : Nat) (hn : n ≤ 3000) (d : Nat) (ih : Hid (∀ (a m e0 : Nat) (f : Nat → α) (w : World), ArrG 78 10 enc w b o n f → Hid (CmpAt Tryz.prog 78 enc cv kb b w) → a < m → m < e0 → e0 ≤ n → e0 - a ≤ d → Hid (SortedOn (ltOf cv) a m f) → Hid (SortedOn (ltOf cv) m e0 f) →
  Calls Tryz.prog 108 #[.slice (some ⟨b, o, none⟩) n c, .int .i64 a, .int .i64 m, .int .i64 e0, .func (.func 78) #[] #[.pointer (some ⟨kb, 0, none⟩)]] w fun e w' => (∃ v, e = .returned v) ∧ ∃ g, ArrG 78 10 enc w' b o n g ∧ Mix n a e0 f g ∧ SortedOn (ltOf cv) a e0 g ∧ w.grownBy w' (some b))) (a m e0 : Nat) (f : Nat → α) (w : World) (h : ArrG 78 10 enc w b o n f) (HC : Hid (CmpAt Tryz.prog 78 enc cv kb b w)) (ham : a < m) (hme : m < e0) (he : e0 ≤ n) (hs1 : Hid (SortedOn (ltOf cv) a m f)) (hs2 : Hid (SortedOn (ltOf cv) m e0 f)) (hd : e0 - a ≤ d + 1) (hma : m ≠ a + 1) (hem : e0 ≠ m + 1) :
  Calls Tryz.prog 108 #[.slice (some ⟨b, o, none⟩) n c, .int .i64 a, .int .i64 m, .int .i64 e0, .func (.func 78) #[] #[.pointer (some ⟨kb, 0, none⟩)]] w fun e w' => (∃ v, e = .returned v) ∧ ∃ g, ArrG 78 10 enc w' b o n g ∧ Mix n a e0 f g ∧ SortedOn (ltOf cv) a e0 g ∧ w.grownBy w' (some b) := by
 obtain ⟨x1, hx1⟩ : ∃ q, m - a = q := ⟨_, rfl⟩
 have q1 : (m : Int) - (a : Int) = (x1 : Int) := by omega
 have q2 : ((x1 : Int) == 1) = false := by rw [bnQ]; omega
 obtain ⟨x2, hx2⟩ : ∃ q, e0 - m = q := ⟨_, rfl⟩
 have q3 : (e0 : Int) - (m : Int) = (x2 : Int) := by omega
 have q4 : ((x2 : Int) == 1) = false := by rw [bnQ]; omega
 clear hx1 hx2
 obtain ⟨md, hmd⟩ : ∃ u, (a + e0) / 2 = u := ⟨_, rfl⟩
 obtain ⟨ae, hae⟩ : ∃ z, a + e0 = z := ⟨_, rfl⟩
 have ga : (a : Int) + (e0 : Int) = (ae : Int) := by omega
 have wa1 : IntKind.i64.wrap (ae : Int) = (ae : Int) := IntWalk.i64_in _ (by omega)
 have wa2 : IntKind.u64.wrap (ae : Int) = (ae : Int) := IntWalk.u64_in _ (by omega)
 have gd : (ae : Int) / 2 = (md : Int) := by omega
 have wd1 : IntKind.i64.wrap (md : Int) = (md : Int) := IntWalk.i64_in _ (by omega)
 have wd2 : IntKind.u64.wrap (md : Int) = (md : Int) := IntWalk.u64_in _ (by omega)
 have HMD : Hid (md = (a + e0) / 2) := hmd.symm
 have hamd : a < md := by omega
 have hmde : md < e0 := by omega
 have hmd1 : 2 * md ≤ a + e0 := by omega
 have hmd2 : a + e0 ≤ 2 * md + 1 := by omega
 clear hmd hae
 obtain ⟨nn, hnn⟩ : ∃ z, md + m = z := ⟨_, rfl⟩
 have gn : (md : Int) + (m : Int) = (nn : Int) := by omega
 have hnn1 : nn ≤ md + m := by omega
 have hnn2 : md + m ≤ nn := by omega
 clear hnn
 obtain ⟨p, hp⟩ : ∃ z, nn - 1 = z := ⟨_, rfl⟩
 have gp : (nn : Int) - 1 = (p : Int) := by omega
 have hp1 : p + 1 ≤ nn := by omega
 have hp2 : nn ≤ p + 1 := by omega
 clear hp
 by_cases hmm : md < m
 case' pos =>
  have t1 : decide ((md : Int) < (m : Int)) = true := by rw [dtQ]; omega
  obtain ⟨s0, hs0⟩ : ∃ z, nn - e0 = z := ⟨_, rfl⟩
  have g0 : (nn : Int) - (e0 : Int) = (s0 : Int) := by omega
  have SP : Hid (Span a m e0 md s0 md) := ⟨HMD.out, ham, hme, .inl ⟨hmm, by omega, rfl⟩⟩
  have hsr : s0 ≤ md := by omega
  clear hs0
  go_enter Tryz.func108, Tryz.ntmps108
  go_wp2_with fail
  go_loopw [20, 21] (fun p20 p21 wr => ∃ s0 r0 s r : Nat, p20 = .int .i64 s ∧ p21 = .int .i64 r ∧ s ≤ r ∧ Hid (Cut (ltOf cv) f (md + m - 1) s0 r0 s r) ∧ Hid (Span a m e0 md s0 r0) ∧ Hid (ArrG 78 10 enc wr b o n f) ∧ Hid (w.grownBy wr (some b))) (fun p20 p21 _ => (intOf p21).toNat - (intOf p20).toNat)
  case atStart => exact ⟨s0, md, s0, md, rfl, rfl, hsr, Cut.init _ _ _ hsr, SP.out, h, gb_refl _ _⟩
 case' neg =>
  have t1 : decide ((md : Int) < (m : Int)) = false := by rw [dfQ]; omega
  have SP : Hid (Span a m e0 md a m) := ⟨HMD.out, ham, hme, .inr ⟨by omega, rfl, rfl⟩⟩
  have hsr : a ≤ m := by omega
  go_enter Tryz.func108, Tryz.ntmps108
  go_wp2_with fail
  go_loopw [20, 21] (fun p20 p21 wr => ∃ s0 r0 s r : Nat, p20 = .int .i64 s ∧ p21 = .int .i64 r ∧ s ≤ r ∧ Hid (Cut (ltOf cv) f (md + m - 1) s0 r0 s r) ∧ Hid (Span a m e0 md s0 r0) ∧ Hid (ArrG 78 10 enc wr b o n f) ∧ Hid (w.grownBy wr (some b))) (fun p20 p21 _ => (intOf p21).toNat - (intOf p20).toNat)
  case atStart => exact ⟨a, m, a, m, rfl, rfl, hsr, Cut.init _ _ _ hsr, SP.out, h, gb_refl _ _⟩
 all_goals
  clear SP hsr
  obtain ⟨s0, r0, s, r, rfl, rfl, hsr, hcut, SP, hA, hG⟩ := hrel
  have sp0 := SP.out.s0
  have hc1 := hcut.out.s1
  have hc3 := hcut.out.s3
  have hr0 : r0 ≤ m := by have := sp0.2.2.1; omega
  by_cases hlt : s < r
  ·have HCUR := hdQ hA
   obtain ⟨u, hu⟩ : ∃ u, (s + r) / 2 = u := ⟨_, rfl⟩
   have hiu : s ≤ u := by omega
   have huj : u < r := by omega
   obtain ⟨sm, hsm⟩ : ∃ z, s + r = z := ⟨_, rfl⟩
   have gs : (s : Int) + (r : Int) = (sm : Int) := by omega
   have ws1 : IntKind.i64.wrap (sm : Int) = (sm : Int) := IntWalk.i64_in _ (by omega)
   have ws2 : IntKind.u64.wrap (sm : Int) = (sm : Int) := IntWalk.u64_in _ (by omega)
   have gm : (sm : Int) / 2 = (u : Int) := by omega
   have wu1 : IntKind.i64.wrap (u : Int) = (u : Int) := IntWalk.i64_in _ (by omega)
   have wu2 : IntKind.u64.wrap (u : Int) = (u : Int) := IntWalk.u64_in _ (by omega)
   clear hu hsm
   have hux := sp0.2.2.2 u (by omega) (by omega)
   obtain ⟨x, hx⟩ : ∃ z, p - u = z := ⟨_, rfl⟩
   have gx : (p : Int) - (u : Int) = (x : Int) := by omega
   have hwx : IntKind.i64.wrap (x : Int) = (x : Int) := IntWalk.i64_in _ (by omega)
   have HXU : Hid (md + m - 1 - u = x) := by rw [Hid]; omega
   have hxn : x < n := by omega
   have hun : u < n := by omega
   clear hx hux sp0 hc1 hc3
   obtain ⟨cc, hcc⟩ : ∃ cz, cv (f x) (f u) = cz := ⟨_, rfl⟩
   have HCC := hdQ hcc
   obtain ⟨lb, hlb⟩ : ∃ z, decide (cc < 0) = z := ⟨_, rfl⟩
   have HLB : Hid (ltOf cv (f x) (f u) = lb) := by rw [Hid, ltOf, hcc]; exact hlb
   clear hcc
   have GD : Hid (w.grownBy wr.drew (some b)) := hG.out.trans (gb_drew wr 1 _)
   have AD : Hid (ArrG 78 10 enc wr.drew b o n f) := HCUR.out.drew
   obtain ⟨Vi, hVi⟩ : ∃ v, Value.agg (enc (f x)).toArray = v := ⟨_, rfl⟩
   obtain ⟨Vj, hVj⟩ : ∃ v, Value.agg (enc (f u)).toArray = v := ⟨_, rfl⟩
   have LD : Hid (∀ X, Below wr.drew.heap.size wr.drew X → (Instr.loadAt 78 (.pointer (some ⟨b, o + x * 10, none⟩))).run Tryz.prog X = .ok Vi X ∧ (Instr.loadAt 78 (.pointer (some ⟨b, o + u * 10, none⟩))).run Tryz.prog X = .ok Vj X) := fun X hb => by rw [← hVi, ← hVj]; exact ⟨(AD.out.stays hb).load E.out (by omega), (AD.out.stays hb).load E.out (by omega)⟩
   have HCA : Hid (Calls Tryz.prog 78 #[Vi, Vj, .pointer (some ⟨kb, 0, none⟩)] wr.drew fun e w' => e = .returned (.int .i64 cc) ∧ Below wr.drew.heap.size wr.drew w') := by rw [← hVi, ← hVj, ← HCC.out]; exact HC.out _ GD.out (f x) (f u)
   have LQ : Hid ((Instr.loadAt 78 (.pointer (some ⟨b, o + x * 10, none⟩))).run Tryz.prog wr.drew = .ok Vi wr.drew ∧ (Instr.loadAt 78 (.pointer (some ⟨b, o + u * 10, none⟩))).run Tryz.prog wr.drew = .ok Vj wr.drew) := LD.out _ (Below.refl _ _)
   have cx0 : (0 : Int) ≤ (x : Int) := by omega
   have cx1 : (x : Int) < (n : Int) := by omega
   have cy0 : (0 : Int) ≤ (u : Int) := by omega
   have cy1 : (u : Int) < (n : Int) := by omega
   clear hVi hVj
   go_wp2_with fail
   refine wp_region_held_drew (S := (fun w' => (Instr.loadAt 78 (.pointer (some ⟨b, o + x * 10, none⟩))).run Tryz.prog w' = .ok Vi w' ∧ (Instr.loadAt 78 (.pointer (some ⟨b, o + u * 10, none⟩))).run Tryz.prog w' = .ok Vj w')) (by kernel_rfl) ?_ (fun hHeld => ?_)
   ·exact LQ.out
   refine tk 0 ?_
   refine tk 1 ?_
   refine tk 2 ?_
   try simp only [nz]
   refine tk 3 ?_
   refine tk 4 ?_
   refine tk 5 ?_
   try simp only [nz]
   refine tv 6 Vi ?_ ?_
   ·(intro w hs; exact exec_loadAt rfl rfl hs.1)
   refine tk 7 ?_
   refine tk 8 ?_
   try simp only [nz]
   refine tk 9 ?_
   refine tv 10 Vj ?_ ?_
   ·(intro w hs; exact exec_loadAt rfl rfl hs.2)
   try simp only [nz]
   refine rd 11 (fun K hK => ?_)
   try simp only [nz]
   go_simp
   (go_at_call 78; refine (Calls.mono HCA.out ?_); rintro z w6 ⟨rfl, hb6⟩; have BB6 : Hid (Below wr.drew.heap.size wr.drew w6) := hb6; clear hb6; have LQ : Hid ((Instr.loadAt 78 (.pointer (some ⟨b, o + x * 10, none⟩))).run Tryz.prog w6 = .ok Vi w6 ∧ (Instr.loadAt 78 (.pointer (some ⟨b, o + u * 10, none⟩))).run Tryz.prog w6 = .ok Vj w6) := LD.out w6 BB6.out)
   clear hHeld
   refine hK.out _ _ ?_ (fun hHeld => ?_)
   ·exact LQ.out
   clear hK K
   try simp only [nz]
   refine tk 12 ?_
   refine tk 13 ?_
   try simp only [nz]
   refine wpAnyH_done (by kernel_rfl) ?_ _
   have HV6 : Hid (w.grownBy w6 (some b)) := GD.out.trans (gb_below BB6.out _)
   have AC6 : Hid (ArrG 78 10 enc w6 b o n f) := AD.out.stays BB6.out
   clear LD LQ HCA HCUR
   cases lb
   case true =>
    have HLT := HLB
    have HCN : Hid (Cut (ltOf cv) f (md + m - 1) s0 r0 s u) := Cut.right HW.out hcut.out SP.out hs1.out hs2.out hiu huj (by have := HLT.out; rw [← HXU.out] at this; exact this)
    go_wp2_with fail
    go_roundw
    case rel => exact ⟨s0, r0, s, u, rfl, rfl, hiu, HCN.out, SP.out, AC6.out, HV6.out⟩
    case measure => simp [intOf]; omega
   case false =>
    have HLT := HLB
    have HCN : Hid (Cut (ltOf cv) f (md + m - 1) s0 r0 (u + 1) r) := Cut.left HW.out hcut.out SP.out hs1.out hs2.out hiu huj (by have := HLT.out; rw [← HXU.out] at this; exact this)
    go_wp2_with fail
    go_roundw
    case rel => exact ⟨s0, r0, u + 1, r, by go_num, rfl, by omega, HCN.out, SP.out, AC6.out, HV6.out⟩
    case measure => simp [intOf]; omega
  ·obtain rfl : s = r := by omega
   clear hlt hsr sp0 hc1 hc3 hr0
   obtain ⟨g1', g2', g3', g4', g5', g6', cS1, cS2, cS3, cS4, cX⟩ := cut_rot HW.out hcut.out SP.out hs1.out hs2.out
   obtain ⟨en, hen⟩ : ∃ z, md + m - s = z := ⟨_, rfl⟩
   rw [hen] at g4' g5' g6' cS1 cS2 cS3 cS4 cX
   have ge : (nn : Int) - (s : Int) = (en : Int) := by omega
   have hes1 : en + s ≤ md + m := by omega
   have hes2 : md + m ≤ en + s := by omega
   clear hen
   have M0 := rot_mix n f g2' g4' (Nat.le_trans g6' he)
   obtain ⟨f1, hf1⟩ : ∃ q, rot f s m en = q := ⟨_, rfl⟩
   have HF1 : Hid (rot f s m en = f1) := hf1
   rw [hf1] at cS1 cS2 cS3 cS4 cX M0
   have S1 : Hid (SortedOn (ltOf cv) a s f1) := cS1
   have S2 : Hid (SortedOn (ltOf cv) s md f1) := cS2
   have S3 : Hid (SortedOn (ltOf cv) md en f1) := cS3
   have S4 : Hid (SortedOn (ltOf cv) en e0 f1) := cS4
   have HX := hdQ cX
   have M1 : Hid (Mix n a e0 f f1) := M0.mono g1' g6'
   clear cS1 cS2 cS3 cS4 cX M0 hf1
   rcases Nat.lt_or_ge s m with k | k
   ·rcases Nat.lt_or_ge m en with k' | k'
    ·have k1 : decide ((s : Int) < (m : Int)) = true := by rw [dtQ]; omega
     have k2 : decide ((m : Int) < (en : Int)) = true := by rw [dtQ]; omega
     have HRO := rotateK_any E b o n s m en c (.func (.func 78) #[] #[.pointer (some ⟨kb, 0, none⟩)]) f wr hA.out (by omega) (by omega) (by omega) hn
     go_wp2_with fail
     all_goals
      refine (Calls.mono HRO ?_)
      rintro e w6 ⟨⟨v, rfl⟩, hA6, hG6⟩
      have HA6 : Hid (ArrG 78 10 enc w6 b o n f1) := by rw [← HF1.out]; exact hA6
      have HG6 : Hid (w.grownBy w6 (some b)) := hG.out.trans hG6
      clear hA6 hG6 HRO
      by_cases c1 : a < s
      ·have HC1 : Hid (CmpAt Tryz.prog 78 enc cv kb b w6) := HC.out.grow HG6.out
       have HR1 := ih.out a s md f1 w6 HA6.out HC1 (by omega) (by omega) (by omega) (by omega) S1 S2
       have d1 : decide ((a : Int) < (s : Int)) = true := by rw [dtQ]; omega
       have d2 : decide ((s : Int) < (md : Int)) = true := by rw [dtQ]; omega
       go_wp2_with fail
       all_goals
        refine (Calls.mono HR1 ?_)
        rintro e w7 ⟨⟨v, rfl⟩, g1, hA7, hM7, hS7, hG7⟩
        have HA7 : Hid (ArrG 78 10 enc w7 b o n g1) := hA7
        have HM7 : Hid (Mix n a md f1 g1) := hM7
        have HS7 : Hid (SortedOn (ltOf cv) a md g1) := hS7
        have HG7 : Hid (w.grownBy w7 (some b)) := HG6.out.trans hG7
        clear hA7 hM7 hS7 hG7 HR1
        by_cases c2 : en < e0
        ·have HC2 : Hid (CmpAt Tryz.prog 78 enc cv kb b w7) := HC.out.grow HG7.out
         have T3 : Hid (SortedOn (ltOf cv) md en g1) := S3.out.congr fun i h1 h2 => HM7.out.out i (by omega)
         have T4 : Hid (SortedOn (ltOf cv) en e0 g1) := S4.out.congr fun i h1 h2 => HM7.out.out i (by omega)
         have HR2 := ih.out md en e0 g1 w7 HA7.out HC2 (by omega) (by omega) (by omega) (by omega) T3 T4
         have d3 : decide ((md : Int) < (en : Int)) = true := by rw [dtQ]; omega
         have d4 : decide ((en : Int) < (e0 : Int)) = true := by rw [dtQ]; omega
         go_wp2_with fail
         all_goals
          refine (Calls.mono HR2 ?_)
          rintro e w8 ⟨⟨v, rfl⟩, g2, hA8, hM8, hS8, hG8⟩
          have HA8 : Hid (ArrG 78 10 enc w8 b o n g2) := hA8
          have HM8 : Hid (Mix n md e0 g1 g2) := hM8
          have HS8 : Hid (SortedOn (ltOf cv) md e0 g2) := hS8
          have HG8 : Hid (w.grownBy w8 (some b)) := HG7.out.trans hG8
          clear hA8 hM8 hS8 hG8 HR2
          have HSF : Hid (SortedOn (ltOf cv) a e0 g2) := halves HX.out HM7.out HS7.out HM8.out HS8.out
          have HMF : Hid (Mix n a e0 f g2) := M1.out.trans ((HM7.out.mono (Nat.le_refl _) (by omega)).trans (HM8.out.mono (by omega) (Nat.le_refl _)))
          go_wp2_with fail
          all_goals
           refine bodyPost_end (results_none rfl _ _ _) rfl ?_
           exact ⟨⟨_, rfl⟩, g2, HA8.out, HMF.out, HSF.out, HG8.out⟩
        ·have d3 : decide ((md : Int) < (en : Int)) = true := by rw [dtQ]; omega
         have d4 : decide ((en : Int) < (e0 : Int)) = false := by rw [dfQ]; omega
         have HS8 : Hid (SortedOn (ltOf cv) md e0 g1) := by have := S3.out; rw [show en = e0 by omega] at this; exact this.congr fun i h1 h2 => HM7.out.out i (by omega)
         have HM8 : Hid (Mix n md e0 g1 g1) := Mix.refl _ _ _ _
         have HSF : Hid (SortedOn (ltOf cv) a e0 g1) := halves HX.out HM7.out HS7.out HM8.out HS8.out
         have HMF : Hid (Mix n a e0 f g1) := M1.out.trans ((HM7.out.mono (Nat.le_refl _) (by omega)).trans (HM8.out.mono (by omega) (Nat.le_refl _)))
         go_wp2_with fail
         all_goals
          refine bodyPost_end (results_none rfl _ _ _) rfl ?_
          exact ⟨⟨_, rfl⟩, g1, HA7.out, HMF.out, HSF.out, HG7.out⟩
      ·have d1 : decide ((a : Int) < (s : Int)) = false := by rw [dfQ]; omega
       have HSE : Hid (SortedOn (ltOf cv) a md f1) := by have := S2.out; rw [show s = a by omega] at this; exact this
       have HA7 : Hid (ArrG 78 10 enc w6 b o n f1) := HA6.out
       have HM7 : Hid (Mix n a md f1 f1) := Mix.refl _ _ _ _
       have HS7 : Hid (SortedOn (ltOf cv) a md f1) := HSE.out
       have HG7 : Hid (w.grownBy w6 (some b)) := HG6.out
       obtain ⟨w7, hw7⟩ : ∃ q, q = w6 := ⟨_, rfl⟩
       obtain ⟨g1, hg1⟩ : ∃ q, q = f1 := ⟨_, rfl⟩
       rw [← hw7, ← hg1] at HA7
       rw [← hg1] at HS7
       rw [← hw7] at HG7 ⊢
       have HM7 : Hid (Mix n a md f1 g1) := by rw [hg1]; exact HM7.out
       clear hw7 hg1 HSE
       by_cases c2 : en < e0
       ·have HC2 : Hid (CmpAt Tryz.prog 78 enc cv kb b w7) := HC.out.grow HG7.out
        have T3 : Hid (SortedOn (ltOf cv) md en g1) := S3.out.congr fun i h1 h2 => HM7.out.out i (by omega)
        have T4 : Hid (SortedOn (ltOf cv) en e0 g1) := S4.out.congr fun i h1 h2 => HM7.out.out i (by omega)
        have HR2 := ih.out md en e0 g1 w7 HA7.out HC2 (by omega) (by omega) (by omega) (by omega) T3 T4
        have d3 : decide ((md : Int) < (en : Int)) = true := by rw [dtQ]; omega
        have d4 : decide ((en : Int) < (e0 : Int)) = true := by rw [dtQ]; omega
        go_wp2_with fail
        all_goals
         refine (Calls.mono HR2 ?_)
         rintro e w8 ⟨⟨v, rfl⟩, g2, hA8, hM8, hS8, hG8⟩
         have HA8 : Hid (ArrG 78 10 enc w8 b o n g2) := hA8
         have HM8 : Hid (Mix n md e0 g1 g2) := hM8
         have HS8 : Hid (SortedOn (ltOf cv) md e0 g2) := hS8
         have HG8 : Hid (w.grownBy w8 (some b)) := HG7.out.trans hG8
         clear hA8 hM8 hS8 hG8 HR2
         have HSF : Hid (SortedOn (ltOf cv) a e0 g2) := halves HX.out HM7.out HS7.out HM8.out HS8.out
         have HMF : Hid (Mix n a e0 f g2) := M1.out.trans ((HM7.out.mono (Nat.le_refl _) (by omega)).trans (HM8.out.mono (by omega) (Nat.le_refl _)))
         go_wp2_with fail
         all_goals
          refine bodyPost_end (results_none rfl _ _ _) rfl ?_
          exact ⟨⟨_, rfl⟩, g2, HA8.out, HMF.out, HSF.out, HG8.out⟩
       ·have d3 : decide ((md : Int) < (en : Int)) = true := by rw [dtQ]; omega
        have d4 : decide ((en : Int) < (e0 : Int)) = false := by rw [dfQ]; omega
        have HS8 : Hid (SortedOn (ltOf cv) md e0 g1) := by have := S3.out; rw [show en = e0 by omega] at this; exact this.congr fun i h1 h2 => HM7.out.out i (by omega)
        have HM8 : Hid (Mix n md e0 g1 g1) := Mix.refl _ _ _ _
        have HSF : Hid (SortedOn (ltOf cv) a e0 g1) := halves HX.out HM7.out HS7.out HM8.out HS8.out
        have HMF : Hid (Mix n a e0 f g1) := M1.out.trans ((HM7.out.mono (Nat.le_refl _) (by omega)).trans (HM8.out.mono (by omega) (Nat.le_refl _)))
        go_wp2_with fail
        all_goals
         refine bodyPost_end (results_none rfl _ _ _) rfl ?_
         exact ⟨⟨_, rfl⟩, g1, HA7.out, HMF.out, HSF.out, HG7.out⟩
    ·have k1 : decide ((s : Int) < (m : Int)) = true := by rw [dtQ]; omega
     have k2 : decide ((m : Int) < (en : Int)) = false := by rw [dfQ]; omega
     have EQ : Hid (rot f s m en = f) := by rw [Hid, show en = m by omega]; exact rot_none f s m
     have HA6 : Hid (ArrG 78 10 enc wr b o n f1) := by rw [← HF1.out, EQ.out]; exact hA.out
     have HG6 : Hid (w.grownBy wr (some b)) := hG.out
     obtain ⟨w6, hw6⟩ : ∃ q, q = wr := ⟨_, rfl⟩
     rw [← hw6] at HA6 HG6 ⊢
     clear hw6 EQ
     have d1 : decide ((a : Int) < (s : Int)) = true := by rw [dtQ]; omega
     have d2 : decide ((s : Int) < (md : Int)) = false := by rw [dfQ]; omega
     have HSE : Hid (SortedOn (ltOf cv) a md f1) := by have := S1.out; rw [show s = md by omega] at this; exact this
     have HA7 : Hid (ArrG 78 10 enc w6 b o n f1) := HA6.out
     have HM7 : Hid (Mix n a md f1 f1) := Mix.refl _ _ _ _
     have HS7 : Hid (SortedOn (ltOf cv) a md f1) := HSE.out
     have HG7 : Hid (w.grownBy w6 (some b)) := HG6.out
     obtain ⟨w7, hw7⟩ : ∃ q, q = w6 := ⟨_, rfl⟩
     obtain ⟨g1, hg1⟩ : ∃ q, q = f1 := ⟨_, rfl⟩
     rw [← hw7, ← hg1] at HA7
     rw [← hg1] at HS7
     rw [← hw7] at HG7 ⊢
     have HM7 : Hid (Mix n a md f1 g1) := by rw [hg1]; exact HM7.out
     clear hw7 hg1 HSE
     have HC2 : Hid (CmpAt Tryz.prog 78 enc cv kb b w7) := HC.out.grow HG7.out
     have T3 : Hid (SortedOn (ltOf cv) md en g1) := S3.out.congr fun i h1 h2 => HM7.out.out i (by omega)
     have T4 : Hid (SortedOn (ltOf cv) en e0 g1) := S4.out.congr fun i h1 h2 => HM7.out.out i (by omega)
     have HR2 := ih.out md en e0 g1 w7 HA7.out HC2 (by omega) (by omega) (by omega) (by omega) T3 T4
     have d3 : decide ((md : Int) < (en : Int)) = true := by rw [dtQ]; omega
     have d4 : decide ((en : Int) < (e0 : Int)) = true := by rw [dtQ]; omega
     go_wp2_with fail
     all_goals
      refine (Calls.mono HR2 ?_)
      rintro e w8 ⟨⟨v, rfl⟩, g2, hA8, hM8, hS8, hG8⟩
      have HA8 : Hid (ArrG 78 10 enc w8 b o n g2) := hA8
      have HM8 : Hid (Mix n md e0 g1 g2) := hM8
      have HS8 : Hid (SortedOn (ltOf cv) md e0 g2) := hS8
      have HG8 : Hid (w.grownBy w8 (some b)) := HG7.out.trans hG8
      clear hA8 hM8 hS8 hG8 HR2
      have HSF : Hid (SortedOn (ltOf cv) a e0 g2) := halves HX.out HM7.out HS7.out HM8.out HS8.out
      have HMF : Hid (Mix n a e0 f g2) := M1.out.trans ((HM7.out.mono (Nat.le_refl _) (by omega)).trans (HM8.out.mono (by omega) (Nat.le_refl _)))
      go_wp2_with fail
      all_goals
       refine bodyPost_end (results_none rfl _ _ _) rfl ?_
       exact ⟨⟨_, rfl⟩, g2, HA8.out, HMF.out, HSF.out, HG8.out⟩
   ·have k1 : decide ((s : Int) < (m : Int)) = false := by rw [dfQ]; omega
    have EQ : Hid (rot f s m en = f) := by rw [Hid, show s = m by omega]; exact rot_none' f m en
    have HA6 : Hid (ArrG 78 10 enc wr b o n f1) := by rw [← HF1.out, EQ.out]; exact hA.out
    have HG6 : Hid (w.grownBy wr (some b)) := hG.out
    obtain ⟨w6, hw6⟩ : ∃ q, q = wr := ⟨_, rfl⟩
    rw [← hw6] at HA6 HG6 ⊢
    clear hw6 EQ
    by_cases c1 : s < md
    ·have HC1 : Hid (CmpAt Tryz.prog 78 enc cv kb b w6) := HC.out.grow HG6.out
     have HR1 := ih.out a s md f1 w6 HA6.out HC1 (by omega) (by omega) (by omega) (by omega) S1 S2
     have d1 : decide ((a : Int) < (s : Int)) = true := by rw [dtQ]; omega
     have d2 : decide ((s : Int) < (md : Int)) = true := by rw [dtQ]; omega
     go_wp2_with fail
     all_goals
      refine (Calls.mono HR1 ?_)
      rintro e w7 ⟨⟨v, rfl⟩, g1, hA7, hM7, hS7, hG7⟩
      have HA7 : Hid (ArrG 78 10 enc w7 b o n g1) := hA7
      have HM7 : Hid (Mix n a md f1 g1) := hM7
      have HS7 : Hid (SortedOn (ltOf cv) a md g1) := hS7
      have HG7 : Hid (w.grownBy w7 (some b)) := HG6.out.trans hG7
      clear hA7 hM7 hS7 hG7 HR1
      have d3 : decide ((md : Int) < (en : Int)) = false := by rw [dfQ]; omega
      have HS8 : Hid (SortedOn (ltOf cv) md e0 g1) := by have := S4.out; rw [show en = md by omega] at this; exact this.congr fun i h1 h2 => HM7.out.out i (by omega)
      have HM8 : Hid (Mix n md e0 g1 g1) := Mix.refl _ _ _ _
      have HSF : Hid (SortedOn (ltOf cv) a e0 g1) := halves HX.out HM7.out HS7.out HM8.out HS8.out
      have HMF : Hid (Mix n a e0 f g1) := M1.out.trans ((HM7.out.mono (Nat.le_refl _) (by omega)).trans (HM8.out.mono (by omega) (Nat.le_refl _)))
      go_wp2_with fail
      all_goals
       refine bodyPost_end (results_none rfl _ _ _) rfl ?_
       exact ⟨⟨_, rfl⟩, g1, HA7.out, HMF.out, HSF.out, HG7.out⟩
    ·have d1 : decide ((a : Int) < (s : Int)) = true := by rw [dtQ]; omega
     have d2 : decide ((s : Int) < (md : Int)) = false := by rw [dfQ]; omega
     have HSE : Hid (SortedOn (ltOf cv) a md f1) := by have := S1.out; rw [show s = md by omega] at this; exact this
     have HA7 : Hid (ArrG 78 10 enc w6 b o n f1) := HA6.out
     have HM7 : Hid (Mix n a md f1 f1) := Mix.refl _ _ _ _
     have HS7 : Hid (SortedOn (ltOf cv) a md f1) := HSE.out
     have HG7 : Hid (w.grownBy w6 (some b)) := HG6.out
     obtain ⟨w7, hw7⟩ : ∃ q, q = w6 := ⟨_, rfl⟩
     obtain ⟨g1, hg1⟩ : ∃ q, q = f1 := ⟨_, rfl⟩
     rw [← hw7, ← hg1] at HA7
     rw [← hg1] at HS7
     rw [← hw7] at HG7 ⊢
     have HM7 : Hid (Mix n a md f1 g1) := by rw [hg1]; exact HM7.out
     clear hw7 hg1 HSE
     have d3 : decide ((md : Int) < (en : Int)) = false := by rw [dfQ]; omega
     have HS8 : Hid (SortedOn (ltOf cv) md e0 g1) := by have := S4.out; rw [show en = md by omega] at this; exact this.congr fun i h1 h2 => HM7.out.out i (by omega)
     have HM8 : Hid (Mix n md e0 g1 g1) := Mix.refl _ _ _ _
     have HSF : Hid (SortedOn (ltOf cv) a e0 g1) := halves HX.out HM7.out HS7.out HM8.out HS8.out
     have HMF : Hid (Mix n a e0 f g1) := M1.out.trans ((HM7.out.mono (Nat.le_refl _) (by omega)).trans (HM8.out.mono (by omega) (Nat.le_refl _)))
     go_wp2_with fail
     all_goals
      refine bodyPost_end (results_none rfl _ _ _) rfl ?_
      exact ⟨⟨_, rfl⟩, g1, HA7.out, HMF.out, HSF.out, HG7.out⟩
theorem symMergeK_any {α : Type} {enc : α → List Value} {cv : α → α → Int} (E : Hid (Elem Tryz.prog 78 10 enc)) (HW : Hid (Weak (ltOf cv))) (b o n kb : Nat) (c : Nat) (hn : n ≤ 3000) : ∀ (d a m e0 : Nat) (f : Nat → α) (w : World), ArrG 78 10 enc w b o n f → Hid (CmpAt Tryz.prog 78 enc cv kb b w) → a < m → m < e0 → e0 ≤ n → e0 - a ≤ d → Hid (SortedOn (ltOf cv) a m f) → Hid (SortedOn (ltOf cv) m e0 f) →
  Calls Tryz.prog 108 #[.slice (some ⟨b, o, none⟩) n c, .int .i64 a, .int .i64 m, .int .i64 e0, .func (.func 78) #[] #[.pointer (some ⟨kb, 0, none⟩)]] w fun e w' => (∃ v, e = .returned v) ∧ ∃ g, ArrG 78 10 enc w' b o n g ∧ Mix n a e0 f g ∧ SortedOn (ltOf cv) a e0 g ∧ w.grownBy w' (some b) := by
 intro d
 induction d with
 | zero => intro a m e0 f w h HC h1 h2; omega
 | succ d ih =>
  intro a m e0 f w h HC h1 h2 h3 h4 h5 h6
  by_cases e1 : m = a + 1
  ·exact merge1K E HW b o n kb c hn a m e0 f w h HC h1 h2 h3 h5 h6 e1
  ·by_cases e2 : e0 = m + 1
   ·exact merge2K E HW b o n kb c hn a m e0 f w h HC h1 h2 h3 h5 h6 e2 e1
   ·exact merge3K E HW b o n kb c hn d ih a m e0 f w h HC h1 h2 h3 h5 h6 h4 e1 e2
end Go.Proofs.YtehghladpnpcoaaGreatDoor.Stable
