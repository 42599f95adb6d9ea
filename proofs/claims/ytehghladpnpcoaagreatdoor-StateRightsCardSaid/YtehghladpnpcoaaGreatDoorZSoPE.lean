/- slices: stable, SortStableFunc (tabularium/api.Pair). -/
import Derived.Test.YtehghladpnpcoaaGreatDoorZSoPD
set_option linter.unusedVariables false
set_option linter.unusedSimpArgs false
set_option maxRecDepth 100000
set_option maxHeartbeats 64000000
namespace Go.Proofs.YtehghladpnpcoaaGreatDoor.Stable
open Go.RowKit Go.Shelf
open Go.Proofs.YtehghladpnpcoaaGreatDoor.Jdec (gb_set gb_below gb_drew gb_refl)
theorem stableP_any {α : Type} {enc : α → List Value} {cv : α → α → Int} (E : Hid (Elem Tryz.prog 72 2 enc)) (HW : Hid (Weak (ltOf cv))) (b o n kb : Nat) (c : Nat) (f : Nat → α) (w : World) (h : ArrG 72 2 enc w b o n f) (HC : Hid (CmpAt Tryz.prog 71 enc cv kb b w)) (hn : n ≤ 3000) : Calls Tryz.prog 70 #[.slice (some ⟨b, o, none⟩) n c, .int .i64 n, .func (.func 71) #[] #[.pointer (some ⟨kb, 0, none⟩)]] w fun e w' => (∃ v, e = .returned v) ∧ ∃ g, ArrG 72 2 enc w' b o n g ∧ Mix n 0 n f g ∧ SortedOn (ltOf cv) 0 n g ∧ w.grownBy w' (some b) := by
 go_enter Tryz.func70, Tryz.ntmps70
 go_wp2_with fail
 go_loopw [7, 8] (fun p7 p8 wr => ∃ (a bb : Nat) (g : Nat → α), p7 = .int .i64 a ∧ p8 = .int .i64 bb ∧ a ≤ n ∧ bb ≤ a + 20 ∧ a + 20 ≤ bb ∧ Hid (ArrG 72 2 enc wr b o n g) ∧ Hid (Mix n 0 n f g) ∧ Hid (Done (ltOf cv) 20 n a g) ∧ Hid (w.grownBy wr (some b))) (fun _ p8 _ => n + 20 - (intOf p8).toNat)
 case atStart => exact ⟨0, 20, f, rfl, rfl, Nat.zero_le _, by omega, by omega, h, Mix.refl _ _ _ _, Done.init _ n (by omega) f, gb_refl _ _⟩
 case round =>
  obtain ⟨a, bb, g, rfl, rfl, han, hb1, hb2, hA, hM, hD, hG⟩ := hrel
  by_cases hlt : bb ≤ n
  ·have t1 : decide ((bb : Int) ≤ (n : Int)) = true := by rw [dtQ]; omega
   have HC1 : Hid (CmpAt Tryz.prog 71 enc cv kb b wr) := HC.out.grow hG.out
   have HCL := insSortP_any E HW b o n a bb kb c g wr hA.out HC1 (by omega) hlt hn
   obtain ⟨b2, hb2'⟩ : ∃ z, bb + 20 = z := ⟨_, rfl⟩
   have gb2 : (bb : Int) + 20 = (b2 : Int) := by omega
   have HB2 : Hid (b2 = bb + 20) := hb2'.symm
   clear hb2'
   go_wp2_with fail
   refine (Calls.mono HCL ?_)
   rintro e w5 ⟨⟨v, rfl⟩, g5, hA5, hM5, hS5, hG5⟩
   have HA5 : Hid (ArrG 72 2 enc w5 b o n g5) := hA5
   have HM5 : Hid (Mix n a bb g g5) := hM5
   have HS5 : Hid (SortedOn (ltOf cv) a bb g5) := hS5
   have HG5 : Hid (w.grownBy w5 (some b)) := hG.out.trans hG5
   clear hA5 hM5 hS5 hG5 HCL
   have HMN : Hid (Mix n 0 n f g5) := hM.out.trans (HM5.out.mono (Nat.zero_le _) hlt)
   have HDN : Hid (Done (ltOf cv) 20 n bb g5) := by
    have e : bb = a + 20 := by omega
    have h1 := HM5.out
    have h2 := HS5.out
    rw [e] at h1 h2
    rw [Hid, e]
    exact Done.step (by omega) hD.out h1 h2
   go_wp2_with fail
   go_roundw
   case rel => exact ⟨bb, b2, g5, rfl, by go_num, hlt, by have := HB2.out; omega, by have := HB2.out; omega, HA5.out, HMN.out, HDN.out, HG5.out⟩
   case measure => have := HB2.out; simp [intOf]; omega
  ·have t1 : decide ((bb : Int) ≤ (n : Int)) = false := by rw [dfQ]; omega
   have HC1 : Hid (CmpAt Tryz.prog 71 enc cv kb b wr) := HC.out.grow hG.out
   have HCL := insSortP_any E HW b o n a n kb c g wr hA.out HC1 han (Nat.le_refl _) hn
   go_wp2_with fail
   refine (Calls.mono HCL ?_)
   rintro e w5 ⟨⟨v, rfl⟩, g5, hA5, hM5, hS5, hG5⟩
   have HA5 : Hid (ArrG 72 2 enc w5 b o n g5) := hA5
   have HM5 : Hid (Mix n a n g g5) := hM5
   have HS5 : Hid (SortedOn (ltOf cv) a n g5) := hS5
   have HG5 : Hid (w.grownBy w5 (some b)) := hG.out.trans hG5
   clear hA5 hM5 hS5 hG5 HCL
   have HMN : Hid (Mix n 0 n f g5) := hM.out.trans (HM5.out.mono (Nat.zero_le _) (Nat.le_refl _))
   have HRN : Hid (Runs (ltOf cv) 20 n g5) := Done.last HW.out (by omega) hD.out han (by omega) HM5.out HS5.out
   clear hA hM hD hG HC1 HM5 HS5 hb1 hb2 hlt t1
   obtain ⟨wp, rfl⟩ : ∃ wp, wp = wr := ⟨wr, rfl⟩
   go_wp2_with fail
   go_loopw [6] (fun p6 wr => ∃ (s : Nat) (g : Nat → α), p6 = .int .i64 s ∧ 0 < s ∧ s ≤ 6020 ∧ Hid (ArrG 72 2 enc wr b o n g) ∧ Hid (Mix n 0 n f g) ∧ Hid (Runs (ltOf cv) s n g) ∧ Hid (w.grownBy wr (some b))) (fun p6 _ => n - (intOf p6).toNat)
   case atStart => exact ⟨20, g5, rfl, by omega, by omega, HA5.out, HMN.out, HRN.out, HG5.out⟩
   case round =>
    obtain ⟨s, g, rfl, hs0, hs1, hA, hM, hR, hG⟩ := hrel
    by_cases hsn : s < n
    ·have t1 : decide ((s : Int) < (n : Int)) = true := by rw [dtQ]; omega
     obtain ⟨dd, hdd⟩ : ∃ z, 2 * s = z := ⟨_, rfl⟩
     have gdd : 2 * (s : Int) = (dd : Int) := by omega
     have gdd2 : (s : Int) * 2 = (dd : Int) := by omega
     have HD : Hid (dd = 2 * s) := hdd.symm
     have hd1 : dd ≤ 2 * s := by omega
     have hd2 : 2 * s ≤ dd := by omega
     clear hdd
     have HDI : Hid (Done (ltOf cv) dd n 0 g) := Done.init _ n (by omega) g
     have HRI : Hid (Rest (ltOf cv) s n 0 g) := Rest.init hR.out
     clear hR
     obtain ⟨wq, rfl⟩ : ∃ wq, wq = wr := ⟨wr, rfl⟩
     go_wp2_with fail
     go_loopw [7, 8] (fun p7 p8 wr => ∃ (a bb : Nat) (q : Nat → α), p7 = .int .i64 a ∧ p8 = .int .i64 bb ∧ a ≤ n ∧ bb ≤ a + dd ∧ a + dd ≤ bb ∧ Hid (ArrG 72 2 enc wr b o n q) ∧ Hid (Mix n 0 n f q) ∧ Hid (Done (ltOf cv) dd n a q) ∧ Hid (Rest (ltOf cv) s n a q) ∧ Hid (w.grownBy wr (some b))) (fun _ p8 _ => n + dd - (intOf p8).toNat)
     case atStart => exact ⟨0, dd, g, rfl, rfl, Nat.zero_le _, by omega, by omega, hA.out, hM.out, HDI.out, HRI.out, hG.out⟩
     case round =>
      obtain ⟨a, bb, q, rfl, rfl, han', hb1, hb2, hA2, hM2, hD2, hR2, hG2⟩ := hrel
      obtain ⟨m, hm⟩ : ∃ z, a + s = z := ⟨_, rfl⟩
      have gm : (a : Int) + (s : Int) = (m : Int) := by omega
      have hm1 : m ≤ a + s := by omega
      have hm2 : a + s ≤ m := by omega
      clear hm
      have HC1 : Hid (CmpAt Tryz.prog 71 enc cv kb b wr) := HC.out.grow hG2.out
      have o1 := hR2.out.one
      have o2 := hR2.out.two
      rw [show a + s = m by omega] at o1 o2
      by_cases hlt : bb ≤ n
      ·have t2 : decide ((bb : Int) ≤ (n : Int)) = true := by rw [dtQ]; omega
       rw [show min m n = m by omega] at o1
       rw [show min (m + s) n = bb by omega] at o2
       have S1 := hdQ o1
       have S2 := hdQ o2
       clear o1 o2
       have HCL := symMergeP_any E HW b o n kb c hn (bb - a) a m bb q wr hA2.out HC1 (by omega) (by omega) hlt (Nat.le_refl _) S1 S2
       obtain ⟨b2, hb2'⟩ : ∃ z, bb + dd = z := ⟨_, rfl⟩
       have gb2 : (bb : Int) + (dd : Int) = (b2 : Int) := by omega
       have hb3 : b2 ≤ bb + dd := by omega
       have hb4 : bb + dd ≤ b2 := by omega
       clear hb2'
       go_wp2_with fail
       refine (Calls.mono HCL ?_)
       rintro e w5 ⟨⟨v, rfl⟩, g5, hA5, hM5, hS5, hG5⟩
       have HA5 : Hid (ArrG 72 2 enc w5 b o n g5) := hA5
       have HM5 : Hid (Mix n a bb q g5) := hM5
       have HS5 : Hid (SortedOn (ltOf cv) a bb g5) := hS5
       have HG5 : Hid (w.grownBy w5 (some b)) := hG2.out.trans hG5
       clear hA5 hM5 hS5 hG5 HCL
       have HMN' : Hid (Mix n 0 n f g5) := hM2.out.trans (HM5.out.mono (Nat.zero_le _) hlt)
       have HDN : Hid (Done (ltOf cv) dd n bb g5) := by
        have e : bb = a + dd := by omega
        have h1 := HM5.out
        have h2 := HS5.out
        rw [e] at h1 h2
        rw [Hid, e]
        exact Done.step (by omega) hD2.out h1 h2
       have HRN' : Hid (Rest (ltOf cv) s n bb g5) := by
        have e : bb = a + 2 * s := by omega
        have h1 := HM5.out
        rw [e] at h1
        rw [Hid, e]
        exact hR2.out.step h1
       go_wp2_with fail
       go_roundw
       case rel => exact ⟨bb, b2, g5, rfl, by go_num, hlt, hb3, hb4, HA5.out, HMN'.out, HDN.out, HRN'.out, HG5.out⟩
       case measure => simp [intOf]; omega
      ·have t2 : decide ((bb : Int) ≤ (n : Int)) = false := by rw [dfQ]; omega
       by_cases hmn : m < n
       ·have t3 : decide ((m : Int) < (n : Int)) = true := by rw [dtQ]; omega
        rw [show min m n = m by omega] at o1
        rw [show min (m + s) n = n by omega] at o2
        have S1 := hdQ o1
        have S2 := hdQ o2
        clear o1 o2
        have HCL := symMergeP_any E HW b o n kb c hn (n - a) a m n q wr hA2.out HC1 (by omega) hmn (Nat.le_refl _) (Nat.le_refl _) S1 S2
        go_wp2_with fail
        refine (Calls.mono HCL ?_)
        rintro e w5 ⟨⟨v, rfl⟩, g5, hA5, hM5, hS5, hG5⟩
        have HA5 : Hid (ArrG 72 2 enc w5 b o n g5) := hA5
        have HM5 : Hid (Mix n a n q g5) := hM5
        have HS5 : Hid (SortedOn (ltOf cv) a n g5) := hS5
        have HG5 : Hid (w.grownBy w5 (some b)) := hG2.out.trans hG5
        clear hA5 hM5 hS5 hG5 HCL
        have HMN' : Hid (Mix n 0 n f g5) := hM2.out.trans (HM5.out.mono (Nat.zero_le _) (Nat.le_refl _))
        have HRN' : Hid (Runs (ltOf cv) dd n g5) := Done.last HW.out (by omega) hD2.out han' (by omega) HM5.out HS5.out
        go_wp2_with fail
        go_roundw
        case rel => exact ⟨dd, g5, by go_num, by omega, by omega, HA5.out, HMN'.out, HRN'.out, HG5.out⟩
        case measure => simp [intOf]; omega
       ·have t3 : decide ((m : Int) < (n : Int)) = false := by rw [dfQ]; omega
        rw [show min m n = n by omega] at o1
        have HRN' : Hid (Runs (ltOf cv) dd n q) := Done.last HW.out (by omega) hD2.out han' (by omega) (Mix.refl _ _ _ _) o1
        clear o1 o2
        go_wp2_with fail
        go_roundw
        case rel => exact ⟨dd, q, by go_num, by omega, by omega, hA2.out, hM2.out, HRN'.out, hG2.out⟩
        case measure => simp [intOf]; omega
    ·have t1 : decide ((s : Int) < (n : Int)) = false := by rw [dfQ]; omega
     have HS : Hid (SortedOn (ltOf cv) 0 n g) := hR.out.all (by omega)
     go_wp2_with fail
     refine bodyPost_end (results_none rfl _ _ _) rfl ?_
     exact ⟨⟨_, rfl⟩, g, hA.out, hM.out, HS.out, hG.out⟩
theorem sortStableP_any {α : Type} {enc : α → List Value} {cv : α → α → Int} (E : Hid (Elem Tryz.prog 72 2 enc)) (HW : Hid (Weak (ltOf cv))) (b o n kb : Nat) (c : Nat) (f : Nat → α) (w : World) (h : ArrG 72 2 enc w b o n f) (HC : Hid (CmpAt Tryz.prog 71 enc cv kb b w)) (hn : n ≤ 3000) : Calls Tryz.prog 40 #[.slice (some ⟨b, o, none⟩) n c, .func (.func 71) #[] #[.pointer (some ⟨kb, 0, none⟩)]] w fun e w' => (∃ v, e = .returned v) ∧ ∃ g, ArrG 72 2 enc w' b o n g ∧ Mix n 0 n f g ∧ SortedOn (ltOf cv) 0 n g ∧ w.grownBy w' (some b) := by
 have HCL := stableP_any E HW b o n kb c f w h HC hn
 go_enter Tryz.func40, Tryz.ntmps40
 go_wp2_with fail
 refine (Calls.mono HCL ?_)
 rintro e w5 ⟨⟨v, rfl⟩, g5, hA5, hM5, hS5, hG5⟩
 have HA5 := hdQ hA5
 have HM5 := hdQ hM5
 have HS5 := hdQ hS5
 have HG5 := hdQ hG5
 clear hA5 hM5 hS5 hG5 HCL
 go_wp2_with fail
 refine bodyPost_end (results_none rfl _ _ _) rfl ?_
 exact ⟨⟨_, rfl⟩, g5, HA5.out, HM5.out, HS5.out, HG5.out⟩
end Go.Proofs.YtehghladpnpcoaaGreatDoor.Stable
