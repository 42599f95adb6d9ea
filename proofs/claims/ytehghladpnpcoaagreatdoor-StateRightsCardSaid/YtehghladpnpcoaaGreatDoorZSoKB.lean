/- slices: swapRange, rotate (tabularium/state.keyed). -/
import Derived.Test.YtehghladpnpcoaaGreatDoorZArG
import Derived.IntWalk
import Derived.Deep.RegionHeld3
set_option linter.unusedVariables false
set_option linter.unusedSimpArgs false
set_option maxRecDepth 100000
set_option maxHeartbeats 16000000
namespace Go.Proofs.YtehghladpnpcoaaGreatDoor.Stable
open Go.RowKit Go.Shelf
open Go.Proofs.YtehghladpnpcoaaGreatDoor.Jdec (gb_set gb_below gb_drew gb_refl)
theorem swapRangeK_any {α : Type} {enc : α → List Value} (E : Hid (Elem Tryz.prog 78 10 enc)) (b o n a m k : Nat) (c : Nat) (g : Value) (f : Nat → α) (w : World) (h : ArrG 78 10 enc w b o n f) (ha : a + k ≤ n) (hm : m + k ≤ n) (hn : n ≤ 3000) (hsep : a + k ≤ m) : Calls Tryz.prog 156 #[.slice (some ⟨b, o, none⟩) n c, .int .i64 a, .int .i64 m, .int .i64 k, g] w fun e w' => (∃ v, e = .returned v) ∧ ArrG 78 10 enc w' b o n (swr f a m k) ∧ w.grownBy w' (some b) := by
 go_enter Tryz.func156, Tryz.ntmps156
 go_wp2_with fail
 go_loopw [10] (fun p10 wr => ∃ i : Nat, p10 = .int .i64 i ∧ i ≤ k ∧ Hid (ArrG 78 10 enc wr b o n (swr f a m i)) ∧ Hid (w.grownBy wr (some b))) (fun p10 _ => k - (intOf p10).toNat)
 case atStart => exact ⟨0, rfl, Nat.zero_le _, by rw [swr_zero]; exact h, gb_refl _ _⟩
 case round =>
  obtain ⟨i, rfl, hi, hA, hG⟩ := hrel
  by_cases hlt : i < k
  ·have t1 : decide ((i : Int) < (k : Int)) = true := by rw [dtQ]; omega
   obtain ⟨x, hx⟩ : ∃ q, a + i = q := ⟨_, rfl⟩
   obtain ⟨y, hy⟩ : ∃ q, m + i = q := ⟨_, rfl⟩
   have hxi : (a : Int) + (i : Int) = (x : Int) := by omega
   have hyi : (m : Int) + (i : Int) = (y : Int) := by omega
   have hwx : IntKind.i64.wrap (x : Int) = (x : Int) := IntWalk.i64_in _ (by omega)
   have hwy : IntKind.i64.wrap (y : Int) = (y : Int) := IntWalk.i64_in _ (by omega)
   have HX := hdQ hx
   have HY := hdQ hy
   have HCUR : Hid (ArrG 78 10 enc wr b o n (swr f a m i)) := hA.out
   have HSU : Hid (swp (swr f a m i) x y = swr f a m (i + 1)) := by rw [Hid, ← hx, ← hy]; exact swr_succ f a m i (by omega)
   have GD1 : Hid (wr.grownBy wr.drew (some b)) := gb_drew wr 1 _
   obtain ⟨Vi, Vj, v1, v2, l1, l2, s1, s2, HA1, HG1⟩ := ArrG.swaps (i := x) (j := y) E.out HCUR.out.drew (by omega) (by omega)
   have L1 := hdQ l1
   have L2 := hdQ l2
   have T1 := hdQ s1
   have T2 := hdQ s2
   clear l1 l2 s1 s2
   have cx0 : (0 : Int) ≤ (x : Int) := by omega
   have cx1 : (x : Int) < (n : Int) := by omega
   have cy0 : (0 : Int) ≤ (y : Int) := by omega
   have cy1 : (y : Int) < (n : Int) := by omega
   have HN : Hid (ArrG 78 10 enc v2 b o n (swr f a m (i + 1))) := by have := HA1.out; rw [HSU.out] at this; exact this
   clear hx hy
   go_wp2_with fail
   refine wp_region_held_drew (S := (fun _ => True)) (by kernel_rfl) ?_ (fun hHeld => ?_)
   ·trivial
   refine tk 0 ?_
   refine tk 1 ?_
   refine tk 2 ?_
   try simp only [nz]
   refine tk 3 ?_
   refine tk 4 ?_
   refine tk 5 ?_
   try simp only [nz]
   refine tk 6 ?_
   refine tk 7 ?_
   refine tk 8 ?_
   try simp only [nz]
   refine tk 9 ?_
   refine tk 10 ?_
   refine tk 11 ?_
   try simp only [nz]
   refine tk 12 ?_
   refine tk 14 ?_
   refine tk 15 ?_
   try simp only [nz]
   refine tk 16 ?_
   refine tk 17 ?_
   refine tk 18 ?_
   try simp only [nz]
   refine wpAnyH_ready (rs := [13, 19]) (by kernel_rfl) (by simp) ?_
   refine (AllReadyH.cons rfl (fun K hK => ?_) (AllReadyH.cons rfl (fun K hK => ?_) AllReadyH.nil))
   rw [if_pos (by rfl)]
   refine wp_loadAt rfl rfl L2.out ?_
   clear hHeld
   refine hK.out _ _ ?_ (fun hHeld => ?_)
   ·trivial
   clear hK K
   try simp only [nz]
   refine rd 19 (fun K hK => ?_)
   rw [if_pos (by rfl)]
   refine wp_loadAt rfl rfl L1.out ?_
   clear hHeld
   refine hK.out _ _ ?_ (fun hHeld => ?_)
   ·trivial
   clear hK K
   try simp only [nz]
   refine tk 20 ?_
   try simp only [nz]
   refine rd 21 (fun K hK => ?_)
   rw [if_pos (by rfl)]
   refine wp_storeAt rfl rfl rfl T1.out ?_
   clear hHeld
   refine hK.out _ _ ?_ (fun hHeld => ?_)
   ·trivial
   clear hK K
   try simp only [nz]
   refine tk 22 ?_
   try simp only [nz]
   refine rd 23 (fun K hK => ?_)
   rw [if_pos (by rfl)]
   refine wp_storeAt rfl rfl rfl T2.out ?_
   clear hHeld
   refine hK.out _ _ ?_ (fun hHeld => ?_)
   ·trivial
   clear hK K
   try simp only [nz]
   refine wpAnyH_done (by kernel_rfl) ?_ _
   rotate_left 1
   rw [if_pos (by rfl)]
   refine wp_loadAt rfl rfl L1.out ?_
   clear hHeld
   refine hK.out _ _ ?_ (fun hHeld => ?_)
   ·trivial
   clear hK K
   try simp only [nz]
   refine rd 13 (fun K hK => ?_)
   rw [if_pos (by rfl)]
   refine wp_loadAt rfl rfl L2.out ?_
   clear hHeld
   refine hK.out _ _ ?_ (fun hHeld => ?_)
   ·trivial
   clear hK K
   try simp only [nz]
   refine tk 20 ?_
   try simp only [nz]
   refine rd 21 (fun K hK => ?_)
   rw [if_pos (by rfl)]
   refine wp_storeAt rfl rfl rfl T1.out ?_
   clear hHeld
   refine hK.out _ _ ?_ (fun hHeld => ?_)
   ·trivial
   clear hK K
   try simp only [nz]
   refine tk 22 ?_
   try simp only [nz]
   refine rd 23 (fun K hK => ?_)
   rw [if_pos (by rfl)]
   refine wp_storeAt rfl rfl rfl T2.out ?_
   clear hHeld
   refine hK.out _ _ ?_ (fun hHeld => ?_)
   ·trivial
   clear hK K
   try simp only [nz]
   refine wpAnyH_done (by kernel_rfl) ?_ _
   rotate_left 1
   all_goals
    go_wp2_with fail
    go_roundw
    case rel => exact ⟨i + 1, by go_num, by omega, HN.out, (hG.out.trans GD1.out).trans HG1.out⟩
    case measure => simp [intOf]; omega
  ·have e : i = k := by omega
   subst e
   go_wp2_with fail
   refine bodyPost_end (results_none rfl _ _ _) rfl ?_
   exact ⟨⟨_, rfl⟩, hA.out, hG.out⟩
theorem rotateK_any {α : Type} {enc : α → List Value} (E : Hid (Elem Tryz.prog 78 10 enc)) (b o n a m e0 : Nat) (c : Nat) (g : Value) (f : Nat → α) (w : World) (h : ArrG 78 10 enc w b o n f) (ha : a < m) (hm : m < e0) (he : e0 ≤ n) (hn : n ≤ 3000) : Calls Tryz.prog 132 #[.slice (some ⟨b, o, none⟩) n c, .int .i64 a, .int .i64 m, .int .i64 e0, g] w fun e w' => (∃ v, e = .returned v) ∧ ArrG 78 10 enc w' b o n (rot f a m e0) ∧ w.grownBy w' (some b) := by
 have s1 : (m : Int) - (a : Int) = ((m - a : Nat) : Int) := by omega
 have s2 : (e0 : Int) - (m : Int) = ((e0 - m : Nat) : Int) := by omega
 obtain ⟨i0, hi0⟩ : ∃ q, m - a = q := ⟨_, rfl⟩
 obtain ⟨j0, hj0⟩ : ∃ q, e0 - m = q := ⟨_, rfl⟩
 rw [hi0] at s1
 rw [hj0] at s2
 have HI0 := hdQ hi0
 have HJ0 := hdQ hj0
 have hp1 : 0 < i0 := by omega
 have hp2 : 0 < j0 := by omega
 have hp3 : i0 ≤ m := by omega
 have hp4 : m + j0 ≤ n := by omega
 have HFE : Hid (rot f a m e0 = rot f (m - i0) m (m + j0)) := by rw [Hid, show m - i0 = a by omega, show m + j0 = e0 by omega]
 clear hi0 hj0
 go_enter Tryz.func132, Tryz.ntmps132
 go_wp2_with fail
 go_loopw [10, 11] (fun p10 p11 wr => ∃ (i j : Nat) (fg : Nat → α), p10 = .int .i64 i ∧ p11 = .int .i64 j ∧ 0 < i ∧ 0 < j ∧ i ≤ m ∧ m + j ≤ n ∧ Hid (ArrG 78 10 enc wr b o n fg) ∧ Hid (w.grownBy wr (some b)) ∧ Hid (rot fg (m - i) m (m + j) = rot f a m e0)) (fun p10 p11 _ => (intOf p10).toNat + (intOf p11).toNat)
 case atStart => exact ⟨i0, j0, f, rfl, rfl, hp1, hp2, hp3, hp4, h, gb_refl _ _, HFE.out.symm⟩
 case round =>
  obtain ⟨i, j, fg, rfl, rfl, hi, hj, him, hjn, hA, hG, hF⟩ := hrel
  obtain ⟨q, hq⟩ : ∃ q, m - i = q := ⟨_, rfl⟩
  have s3 : (m : Int) - (i : Int) = (q : Int) := by omega
  have HQ := hdQ hq
  rcases Nat.lt_trichotomy i j with hij | hij | hij
  ·obtain ⟨y, hy⟩ : ∃ y, m + j - i = y := ⟨_, rfl⟩
   obtain ⟨z, hz⟩ : ∃ z, m + j = z := ⟨_, rfl⟩
   obtain ⟨d, hd⟩ : ∃ d, j - i = d := ⟨_, rfl⟩
   have s4 : (m : Int) + (j : Int) = (z : Int) := by omega
   have s5 : (z : Int) - (i : Int) = (y : Int) := by omega
   have s6 : (j : Int) - (i : Int) = (d : Int) := by omega
   have hd0 : 0 < d := by omega
   have hdn : m + d ≤ n := by omega
   have hdj : d < j := by omega
   have HSW := swapRangeK_any E b o n q y i c g fg wr hA.out (by omega) (by omega) hn (by omega)
   have HF2 : Hid (rot (swr fg q y i) (m - i) m (m + d) = rot f a m e0) := by
    rw [Hid, ← hF.out, ← hq, ← hy, ← hd]
    exact rot_right fg m i j him hi hij
   clear hq hy hz hd
   go_wp2_with fail
   refine (Calls.mono HSW ?_)
   rintro e w6 ⟨⟨v, rfl⟩, hA6, hG6⟩
   have HA6 : Hid (ArrG 78 10 enc w6 b o n (swr fg q y i)) := hA6
   have HG6 : Hid (w.grownBy w6 (some b)) := hG.out.trans hG6
   clear hA6 hG6 HSW
   go_wp2_with fail
   go_roundw
   case rel => exact ⟨i, d, _, rfl, by go_num, hi, hd0, him, hdn, HA6.out, HG6.out, HF2.out⟩
   case measure => simp [intOf]; omega
  ·subst hij
   have HSW := swapRangeK_any E b o n q m i c g fg wr hA.out (by omega) (by omega) hn (by omega)
   have HF2 : Hid (swr fg q m i = rot f a m e0) := by
    rw [Hid, ← hF.out, ← hq]
    exact rot_same fg m i him
   clear hq
   go_wp2_with fail
   refine (Calls.mono HSW ?_)
   rintro e w6 ⟨⟨v, rfl⟩, hA6, hG6⟩
   rw [HF2.out] at hA6
   have HA6 : Hid (ArrG 78 10 enc w6 b o n (rot f a m e0)) := hA6
   have HG6 : Hid (w.grownBy w6 (some b)) := hG.out.trans hG6
   clear hA6 hG6 HSW
   go_wp2_with fail
   refine bodyPost_end (results_none rfl _ _ _) rfl ?_
   exact ⟨⟨_, rfl⟩, HA6.out, HG6.out⟩
  ·obtain ⟨d, hd⟩ : ∃ d, i - j = d := ⟨_, rfl⟩
   have s6 : (i : Int) - (j : Int) = (d : Int) := by omega
   have hd0 : 0 < d := by omega
   have hdm : d ≤ m := by omega
   have hdi : d < i := by omega
   have HSW := swapRangeK_any E b o n q m j c g fg wr hA.out (by omega) (by omega) hn (by omega)
   have HF2 : Hid (rot (swr fg q m j) (m - d) m (m + j) = rot f a m e0) := by
    rw [Hid, ← hF.out, ← hq, ← hd]
    exact rot_left fg m i j him hj hij
   clear hq hd
   go_wp2_with fail
   refine (Calls.mono HSW ?_)
   rintro e w6 ⟨⟨v, rfl⟩, hA6, hG6⟩
   have HA6 : Hid (ArrG 78 10 enc w6 b o n (swr fg q m j)) := hA6
   have HG6 : Hid (w.grownBy w6 (some b)) := hG.out.trans hG6
   clear hA6 hG6 HSW
   go_wp2_with fail
   go_roundw
   case rel => exact ⟨d, j, _, by go_num, rfl, hd0, hj, hdm, hjn, HA6.out, HG6.out, HF2.out⟩
   case measure => simp [intOf]; omega
theorem insSortK_any {α : Type} {enc : α → List Value} {cv : α → α → Int} (E : Hid (Elem Tryz.prog 78 10 enc)) (HW : Hid (Weak (ltOf cv))) (b o n a e0 kb : Nat) (c : Nat) (f : Nat → α) (w : World) (h : ArrG 78 10 enc w b o n f) (HC : Hid (CmpAt Tryz.prog 78 enc cv kb b w)) (ha : a ≤ e0) (he : e0 ≤ n) (hn : n ≤ 3000) : Calls Tryz.prog 107 #[.slice (some ⟨b, o, none⟩) n c, .int .i64 a, .int .i64 e0, .func (.func 78) #[] #[.pointer (some ⟨kb, 0, none⟩)]] w fun e w' => (∃ v, e = .returned v) ∧ ∃ g, ArrG 78 10 enc w' b o n g ∧ Mix n a e0 f g ∧ SortedOn (ltOf cv) a e0 g ∧ w.grownBy w' (some b) := by
 obtain ⟨a1, ha1⟩ : ∃ q, a + 1 = q := ⟨_, rfl⟩
 have s1 : (a : Int) + 1 = (a1 : Int) := by omega
 go_enter Tryz.func107, Tryz.ntmps107
 go_wp2_with fail
 go_loopw [8] (fun p8 wr => ∃ (i : Nat) (g : Nat → α), p8 = .int .i64 i ∧ a < i ∧ (i ≤ e0 ∨ i = a + 1) ∧ Hid (ArrG 78 10 enc wr b o n g) ∧ Hid (Mix n a e0 f g) ∧ Hid (SortedOn (ltOf cv) a i g) ∧ Hid (w.grownBy wr (some b))) (fun p8 _ => e0 - (intOf p8).toNat)
 case atStart => exact ⟨a1, f, rfl, by omega, .inr ha1.symm, h, Mix.refl _ _ _ _, sorted_one HW.out (by omega) f, gb_refl _ _⟩
 case round =>
  obtain ⟨i, g, rfl, hai, hie, hA, hM, hS, hG⟩ := hrel
  have HIE : Hid (i ≤ e0 ∨ i = a + 1) := hie
  clear hie
  by_cases hlt : i < e0
  ·have t1 : decide ((i : Int) < (e0 : Int)) = true := by rw [dtQ]; omega
   obtain ⟨wo, rfl⟩ : ∃ wo, wo = wr := ⟨wr, rfl⟩
   go_wp2_with fail
   go_loopw [9] (fun p9 wx => ∃ (j : Nat) (q : Nat → α), p9 = .int .i64 j ∧ a ≤ j ∧ j ≤ i ∧ Hid (ArrG 78 10 enc wx b o n q) ∧ Hid (Mix n a e0 f q) ∧ Hid (Ins (ltOf cv) a i j q) ∧ Hid (w.grownBy wx (some b))) (fun p9 _ => (intOf p9).toNat)
   case atStart => exact ⟨i, g, rfl, by omega, Nat.le_refl _, hA.out, hM.out, Ins.init HW.out hS.out, hG.out⟩
   case round =>
    obtain ⟨j, q, rfl, haj, hji, hA2, hM2, hI2, hG2⟩ := hrel
    have HCUR : Hid (ArrG 78 10 enc wr b o n q) := hA2.out
    by_cases hja : a < j
    ·have t2 : decide ((a : Int) < (j : Int)) = true := by rw [dtQ]; omega
     obtain ⟨y, hy⟩ : ∃ y, j - 1 = y := ⟨_, rfl⟩
     have hjy : Hid (j = y + 1) := by rw [Hid]; omega
     have sy : (j : Int) - 1 = (y : Int) := by omega
     have hya : a ≤ y := by omega
     have hyj : y < j := by omega
     have hwy : IntKind.i64.wrap (y : Int) = (y : Int) := IntWalk.i64_in _ (by omega)
     clear hy
     obtain ⟨cc, hcc⟩ : ∃ cz, cv (q j) (q y) = cz := ⟨_, rfl⟩
     have HCC := hdQ hcc
     obtain ⟨lb, hlb⟩ : ∃ z, decide (cc < 0) = z := ⟨_, rfl⟩
     have HLB : Hid (ltOf cv (q j) (q y) = lb) := by rw [Hid, ltOf, hcc]; exact hlb
     clear hcc
     have GD : Hid (w.grownBy wr.drew (some b)) := hG2.out.trans (gb_drew wr 1 _)
     have AD : Hid (ArrG 78 10 enc wr.drew b o n q) := HCUR.out.drew
     obtain ⟨Vi, hVi⟩ : ∃ v, Value.agg (enc (q j)).toArray = v := ⟨_, rfl⟩
     obtain ⟨Vj, hVj⟩ : ∃ v, Value.agg (enc (q y)).toArray = v := ⟨_, rfl⟩
     have LD : Hid (∀ X, Below wr.drew.heap.size wr.drew X → (Instr.loadAt 78 (.pointer (some ⟨b, o + j * 10, none⟩))).run Tryz.prog X = .ok Vi X ∧ (Instr.loadAt 78 (.pointer (some ⟨b, o + y * 10, none⟩))).run Tryz.prog X = .ok Vj X) := fun X hb => by rw [← hVi, ← hVj]; exact ⟨(AD.out.stays hb).load E.out (by omega), (AD.out.stays hb).load E.out (by omega)⟩
     have HCA : Hid (Calls Tryz.prog 78 #[Vi, Vj, .pointer (some ⟨kb, 0, none⟩)] wr.drew fun e w' => e = .returned (.int .i64 cc) ∧ Below wr.drew.heap.size wr.drew w') := by rw [← hVi, ← hVj, ← HCC.out]; exact HC.out _ GD.out (q j) (q y)
     have LQ : Hid ((Instr.loadAt 78 (.pointer (some ⟨b, o + j * 10, none⟩))).run Tryz.prog wr.drew = .ok Vi wr.drew ∧ (Instr.loadAt 78 (.pointer (some ⟨b, o + y * 10, none⟩))).run Tryz.prog wr.drew = .ok Vj wr.drew) := LD.out _ (Below.refl _ _)
     have cx0 : (0 : Int) ≤ (j : Int) := by omega
     have cx1 : (j : Int) < (n : Int) := by omega
     have cy0 : (0 : Int) ≤ (y : Int) := by omega
     have cy1 : (y : Int) < (n : Int) := by omega
     clear hVi hVj
     go_wp2_with fail
     refine wp_region_held_drew (S := (fun w' => (Instr.loadAt 78 (.pointer (some ⟨b, o + j * 10, none⟩))).run Tryz.prog w' = .ok Vi w' ∧ (Instr.loadAt 78 (.pointer (some ⟨b, o + y * 10, none⟩))).run Tryz.prog w' = .ok Vj w')) (by kernel_rfl) ?_ (fun hHeld => ?_)
     ·exact LQ.out
     refine tk 0 ?_
     refine tk 1 ?_
     refine tk 2 ?_
     try simp only [nz]
     refine tk 3 ?_
     refine tk 4 ?_
     refine tk 5 ?_
     try simp only [nz]
     refine tk 6 ?_
     refine tk 7 ?_
     refine tv 8 Vi ?_ ?_
     ·(intro w hs; exact exec_loadAt rfl rfl hs.1)
     try simp only [nz]
     refine tk 9 ?_
     refine tk 10 ?_
     refine tk 11 ?_
     try simp only [nz]
     refine tk 12 ?_
     refine tv 13 Vj ?_ ?_
     ·(intro w hs; exact exec_loadAt rfl rfl hs.2)
     try simp only [nz]
     refine rd 14 (fun K hK => ?_)
     try simp only [nz]
     go_simp
     (go_at_call 78; refine (Calls.mono HCA.out ?_); rintro z w6 ⟨rfl, hb6⟩; have BB6 : Hid (Below wr.drew.heap.size wr.drew w6) := hb6; clear hb6; have LQ : Hid ((Instr.loadAt 78 (.pointer (some ⟨b, o + j * 10, none⟩))).run Tryz.prog w6 = .ok Vi w6 ∧ (Instr.loadAt 78 (.pointer (some ⟨b, o + y * 10, none⟩))).run Tryz.prog w6 = .ok Vj w6) := LD.out w6 BB6.out)
     clear hHeld
     refine hK.out _ _ ?_ (fun hHeld => ?_)
     ·exact LQ.out
     clear hK K
     try simp only [nz]
     refine tk 15 ?_
     refine tk 16 ?_
     try simp only [nz]
     refine wpAnyH_done (by kernel_rfl) ?_ _
     have HV6 : Hid (w.grownBy w6 (some b)) := GD.out.trans (gb_below BB6.out _)
     have AC6 : Hid (ArrG 78 10 enc w6 b o n q) := AD.out.stays BB6.out
     clear LD LQ HCA HCUR
     have HCUR : Hid (ArrG 78 10 enc w6 b o n q) := AC6.out
     cases lb
     case true =>
      have HLT := HLB
      have HNI : Hid (Ins (ltOf cv) a i y (swp q j y)) := by
       have h1 := hI2.out
       have h2 := HLT.out
       have e := hjy.out
       rw [e] at h1 h2 ⊢
       exact Ins.step HW.out h1 hya (by omega) h2
      have HNM : Hid (Mix n a e0 f (swp q j y)) := hM2.out.trans (Mix.swp q (by omega) (by omega) hya (by omega) he)
      have GD7 : Hid (w6.grownBy w6.drew (some b)) := gb_drew w6 1 _
      obtain ⟨Vi, Vj, v1, v2, l1, l2, s1, s2, HA7, HG7⟩ := ArrG.swaps (i := j) (j := y) E.out HCUR.out.drew (by omega) (by omega)
      have L1 := hdQ l1
      have L2 := hdQ l2
      have T1 := hdQ s1
      have T2 := hdQ s2
      clear l1 l2 s1 s2
      have cx0 : (0 : Int) ≤ (j : Int) := by omega
      have cx1 : (j : Int) < (n : Int) := by omega
      have cy0 : (0 : Int) ≤ (y : Int) := by omega
      have cy1 : (y : Int) < (n : Int) := by omega
      go_wp2_with fail
      refine wp_region_held_drew (S := (fun _ => True)) (by kernel_rfl) ?_ (fun hHeld => ?_)
      ·trivial
      refine tk 0 ?_
      refine tk 1 ?_
      refine tk 2 ?_
      try simp only [nz]
      refine tk 3 ?_
      refine tk 4 ?_
      refine tk 5 ?_
      try simp only [nz]
      refine tk 6 ?_
      refine tk 7 ?_
      refine tk 8 ?_
      try simp only [nz]
      refine tk 10 ?_
      refine tk 11 ?_
      refine tk 12 ?_
      try simp only [nz]
      refine wpAnyH_ready (rs := [9, 13]) (by kernel_rfl) (by simp) ?_
      refine (AllReadyH.cons rfl (fun K hK => ?_) (AllReadyH.cons rfl (fun K hK => ?_) AllReadyH.nil))
      rw [if_pos (by rfl)]
      refine wp_loadAt rfl rfl L2.out ?_
      clear hHeld
      refine hK.out _ _ ?_ (fun hHeld => ?_)
      ·trivial
      clear hK K
      try simp only [nz]
      refine rd 13 (fun K hK => ?_)
      rw [if_pos (by rfl)]
      refine wp_loadAt rfl rfl L1.out ?_
      clear hHeld
      refine hK.out _ _ ?_ (fun hHeld => ?_)
      ·trivial
      clear hK K
      try simp only [nz]
      refine tk 14 ?_
      try simp only [nz]
      refine rd 15 (fun K hK => ?_)
      rw [if_pos (by rfl)]
      refine wp_storeAt rfl rfl rfl T1.out ?_
      clear hHeld
      refine hK.out _ _ ?_ (fun hHeld => ?_)
      ·trivial
      clear hK K
      try simp only [nz]
      refine tk 16 ?_
      try simp only [nz]
      refine rd 17 (fun K hK => ?_)
      rw [if_pos (by rfl)]
      refine wp_storeAt rfl rfl rfl T2.out ?_
      clear hHeld
      refine hK.out _ _ ?_ (fun hHeld => ?_)
      ·trivial
      clear hK K
      try simp only [nz]
      refine wpAnyH_done (by kernel_rfl) ?_ _
      rotate_left 1
      rw [if_pos (by rfl)]
      refine wp_loadAt rfl rfl L1.out ?_
      clear hHeld
      refine hK.out _ _ ?_ (fun hHeld => ?_)
      ·trivial
      clear hK K
      try simp only [nz]
      refine rd 9 (fun K hK => ?_)
      rw [if_pos (by rfl)]
      refine wp_loadAt rfl rfl L2.out ?_
      clear hHeld
      refine hK.out _ _ ?_ (fun hHeld => ?_)
      ·trivial
      clear hK K
      try simp only [nz]
      refine tk 14 ?_
      try simp only [nz]
      refine rd 15 (fun K hK => ?_)
      rw [if_pos (by rfl)]
      refine wp_storeAt rfl rfl rfl T1.out ?_
      clear hHeld
      refine hK.out _ _ ?_ (fun hHeld => ?_)
      ·trivial
      clear hK K
      try simp only [nz]
      refine tk 16 ?_
      try simp only [nz]
      refine rd 17 (fun K hK => ?_)
      rw [if_pos (by rfl)]
      refine wp_storeAt rfl rfl rfl T2.out ?_
      clear hHeld
      refine hK.out _ _ ?_ (fun hHeld => ?_)
      ·trivial
      clear hK K
      try simp only [nz]
      refine wpAnyH_done (by kernel_rfl) ?_ _
      rotate_left 1
      all_goals
       go_wp2_with fail
       go_roundw
       case rel => exact ⟨y, _, by go_num, hya, by omega, HA7.out, HNM.out, HNI.out, (HV6.out.trans GD7.out).trans HG7.out⟩
       case measure => simp [intOf]; omega
     case false =>
      have HLT := HLB
      have HNS : Hid (SortedOn (ltOf cv) a (i + 1) q) := Ins.done HW.out hI2.out haj hji (.inr ⟨y, hjy.out, hya, HLT.out⟩)
      go_wp2_with fail
      go_roundw
      case rel => exact ⟨i + 1, q, by go_num, by omega, .inl (by omega), AC6.out, hM2.out, HNS.out, HV6.out⟩
      case measure => simp [intOf]; omega
    ·have t2 : decide ((a : Int) < (j : Int)) = false := by rw [dfQ]; omega
     have HNS : Hid (SortedOn (ltOf cv) a (i + 1) q) := Ins.done HW.out hI2.out haj hji (.inl (by omega))
     have AD : Hid (ArrG 78 10 enc wr.drew b o n q) := HCUR.out.drew
     have GD : Hid (w.grownBy wr.drew (some b)) := hG2.out.trans (gb_drew wr 1 _)
     go_wp2_with fail
     refine wp_region_held_drew (S := (fun _ => True)) (by kernel_rfl) ?_ (fun hHeld => ?_)
     ·trivial
     refine tk 0 ?_
     refine tk 1 ?_
     refine tk 2 ?_
     try simp only [nz]
     refine tk 3 ?_
     refine tn 4 ?_
     refine tn 5 ?_
     try simp only [nz]
     refine tn 6 ?_
     refine tn 7 ?_
     refine tn 8 ?_
     try simp only [nz]
     refine tn 9 ?_
     refine tn 10 ?_
     refine tn 11 ?_
     try simp only [nz]
     refine tn 12 ?_
     refine tn 13 ?_
     refine tn 14 ?_
     try simp only [nz]
     refine tn 15 ?_
     refine tk 16 ?_
     try simp only [nz]
     refine wpAnyH_done (by kernel_rfl) ?_ _
     go_wp2_with fail
     go_roundw
     case rel => exact ⟨i + 1, q, by go_num, by omega, .inl (by omega), AD.out, hM2.out, HNS.out, GD.out⟩
     case measure => simp [intOf]; omega
  ·have t1 : decide ((i : Int) < (e0 : Int)) = false := by rw [dfQ]; omega
   go_wp2_with fail
   refine bodyPost_end (results_none rfl _ _ _) rfl ?_
   exact ⟨⟨_, rfl⟩, g, hA.out, hM.out, hS.out.sub (Nat.le_refl _) (by omega), hG.out⟩
def KeyAtK (w : World) (kb : Nat) : Prop := w.heap[kb]? = some (.cells #[.func (.func 46) #[] #[]] 82 (0, 0))
def keyCmpK {α : Type} (key : α → ByteArray) (x y : α) : Int := Lib.compareBytes (key x).data.toList (key y).data.toList
theorem byK_any {α : Type} {enc : α → List Value} (E : Hid (Elem Tryz.prog 78 10 enc)) (key : α → ByteArray) (HK : Hid (∀ (x : α) (W : World), Calls Tryz.prog 46 #[.agg (enc x).toArray] W fun e w' => e = .returned (.string (key x)) ∧ Below W.heap.size W w')) (kb : Nat) (x y : α) (w : World) (hk : KeyAtK w kb) : Calls Tryz.prog 78 #[.agg (enc x).toArray, .agg (enc y).toArray, .pointer (some ⟨kb, 0, none⟩)] w fun e w' => e = .returned (.int .i64 (keyCmpK key x y)) ∧ Below w.heap.size w w' := by
 obtain ⟨ax, hax⟩ : ∃ v, (enc x).toArray = v := ⟨_, rfl⟩
 obtain ⟨ay, hay⟩ : ∃ v, (enc y).toArray = v := ⟨_, rfl⟩
 obtain ⟨w1, hw1⟩ : ∃ q, w.alloc (.cells ax 78) = q := ⟨_, rfl⟩
 obtain ⟨w2, hw2⟩ : ∃ q, w1.alloc (.cells ay 78) = q := ⟨_, rfl⟩
 have V1 : Hid (w1.heap[w.heap.size]? = some (.cells ax 78 (0, 0))) := by rw [← hw1]; exact heap_alloc_new _ _
 have V2 : Hid (w2.heap[w1.heap.size]? = some (.cells ay 78 (0, 0))) := by rw [← hw2]; exact heap_alloc_new _ _
 have B1 : Hid (Below w.heap.size w w1) := by rw [← hw1]; exact (Below.refl _ _).alloc (Nat.le_refl _) _
 have B2 : Hid (Below w1.heap.size w1 w2) := by rw [← hw2]; exact (Below.refl _ _).alloc (Nat.le_refl _) _
 have hl1 := heap_lt V1.out
 have hl2 := heap_lt V2.out
 have B02 : Hid (Below w.heap.size w w2) := B1.out.trans (B2.out.mono (by omega))
 have A1 : ArrG 78 10 enc w2 w.heap.size 0 1 (fun _ => x) := ⟨⟨_, (B2.out.block _ hl1).trans V1.out⟩, fun i hi j v hv => by
  obtain rfl : i = 0 := by omega
  rw [cell_of ((B2.out.block _ hl1).trans V1.out), ← hax]
  simpa using hv⟩
 have A2 : ArrG 78 10 enc w2 w1.heap.size 0 1 (fun _ => y) := ⟨⟨_, V2.out⟩, fun i hi j v hv => by
  obtain rfl : i = 0 := by omega
  rw [cell_of V2.out, ← hay]
  simpa using hv⟩
 obtain ⟨Vx, hvx⟩ : ∃ v, Value.agg ax = v := ⟨_, rfl⟩
 obtain ⟨Vy, hvy⟩ : ∃ v, Value.agg ay = v := ⟨_, rfl⟩
 have HVX : Hid (Value.agg (enc x).toArray = Vx) := by rw [Hid, hax]; exact hvx
 have HVY : Hid (Value.agg (enc y).toArray = Vy) := by rw [Hid, hay]; exact hvy
 have LD : Hid (∀ W, Below w2.heap.size w2 W → (Instr.loadAt 82 (.pointer (some ⟨kb, 0, none⟩))).run Tryz.prog W = .ok (.func (.func 46) #[] #[]) W ∧ (Instr.loadAt 78 (.pointer (some ⟨w.heap.size, 0, none⟩))).run Tryz.prog W = .ok Vx W ∧ (Instr.loadAt 78 (.pointer (some ⟨w1.heap.size, 0, none⟩))).run Tryz.prog W = .ok Vy W) := fun W hb => by
  refine ⟨?_, ?_, ?_⟩
  ·have h1 : W.heap[kb]? = some (.cells #[.func (.func 46) #[] #[]] 82 (0, 0)) := (hb.block _ (by have := heap_lt hk; omega)).trans ((B02.out.block _ (heap_lt hk)).trans hk)
   have c0 := cell_of h1 0
   simp at c0
   go_simp
  ·rw [← HVX.out]
   have := (A1.stays hb).load E.out (i := 0) (by omega)
   simpa using this
  ·rw [← HVY.out]
   have := (A2.stays hb).load E.out (i := 0) (by omega)
   simpa using this
 have HDR : Hid (Below w2.heap.size w2 w2.drew) := (Below.refl _ _).drew
 obtain ⟨sx, hsx⟩ : ∃ v, key x = v := ⟨_, rfl⟩
 obtain ⟨sy, hsy⟩ : ∃ v, key y = v := ⟨_, rfl⟩
 have HSX := hdQ hsx
 have HSY := hdQ hsy
 have HN1 : Hid (Calls Tryz.prog 46 #[Vx] w2.drew fun e w' => e = .returned (.string sx) ∧ Below w2.drew.heap.size w2.drew w') := by rw [← HVX.out, ← HSX.out]; exact HK.out x w2.drew
 obtain ⟨cc, hcc⟩ : ∃ z, Lib.compareBytes sx.data.toList sy.data.toList = z := ⟨_, rfl⟩
 have HCM : Hid (∀ W, Calls Tryz.prog 72 #[.string sx, .string sy] W fun e w' => e = .returned (.int .i64 cc) ∧ w' = W) := fun W => by rw [← hcc]; exact Tryz.strings_Compare sx sy W
 have HCR : Hid (keyCmpK key x y = cc) := by rw [Hid, keyCmpK, hsx, hsy]; exact hcc
 have LQ : Hid ((Instr.loadAt 82 (.pointer (some ⟨kb, 0, none⟩))).run Tryz.prog w2.drew = .ok (.func (.func 46) #[] #[]) w2.drew ∧ (Instr.loadAt 78 (.pointer (some ⟨w.heap.size, 0, none⟩))).run Tryz.prog w2.drew = .ok Vx w2.drew ∧ (Instr.loadAt 78 (.pointer (some ⟨w1.heap.size, 0, none⟩))).run Tryz.prog w2.drew = .ok Vy w2.drew) := LD.out w2.drew HDR.out
 rw [hax, hay, HCR.out]
 clear hk hax hay hvx hvy hsx hsy hcc A1 A2
 go_enter Tryz.func78, Tryz.ntmps78
 go_wp2_with fail
 refine wp_region_held_drew (S := (fun w' => (Instr.loadAt 82 (.pointer (some ⟨kb, 0, none⟩))).run Tryz.prog w' = .ok (.func (.func 46) #[] #[]) w' ∧ (Instr.loadAt 78 (.pointer (some ⟨w.heap.size, 0, none⟩))).run Tryz.prog w' = .ok Vx w' ∧ (Instr.loadAt 78 (.pointer (some ⟨w1.heap.size, 0, none⟩))).run Tryz.prog w' = .ok Vy w')) (by kernel_rfl) ?_ (fun hHeld => ?_)
 ·exact LQ.out
 refine tv 0 (.func (.func 46) #[] #[]) ?_ ?_
 ·(intro w hs; exact exec_loadAt rfl rfl hs.1)
 refine tv 1 Vx ?_ ?_
 ·(intro w hs; exact exec_loadAt rfl rfl hs.2.1)
 refine tv 3 (.func (.func 46) #[] #[]) ?_ ?_
 ·(intro w hs; exact exec_loadAt rfl rfl hs.1)
 try simp only [nz]
 refine tv 4 Vy ?_ ?_
 ·(intro w hs; exact exec_loadAt rfl rfl hs.2.2)
 try simp only [nz]
 refine rd 2 (fun K hK => ?_)
 try simp only [nz]
 go_simp
 (go_at_call 46; refine (Calls.mono HN1.out ?_); rintro z w5 ⟨rfl, hb5⟩; have B5 : Hid (Below w2.heap.size w2 w5) := HDR.out.trans hb5; clear hb5; have LQ : Hid ((Instr.loadAt 82 (.pointer (some ⟨kb, 0, none⟩))).run Tryz.prog w5 = .ok (.func (.func 46) #[] #[]) w5 ∧ (Instr.loadAt 78 (.pointer (some ⟨w.heap.size, 0, none⟩))).run Tryz.prog w5 = .ok Vx w5 ∧ (Instr.loadAt 78 (.pointer (some ⟨w1.heap.size, 0, none⟩))).run Tryz.prog w5 = .ok Vy w5) := LD.out w5 B5.out; have HN2 : Hid (Calls Tryz.prog 46 #[Vy] w5 fun e w' => e = .returned (.string sy) ∧ Below w5.heap.size w5 w') := by rw [← HVY.out, ← HSY.out]; exact HK.out y w5)
 clear hHeld
 refine hK.out _ _ ?_ (fun hHeld => ?_)
 ·exact LQ.out
 clear hK K
 try simp only [nz]
 refine rd 5 (fun K hK => ?_)
 try simp only [nz]
 go_simp
 (go_at_call 46; refine (Calls.mono HN2.out ?_); rintro z w6 ⟨rfl, hb6⟩; have B6 : Hid (Below w2.heap.size w2 w6) := B5.out.trans (hb6.mono B5.out.size); clear hb6; have LQ : Hid ((Instr.loadAt 82 (.pointer (some ⟨kb, 0, none⟩))).run Tryz.prog w6 = .ok (.func (.func 46) #[] #[]) w6 ∧ (Instr.loadAt 78 (.pointer (some ⟨w.heap.size, 0, none⟩))).run Tryz.prog w6 = .ok Vx w6 ∧ (Instr.loadAt 78 (.pointer (some ⟨w1.heap.size, 0, none⟩))).run Tryz.prog w6 = .ok Vy w6) := LD.out w6 B6.out)
 clear hHeld
 refine hK.out _ _ ?_ (fun hHeld => ?_)
 ·exact LQ.out
 clear hK K
 try simp only [nz]
 refine rd 6 (fun K hK => ?_)
 try simp only [nz]
 go_simp
 (go_at_call 72; refine (Calls.mono (HCM.out w6) ?_); rintro z w7 ⟨rfl, rfl⟩)
 clear hHeld
 refine hK.out _ _ ?_ (fun hHeld => ?_)
 ·exact LQ.out
 clear hK K
 try simp only [nz]
 refine tk 7 ?_
 try simp only [nz]
 refine wpAnyH_done (by kernel_rfl) ?_ _
 go_wp2_with fail
 go_ret
 exact ⟨rfl, B02.out.trans (B6.out.mono (by omega))⟩
theorem mkK_any (w : World) : Calls Tryz.prog 45 #[.func (.func 46) #[] #[]] w fun e w' => e = .returned (.func (.func 78) #[] #[.pointer (some ⟨w.heap.size, 0, none⟩)]) ∧ KeyAtK w' w.heap.size ∧ Below w.heap.size w w' := by
 have hmf : ∀ (fn : Fn) (first cap : Array Value) (w : World), (Instr.makeFunc fn first cap).run Tryz.prog w = .ok (.func fn first cap) w := fun _ _ _ _ => rfl
 go_enter Tryz.func45, Tryz.ntmps45
 go_wp2_with fail
 go_ret
 exact ⟨rfl, heap_alloc_new _ _, (Below.refl _ _).alloc (Nat.le_refl _) _⟩
theorem cmpAtK {α : Type} {enc : α → List Value} (E : Hid (Elem Tryz.prog 78 10 enc)) (key : α → ByteArray) (HK : Hid (∀ (x : α) (W : World), Calls Tryz.prog 46 #[.agg (enc x).toArray] W fun e w' => e = .returned (.string (key x)) ∧ Below W.heap.size W w')) (kb b : Nat) (w : World) (hk : KeyAtK w kb) (hne : kb ≠ b) : CmpAt Tryz.prog 78 enc (keyCmpK key) kb b w :=
 fun W hW x y => byK_any E key HK kb x y W ((hW.block kb (heap_lt hk) (fun e => by injection e with e; exact hne e)).trans hk)
end Go.Proofs.YtehghladpnpcoaaGreatDoor.Stable
