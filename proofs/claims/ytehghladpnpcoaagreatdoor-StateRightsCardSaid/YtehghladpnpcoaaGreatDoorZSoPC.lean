/- slices: symMerge, one element in a half (tabularium/api.Pair). -/
import Derived.Test.YtehghladpnpcoaaGreatDoorZSoPB
import Derived.Deep.RegionHeld3
set_option linter.unusedVariables false
set_option linter.unusedSimpArgs false
set_option maxRecDepth 100000
set_option maxHeartbeats 64000000
namespace Go.Proofs.YtehghladpnpcoaaGreatDoor.Stable
open Go.RowKit Go.Shelf
open Go.Proofs.YtehghladpnpcoaaGreatDoor.Jdec (gb_set gb_below gb_drew gb_refl)
theorem merge1P {α : Type} {enc : α → List Value} {cv : α → α → Int} (E : Hid (Elem Tryz.prog 72 2 enc)) (HW : Hid (Weak (ltOf cv))) (b o n kb : Nat) (c : Nat) (hn : n ≤ 3000) (a m e0 : Nat) (f : Nat → α) (w : World) (h : ArrG 72 2 enc w b o n f) (HC : Hid (CmpAt Tryz.prog 71 enc cv kb b w)) (ham : a < m) (hme : m < e0) (he : e0 ≤ n) (hs1 : Hid (SortedOn (ltOf cv) a m f)) (hs2 : Hid (SortedOn (ltOf cv) m e0 f)) (hm : Hid (m = a + 1)) : Calls Tryz.prog 101 #[.slice (some ⟨b, o, none⟩) n c, .int .i64 a, .int .i64 m, .int .i64 e0, .func (.func 71) #[] #[.pointer (some ⟨kb, 0, none⟩)]] w fun e w' => (∃ v, e = .returned v) ∧ ∃ g, ArrG 72 2 enc w' b o n g ∧ Mix n a e0 f g ∧ SortedOn (ltOf cv) a e0 g ∧ w.grownBy w' (some b) := by
 have q1 : (m : Int) - (a : Int) = 1 := by have := hm.out; omega
 go_enter Tryz.func101, Tryz.ntmps101
 go_wp2_with fail
 go_loopw [10, 11] (fun p10 p11 wr => ∃ i j : Nat, p10 = .int .i64 i ∧ p11 = .int .i64 j ∧ m ≤ i ∧ i ≤ j ∧ j ≤ e0 ∧ Hid (ArrG 72 2 enc wr b o n f) ∧ Hid (∀ c, m ≤ c → c < i → ltOf cv (f c) (f a) = true) ∧ Hid (∀ c, j ≤ c → c < e0 → ltOf cv (f c) (f a) = false) ∧ Hid (w.grownBy wr (some b))) (fun p10 p11 _ => (intOf p11).toNat - (intOf p10).toNat)
 case atStart => exact ⟨m, e0, rfl, rfl, Nat.le_refl _, by omega, Nat.le_refl _, h, fun c _ _ => by omega, fun c _ _ => by omega, gb_refl _ _⟩
 case round =>
  obtain ⟨i, j, rfl, rfl, hmi, hij, hje, hA, hlo, hhi, hG⟩ := hrel
  by_cases hlt : i < j
  ·have HCUR := hdQ hA
   obtain ⟨u, hu⟩ : ∃ u, (i + j) / 2 = u := ⟨_, rfl⟩
   have hiu : i ≤ u := by omega
   have huj : u < j := by omega
   obtain ⟨sm, hsm⟩ : ∃ z, i + j = z := ⟨_, rfl⟩
   have gs : (i : Int) + (j : Int) = (sm : Int) := by omega
   have ws1 : IntKind.i64.wrap (sm : Int) = (sm : Int) := IntWalk.i64_in _ (by omega)
   have ws2 : IntKind.u64.wrap (sm : Int) = (sm : Int) := IntWalk.u64_in _ (by omega)
   have gm : (sm : Int) / 2 = (u : Int) := by omega
   have wu1 : IntKind.i64.wrap (u : Int) = (u : Int) := IntWalk.i64_in _ (by omega)
   have wu2 : IntKind.u64.wrap (u : Int) = (u : Int) := IntWalk.u64_in _ (by omega)
   clear hu hsm
   obtain ⟨cc, hcc⟩ : ∃ cz, cv (f u) (f a) = cz := ⟨_, rfl⟩
   have HCC := hdQ hcc
   obtain ⟨lb, hlb⟩ : ∃ z, decide (cc < 0) = z := ⟨_, rfl⟩
   have HLB : Hid (ltOf cv (f u) (f a) = lb) := by rw [Hid, ltOf, hcc]; exact hlb
   clear hcc
   have GD : Hid (w.grownBy wr.drew (some b)) := hG.out.trans (gb_drew wr 1 _)
   have AD : Hid (ArrG 72 2 enc wr.drew b o n f) := HCUR.out.drew
   obtain ⟨Vi, hVi⟩ : ∃ v, Value.agg (enc (f u)).toArray = v := ⟨_, rfl⟩
   obtain ⟨Vj, hVj⟩ : ∃ v, Value.agg (enc (f a)).toArray = v := ⟨_, rfl⟩
   have LD : Hid (∀ X, Below wr.drew.heap.size wr.drew X → (Instr.loadAt 72 (.pointer (some ⟨b, o + u * 2, none⟩))).run Tryz.prog X = .ok Vi X ∧ (Instr.loadAt 72 (.pointer (some ⟨b, o + a * 2, none⟩))).run Tryz.prog X = .ok Vj X) := fun X hb => by rw [← hVi, ← hVj]; exact ⟨(AD.out.stays hb).load E.out (by omega), (AD.out.stays hb).load E.out (by omega)⟩
   have HCA : Hid (Calls Tryz.prog 71 #[Vi, Vj, .pointer (some ⟨kb, 0, none⟩)] wr.drew fun e w' => e = .returned (.int .i64 cc) ∧ Below wr.drew.heap.size wr.drew w') := by rw [← hVi, ← hVj, ← HCC.out]; exact HC.out _ GD.out (f u) (f a)
   have LQ : Hid ((Instr.loadAt 72 (.pointer (some ⟨b, o + u * 2, none⟩))).run Tryz.prog wr.drew = .ok Vi wr.drew ∧ (Instr.loadAt 72 (.pointer (some ⟨b, o + a * 2, none⟩))).run Tryz.prog wr.drew = .ok Vj wr.drew) := LD.out _ (Below.refl _ _)
   have cx0 : (0 : Int) ≤ (u : Int) := by omega
   have cx1 : (u : Int) < (n : Int) := by omega
   have cy0 : (0 : Int) ≤ (a : Int) := by omega
   have cy1 : (a : Int) < (n : Int) := by omega
   clear hVi hVj
   go_wp2_with fail
   refine wp_region_held_drew (S := (fun w' => (Instr.loadAt 72 (.pointer (some ⟨b, o + u * 2, none⟩))).run Tryz.prog w' = .ok Vi w' ∧ (Instr.loadAt 72 (.pointer (some ⟨b, o + a * 2, none⟩))).run Tryz.prog w' = .ok Vj w')) (by kernel_rfl) ?_ (fun hHeld => ?_)
   ·exact LQ.out
   refine tk 0 ?_
   refine tk 1 ?_
   refine tk 2 ?_
   try simp only [nz]
   refine tk 3 ?_
   refine tv 4 Vi ?_ ?_
   ·(intro w hs; exact exec_loadAt rfl rfl hs.1)
   refine tk 5 ?_
   try simp only [nz]
   refine tk 6 ?_
   refine tk 7 ?_
   refine tv 8 Vj ?_ ?_
   ·(intro w hs; exact exec_loadAt rfl rfl hs.2)
   try simp only [nz]
   refine rd 9 (fun K hK => ?_)
   try simp only [nz]
   go_simp
   (go_at_call 71; refine (Calls.mono HCA.out ?_); rintro z w6 ⟨rfl, hb6⟩; have BB6 : Hid (Below wr.drew.heap.size wr.drew w6) := hb6; clear hb6; have LQ : Hid ((Instr.loadAt 72 (.pointer (some ⟨b, o + u * 2, none⟩))).run Tryz.prog w6 = .ok Vi w6 ∧ (Instr.loadAt 72 (.pointer (some ⟨b, o + a * 2, none⟩))).run Tryz.prog w6 = .ok Vj w6) := LD.out w6 BB6.out)
   clear hHeld
   refine hK.out _ _ ?_ (fun hHeld => ?_)
   ·exact LQ.out
   clear hK K
   try simp only [nz]
   refine tk 10 ?_
   try simp only [nz]
   refine wpAnyH_done (by kernel_rfl) ?_ _
   have HV6 : Hid (w.grownBy w6 (some b)) := GD.out.trans (gb_below BB6.out _)
   have AC6 : Hid (ArrG 72 2 enc w6 b o n f) := AD.out.stays BB6.out
   clear LD LQ HCA HCUR
   cases lb
   case true =>
    have HLT := HLB
    have HNL : Hid (∀ c, m ≤ c → c < u + 1 → ltOf cv (f c) (f a) = true) := bin1_t HW.out hs2.out _ (by omega) HLT.out
    go_wp2_with fail
    go_roundw
    case rel => exact ⟨u + 1, j, by go_num, rfl, by omega, by omega, hje, AC6.out, HNL.out, hhi.out, HV6.out⟩
    case measure => simp [intOf]; omega
   case false =>
    have HLT := HLB
    have HNL : Hid (∀ c, u ≤ c → c < e0 → ltOf cv (f c) (f a) = false) := bin1_f HW.out hs2.out _ (by omega) HLT.out
    go_wp2_with fail
    go_roundw
    case rel => exact ⟨i, u, rfl, rfl, hmi, hiu, by omega, AC6.out, hlo.out, HNL.out, HV6.out⟩
    case measure => simp [intOf]; omega
  ·obtain rfl : j = i := by omega
   clear hlt hij
   obtain ⟨i1, hi1⟩ : ∃ q, j - 1 = q := ⟨_, rfl⟩
   have hii : (j : Int) - 1 = (i1 : Int) := by omega
   have HI : Hid (j = i1 + 1) := by rw [Hid]; omega
   have hai : a ≤ i1 := by omega
   have hie : i1 < e0 := by omega
   clear hi1
   obtain ⟨wo, rfl⟩ : ∃ wo, wo = wr := ⟨wr, rfl⟩
   go_wp2_with fail
   go_loopw [13] (fun p13 wx => ∃ (k : Nat) (q : Nat → α), p13 = .int .i64 k ∧ a ≤ k ∧ k ≤ i1 ∧ Hid (ArrG 72 2 enc wx b o n q) ∧ Hid (q = rot f a (a + 1) (k + 1)) ∧ Hid (Mix n a e0 f q) ∧ Hid (w.grownBy wx (some b))) (fun p13 _ => i1 - (intOf p13).toNat)
   case atStart => exact ⟨a, f, rfl, Nat.le_refl _, hai, hA.out, (rot_none f a (a + 1)).symm, Mix.refl _ _ _ _, hG.out⟩
   case round =>
    obtain ⟨k, q, rfl, hak, hki, hA2, hQ, hM2, hG2⟩ := hrel
    by_cases hk : k < i1
    ·have t1 : decide ((k : Int) < (i1 : Int)) = true := by rw [dtQ]; omega
     obtain ⟨y, hy⟩ : ∃ y, k + 1 = y := ⟨_, rfl⟩
     have hky : (k : Int) + 1 = (y : Int) := by omega
     have hwy : IntKind.i64.wrap (y : Int) = (y : Int) := IntWalk.i64_in _ (by omega)
     have HCUR := hdQ hA2
     have HSW : Hid (swp q k y = rot f a (a + 1) (y + 1)) := by rw [Hid, hQ.out, ← hy]; exact rot_up f a k hak
     have hay : a ≤ y := by omega
     have hyi : y ≤ i1 := by omega
     have hly : k < y := by omega
     have HNM : Hid (Mix n a e0 f (swp q k y)) := hM2.out.trans (Mix.swp q hak (by omega) (by omega) (by omega) he)
     clear hy
     have GD7 : Hid (wr.grownBy wr.drew (some b)) := gb_drew wr 1 _
     obtain ⟨Vi, Vj, v1, v2, l1, l2, s1, s2, HA7, HG7⟩ := ArrG.swaps (i := k) (j := y) E.out HCUR.out.drew (by omega) (by omega)
     have L1 := hdQ l1
     have L2 := hdQ l2
     have T1 := hdQ s1
     have T2 := hdQ s2
     clear l1 l2 s1 s2
     have cx0 : (0 : Int) ≤ (k : Int) := by omega
     have cx1 : (k : Int) < (n : Int) := by omega
     have cy0 : (0 : Int) ≤ (y : Int) := by omega
     have cy1 : (y : Int) < (n : Int) := by omega
     go_wp2_with fail
     refine wp_region_held_drew (S := (fun _ => True)) (by kernel_rfl) ?_ (fun hHeld => ?_)
     ·trivial
     refine tk 0 ?_
     refine tk 1 ?_
     refine tk 2 ?_
     try simp only [nz]
     refine tk 3 ?_
     refine tk 4 ?_
     refine tk 5 ?_
     try simp only [nz]
     refine tk 6 ?_
     refine tk 7 ?_
     refine tk 8 ?_
     try simp only [nz]
     refine tk 10 ?_
     refine tk 11 ?_
     refine tk 12 ?_
     try simp only [nz]
     refine wpAnyH_ready (rs := [9, 13]) (by kernel_rfl) (by simp) ?_
     refine (AllReadyH.cons rfl (fun K hK => ?_) (AllReadyH.cons rfl (fun K hK => ?_) AllReadyH.nil))
     rw [if_pos (by rfl)]
     refine wp_loadAt rfl rfl L2.out ?_
     clear hHeld
     refine hK.out _ _ ?_ (fun hHeld => ?_)
     ·trivial
     clear hK K
     try simp only [nz]
     refine rd 13 (fun K hK => ?_)
     rw [if_pos (by rfl)]
     refine wp_loadAt rfl rfl L1.out ?_
     clear hHeld
     refine hK.out _ _ ?_ (fun hHeld => ?_)
     ·trivial
     clear hK K
     try simp only [nz]
     refine tk 14 ?_
     try simp only [nz]
     refine rd 15 (fun K hK => ?_)
     rw [if_pos (by rfl)]
     refine wp_storeAt rfl rfl rfl T1.out ?_
     clear hHeld
     refine hK.out _ _ ?_ (fun hHeld => ?_)
     ·trivial
     clear hK K
     try simp only [nz]
     refine tk 16 ?_
     try simp only [nz]
     refine rd 17 (fun K hK => ?_)
     rw [if_pos (by rfl)]
     refine wp_storeAt rfl rfl rfl T2.out ?_
     clear hHeld
     refine hK.out _ _ ?_ (fun hHeld => ?_)
     ·trivial
     clear hK K
     try simp only [nz]
     refine wpAnyH_done (by kernel_rfl) ?_ _
     rotate_left 1
     rw [if_pos (by rfl)]
     refine wp_loadAt rfl rfl L1.out ?_
     clear hHeld
     refine hK.out _ _ ?_ (fun hHeld => ?_)
     ·trivial
     clear hK K
     try simp only [nz]
     refine rd 9 (fun K hK => ?_)
     rw [if_pos (by rfl)]
     refine wp_loadAt rfl rfl L2.out ?_
     clear hHeld
     refine hK.out _ _ ?_ (fun hHeld => ?_)
     ·trivial
     clear hK K
     try simp only [nz]
     refine tk 14 ?_
     try simp only [nz]
     refine rd 15 (fun K hK => ?_)
     rw [if_pos (by rfl)]
     refine wp_storeAt rfl rfl rfl T1.out ?_
     clear hHeld
     refine hK.out _ _ ?_ (fun hHeld => ?_)
     ·trivial
     clear hK K
     try simp only [nz]
     refine tk 16 ?_
     try simp only [nz]
     refine rd 17 (fun K hK => ?_)
     rw [if_pos (by rfl)]
     refine wp_storeAt rfl rfl rfl T2.out ?_
     clear hHeld
     refine hK.out _ _ ?_ (fun hHeld => ?_)
     ·trivial
     clear hK K
     try simp only [nz]
     refine wpAnyH_done (by kernel_rfl) ?_ _
     rotate_left 1
     all_goals
      go_wp2_with fail
      go_roundw
      case rel => exact ⟨y, _, by go_num, hay, hyi, HA7.out, HSW.out, HNM.out, (hG2.out.trans GD7.out).trans HG7.out⟩
      case measure => simp [intOf]; omega
    ·obtain rfl : k = i1 := by omega
     have HS : Hid (SortedOn (ltOf cv) a e0 q) := by
      have e2 := hlo.out
      have e3 := hhi.out
      have e4 := hs2.out
      rw [HI.out] at e2 e3
      rw [hm.out] at e2 e4
      rw [Hid, hQ.out]
      exact merge_first HW.out e4 (by omega) (by omega) e2 e3
     have t1 : decide ((k : Int) < (k : Int)) = false := by simp
     go_wp2_with fail
     refine bodyPost_ret (results_none (by rfl) _ _ _) rfl ?_
     exact ⟨⟨_, rfl⟩, q, hA2.out, hM2.out, HS.out, hG2.out⟩
theorem merge2P {α : Type} {enc : α → List Value} {cv : α → α → Int} (E : Hid (Elem Tryz.prog 72 2 enc)) (HW : Hid (Weak (ltOf cv))) (b o n kb : Nat) (c : Nat) (hn : n ≤ 3000) (a m e0 : Nat) (f : Nat → α) (w : World) (h : ArrG 72 2 enc w b o n f) (HC : Hid (CmpAt Tryz.prog 71 enc cv kb b w)) (ham : a < m) (hme : m < e0) (he : e0 ≤ n) (hs1 : Hid (SortedOn (ltOf cv) a m f)) (hs2 : Hid (SortedOn (ltOf cv) m e0 f)) (hm : Hid (e0 = m + 1)) (hma : m ≠ a + 1) : Calls Tryz.prog 101 #[.slice (some ⟨b, o, none⟩) n c, .int .i64 a, .int .i64 m, .int .i64 e0, .func (.func 71) #[] #[.pointer (some ⟨kb, 0, none⟩)]] w fun e w' => (∃ v, e = .returned v) ∧ ∃ g, ArrG 72 2 enc w' b o n g ∧ Mix n a e0 f g ∧ SortedOn (ltOf cv) a e0 g ∧ w.grownBy w' (some b) := by
 obtain ⟨x1, hx1⟩ : ∃ q, m - a = q := ⟨_, rfl⟩
 have q1 : (m : Int) - (a : Int) = (x1 : Int) := by omega
 have q2 : ((x1 : Int) == 1) = false := by rw [bnQ]; omega
 have q3 : (e0 : Int) - (m : Int) = 1 := by have := hm.out; omega
 clear hx1
 go_enter Tryz.func101, Tryz.ntmps101
 go_wp2_with fail
 go_loopw [14, 15] (fun p14 p15 wr => ∃ i j : Nat, p14 = .int .i64 i ∧ p15 = .int .i64 j ∧ a ≤ i ∧ i ≤ j ∧ j ≤ m ∧ Hid (ArrG 72 2 enc wr b o n f) ∧ Hid (∀ c, a ≤ c → c < i → ltOf cv (f m) (f c) = false) ∧ Hid (∀ c, j ≤ c → c < m → ltOf cv (f m) (f c) = true) ∧ Hid (w.grownBy wr (some b))) (fun p14 p15 _ => (intOf p15).toNat - (intOf p14).toNat)
 case atStart => exact ⟨a, m, rfl, rfl, Nat.le_refl _, by omega, Nat.le_refl _, h, fun c _ _ => by omega, fun c _ _ => by omega, gb_refl _ _⟩
 case round =>
  obtain ⟨i, j, rfl, rfl, hai, hij, hjm, hA, hlo, hhi, hG⟩ := hrel
  by_cases hlt : i < j
  ·have HCUR := hdQ hA
   obtain ⟨u, hu⟩ : ∃ u, (i + j) / 2 = u := ⟨_, rfl⟩
   have hiu : i ≤ u := by omega
   have huj : u < j := by omega
   obtain ⟨sm, hsm⟩ : ∃ z, i + j = z := ⟨_, rfl⟩
   have gs : (i : Int) + (j : Int) = (sm : Int) := by omega
   have ws1 : IntKind.i64.wrap (sm : Int) = (sm : Int) := IntWalk.i64_in _ (by omega)
   have ws2 : IntKind.u64.wrap (sm : Int) = (sm : Int) := IntWalk.u64_in _ (by omega)
   have gm : (sm : Int) / 2 = (u : Int) := by omega
   have wu1 : IntKind.i64.wrap (u : Int) = (u : Int) := IntWalk.i64_in _ (by omega)
   have wu2 : IntKind.u64.wrap (u : Int) = (u : Int) := IntWalk.u64_in _ (by omega)
   clear hu hsm
   obtain ⟨cc, hcc⟩ : ∃ cz, cv (f m) (f u) = cz := ⟨_, rfl⟩
   have HCC := hdQ hcc
   obtain ⟨lb, hlb⟩ : ∃ z, decide (cc < 0) = z := ⟨_, rfl⟩
   have HLB : Hid (ltOf cv (f m) (f u) = lb) := by rw [Hid, ltOf, hcc]; exact hlb
   clear hcc
   have GD : Hid (w.grownBy wr.drew (some b)) := hG.out.trans (gb_drew wr 1 _)
   have AD : Hid (ArrG 72 2 enc wr.drew b o n f) := HCUR.out.drew
   obtain ⟨Vi, hVi⟩ : ∃ v, Value.agg (enc (f m)).toArray = v := ⟨_, rfl⟩
   obtain ⟨Vj, hVj⟩ : ∃ v, Value.agg (enc (f u)).toArray = v := ⟨_, rfl⟩
   have LD : Hid (∀ X, Below wr.drew.heap.size wr.drew X → (Instr.loadAt 72 (.pointer (some ⟨b, o + m * 2, none⟩))).run Tryz.prog X = .ok Vi X ∧ (Instr.loadAt 72 (.pointer (some ⟨b, o + u * 2, none⟩))).run Tryz.prog X = .ok Vj X) := fun X hb => by rw [← hVi, ← hVj]; exact ⟨(AD.out.stays hb).load E.out (by omega), (AD.out.stays hb).load E.out (by omega)⟩
   have HCA : Hid (Calls Tryz.prog 71 #[Vi, Vj, .pointer (some ⟨kb, 0, none⟩)] wr.drew fun e w' => e = .returned (.int .i64 cc) ∧ Below wr.drew.heap.size wr.drew w') := by rw [← hVi, ← hVj, ← HCC.out]; exact HC.out _ GD.out (f m) (f u)
   have LQ : Hid ((Instr.loadAt 72 (.pointer (some ⟨b, o + m * 2, none⟩))).run Tryz.prog wr.drew = .ok Vi wr.drew ∧ (Instr.loadAt 72 (.pointer (some ⟨b, o + u * 2, none⟩))).run Tryz.prog wr.drew = .ok Vj wr.drew) := LD.out _ (Below.refl _ _)
   have cx0 : (0 : Int) ≤ (m : Int) := by omega
   have cx1 : (m : Int) < (n : Int) := by omega
   have cy0 : (0 : Int) ≤ (u : Int) := by omega
   have cy1 : (u : Int) < (n : Int) := by omega
   clear hVi hVj
   go_wp2_with fail
   refine wp_region_held_drew (S := (fun w' => (Instr.loadAt 72 (.pointer (some ⟨b, o + m * 2, none⟩))).run Tryz.prog w' = .ok Vi w' ∧ (Instr.loadAt 72 (.pointer (some ⟨b, o + u * 2, none⟩))).run Tryz.prog w' = .ok Vj w')) (by kernel_rfl) ?_ (fun hHeld => ?_)
   ·exact LQ.out
   refine tk 0 ?_
   refine tk 1 ?_
   refine tk 2 ?_
   try simp only [nz]
   refine tk 3 ?_
   refine tv 4 Vi ?_ ?_
   ·(intro w hs; exact exec_loadAt rfl rfl hs.1)
   refine tk 5 ?_
   try simp only [nz]
   refine tk 6 ?_
   refine tk 7 ?_
   refine tv 8 Vj ?_ ?_
   ·(intro w hs; exact exec_loadAt rfl rfl hs.2)
   try simp only [nz]
   refine rd 9 (fun K hK => ?_)
   try simp only [nz]
   go_simp
   (go_at_call 71; refine (Calls.mono HCA.out ?_); rintro z w6 ⟨rfl, hb6⟩; have BB6 : Hid (Below wr.drew.heap.size wr.drew w6) := hb6; clear hb6; have LQ : Hid ((Instr.loadAt 72 (.pointer (some ⟨b, o + m * 2, none⟩))).run Tryz.prog w6 = .ok Vi w6 ∧ (Instr.loadAt 72 (.pointer (some ⟨b, o + u * 2, none⟩))).run Tryz.prog w6 = .ok Vj w6) := LD.out w6 BB6.out)
   clear hHeld
   refine hK.out _ _ ?_ (fun hHeld => ?_)
   ·exact LQ.out
   clear hK K
   try simp only [nz]
   refine tk 10 ?_
   refine tk 11 ?_
   try simp only [nz]
   refine wpAnyH_done (by kernel_rfl) ?_ _
   have HV6 : Hid (w.grownBy w6 (some b)) := GD.out.trans (gb_below BB6.out _)
   have AC6 : Hid (ArrG 72 2 enc w6 b o n f) := AD.out.stays BB6.out
   clear LD LQ HCA HCUR
   cases lb
   case true =>
    have HLT := HLB
    have HNL : Hid (∀ c, u ≤ c → c < m → ltOf cv (f m) (f c) = true) := bin2_f HW.out hs1.out _ (by omega) HLT.out
    go_wp2_with fail
    go_roundw
    case rel => exact ⟨i, u, rfl, rfl, hai, hiu, by omega, AC6.out, hlo.out, HNL.out, HV6.out⟩
    case measure => simp [intOf]; omega
   case false =>
    have HLT := HLB
    have HNL : Hid (∀ c, a ≤ c → c < u + 1 → ltOf cv (f m) (f c) = false) := bin2_t HW.out hs1.out _ (by omega) HLT.out
    go_wp2_with fail
    go_roundw
    case rel => exact ⟨u + 1, j, by go_num, rfl, by omega, by omega, hjm, AC6.out, HNL.out, hhi.out, HV6.out⟩
    case measure => simp [intOf]; omega
  ·obtain rfl : j = i := by omega
   clear hlt hij
   obtain ⟨wo, rfl⟩ : ∃ wo, wo = wr := ⟨wr, rfl⟩
   go_wp2_with fail
   go_loopw [17] (fun p17 wx => ∃ (k : Nat) (q : Nat → α), p17 = .int .i64 k ∧ j ≤ k ∧ k ≤ m ∧ Hid (ArrG 72 2 enc wx b o n q) ∧ Hid (q = rot f k m (m + 1)) ∧ Hid (Mix n a e0 f q) ∧ Hid (w.grownBy wx (some b))) (fun p17 _ => (intOf p17).toNat)
   case atStart => exact ⟨m, f, rfl, hjm, Nat.le_refl _, hA.out, (rot_none' f m (m + 1)).symm, Mix.refl _ _ _ _, hG.out⟩
   case round =>
    obtain ⟨k, q, rfl, hjk, hkm, hA2, hQ, hM2, hG2⟩ := hrel
    by_cases hk : j < k
    ·have t1 : decide ((j : Int) < (k : Int)) = true := by rw [dtQ]; omega
     obtain ⟨y, hy⟩ : ∃ y, k - 1 = y := ⟨_, rfl⟩
     have hky : (k : Int) - 1 = (y : Int) := by omega
     have hwy : IntKind.i64.wrap (y : Int) = (y : Int) := IntWalk.i64_in _ (by omega)
     have HCUR := hdQ hA2
     have HKY : Hid (k = y + 1) := by rw [Hid]; omega
     have HSW : Hid (swp q k y = rot f y m (m + 1)) := by rw [Hid, hQ.out, HKY.out]; exact rot_down f m y (by omega)
     have hjy : j ≤ y := by omega
     have hym : y ≤ m := by omega
     have hyk : y < k := by omega
     have HNM : Hid (Mix n a e0 f (swp q k y)) := hM2.out.trans (Mix.swp q (by omega) (by omega) (by omega) (by omega) he)
     clear hy
     have GD7 : Hid (wr.grownBy wr.drew (some b)) := gb_drew wr 1 _
     obtain ⟨Vi, Vj, v1, v2, l1, l2, s1, s2, HA7, HG7⟩ := ArrG.swaps (i := k) (j := y) E.out HCUR.out.drew (by omega) (by omega)
     have L1 := hdQ l1
     have L2 := hdQ l2
     have T1 := hdQ s1
     have T2 := hdQ s2
     clear l1 l2 s1 s2
     have cx0 : (0 : Int) ≤ (k : Int) := by omega
     have cx1 : (k : Int) < (n : Int) := by omega
     have cy0 : (0 : Int) ≤ (y : Int) := by omega
     have cy1 : (y : Int) < (n : Int) := by omega
     go_wp2_with fail
     refine wp_region_held_drew (S := (fun _ => True)) (by kernel_rfl) ?_ (fun hHeld => ?_)
     ·trivial
     refine tk 0 ?_
     refine tk 1 ?_
     refine tk 2 ?_
     try simp only [nz]
     refine tk 3 ?_
     refine tk 4 ?_
     refine tk 5 ?_
     try simp only [nz]
     refine tk 6 ?_
     refine tk 7 ?_
     refine tk 8 ?_
     try simp only [nz]
     refine tk 10 ?_
     refine tk 11 ?_
     refine tk 12 ?_
     try simp only [nz]
     refine wpAnyH_ready (rs := [9, 13]) (by kernel_rfl) (by simp) ?_
     refine (AllReadyH.cons rfl (fun K hK => ?_) (AllReadyH.cons rfl (fun K hK => ?_) AllReadyH.nil))
     rw [if_pos (by rfl)]
     refine wp_loadAt rfl rfl L2.out ?_
     clear hHeld
     refine hK.out _ _ ?_ (fun hHeld => ?_)
     ·trivial
     clear hK K
     try simp only [nz]
     refine rd 13 (fun K hK => ?_)
     rw [if_pos (by rfl)]
     refine wp_loadAt rfl rfl L1.out ?_
     clear hHeld
     refine hK.out _ _ ?_ (fun hHeld => ?_)
     ·trivial
     clear hK K
     try simp only [nz]
     refine tk 14 ?_
     try simp only [nz]
     refine rd 15 (fun K hK => ?_)
     rw [if_pos (by rfl)]
     refine wp_storeAt rfl rfl rfl T1.out ?_
     clear hHeld
     refine hK.out _ _ ?_ (fun hHeld => ?_)
     ·trivial
     clear hK K
     try simp only [nz]
     refine tk 16 ?_
     try simp only [nz]
     refine rd 17 (fun K hK => ?_)
     rw [if_pos (by rfl)]
     refine wp_storeAt rfl rfl rfl T2.out ?_
     clear hHeld
     refine hK.out _ _ ?_ (fun hHeld => ?_)
     ·trivial
     clear hK K
     try simp only [nz]
     refine wpAnyH_done (by kernel_rfl) ?_ _
     rotate_left 1
     rw [if_pos (by rfl)]
     refine wp_loadAt rfl rfl L1.out ?_
     clear hHeld
     refine hK.out _ _ ?_ (fun hHeld => ?_)
     ·trivial
     clear hK K
     try simp only [nz]
     refine rd 9 (fun K hK => ?_)
     rw [if_pos (by rfl)]
     refine wp_loadAt rfl rfl L2.out ?_
     clear hHeld
     refine hK.out _ _ ?_ (fun hHeld => ?_)
     ·trivial
     clear hK K
     try simp only [nz]
     refine tk 14 ?_
     try simp only [nz]
     refine rd 15 (fun K hK => ?_)
     rw [if_pos (by rfl)]
     refine wp_storeAt rfl rfl rfl T1.out ?_
     clear hHeld
     refine hK.out _ _ ?_ (fun hHeld => ?_)
     ·trivial
     clear hK K
     try simp only [nz]
     refine tk 16 ?_
     try simp only [nz]
     refine rd 17 (fun K hK => ?_)
     rw [if_pos (by rfl)]
     refine wp_storeAt rfl rfl rfl T2.out ?_
     clear hHeld
     refine hK.out _ _ ?_ (fun hHeld => ?_)
     ·trivial
     clear hK K
     try simp only [nz]
     refine wpAnyH_done (by kernel_rfl) ?_ _
     rotate_left 1
     all_goals
      go_wp2_with fail
      go_roundw
      case rel => exact ⟨y, _, by go_num, hjy, hym, HA7.out, HSW.out, HNM.out, (hG2.out.trans GD7.out).trans HG7.out⟩
      case measure => simp [intOf]; omega
    ·obtain rfl : k = j := by omega
     have HS : Hid (SortedOn (ltOf cv) a e0 q) := by
      rw [Hid, hQ.out, hm.out]
      exact merge_last HW.out hs1.out hai hkm hlo.out hhi.out
     have t1 : decide ((k : Int) < (k : Int)) = false := by simp
     go_wp2_with fail
     refine bodyPost_ret (results_none (by rfl) _ _ _) rfl ?_
     exact ⟨⟨_, rfl⟩, q, hA2.out, hM2.out, HS.out, hG2.out⟩
end Go.Proofs.YtehghladpnpcoaaGreatDoor.Stable
