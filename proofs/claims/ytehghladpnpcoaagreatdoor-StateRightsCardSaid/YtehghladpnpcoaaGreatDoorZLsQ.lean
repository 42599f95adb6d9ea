/- Pairs as rows; tabulariumref18.attrs. -/
import Derived.Test.YtehghladpnpcoaaGreatDoorZLsB
set_option linter.unusedVariables false
set_option linter.unusedSimpArgs false
set_option maxRecDepth 100000
set_option maxHeartbeats 16000000
namespace Go.Proofs.YtehghladpnpcoaaGreatDoor.State
open Go.RowKit Go.Shelf Go.Proofs.YtehghladpnpcoaaGreatDoor.Utf Go.Proofs.YtehghladpnpcoaaGreatDoor.Strs Go.Proofs.YtehghladpnpcoaaGreatDoor.Addr
open Go.Proofs.YtehghladpnpcoaaGreatDoor.Jdec (IsTexts Turn infoStr gb_set gb_below gb_drew gb_refl)
abbrev Pr := ByteArray × ByteArray
def pairL (x : Pr) : List Value := [.string x.1, .string x.2]
theorem flat_pairs (l : List Pr) : Flat 2 (l.map pairL) :=
 ⟨fun x hx => by obtain ⟨y, _, rfl⟩ := List.mem_map.1 hx; rfl, fun x hx u hu => by
  obtain ⟨y, _, rfl⟩ := List.mem_map.1 hx
  simp only [pairL, List.mem_cons, List.not_mem_nil, or_false] at hu
  rcases hu with rfl | rfl <;> rfl⟩
theorem pairs_of {w : World} {A : Nat → Prop} {ra : Option Addr} {l : List Pr} (h : IsPairs w A ra l) : CellsAt w ra (l.map pairL) := by
 rcases h with rfl | ⟨b, o, ha, _, hb, hc⟩
 ·exact .inl rfl
 ·refine .inr ⟨b, o, ha, hb, fun j u hu => ?_⟩
  have hj := (List.getElem?_eq_some_iff.1 hu).1
  rw [flatten_len (flat_pairs _).s, List.length_map] at hj
  have hq : j / 2 < l.length := by omega
  have hm : j % 2 < 2 := Nat.mod_lt _ (by omega)
  have e : j / 2 * 2 + j % 2 = j := by omega
  have h3 := flatten_get (flat_pairs l).s (j / 2) (by rw [List.length_map]; exact hq) (j % 2) hm
  rw [e, hu, List.getElem_map] at h3
  rcases (by omega : j % 2 = 0 ∨ j % 2 = 1) with h0 | h0
  ·rw [h0] at h3
   have h4 : u = .string l[j / 2].1 := by simpa [pairL] using h3
   rw [h4, ← (hc (j / 2) hq).1]
   congr 2; omega
  ·rw [h0] at h3
   have h4 : u = .string l[j / 2].2 := by simpa [pairL] using h3
   rw [h4, ← (hc (j / 2) hq).2]
   congr 2; omega
theorem pairs_in {w : World} {A : Nat → Prop} {ra : Option Addr} {l : List Pr} (h : CellsAt w ra (l.map pairL)) (hA : ∀ b o, ra = some ⟨b, o, none⟩ → A b) : IsPairs w A ra l := by
 rcases h with h | ⟨b, o, ha, hb, hc⟩
 ·exact .inl (by simpa using h)
 ·refine .inr ⟨b, o, ha, hA b o ha, hb, fun i hi => ?_⟩
  have g : ∀ j, j < 2 → (l.map pairL).flatten[i * 2 + j]? = (pairL l[i])[j]? := fun j hj => by
   rw [flatten_get (flat_pairs l).s i (by rw [List.length_map]; exact hi) j hj, List.getElem_map]
  refine ⟨hc (i * 2) _ (by have := g 0 (by omega); rw [Nat.add_zero] at this; rw [this]; rfl), ?_⟩
  rw [Nat.add_assoc]
  exact hc (i * 2 + 1) _ (by rw [g 1 (by omega)]; rfl)
theorem append_pairs (w : World) (B : Nat) (v : Value) (l m : List Pr) (ra : Option Addr) (k n q c : Nat) (h : RowG w B 72 2 v (l.map pairL)) (hM : CellsAt w ra (m.map pairL)) (hk : l.length = k) (hnm : m.length = n) (hq : k + n = q) (hn : q ≤ 3000000) (hB : B ≤ w.heap.size) : ∃ a' c' w', (Builtin.append_ #[36, 36] 36 #[v, .slice ra n c]).run Tryz.prog w = .ok (.slice a' q c') w' ∧ Hid (RowG w' B 72 2 (.slice a' q c') ((l ++ m).map pairL)) ∧ Hid (w.grownBy w' v.ownBlock) ∧ Hid (∀ x, v.ownBlock = some x → B ≤ x) := by
 subst hk
 subst hnm
 subst hq
 obtain ⟨i0, hi0, hz0, hz1, hz2⟩ := info_parts infoPair
 have e1 : (m.map pairL).length = m.length := List.length_map _
 have e2 : (l.map pairL).length = l.length := List.length_map _
 obtain ⟨v', w', hr, hn, hgr⟩ := append_rows w B 36 36 72 i0 _ 2 32 Tryz.underlying36 hi0 hz0 hz1 hz2 rfl (by decide) v (l.map pairL) (m.map pairL) ra c h hM (flat_pairs m) (by rw [e1, e2]; omega) (by rw [e1, e2]; exact hn) hB
 rw [e1] at hr
 obtain ⟨a', c', rfl, _, _, _, hb⟩ := hn.form
 have hlen : (l.map pairL ++ m.map pairL).length = l.length + m.length := by rw [List.length_append, e1, e2]
 rw [hlen] at hr hn
 have hown : ∀ k, v.ownBlock = some k → B ≤ k := by obtain ⟨_, _, _, _, _, _, h⟩ := h.form; exact h
 refine ⟨a', c', w', hr, ?_, hgr, hown⟩
 rw [Hid, List.map_append]
 exact hn
theorem pair_cellsAt {w : World} {b : Nat} {x : Pr} (h : w.heap[b]? = some (.cells #[.string x.1, .string x.2] 72 (0, 0))) : CellsAt w (some ⟨b, 0, none⟩) ([x].map pairL) := by
 refine .inr ⟨b, 0, rfl, heap_lt h, fun j u hu => ?_⟩
 rw [Nat.zero_add, cell_of h j]
 simpa [pairL] using hu
theorem ains_tail (W : World) (out : List Pr) (a0 : Option Addr) (c0 : Nat) (x : Pr) (k i : Nat) (A : Nat → Prop) (h : IsPairs W A a0 out) (hi : out.length = i) (hc : i ≤ c0) (hn : i ≤ 3000) (hk : k ≤ i) :
  ∃ a1 c1 wA, (Builtin.append_ #[36, 36] 36 #[.slice none 0 0, .slice a0 k c0]).run Tryz.prog W = .ok (.slice a1 k c1) wA ∧ Hid (Below W.heap.size W wA) ∧
  ∃ wB, wA.alloc (.cells #[.string x.1, .string x.2] 72) = wB ∧
  ∃ a2 c2 wC, (Builtin.append_ #[36, 36] 36 #[.slice a1 k c1, .slice (some ⟨wA.heap.size, 0, none⟩) 1 1]).run Tryz.prog wB = .ok (.slice a2 (k + 1) c2) wC ∧
  ∃ a4, (if c0 = k then a0 else Option.map (fun x => x.add (k * 2)) a0) = a4 ∧
  ∃ a3 c3 wD, (Builtin.append_ #[36, 36] 36 #[.slice a2 (k + 1) c2, .slice a4 (i - k) (c0 - k)]).run Tryz.prog wC = .ok (.slice a3 (i + 1) c3) wD ∧
  Hid (IsPairs wD (fun b => W.heap.size ≤ b) a3 (out.take k ++ x :: out.drop k)) ∧ Hid (i + 1 ≤ c3) ∧ Hid (Below W.heap.size W wD) := by
 have hcs := pairs_of h
 have e1 : (out.take k).length = k := by rw [List.length_take]; omega
 have e2 : (out.drop k).length = i - k := by rw [List.length_drop, hi]
 have k1 := hcs.take k
 rw [← List.map_take] at k1
 obtain ⟨a1, c1, wA, r1, R1, G1, O1⟩ := append_pairs W W.heap.size (.slice none 0 0) [] (out.take k) a0 0 k k c0 (RowG.nil _ _ _ _) k1 rfl e1 (by omega) (by omega) (Nat.le_refl _)
 rw [List.nil_append] at R1
 have BA : Below W.heap.size W wA := (Below.refl _ _).grown G1.out (Nat.le_refl _) (fun x hx => by cases hx)
 obtain ⟨wB, hwB, VB, BB⟩ := pair_new wA x.1 x.2
 have BWB : Below W.heap.size W wB := BA.trans (BB.out.mono BA.size)
 obtain ⟨a2, c2, wC, r2, R2, G2, O2⟩ := append_pairs wB W.heap.size (.slice a1 k c1) (out.take k) [x] (some ⟨wA.heap.size, 0, none⟩) k 1 (k + 1) 1 (R1.out.below BB.out) (pair_cellsAt VB.out) e1 rfl rfl (by omega) BWB.size
 have BC : Below W.heap.size W wC := BWB.grown G2.out BWB.size (fun x hx => O2.out x hx)
 have k2 := (hcs.stays BC).rest (flat_pairs out) (rc := c0) (by rw [List.length_map, hi]; exact hc) k
 rw [← List.map_drop] at k2
 obtain ⟨a4, ha4⟩ : ∃ q : Option Addr, (if c0 = k then a0 else Option.map (fun x => x.add (k * 2)) a0) = q := ⟨_, rfl⟩
 rw [ha4] at k2
 obtain ⟨a3, c3, wD, r3, R3, G3, O3⟩ := append_pairs wC W.heap.size (.slice a2 (k + 1) c2) (out.take k ++ [x]) (out.drop k) a4 (k + 1) (i - k) (i + 1) (c0 - k) R2.out k2 (by rw [List.length_append, e1]; rfl) e2 (by omega) (by omega) BC.size
 have hpt : (out.take k ++ [x]) ++ out.drop k = out.take k ++ x :: out.drop k := by rw [List.append_assoc]; rfl
 have hpl : ((out.take k ++ x :: out.drop k).map pairL).length = i + 1 := by rw [List.length_map, ← hpt, List.length_append, List.length_append, e1, e2]; simp; omega
 rw [hpt] at R3
 obtain ⟨a, c, hv, hcc, hI, hb, _⟩ := R3.out.form
 rw [hpl] at hv hcc
 injection hv with h1 _ h2
 subst h1 h2
 exact ⟨a1, c1, wA, r1, BA, wB, hwB, a2, c2, wC, r2, a4, ha4, a3, c3, wD, r3, pairs_in hI hb, hcc, BC.grown G3.out BC.size (fun x hx => O3.out x hx)⟩
def insP : List Pr → Pr → List Pr
 | [], x => [x]
 | y :: t, x => if ltB x.1 y.1 then x :: y :: t else y :: insP t x
theorem insP_at : ∀ (l : List Pr) (x : Pr) (k : Nat), k ≤ l.length → (∀ m (h : m < l.length), m < k → ltB x.1 l[m].1 = false) → (∀ h : k < l.length, ltB x.1 l[k].1 = true) → insP l x = l.take k ++ x :: l.drop k
 | [], x, k, hk, _, _ => by simp at hk; subst hk; rfl
 | y :: t, x, 0, _, _, h => by have h0 : ltB x.1 y.1 = true := h (by simp); rw [insP, if_pos h0]; rfl
 | y :: t, x, k + 1, hk, h1, h2 => by
  have h0 := h1 0 (by simp) (by omega)
  rw [insP, if_neg (by simpa using h0), insP_at t x k (by simpa using hk) (fun m h hm => h1 (m + 1) (by simpa using h) (by omega)) (fun h => h2 (by simpa using h))]
  rfl
def attrsP (l : List Pr) : List Pr := l.foldl insP []
theorem insP_len (l : List Pr) (x : Pr) : (insP l x).length = l.length + 1 := by
 induction l with
 | nil => rfl
 | cons y t ih => rw [insP]; split <;> simp [ih]
theorem attrsP_take (l : List Pr) (i : Nat) (h : i < l.length) : attrsP (l.take (i + 1)) = insP (attrsP (l.take i)) l[i] := by
 rw [List.take_add_one, attrsP, List.foldl_append, List.getElem?_eq_getElem h]
 rfl
theorem attrsP_len (l : List Pr) : (attrsP l).length = l.length := by
 have : ∀ (l m : List Pr), (l.foldl insP m).length = m.length + l.length := fun l => by
  induction l with
  | nil => intro m; simp
  | cons x t ih => intro m; rw [List.foldl_cons, ih, insP_len, List.length_cons]; omega
 rw [attrsP, this]; simp
theorem attrs18_any (l : List Pr) (ra : Option Addr) (rc : Nat) (w : World) (h : IsPairs w (fun _ => True) ra l) (hn : l.length ≤ 3000) : Calls Tryz.prog 50 #[.slice ra l.length rc] w fun e w' => ∃ a c, e = .returned (.slice a l.length c) ∧ IsPairs w' (fun b => w.heap.size ≤ b) a (attrsP l) ∧ l.length ≤ c ∧ Below w.heap.size w w' := by
 have HL : Hid (∀ W, Below w.heap.size w W → IsPairs W (fun _ => True) ra l) := fun W hb => h.turn (Turn.below hb)
 clear h
 go_enter Tryz.func50, Tryz.ntmps50
 go_wp2_with fail
 go_loopw [3, 4] (fun p3 p4 wr => ∃ (i : Nat) (a : Option Addr) (c : Nat), p3 = .slice a i c ∧ p4 = .int .i64 i ∧ i ≤ l.length ∧ i ≤ c ∧ Hid (IsPairs wr (fun b => w.heap.size ≤ b) a (attrsP (l.take i))) ∧ Hid (Below w.heap.size w wr)) (fun _ p4 _ => l.length - (intOf p4).toNat)
 case atStart => exact ⟨0, none, 0, rfl, rfl, Nat.zero_le _, Nat.zero_le _, .inl rfl, Below.refl _ _⟩
 case round =>
  obtain ⟨i, a, c, rfl, rfl, hi, hic, hI, hB⟩ := hrel
  by_cases hlt : i < l.length
  ·obtain ⟨wo, rfl⟩ : ∃ wo, wo = wr := ⟨wr, rfl⟩
   obtain ⟨out, hout⟩ : ∃ q, attrsP (l.take i) = q := ⟨_, rfl⟩
   obtain ⟨x, hx⟩ : ∃ q, l[i] = q := ⟨_, rfl⟩
   have hlen : out.length = i := by rw [← hout, attrsP_len, List.length_take]; omega
   have HLEN := hdQ hlen
   rw [hout] at hI
   have HNEXT : Hid (attrsP (l.take (i + 1)) = insP out x) := by rw [Hid, attrsP_take l i hlt, hout, hx]
   rcases (HL.out wo hB.out) with h0 | ⟨b2, o2, hra, _, hb2, hc2⟩
   ·rw [h0] at hlt; simp at hlt
   have hx1 := (hc2 i hlt).1
   have hx2 := (hc2 i hlt).2
   rw [hx] at hx1 hx2
   have HX : Hid (∀ W, Below wo.heap.size wo W → W.cell? ⟨b2, o2 + i * 2, none⟩ = some (.string x.1) ∧ W.cell? ⟨b2, o2 + i * 2 + 1, none⟩ = some (.string x.2)) := fun W hW => by rw [cell_blk (hW.block b2 hb2), cell_blk (hW.block b2 hb2)]; exact ⟨hx1, hx2⟩
   subst hra
   clear hx1 hx2 hc2 hout hx hlen
   go_wp2_with fail
   go_loopw [5] (fun p5 wr => ∃ k : Nat, p5 = .int .i64 k ∧ k ≤ i ∧ Hid (∀ m (h : m < out.length), m < k → ltB x.1 out[m].1 = false) ∧ Hid (Below wo.heap.size wo wr)) (fun p5 _ => i - (intOf p5).toNat)
   case atStart => exact ⟨0, rfl, Nat.zero_le _, fun m _ h => by omega, Below.refl _ _⟩
   case round =>
    obtain ⟨k, rfl, hk, hL, hBx⟩ := hrel
    have hdr : Below wr.heap.size wr wr.drew := (Below.refl _ _).drew
    have hBd : Below wo.heap.size wo wr.drew := hBx.out.trans (hdr.mono hBx.out.size)
    have HBd : Hid (Below wo.heap.size wo wr.drew) := hBd
    obtain ⟨xw1, xw2⟩ := HX.out wr hBx.out
    obtain ⟨xd1, xd2⟩ := HX.out wr.drew hBd
    by_cases hki : k < i
    ·have hko : k < out.length := by rw [HLEN.out]; exact hki
     have HTRUE := hdQ hki
     rcases hI.out with h0 | ⟨b, o, ha, _, hb, hc⟩
     ·rw [h0] at hko; simp at hko
     obtain ⟨y, hy⟩ : ∃ q, out[k]'hko = q := ⟨_, rfl⟩
     have hy1 := (hc k hko).1
     rw [hy] at hy1
     have HY : Hid (∀ W, Below wo.heap.size wo W → W.cell? ⟨b, o + k * 2, none⟩ = some (.string y.1)) := fun W hW => by rw [cell_blk (hW.block b hb)]; exact hy1
     have yw1 := HY.out wr hBx.out
     have yd1 := HY.out wr.drew hBd
     have HQY := hdQ hy
     have hsw := less_swap y.1.toList x.1.toList
     obtain ⟨c1, h1⟩ : ∃ c, Op.bytesLess y.1.toList x.1.toList = c := ⟨_, rfl⟩
     obtain ⟨c2, h2⟩ : ∃ c, (y.1.toList == x.1.toList) = c := ⟨_, rfl⟩
     rw [h1, h2] at hsw
     have HSW := hdQ hsw
     have t1 : decide ((k : Int) < (i : Int)) = true := by rw [dtQ]; omega
     have t2 : decide (k < i) = true := by rw [dtQ]; omega
     subst ha
     clear hy hy1 hc hsw hBd hdr
     obtain ⟨cc, hcc⟩ : ∃ c, (c1 || c2) = c := ⟨_, rfl⟩
     cases cc
     ·obtain ⟨rfl, rfl⟩ : c1 = false ∧ c2 = false := by cases c1 <;> cases c2 <;> first | (exact ⟨rfl, rfl⟩) | (cases hcc)
      go_wp2_with fail
      refine wp_region_held_drew (S := (fun w' => w'.cell? ⟨b, o + k * 2, none⟩ = some (.string y.1) ∧ w'.cell? ⟨b2, o2 + i * 2, none⟩ = some (.string x.1))) (by kernel_rfl) ?_ (fun hHeld => ?_)
      ·go_keep
      refine tk 0 ?_
      refine tk 1 ?_
      refine tk 2 ?_
      try simp only [nz]
      refine tk 3 ?_
      refine tk 4 ?_
      refine tk 5 ?_
      try simp only [nz]
      refine tk 6 ?_
      refine tk 7 ?_
      refine tk 8 ?_
      try simp only [nz]
      refine tl 9 ?_
      refine tk 10 ?_
      refine tk 11 ?_
      try simp only [nz]
      refine tk 12 ?_
      refine tk 13 ?_
      refine tl 14 ?_
      try simp only [nz]
      refine tk 15 ?_
      refine tk 16 ?_
      try simp only [nz]
      refine wpAnyH_done (by kernel_rfl) ?_ _
      obtain ⟨a1, d1, wA, r1, BA, wB, hwB, a2, d2, wC, rr2, a4, ha4, a3, d3, wD, r3, hI3, hd3, hBD⟩ := ains_tail wr.drew out (some ⟨b, o, none⟩) c x k i _ (hI.out.turn (Turn.below HBd.out)) HLEN.out hic (by omega) (by omega)
      have HSZ : Hid (w.heap.size ≤ wr.drew.heap.size) := Nat.le_trans hB.out.size HBd.out.size
      rw [if_neg (by omega), Option.map_some, addr_add] at ha4
      subst ha4
      have HR1 := hdQ r1
      have HR2 := hdQ rr2
      have HR3 := hdQ r3
      obtain ⟨xa1, xa2⟩ := HX.out wA (HBd.out.trans (BA.out.mono HBd.out.size))
      have hkc : k ≤ c := by omega
      have HINS : Hid (insP out x = out.take k ++ x :: out.drop k) := insP_at out x k (by have := HLEN.out; omega) hL.out (fun h => by rw [HQY.out, ltB, HSW.out]; rfl)
      clear r1 rr2 r3
      go_wp2_with (first
       | (at_builtin; refine wpList_append_run (.slice none 0 0) (.slice (some ⟨b, o, none⟩) k c) 36 HR1.out rfl _ _ rfl rfl rfl ?_)
       | (at_builtin; refine wpList_append_run (.slice a1 k d1) (.slice (some ⟨wA.heap.size, 0, none⟩) 1 1) 36 HR2.out rfl _ _ rfl rfl rfl ?_)
       | (at_builtin; refine wpList_append_run (.slice a2 (k + 1) d2) (.slice (some ⟨b, o + k * 2, none⟩) (i - k) (c - k)) 36 HR3.out rfl _ _ rfl rfl rfl ?_))
      go_roundw
      case rel => exact ⟨i + 1, a3, d3, rfl, by go_num, by omega, hd3.out, by rw [Hid, HNEXT.out, HINS.out]; exact hI3.out.turn (Turn.mono _ (fun b hb _ => by have := HSZ.out; have h0 : wr.drew.heap.size ≤ b := hb; show w.heap.size ≤ b; omega)), hB.out.trans ((HBd.out.trans (hBD.out.mono HBd.out.size)).mono hB.out.size)⟩
      case measure => simp [intOf]; omega
     ·have HN : Hid (∀ m (h : m < out.length), m < k + 1 → ltB x.1 out[m].1 = false) := fun m hm hmk => by
       by_cases e : m = k
       ·subst e; rw [HQY.out, ltB, HSW.out, hcc]; rfl
       ·exact hL.out m hm (by omega)
      rcases (by cases c1 <;> cases c2 <;> first | (exact .inl rfl) | (exact .inr ⟨rfl, rfl⟩) | (cases hcc) : c1 = true ∨ (c1 = false ∧ c2 = true)) with rfl | ⟨rfl, rfl⟩
      ·go_wp2_with fail
       refine wp_region_held_drew (S := (fun w' => w'.cell? ⟨b, o + k * 2, none⟩ = some (.string y.1) ∧ w'.cell? ⟨b2, o2 + i * 2, none⟩ = some (.string x.1))) (by kernel_rfl) ?_ (fun hHeld => ?_)
       ·go_keep
       refine tk 0 ?_
       refine tk 1 ?_
       refine tk 2 ?_
       try simp only [nz]
       refine tk 3 ?_
       refine tk 4 ?_
       refine tk 5 ?_
       try simp only [nz]
       refine tk 6 ?_
       refine tk 7 ?_
       refine tk 8 ?_
       try simp only [nz]
       refine tl 9 ?_
       refine tk 10 ?_
       refine tk 11 ?_
       try simp only [nz]
       refine tk 12 ?_
       refine tk 13 ?_
       refine tl 14 ?_
       try simp only [nz]
       refine tk 15 ?_
       refine tk 16 ?_
       try simp only [nz]
       refine wpAnyH_done (by kernel_rfl) ?_ _
       go_wp2_with fail
       go_roundw
       case rel => exact ⟨k + 1, by go_num, by omega, HN.out, HBd.out⟩
       case measure => simp [intOf]; omega
      ·go_wp2_with fail
       refine wp_region_held_drew (S := (fun w' => w'.cell? ⟨b, o + k * 2, none⟩ = some (.string y.1) ∧ w'.cell? ⟨b2, o2 + i * 2, none⟩ = some (.string x.1))) (by kernel_rfl) ?_ (fun hHeld => ?_)
       ·go_keep
       refine tk 0 ?_
       refine tk 1 ?_
       refine tk 2 ?_
       try simp only [nz]
       refine tk 3 ?_
       refine tk 4 ?_
       refine tk 5 ?_
       try simp only [nz]
       refine tk 6 ?_
       refine tk 7 ?_
       refine tk 8 ?_
       try simp only [nz]
       refine tl 9 ?_
       refine tk 10 ?_
       refine tk 11 ?_
       try simp only [nz]
       refine tk 12 ?_
       refine tk 13 ?_
       refine tl 14 ?_
       try simp only [nz]
       refine tk 15 ?_
       refine tk 16 ?_
       try simp only [nz]
       refine wpAnyH_done (by kernel_rfl) ?_ _
       go_wp2_with fail
       go_roundw
       case rel => exact ⟨k + 1, by go_num, by omega, HN.out, HBd.out⟩
       case measure => simp [intOf]; omega
    ·have e : k = i := by omega
     subst e
     have t1 : decide ((k : Int) < (k : Int)) = false := by rw [dfQ]; omega
     go_wp2_with fail
     refine wp_region_held_drew (S := (fun w' => w'.cell? ⟨b2, o2 + k * 2, none⟩ = some (.string x.1))) (by kernel_rfl) ?_ (fun hHeld => ?_)
     ·go_keep
     refine tk 0 ?_
     refine tk 1 ?_
     refine tk 2 ?_
     try simp only [nz]
     refine tk 3 ?_
     refine tk 4 ?_
     refine tn 5 ?_
     try simp only [nz]
     refine tn 6 ?_
     refine tn 7 ?_
     refine tn 8 ?_
     try simp only [nz]
     refine tn 9 ?_
     refine tn 10 ?_
     refine tn 11 ?_
     try simp only [nz]
     refine tn 12 ?_
     refine tn 13 ?_
     refine tn 14 ?_
     try simp only [nz]
     refine tn 15 ?_
     refine tk 16 ?_
     try simp only [nz]
     refine wpAnyH_done (by kernel_rfl) ?_ _
     obtain ⟨a1, d1, wA, r1, BA, wB, hwB, a2, d2, wC, rr2, a4, ha4, a3, d3, wD, r3, hI3, hd3, hBD⟩ := ains_tail wr.drew out a c x k k _ (hI.out.turn (Turn.below HBd.out)) HLEN.out hic (by omega) (by omega)
     have HSZ : Hid (w.heap.size ≤ wr.drew.heap.size) := Nat.le_trans hB.out.size HBd.out.size
     rw [Nat.sub_self] at r3
     have HR1 := hdQ r1
     have HR2 := hdQ rr2
     have HR3 := hdQ r3
     obtain ⟨xa1, xa2⟩ := HX.out wA (HBd.out.trans (BA.out.mono HBd.out.size))
     have hkc : k ≤ c := by omega
     have HINS : Hid (insP out x = out.take k ++ x :: out.drop k) := insP_at out x k (by have := HLEN.out; omega) hL.out (fun h => by have := HLEN.out; omega)
     clear r1 rr2 r3
     go_wp2_with (first
      | (at_builtin; refine wpList_append_run (.slice none 0 0) (.slice a k c) 36 HR1.out rfl _ _ rfl rfl rfl ?_)
      | (at_builtin; refine wpList_append_run (.slice a1 k d1) (.slice (some ⟨wA.heap.size, 0, none⟩) 1 1) 36 HR2.out rfl _ _ rfl rfl rfl ?_)
      | (at_builtin; refine wpList_append_run (.slice a2 (k + 1) d2) (.slice a4 0 (c - k)) 36 HR3.out rfl _ _ rfl rfl rfl ?_))
     go_roundw
     case rel => exact ⟨k + 1, a3, d3, rfl, by go_num, by omega, hd3.out, by rw [Hid, HNEXT.out, HINS.out]; exact hI3.out.turn (Turn.mono _ (fun b hb _ => by have := HSZ.out; have h0 : wr.drew.heap.size ≤ b := hb; show w.heap.size ≤ b; omega)), hB.out.trans ((HBd.out.trans (hBD.out.mono HBd.out.size)).mono hB.out.size)⟩
     case measure => simp [intOf]; omega
  ·have e : i = l.length := by omega
   subst e
   have HIL : Hid (IsPairs wr (fun b => w.heap.size ≤ b) a (attrsP l)) := by rw [Hid, ← List.take_length (l := l)]; rw [List.take_length]; simpa using hI.out
   go_wp2_with fail
   go_ret
   exact ⟨a, c, rfl, HIL.out, hic, hB.out⟩
theorem mem_insP (l : List Pr) (x y : Pr) : y ∈ insP l x ↔ y = x ∨ y ∈ l := by
 induction l with
 | nil => simp [insP]
 | cons z t ih =>
  rw [insP]
  split
  ·simp
  ·simp only [List.mem_cons, ih]
   constructor
   ·rintro (h | h | h)
    ·exact .inr (.inl h)
    ·exact .inl h
    ·exact .inr (.inr h)
   ·rintro (h | h | h)
    ·exact .inr (.inl h)
    ·exact .inl h
    ·exact .inr (.inr h)
theorem mem_attrsP (l : List Pr) (y : Pr) : y ∈ attrsP l ↔ y ∈ l := by
 have : ∀ (l m : List Pr), y ∈ l.foldl insP m ↔ y ∈ l ∨ y ∈ m := fun l => by
  induction l with
  | nil => intro m; simp
  | cons x t ih =>
   intro m
   rw [List.foldl_cons, ih, mem_insP, List.mem_cons]
   constructor
   ·rintro (h | h | h)
    ·exact .inl (.inr h)
    ·exact .inl (.inl h)
    ·exact .inr h
   ·rintro ((h | h) | h)
    ·exact .inr (.inl h)
    ·exact .inl h
    ·exact .inr (.inr h)
 rw [attrsP, this]; simp
def tidy (r : Rec) : Rec := { r with attrs := attrsP r.attrs }
theorem tidy_small {r : Rec} (h : Small r) : Small (tidy r) :=
 ⟨h.l, h.s, h.ty, h.nm, h.wd, h.p, h.pr, h.id, (by show (attrsP r.attrs).length ≤ 3000; rw [attrsP_len]; exact h.n), fun x hx => h.at1 x ((mem_attrsP _ _).1 hx), fun x hx => h.at2 x ((mem_attrsP _ _).1 hx)⟩
def insR : List Rec → Rec → List Rec
 | [], r => [r]
 | y :: t, r => if Op.bytesLess (printA r.a) (printA y.a) then r :: y :: t else y :: insR t r
theorem insR_at' : ∀ (l : List Rec) (r : Rec) (k : Nat), k ≤ l.length → (∀ m (h : m < l.length), m < k → Op.bytesLess (printA r.a) (printA l[m].a) = false) → (∀ h : k < l.length, Op.bytesLess (printA r.a) (printA l[k].a) = true) → insR l r = l.take k ++ r :: l.drop k
 | [], x, k, hk, _, _ => by simp at hk; subst hk; rfl
 | y :: t, x, 0, _, _, h => by have h0 : Op.bytesLess (printA x.a) (printA y.a) = true := h (by simp); rw [insR, if_pos h0]; rfl
 | y :: t, x, k + 1, hk, h1, h2 => by
  have h0 := h1 0 (by simp) (by omega)
  rw [insR, if_neg (by simpa using h0), insR_at' t x k (by simpa using hk) (fun m h hm => h1 (m + 1) (by simpa using h) (by omega)) (fun h => h2 (by simpa using h))]
  rfl
theorem insR_at {l : List Rec} {r : Rec} {k : Nat} (h : Behind l (printA r.a) k) : putR l r k k = insR l r := (insR_at' l r k h.n h.lo h.hi).symm
theorem insR_len (l : List Rec) (r : Rec) : (insR l r).length = l.length + 1 := by
 induction l with
 | nil => rfl
 | cons y t ih => rw [insR]; split <;> simp [ih]
theorem mem_insR (l : List Rec) (x y : Rec) : y ∈ insR l x ↔ y = x ∨ y ∈ l := by
 induction l with
 | nil => simp [insR]
 | cons z t ih =>
  rw [insR]
  split
  ·simp
  ·simp only [List.mem_cons, ih]
   constructor
   ·rintro (h | h | h)
    ·exact .inr (.inl h)
    ·exact .inl h
    ·exact .inr (.inr h)
   ·rintro (h | h | h)
    ·exact .inr (.inl h)
    ·exact .inl h
    ·exact .inr (.inr h)
def sortR (l : List Rec) : List Rec := (l.map tidy).foldl insR []
theorem sortR_take (l : List Rec) (i : Nat) (h : i < l.length) : sortR (l.take (i + 1)) = insR (sortR (l.take i)) (tidy l[i]) := by
 rw [List.take_add_one, sortR, List.map_append, List.foldl_append, List.getElem?_eq_getElem h]
 rfl
theorem sortR_len (l : List Rec) : (sortR l).length = l.length := by
 have : ∀ (l m : List Rec), (l.foldl insR m).length = m.length + l.length := fun l => by
  induction l with
  | nil => intro m; simp
  | cons x t ih => intro m; rw [List.foldl_cons, ih, insR_len, List.length_cons]; omega
 rw [sortR, this, List.length_map]; simp
theorem mem_sortR (l : List Rec) (y : Rec) : y ∈ sortR l ↔ ∃ x ∈ l, tidy x = y := by
 have : ∀ (l m : List Rec), y ∈ l.foldl insR m ↔ y ∈ l ∨ y ∈ m := fun l => by
  induction l with
  | nil => intro m; simp
  | cons x t ih =>
   intro m
   rw [List.foldl_cons, ih, mem_insR, List.mem_cons]
   constructor
   ·rintro (h | h | h)
    ·exact .inl (.inr h)
    ·exact .inl (.inl h)
    ·exact .inr h
   ·rintro ((h | h) | h)
    ·exact .inr (.inl h)
    ·exact .inl h
    ·exact .inr (.inr h)
 rw [sortR, this]; simp
theorem sortR_small {l : List Rec} (h : ∀ r ∈ l, Small r) : ∀ r ∈ sortR l, Small r := fun r hr => by
 obtain ⟨x, hx, rfl⟩ := (mem_sortR l r).1 hr
 exact tidy_small (h x hx)
noncomputable def sortS (s : Sta) : Sta × Nat :=
 if decide (badZ s.lin.data.toList < 0) && s.recs.all looseB then (if rightS ⟨s.serial, s.lin, sortR s.recs⟩ then (⟨s.serial, s.lin, sortR s.recs⟩, 0) else (Sta.zero, 6)) else (Sta.zero, 1)
structure RSI (s : Sta) (w3 : World) (x2 x4 : Nat) (i : Nat) (a : Option Addr) (c : Nat) (wr : World) : Prop where
 V : wr.heap[x4]? = some (.cells (staArr a c ⟨s.serial, s.lin, sortR (s.recs.take i)⟩) 25 (0, 0))
 R : IsRecs wr (fun b => b ≠ x2 ∧ b ≠ x4) a (sortR (s.recs.take i))
 C : i ≤ c
 L : ∀ r ∈ s.recs.take i, looseB r = true
 B : Below w3.heap.size w3 wr
def RsPost (s : Sta) (w : World) (e : Ending) (w' : World) : Prop := Below w.heap.size w w' ∧ ∃ a c, e = .returned (.tuple #[.agg #[.int .u64 (sortS s).1.serial, .string (sortS s).1.lin, .slice a (sortS s).1.recs.length c], .int .i64 (sortS s).2]) ∧ IsRecs w' (fun _ => True) a (sortS s).1.recs ∧ (sortS s).1.recs.length ≤ c
theorem rs_ret (s : Sta) (x : Int) (w' : World) (tm : Array Value) (b : Nat) (a : Option Addr) (c : Nat) (Q : Ending → World → Prop) (hb : w'.heap[b]? = some (.cells (staArr a c s) 25 (0, 0))) (h2 : tm[2]? = some (.pointer (some ⟨b, 0, none⟩))) (h3 : tm[3]? = some (.int .i64 x)) (hq : Q (.returned (.tuple #[staV a c s, .int .i64 x])) w') : bodyPost Tryz.prog Tryz.f13 Q Exit.ret { tmps := tm, defers := [] } w' := by
 obtain ⟨c0, c1, c2⟩ := sta_cells hb
 refine bodyPost_ret (v := .tuple #[staV a c s, .int .i64 x]) ?_ rfl hq
 simp [results, Tryz.results13, go_sem, h2, h3, c0, c1, c2, staV]
theorem rsort18_any (s : Sta) (ra : Option Addr) (rc : Nat) (w : World) (h : RecsAt w ra s.recs) (hl : s.lin.size ≤ 6000) : Calls Tryz.prog 13 #[staV ra rc s] w (RsPost s w) := by
 obtain ⟨w1, hw1, V1, B1⟩ := sta_new w ra rc s
 obtain ⟨w2, hw2, V2, B2, Z2⟩ := zsta_new w1
 have hl1 := heap_lt V1.out
 have hl2 := heap_lt V2.out
 have HS1 := hdQ B1.out.size
 have B02 : Hid (Below w.heap.size w w2) := B1.out.trans (B2.out.mono (by omega))
 have HKA : Hid (∀ W, Below w2.heap.size w2 W → W.heap[w.heap.size]? = some (.cells (staArr ra rc s) 25 (0, 0))) := fun W hb => (hb.block _ (by omega)).trans ((B2.out.block _ hl1).trans V1.out)
 have HKZ : Hid (∀ W, Below w2.heap.size w2 W → W.heap[w1.heap.size]? = some (.cells (staArr none 0 Sta.zero) 25 (0, 0))) := fun W hb => (hb.block _ hl2).trans V2.out
 have HBW : Hid (∀ W, Below w2.heap.size w2 W → Below w.heap.size w W) := fun W hb => B02.out.trans (hb.mono B02.out.size)
 have HR : Hid (∀ W, Below w.heap.size w W → RecsAt W ra s.recs) := fun W hb => h.stays hb
 have hn := h.n
 have HA0 : Hid (IsRecs w (fun b => b < w.heap.size) ra s.recs) := h.t.turn (Turn.mono _ (fun b _ hb => hb))
 obtain ⟨v, hv⟩ : ∃ b, decide (badZ s.lin.data.toList < 0) = b := ⟨_, rfl⟩
 have HV0 := hdQ hv
 have HVA := rutf_ok s.lin w2 hl v hv
 obtain ⟨x0, x1, x2⟩ := sta_cells (HKA.out w2 (Below.refl _ _))
 unfold staV
 clear h hv
 go_enter Tryz.func13, Tryz.ntmps13
 go_wp2_with fail
 refine (Calls.mono HVA.out ?_)
 rintro z w3 ⟨rfl, hb3⟩
 have B3 : Hid (Below w2.heap.size w2 w3) := hb3
 clear hb3 HVA x0 x1 x2 hw1 hw2
 have VZ3 : Hid (w3.heap[w1.heap.size]? = some (.cells (staArr none 0 Sta.zero) 25 (0, 0))) := HKZ.out w3 B3.out
 cases v
 case false =>
  have HSO : Hid (sortS s = (Sta.zero, 1)) := by rw [Hid, sortS, HV0.out]; rfl
  have HB3 : Hid (Below w.heap.size w w3) := HBW.out w3 B3.out
  obtain ⟨z3, hz3⟩ : ∃ q, (((w3.setCell ⟨w1.heap.size, 0, none⟩ (.int .u64 0)).setCell ⟨w1.heap.size, 1, none⟩ (.string ⟨#[]⟩)).setCell ⟨w1.heap.size, 2, none⟩ (.slice none 0 0)) = q := ⟨_, rfl⟩
  have Gz3 : Hid (w3.grownBy z3 (some w1.heap.size)) := by rw [← hz3]; exact (((gb_set _ _ _ _).trans (gb_set _ _ _ _)).trans (gb_set _ _ _ _))
  have Vz3 : Hid (z3.heap[w1.heap.size]? = some (.cells (staArr none 0 Sta.zero) 25 (0, 0))) := by rw [← hz3]; exact set3 (t := Sta.zero) VZ3.out
  have Bz3 : Hid (Below w.heap.size w z3) := HB3.out.grown Gz3.out HB3.out.size (fun x hx => by injection hx with hx; have := HS1.out; omega)
  obtain ⟨rz30, rz31, rz32⟩ := sta_cells VZ3.out
  obtain ⟨sz30, sz31, sz32⟩ := sta_cells Vz3.out
  have fz30 := frozen_of VZ3.out 0
  have fz31 := frozen_of VZ3.out 1
  have fz32 := frozen_of VZ3.out 2
  go_wp2_with fail
  refine rs_ret Sta.zero 1 _ _ w1.heap.size none 0 (RsPost s w) Vz3.out (by rfl) (by rfl) ?_
  rw [RsPost, HSO.out]
  exact ⟨Bz3.out, none, 0, rfl, .inl rfl, Nat.le_refl _⟩
 obtain ⟨x0, x1, x2⟩ := sta_cells (HKA.out w3 B3.out)
 obtain ⟨z4, hz4, Vz4, Bz4, Zz4⟩ := zsta_new w3
 obtain ⟨t4, ht4⟩ : ∃ t4, (((z4.setCell ⟨w3.heap.size, 0, none⟩ (.int .u64 s.serial)).setCell ⟨w3.heap.size, 1, none⟩ (.string s.lin)).setCell ⟨w3.heap.size, 2, none⟩ (.slice none 0 0)) = t4 := ⟨_, rfl⟩
 have Gt4 : Hid (z4.grownBy t4 (some w3.heap.size)) := by rw [← ht4]; exact (((gb_set _ _ _ _).trans (gb_set _ _ _ _)).trans (gb_set _ _ _ _))
 have Vt4 : Hid (t4.heap[w3.heap.size]? = some (.cells (staArr none 0 { s with recs := [] }) 25 (0, 0))) := by rw [← ht4]; exact set3 (t := { s with recs := [] }) Vz4.out
 have Bt4 : Hid (Below w3.heap.size w3 t4) := Bz4.out.grown Gt4.out Bz4.out.size (fun x hx => by injection hx with hx; omega)
 have fz40 := frozen_of Vz4.out 0
 have fz41 := frozen_of Vz4.out 1
 have fz42 := frozen_of Vz4.out 2
 obtain ⟨cz40, cz41, cz42⟩ := sta_cells Vz4.out
 have HB3 : Hid (Below w.heap.size w w3) := HBW.out w3 B3.out
 have HZ3 : Hid (w1.heap.size < w3.heap.size ∧ w.heap.size < w3.heap.size) := ⟨heap_lt VZ3.out, by have := HS1.out; have := heap_lt VZ3.out; omega⟩
 have HK3 : Hid (∀ W, Below w3.heap.size w3 W → Below w2.heap.size w2 W) := fun W hb => B3.out.trans (hb.mono B3.out.size)
 go_wp2_with fail
 clear x0 x1 x2 ht4 hz4
 go_loopw [5] (fun p5 wr => ∃ (i : Nat) (a : Option Addr) (c : Nat), p5 = .int .i64 i ∧ i ≤ s.recs.length ∧ Hid (RSI s w3 w1.heap.size w3.heap.size i a c wr)) (fun p5 _ => s.recs.length - (intOf p5).toNat)
 case atStart => exact ⟨0, none, 0, rfl, Nat.zero_le _, ⟨Vt4.out, .inl rfl, Nat.zero_le _, fun r h => by simp at h, Bt4.out⟩⟩
 case round =>
  obtain ⟨i, a, c, rfl, hi, HI⟩ := hrel
  by_cases hlt : i < s.recs.length
  ·have HB3r : Hid (Below w.heap.size w wr) := HB3.out.trans (HI.out.B.mono HB3.out.size)
   have HSR : Hid (w3.heap.size < wr.heap.size) := heap_lt HI.out.V
   rcases HA0.out with h0 | ⟨b, o, hra, _, hb, f, hc⟩
   ·rw [h0] at hlt; simp at hlt
   obtain ⟨p, hp⟩ : ∃ p, f i = p := ⟨_, rfl⟩
   have hc2 := hc i hlt
   rw [hp] at hc2
   have hcr : ∀ j u, (recArr p s.recs[i])[j]? = some u → wr.cell? ⟨b, o + i * 9 + j, none⟩ = some u := fun j u hu => by rw [cell_blk (HB3r.out.block b hb)]; exact hc2.1 j u hu
   have hir0 : IsRec w (fun b => b < w.heap.size) p s.recs[i] := hc2.2
   have hir : IsRec wr (fun _ => True) p s.recs[i] := (hir0.any).turn (Turn.below HB3r.out)
   clear hc hc2 hp
   have hsm := (HR.out wr HB3r.out).s _ (List.getElem_mem hlt)
   obtain ⟨r, hr⟩ : ∃ r, s.recs[i] = r := ⟨_, rfl⟩
   rw [hr] at hcr hir hsm hir0
   have HRq := hdQ hr
   have HSM := hdQ hsm
   obtain ⟨z0, z1, z2, z3, z4, z5, z6, z7, z8⟩ := recs_nine hcr
   obtain ⟨xk0, xk1, xk2⟩ := sta_cells (HKA.out wr (HK3.out wr HI.out.B))
   rw [hra] at xk2
   obtain ⟨w4, hw4, V4, B4⟩ := rec_new wr p r
   obtain ⟨lo, hlo⟩ : ∃ b, looseB r = b := ⟨_, rfl⟩
   have HLO := hdQ hlo
   have HIR : Hid (∀ W, Below wr.heap.size wr W → IsRec W (fun _ => True) p r) := fun W hW => hir.turn (Turn.below hW)
   have HTX : Hid (Calls Tryz.prog 49 #[.agg #[.slice p.pa r.a.path.length p.pc, .string r.a.type, .string r.a.name, .int .i64 r.a.key, .int .u64 r.a.place, .string r.a.word, .string r.prov, .string r.id, .slice p.ta r.attrs.length p.tc]] w4 fun e w' => e = .returned (.bool lo) ∧ Below w4.heap.size w4 w') := by rw [← hlo]; exact rtexts_any r p w4 (HIR.out w4 B4.out) hsm
   have hl4 := heap_lt V4.out
   obtain ⟨y0, y1, y2, y3, y4, y5, y6, y7, y8⟩ := rec_cells V4.out
   have HRW : Hid (IsRec w (fun b => b < w.heap.size) p r) := hir0
   clear hra hir0 hr hlo hir hcr hsm
   go_wp2_with fail
   refine (Calls.mono HTX.out ?_)
   rintro z w5 ⟨rfl, hb5⟩
   have B5 : Hid (Below wr.heap.size wr w5) := B4.out.trans (hb5.mono B4.out.size)
   have V5 : Hid (w5.heap[wr.heap.size]? = some (.cells (recArr p r) 38 (0, 0))) := (hb5.block _ hl4).trans V4.out
   clear hb5 HTX y0 y1 y2 y3 y4 y5 y6 y7 y8 z0 z1 z2 z3 z4 z5 z6 z7 z8 xk0 xk1 xk2 hw4
   have HB5 : Hid (Below w.heap.size w w5) := HB3r.out.trans (B5.out.mono HB3r.out.size)
   cases lo
   case false =>
    have HSO : Hid (sortS s = (Sta.zero, 1)) := by
     have h1 : s.recs.all looseB = false := by
      rw [List.all_eq_false]
      exact ⟨s.recs[i], List.getElem_mem hlt, by rw [HRq.out, HLO.out]; simp⟩
     rw [Hid, sortS, h1, Bool.and_false]
     rfl
    have VZ5 : Hid (w5.heap[w1.heap.size]? = some (.cells (staArr none 0 Sta.zero) 25 (0, 0))) := HKZ.out w5 (HK3.out w5 (HI.out.B.trans (B5.out.mono HI.out.B.size)))
    obtain ⟨z5, hz5⟩ : ∃ q, (((w5.setCell ⟨w1.heap.size, 0, none⟩ (.int .u64 0)).setCell ⟨w1.heap.size, 1, none⟩ (.string ⟨#[]⟩)).setCell ⟨w1.heap.size, 2, none⟩ (.slice none 0 0)) = q := ⟨_, rfl⟩
    have Gz5 : Hid (w5.grownBy z5 (some w1.heap.size)) := by rw [← hz5]; exact (((gb_set _ _ _ _).trans (gb_set _ _ _ _)).trans (gb_set _ _ _ _))
    have Vz5 : Hid (z5.heap[w1.heap.size]? = some (.cells (staArr none 0 Sta.zero) 25 (0, 0))) := by rw [← hz5]; exact set3 (t := Sta.zero) VZ5.out
    have Bz5 : Hid (Below w.heap.size w z5) := HB5.out.grown Gz5.out HB5.out.size (fun x hx => by injection hx with hx; have := HS1.out; omega)
    obtain ⟨rz50, rz51, rz52⟩ := sta_cells VZ5.out
    obtain ⟨sz50, sz51, sz52⟩ := sta_cells Vz5.out
    have fz50 := frozen_of VZ5.out 0
    have fz51 := frozen_of VZ5.out 1
    have fz52 := frozen_of VZ5.out 2
    go_wp2_with fail
    refine rs_ret Sta.zero 1 _ _ w1.heap.size none 0 (RsPost s w) Vz5.out (by rfl) (by rfl) ?_
    rw [RsPost, HSO.out]
    exact ⟨Bz5.out, none, 0, rfl, .inl rfl, Nat.le_refl _⟩
   case true =>
    have HAT := attrs18_any r.attrs p.ta p.tc w5 (HIR.out w5 B5.out).attrs HSM.out.n
    obtain ⟨y0, y1, y2, y3, y4, y5, y6, y7, y8⟩ := rec_cells V5.out
    have HAT' := hdQ HAT
    clear HAT
    go_wp2_with fail
    refine (Calls.mono HAT'.out ?_)
    rintro z w6 ⟨a', c', rfl, hI6, hc6, hb6⟩
    have B6 : Hid (Below wr.heap.size wr w6) := B5.out.trans (hb6.mono B5.out.size)
    have V6 : Hid (w6.heap[wr.heap.size]? = some (.cells (recArr p r) 38 (0, 0))) := (hb6.block _ (heap_lt V5.out)).trans V5.out
    have HP6 : Hid (IsPairs w6 (fun b => w5.heap.size ≤ b) a' (attrsP r.attrs)) := hI6
    obtain ⟨x0, x1, x2, x3, x4, x5, x6, x7, x8⟩ := rec_cells V6.out
    have f68 := frozen_of V6.out 8
    obtain ⟨w7, hw7⟩ : ∃ q, w6.setCell ⟨wr.heap.size, 8, none⟩ (.slice a' r.attrs.length c') = q := ⟨_, rfl⟩
    have G7 : Hid (w6.grownBy w7 (some wr.heap.size)) := by rw [← hw7]; exact gb_set _ _ _ _
    have B7 : Hid (Below wr.heap.size wr w7) := B6.out.grown G7.out B6.out.size (fun x hx => by injection hx with hx; omega)
    have hal : (tidy r).attrs.length = r.attrs.length := attrsP_len _
    have V7 : Hid (w7.heap[wr.heap.size]? = some (.cells (recArr ⟨p.pa, p.pc, a', c'⟩ (tidy r)) 38 (0, 0))) := by
     rw [← hw7, Hid, heap_set_same V6.out]
     simp [recArr, tidy, attrsP_len]
    have HTR : Hid (IsRec w7 (fun b => b ≠ w1.heap.size ∧ b ≠ w3.heap.size) ⟨p.pa, p.pc, a', c'⟩ (tidy r)) := by
     have hz := HZ3.out
     have h45 := B5.out.size
     refine ⟨?_, ?_⟩
     ·have h1 : IsTexts w (fun b => b < w.heap.size) p.pa r.a.path := by
       have h0 : IsRec w (fun b => b < w.heap.size) p r := HRW.out
       exact h0.path
      exact h1.turn ⟨(HB3r.out.trans (B7.out.mono HB3r.out.size)).size, fun b hb hlb => ⟨(HB3r.out.trans (B7.out.mono HB3r.out.size)).block b hlb, by have h2 : b < w.heap.size := hb; have := HS1.out; exact ⟨by omega, by omega⟩⟩⟩
     ·exact HP6.out.turn ⟨G7.out.size, fun b hb hlb => ⟨G7.out.block b hlb (fun e => by injection e with e; have h2 : w5.heap.size ≤ b := hb; have := heap_lt V5.out; omega), by have h2 : w5.heap.size ≤ b := hb; have := HSR.out; exact ⟨by omega, by omega⟩⟩⟩
    obtain ⟨l, hl0⟩ : ∃ l, sortR (s.recs.take i) = l := ⟨_, rfl⟩
    have hln : l.length = i := by rw [← hl0, sortR_len, List.length_take]; omega
    have HLN := hdQ hln
    have HL0 := hdQ hl0
    have HV7 : Hid (w7.heap[w3.heap.size]? = some (.cells (staArr a c ⟨s.serial, s.lin, l⟩) 25 (0, 0))) := by rw [← hl0]; exact (B7.out.block _ (heap_lt HI.out.V)).trans HI.out.V
    have HR7 : Hid (IsRecs w7 (fun b => b ≠ w1.heap.size ∧ b ≠ w3.heap.size) a l) := by
     rw [← hl0]
     exact HI.out.R.turn ⟨B7.out.size, fun b hb hlb => ⟨B7.out.block b hlb, hb⟩⟩
    have HSML : Hid (∀ x ∈ l, Small x) := by
     rw [Hid, ← hl0]
     exact sortR_small (fun x hx => (HR.out wr HB3r.out).s x (List.mem_of_mem_take hx))
    have hcl : l.length ≤ c := by have := HI.out.C; omega
    have HPU : Hid (Calls Tryz.prog 51 #[.slice a l.length c, .agg #[.slice p.pa r.a.path.length p.pc, .string r.a.type, .string r.a.name, .int .i64 r.a.key, .int .u64 r.a.place, .string r.a.word, .string r.prov, .string r.id, .slice a' r.attrs.length c']] w7 (RpPost (fun b => b ≠ w1.heap.size ∧ b ≠ w3.heap.size) l (tidy r) w7)) := by
     have h1 := rput18_any (fun b => b ≠ w1.heap.size ∧ b ≠ w3.heap.size) l a c (tidy r) ⟨p.pa, p.pc, a', c'⟩ w7 ⟨HR7.out.any, by omega, HSML.out⟩ hcl HR7.out HTR.out (tidy_small HSM.out)
     rw [recV, hal] at h1
     exact h1
    obtain ⟨g0, g1, g2⟩ := sta_cells HV7.out
    have y7 := rec_cells V7.out
    rw [hal] at y7
    obtain ⟨v0, v1, v2, v3, v4, v5, v6, v7, v8⟩ := y7
    have VT7 : w7.cell? ⟨wr.heap.size, 0, none⟩ = some (.slice p.pa r.a.path.length p.pc) := v0
    clear hI6 hc6 hb6 hal hl0 hln
    go_wp2_with fail
    refine (Calls.mono HPU.out ?_)
    rintro z w8 ⟨hb8, k, hBe, a3, c3, rfl, hI8, hc8⟩
    have B8 : Hid (Below wr.heap.size wr w8) := B7.out.trans (hb8.mono B7.out.size)
    have V8 : Hid (w8.heap[w3.heap.size]? = some (.cells (staArr a c ⟨s.serial, s.lin, l⟩) 25 (0, 0))) := (hb8.block _ (heap_lt HV7.out)).trans HV7.out
    have HZ7 : Hid (w3.heap.size < w7.heap.size) := heap_lt HV7.out
    have HI8 := hdQ hI8
    have HC8 := hdQ hc8
    have HBE := hdQ hBe
    obtain ⟨m0, m1, m2⟩ := sta_cells V8.out
    have f82 := frozen_of V8.out 2
    clear v0 v1 v2 v3 v4 v5 v6 v7 v8 VT7 g0 g1 g2 hb8 hI8 hc8 hBe
    obtain ⟨w9, hw9⟩ : ∃ q, w8.setCell ⟨w3.heap.size, 2, none⟩ (.slice a3 (l.length + 1) c3) = q := ⟨_, rfl⟩
    have G9 : Hid (w8.grownBy w9 (some w3.heap.size)) := by rw [← hw9]; exact gb_set _ _ _ _
    have HEQ : Hid (sortR (s.recs.take (i + 1)) = insR l (tidy r)) := by rw [Hid, sortR_take s.recs i hlt, HL0.out, HRq.out]
    have HNX : Hid (RSI s w3 w1.heap.size w3.heap.size (i + 1) a3 c3 w9) := by
     refine ⟨?_, ?_, ?_, ?_, ?_⟩
     ·rw [HEQ.out, ← hw9, heap_set_same V8.out]
      simp [staArr, insR_len]
     ·rw [HEQ.out, ← insR_at HBE.out]
      exact IsRecs.turn HI8.out ⟨G9.out.size, fun b hb hlb => by
       have hz := HZ3.out
       have hz7 := HZ7.out
       have hb' : b ≠ w1.heap.size ∧ b ≠ w3.heap.size := hb.elim id (fun h => ⟨by omega, by omega⟩)
       exact ⟨G9.out.block b hlb (fun e => by injection e with e; exact hb'.2 e), hb'⟩⟩
     ·have := HLN.out; have := HC8.out; omega
     ·intro x hx
      rw [List.take_add_one, List.getElem?_eq_getElem hlt] at hx
      rcases List.mem_append.1 hx with h1 | h1
      ·exact HI.out.L x h1
      ·have h2 : x = s.recs[i] := by simpa using h1
       rw [h2, HRq.out, HLO.out]
     ·exact (HI.out.B.trans (B8.out.mono HI.out.B.size)).grown G9.out (HI.out.B.trans (B8.out.mono HI.out.B.size)).size (fun x hx => by injection hx with hx; omega)
    go_wp2_with fail
    go_roundw
    case rel => exact ⟨i + 1, a3, c3, by go_num, by omega, HNX.out⟩
    case measure => simp [intOf]; omega
  ·have e : i = s.recs.length := by omega
   subst e
   obtain ⟨l, hl0⟩ : ∃ l, sortR s.recs = l := ⟨_, rfl⟩
   have hI0 := HI.out
   have hV := hI0.V
   have hR := hI0.R
   have hL := hI0.L
   rw [List.take_length] at hV hR hL
   rw [hl0] at hV hR
   have HL0 := hdQ hl0
   have hln : l.length = s.recs.length := by rw [← hl0, sortR_len]
   have HV : Hid (wr.heap[w3.heap.size]? = some (.cells (staArr a c ⟨s.serial, s.lin, l⟩) 25 (0, 0))) := hV
   have HRL : Hid (IsRecs wr (fun b => b ≠ w1.heap.size ∧ b ≠ w3.heap.size) a l) := hR
   have HCL : Hid (l.length ≤ c) := by have := hI0.C; rw [Hid]; omega
   have HSML : Hid (∀ x ∈ l, Small x) := by
    rw [Hid, ← hl0]
    exact sortR_small (HR.out w (Below.refl _ _)).s
   have HALL : Hid (s.recs.all looseB = true) := List.all_eq_true.2 hL
   obtain ⟨g, hg⟩ : ∃ b, rightS ⟨s.serial, s.lin, l⟩ = b := ⟨_, rfl⟩
   have HG := hdQ hg
   have HRR := rr_ok ⟨s.serial, s.lin, l⟩ a c wr ⟨HRL.out.any, by show l.length ≤ 3000; omega, HSML.out⟩ hl g hg
   obtain ⟨g0, g1, g2⟩ := sta_cells HV.out
   obtain ⟨xk0, xk1, xk2⟩ := sta_cells (HKA.out wr (HK3.out wr HI.out.B))
   have HBr : Hid (Below w.heap.size w wr) := HB3.out.trans (HI.out.B.mono HB3.out.size)
   clear hI0 hV hR hL hl0 hln hg
   go_wp2_with fail
   refine (Calls.mono HRR.out ?_)
   rintro z w5 ⟨rfl, hb5⟩
   have B5 : Hid (Below wr.heap.size wr w5) := hb5
   have HB5 : Hid (Below w.heap.size w w5) := HBr.out.trans (hb5.mono HBr.out.size)
   have V5 : Hid (w5.heap[w3.heap.size]? = some (.cells (staArr a c ⟨s.serial, s.lin, l⟩) 25 (0, 0))) := (hb5.block _ (heap_lt HV.out)).trans HV.out
   have VZ5 : Hid (w5.heap[w1.heap.size]? = some (.cells (staArr none 0 Sta.zero) 25 (0, 0))) := HKZ.out w5 (HK3.out w5 (HI.out.B.trans (B5.out.mono HI.out.B.size)))
   clear hb5 g0 g1 g2 xk0 xk1 xk2 HRR
   cases g
   case false =>
    have HSO : Hid (sortS s = (Sta.zero, 6)) := by rw [Hid, sortS, HV0.out, HALL.out, HL0.out, HG.out]; rfl
    obtain ⟨z6, hz6⟩ : ∃ q, (((w5.setCell ⟨w1.heap.size, 0, none⟩ (.int .u64 0)).setCell ⟨w1.heap.size, 1, none⟩ (.string ⟨#[]⟩)).setCell ⟨w1.heap.size, 2, none⟩ (.slice none 0 0)) = q := ⟨_, rfl⟩
    have Gz6 : Hid (w5.grownBy z6 (some w1.heap.size)) := by rw [← hz6]; exact (((gb_set _ _ _ _).trans (gb_set _ _ _ _)).trans (gb_set _ _ _ _))
    have Vz6 : Hid (z6.heap[w1.heap.size]? = some (.cells (staArr none 0 Sta.zero) 25 (0, 0))) := by rw [← hz6]; exact set3 (t := Sta.zero) VZ5.out
    have Bz6 : Hid (Below w.heap.size w z6) := HB5.out.grown Gz6.out HB5.out.size (fun x hx => by injection hx with hx; have := HS1.out; omega)
    obtain ⟨rz60, rz61, rz62⟩ := sta_cells VZ5.out
    obtain ⟨sz60, sz61, sz62⟩ := sta_cells Vz6.out
    have fz60 := frozen_of VZ5.out 0
    have fz61 := frozen_of VZ5.out 1
    have fz62 := frozen_of VZ5.out 2
    go_wp2_with fail
    refine rs_ret Sta.zero 6 _ _ w1.heap.size none 0 (RsPost s w) Vz6.out (by rfl) (by rfl) ?_
    rw [RsPost, HSO.out]
    exact ⟨Bz6.out, none, 0, rfl, .inl rfl, Nat.le_refl _⟩
   case true =>
    have HSO : Hid (sortS s = (⟨s.serial, s.lin, l⟩, 0)) := by rw [Hid, sortS, HV0.out, HALL.out, HL0.out, HG.out]; rfl
    obtain ⟨g0, g1, g2⟩ := sta_cells V5.out
    obtain ⟨z6, hz6⟩ : ∃ q, (((w5.setCell ⟨w1.heap.size, 0, none⟩ (.int .u64 s.serial)).setCell ⟨w1.heap.size, 1, none⟩ (.string s.lin)).setCell ⟨w1.heap.size, 2, none⟩ (.slice a l.length c)) = q := ⟨_, rfl⟩
    have Gz6 : Hid (w5.grownBy z6 (some w1.heap.size)) := by rw [← hz6]; exact (((gb_set _ _ _ _).trans (gb_set _ _ _ _)).trans (gb_set _ _ _ _))
    have Vz6 : Hid (z6.heap[w1.heap.size]? = some (.cells (staArr a c ⟨s.serial, s.lin, l⟩) 25 (0, 0))) := by rw [← hz6]; exact set3 (t := ⟨s.serial, s.lin, l⟩) VZ5.out
    have Bz6 : Hid (Below w.heap.size w z6) := HB5.out.grown Gz6.out HB5.out.size (fun x hx => by injection hx with hx; have := HS1.out; omega)
    have f50 := frozen_of VZ5.out 0
    have f51 := frozen_of VZ5.out 1
    have f52 := frozen_of VZ5.out 2
    obtain ⟨k0, k1, k2⟩ := sta_cells VZ5.out
    go_wp2_with fail
    refine rs_ret ⟨s.serial, s.lin, l⟩ 0 _ _ w1.heap.size a c (RsPost s w) Vz6.out (by rfl) (by rfl) ?_
    rw [RsPost, HSO.out]
    have hR5 : IsRecs w5 (fun b => b ≠ w1.heap.size ∧ b ≠ w3.heap.size) a l := IsRecs.turn HRL.out ⟨B5.out.size, fun b hb hlb => ⟨B5.out.block b hlb, hb⟩⟩
    exact ⟨Bz6.out, a, c, rfl, IsRecs.any (IsRecs.turn hR5 ⟨Gz6.out.size, fun b hb hlb => ⟨Gz6.out.block b hlb (fun e => by injection e with e; exact hb.1 e), hb⟩⟩), HCL.out⟩
end Go.Proofs.YtehghladpnpcoaaGreatDoor.State
