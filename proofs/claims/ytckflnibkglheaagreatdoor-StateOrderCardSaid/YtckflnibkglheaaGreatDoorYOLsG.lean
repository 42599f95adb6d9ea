/- tabulariumlaw18.StateOrder. -/
import Derived.Test.YtckflnibkglheaaGreatDoorYOLsF
namespace Go.Proofs.YtckflnibkglheaaGreatDoor.State
open Go.RowKit Go.Shelf Go.Proofs.YtckflnibkglheaaGreatDoor.Utf Go.Proofs.YtckflnibkglheaaGreatDoor.Strs Go.Proofs.YtckflnibkglheaaGreatDoor.Addr
open Go.Proofs.YtckflnibkglheaaGreatDoor.Jdec (IsTexts Turn infoStr gb_set gb_below gb_refl)
set_option linter.unusedVariables false
set_option linter.unusedSimpArgs false
set_option maxRecDepth 100000

theorem PutIs.len_new {l l' : List Rec} {r : Rec} (h : PutIs l r l') (hg : Good l) (hp : r.a.place < 18446744073709551616) (hn : ∀ x ∈ l, x.a ≠ r.a) : l'.length = l.length + 1 := by
 obtain ⟨i, nx, h1, h2, rfl⟩ := h
 have h3 := next_le h2 h1
 rcases h2 with ⟨hI, _⟩ | ⟨_, rfl⟩
 ·obtain ⟨hi, e⟩ := (is_iff hg hp i).1 hI
  exact absurd e (hn _ (List.getElem_mem hi))
 ·rw [putR, List.length_append, List.length_cons, List.length_take, List.length_drop]; omega
/-- Records of no more than the statements take, right, of addresses of their own. -/
structure Own (l : List Rec) (i : Nat) : Prop where
 s : ∀ j (h : j < l.length), j < i → Small l[j]
 r : ∀ j (h : j < l.length), j < i → recB l[j] = true
 d : ∀ j k (h : j < l.length) (h2 : k < l.length), j < i → k < j → l[k].a ≠ l[j].a
theorem Own.ne {l : List Rec} (h : Own l l.length) {j k : Nat} (hj : j < l.length) (hk : k < l.length) (e : j ≠ k) : l[j].a ≠ l[k].a := by
 rcases Nat.lt_or_gt_of_ne e with h1 | h1
 ·exact h.d k j hk hj hk h1
 ·exact fun e2 => h.d j k hj hk hj h1 e2.symm
/-- What has been put, from f on. -/
structure Putn (l0 : List Rec) (f : Nat → Nat) (i : Nat) (l : List Rec) : Prop where
 len : l.length = i
 mem : ∀ x, x ∈ l ↔ ∃ k, k < i ∧ ∃ h : f k < l0.length, l0[f k] = x
theorem Putn.start (l0 : List Rec) (f : Nat → Nat) : Putn l0 f 0 [] := ⟨rfl, fun x => ⟨(fun h => by cases h), (fun ⟨k, hk, _⟩ => by omega)⟩⟩
theorem Putn.new {l0 l : List Rec} {f : Nat → Nat} {i : Nat} (h : Putn l0 f i l) (ho : Own l0 l0.length) (hf : ∀ k, k < i → f k ≠ f i) (hi : f i < l0.length) : ∀ x ∈ l, x.a ≠ l0[f i].a := fun x hx => by
 obtain ⟨k, hk, h1, rfl⟩ := (h.mem x).1 hx
 exact ho.ne h1 hi (hf k hk)
theorem Putn.step {l0 l l' : List Rec} {f : Nat → Nat} {i : Nat} (h : Putn l0 f i l) (ho : Own l0 l0.length) (hf : ∀ k, k < i → f k ≠ f i) (hi : f i < l0.length) (hg : Good l) (hp : PutIs l l0[f i] l') : Putn l0 f (i + 1) l' := by
 have hr := ho.r _ hi hi
 have hs := ho.s _ hi hi
 have hn := h.new ho hf hi
 refine ⟨by rw [hp.len_new hg hs.p hn, h.len], fun x => ?_⟩
 rw [hp.mem hg hr hs, h.mem]
 constructor
 ·rintro (rfl | ⟨⟨k, hk, h1, rfl⟩, _⟩)
  ·exact ⟨i, by omega, hi, rfl⟩
  ·exact ⟨k, by omega, h1, rfl⟩
 ·rintro ⟨k, hk, h1, rfl⟩
  by_cases e : k = i
  ·subst e; exact .inl rfl
  ·exact .inr ⟨⟨k, by omega, h1, rfl⟩, ho.ne h1 hi (hf k (by omega))⟩
theorem mod_onto {n b j : Nat} (hj : j < n) : ∃ k, k < n ∧ (k + b) % n = j := by
 have hd : b % n < n := Nat.mod_lt _ (by omega)
 have e : ∀ k, (k + b) % n = (k + b % n) % n := fun k => by rw [Nat.add_mod_mod]
 by_cases h : b % n ≤ j
 ·exact ⟨j - b % n, by omega, by rw [e, Nat.sub_add_cancel h, Nat.mod_eq_of_lt hj]⟩
 ·exact ⟨j + n - b % n, by omega, by rw [e, Nat.sub_add_cancel (by omega), Nat.add_mod_right, Nat.mod_eq_of_lt hj]⟩
theorem Putn.both {l0 l m : List Rec} {b : Nat} (h : Putn l0 (fun k => k) l0.length l) (h' : Putn l0 (fun k => (k + b) % l0.length) l0.length m) (hg : Good l) (hg' : Good m) : l = m := by
 refine good_ext hg.o hg'.o fun x => ?_
 rw [h.mem, h'.mem]
 constructor
 ·rintro ⟨j, hj, _, rfl⟩
  obtain ⟨k, hk, e⟩ := mod_onto (b := b) hj
  exact ⟨k, hk, by show (k + b) % l0.length < l0.length; omega, by simp only [e]⟩
 ·rintro ⟨k, hk, h1, rfl⟩
  exact ⟨_, h1, h1, rfl⟩
/-- A state in a box, in the making by puts; its records lie in blocks of A. -/
structure OI (w5 : World) (xb : Nat) (A : Nat → Prop) (l0 : List Rec) (f : Nat → Nat) (i : Nat) (l : List Rec) (a : Option Addr) (c : Nat) (wr : World) : Prop where
 V : wr.heap[xb]? = some (.cells (staArr a c ⟨0, ⟨#[]⟩, l⟩) 26 (0, 0))
 R : IsRecs wr A a l
 C : l.length ≤ c
 G : Good l
 P : Putn l0 f i l
theorem OI.sta {w5 : World} {xb : Nat} {A : Nat → Prop} {l0 : List Rec} {f : Nat → Nat} {i : Nat} {l : List Rec} {a : Option Addr} {c : Nat} {wr : World} (h : OI w5 xb A l0 f i l a c wr) (hi : i ≤ 2000) : StaAt wr a c ⟨0, ⟨#[]⟩, l⟩ :=
 ⟨⟨h.R.any, by have := h.P.len; show l.length ≤ 3000; omega, h.G.s⟩, h.C, h.G.sorted⟩
theorem OI.turn {w5 : World} {xb : Nat} {A : Nat → Prop} {l0 : List Rec} {f : Nat → Nat} {i : Nat} {l : List Rec} {a : Option Addr} {c : Nat} {wr w' : World} (h : OI w5 xb A l0 f i l a c wr) (t : Turn wr w' A A) (hv : w'.heap[xb]? = wr.heap[xb]?) : OI w5 xb A l0 f i l a c w' :=
 ⟨hv.trans h.V, h.R.turn t, h.C, h.G, h.P⟩
theorem zst_cells {w : World} {b : Nat} {ra : Option Addr} {rc : Nat} {l : List Rec} (h : w.heap[b]? = some (.cells (staArr ra rc ⟨0, ⟨#[]⟩, l⟩) 26 (0, 0))) : w.cell? ⟨b, 0, none⟩ = some (.int .u64 0) ∧ w.cell? ⟨b, 1, none⟩ = some (.string ⟨#[]⟩) ∧ w.cell? ⟨b, 2, none⟩ = some (.slice ra l.length rc) := sta_cells h
theorem pu_more {s : Sta} {r : Rec} {w w' : World} {e : Ending} (hr : recB r = true) (h : PuPost s r w e w') : Hid (Below w.heap.size w w') ∧
  ∃ (l' : List Rec) (a' : Option Addr) (c' : Nat), Hid (PutIs s.recs r l') ∧ e = .returned (.tuple #[.agg #[.int .u64 s.serial, .string s.lin, .slice a' l'.length c'], .int .i64 0]) ∧ Hid (IsRecs w' (fun b => w.heap.size ≤ b) a' l') ∧ Hid (l'.length ≤ c') := by
 obtain ⟨hb, h⟩ := h
 refine ⟨hb, ?_⟩
 rcases h with ⟨h1, h2⟩ | ⟨h1, i, nx, hP, hN, a', c', e1, hI, hc⟩
 ·rw [hr] at h1; cases h1
 ·exact ⟨_, a', c', ⟨i, nx, hP, hN, rfl⟩, e1, hI, hc⟩
theorem pu_zero {l : List Rec} {r : Rec} {w w' : World} {e : Ending} (hr : recB r = true) (h : PuPost ⟨0, ⟨#[]⟩, l⟩ r w e w') : Hid (Below w.heap.size w w') ∧
  ∃ (l' : List Rec) (a' : Option Addr) (c' : Nat), Hid (PutIs l r l') ∧ e = .returned (.tuple #[.agg #[.int .u64 0, .string ⟨#[]⟩, .slice a' l'.length c'], .int .i64 0]) ∧ Hid (IsRecs w' (fun b => w.heap.size ≤ b) a' l') ∧ Hid (l'.length ≤ c') := pu_more hr h
set_option maxHeartbeats 64000000 in
theorem stateOrder_any (l0 : List Rec) (ra : Option Addr) (rc : Nat) (bn : Nat) (hbn : bn ≤ 255) (w : World) (T : TabsA w) (h : IsRecs w (fun _ => True) ra l0) (hn : l0.length ≤ 140737488351232) (hw : ∀ r ∈ l0, Wide r) :
  Calls Tryz.prog 3 #[.slice ra l0.length rc, .int .u8 bn] w fun e w' => e = .returned (.bool true) ∧ Below w.heap.size w w' := by
 have HWK : Hid (Calls Tryz.prog 15 #[] w fun e w' => e = .returned (.bool true) ∧ Below w.heap.size w w') := wakes18 w T
 have HT0 : Hid (∀ W, Below w.heap.size w W → TabsA W) := fun W hb => T.stays hb
 have HH : Hid (∀ W, Below w.heap.size w W → IsRecs W (fun _ => True) ra l0) := fun W hb => h.turn (Turn.below hb)
 have HWD : Hid (∀ r ∈ l0, Wide r) := hw
 clear T h hw
 go_enter Tryz.func3, Tryz.ntmps3
 go_wp2_with fail
 refine (Calls.mono HWK.out ?_)
 rintro z w3 ⟨rfl, hb3⟩
 have B3 : Hid (Below w.heap.size w w3) := hb3
 clear hb3 HWK
 by_cases h12 : 12 < l0.length
 ·have t1 : decide ((12 : Int) < (l0.length : Int)) = true := by rw [decide_eq_true_eq]; omega
  have t2 : decide (12 < l0.length) = true := by rw [decide_eq_true_eq]; omega
  clear h12
  go_wp2_with fail
  go_ret
  exact ⟨rfl, B3.out⟩
 have t1 : decide ((12 : Int) < (l0.length : Int)) = false := by rw [decide_eq_false_iff_not]; omega
 have t2 : decide (12 < l0.length) = false := by rw [decide_eq_false_iff_not]; omega
 by_cases h0 : l0.length = 0
 ·have t3 : ((l0.length : Int) == 0) = true := by rw [beq_iff_eq]; omega
  clear h12
  go_wp2_with fail
  go_ret
  exact ⟨rfl, B3.out⟩
 have t3 : ((l0.length : Int) == 0) = false := by rw [beq_eq_false_iff_ne]; omega
 have hn12 : l0.length ≤ 12 := by omega
 have hn0 : 0 < l0.length := by omega
 clear h12 h0
 obtain ⟨w4, hw4, V4, B4, Z4⟩ := zsta_new w3
 obtain ⟨w5, hw5, V5, B5, Z5⟩ := zsta_new w4
 have hl4 := heap_lt V4.out
 have V45 : Hid (w5.heap[w3.heap.size]? = some (.cells (staArr none 0 ⟨0, ⟨#[]⟩, []⟩) 26 (0, 0))) := (B5.out.block _ hl4).trans V4.out
 have B35 : Hid (Below w3.heap.size w3 w5) := B4.out.trans (B5.out.mono B4.out.size)
 have B05 : Hid (Below w.heap.size w w5) := B3.out.trans (B35.out.mono B3.out.size)
 have HBW : Hid (∀ W, Below w5.heap.size w5 W → Below w.heap.size w W) := fun W hb => B05.out.trans (hb.mono B05.out.size)
 have HT : Hid (∀ W, Below w5.heap.size w5 W → TabsA W) := fun W hb => HT0.out W (HBW.out W hb)
 have HS3 := Hid.out (p := Hid _) B3.out.size
 clear hl4
 go_wp2_with fail
 clear hw4 hw5
 go_loopw [23] (fun p23 wr => ∃ i : Nat, p23 = .int .i64 i ∧ i ≤ l0.length ∧ Hid (Own l0 i) ∧ Hid (Below w5.heap.size w5 wr)) (fun p23 _ => l0.length - (intOf p23).toNat)
 case atStart => exact ⟨0, rfl, Nat.zero_le _, ⟨fun j _ h => by omega, fun j _ h => by omega, fun j k _ _ h => by omega⟩, Below.refl _ _⟩
 case round =>
  obtain ⟨wo, rfl⟩ : ∃ wo, wo = wr := ⟨wr, rfl⟩
  obtain ⟨i, rfl, hi, HO, hB⟩ := hrel
  by_cases hlt : i < l0.length
  ·obtain ⟨b, o, hra, _, hb, f, hc⟩ := (HH.out wo (HBW.out wo hB.out)).resolve_left (by intro e; rw [e] at hlt; simp at hlt)
   obtain ⟨hcr, hir⟩ := hc i hlt
   have hwd := HWD.out _ (List.getElem_mem hlt)
   obtain ⟨r, hr⟩ : ∃ r, l0[i] = r := ⟨_, rfl⟩
   obtain ⟨p, hp⟩ : ∃ p, f i = p := ⟨_, rfl⟩
   rw [hr, hp] at hcr hir
   rw [hr] at hwd
   have HRi := Hid.out (p := Hid _) hr
   obtain ⟨w6, hw6, V6, B6⟩ := rec_new wo p r
   have B56 : Hid (Below w5.heap.size w5 w6) := hB.out.trans (B6.out.mono hB.out.size)
   have HRIN : Hid (∀ W, Below w6.heap.size w6 W → RecIn W p r) := fun W hW => (hwd.recIn (hir.turn (Turn.below B6.out))).stays hW
   have HGR := gr18_ok r p w6 (HRIN.out w6 (Below.refl _ _))
   obtain ⟨z0, z1, z2, z3, z4, z5, z6, z7, z8⟩ := recs_nine hcr
   obtain ⟨y0, y1, y2, y3, y4, y5, y6, y7, y8⟩ := rec_cells V6.out
   have HCA : Hid (∀ k (h : k < l0.length), (∀ j u, (recArr (f k) l0[k])[j]? = some u → wo.cell? ⟨b, o + k * 9 + j, none⟩ = some u) ∧ IsRec wo (fun _ => True) (f k) l0[k]) := hc
   have HRA := Hid.out (p := Hid _) hra
   have HB := Hid.out (p := Hid _) hb
   clear hc hcr hir hr hp hwd
   rw [hra]
   clear hra
   go_wp2_with fail
   refine (Calls.mono HGR.out ?_)
   rintro z w7 hz
   obtain ⟨g, rfl, hg, hb7⟩ := hz.to
   have B67 : Hid (Below w6.heap.size w6 w7) := hb7.out
   have B57 : Hid (Below w5.heap.size w5 w7) := B56.out.trans (hb7.out.mono B56.out.size)
   clear hz hb7 HGR z0 z1 z2 z3 z4 z5 z6 z7 z8 y0 y1 y2 y3 y4 y5 y6 y7 y8
   cases g
   case true =>
    go_wp2_with fail
    go_ret
    exact ⟨rfl, HBW.out w7 B57.out⟩
   have HSM : Hid (Small r) := hg.out rfl
   obtain ⟨rb, hrb⟩ : ∃ b, recB r = b := ⟨_, rfl⟩
   have HRC := rrec_ok r p w7 (HRIN.out w7 B67.out).isRec HSM.out rb hrb
   have HRB := Hid.out (p := Hid _) hrb
   have V7 : Hid (w7.heap[wo.heap.size]? = some (.cells (recArr p r) 32 (0, 0))) := (B67.out.block _ (heap_lt V6.out)).trans V6.out
   obtain ⟨y0, y1, y2, y3, y4, y5, y6, y7, y8⟩ := rec_cells V7.out
   clear hg hrb
   go_wp2_with fail
   refine (Calls.mono HRC.out ?_)
   rintro z w8 ⟨rfl, hb8⟩
   have B68 : Hid (Below w6.heap.size w6 w8) := B67.out.trans (hb8.mono B67.out.size)
   have B58 : Hid (Below w5.heap.size w5 w8) := B57.out.trans (hb8.mono B57.out.size)
   clear hb8 HRC y0 y1 y2 y3 y4 y5 y6 y7 y8
   cases rb
   case false =>
    go_wp2_with fail
    go_ret
    exact ⟨rfl, HBW.out w8 B58.out⟩
   go_wp2_with fail
   go_loopw [36] (fun p36 wr => ∃ k : Nat, p36 = .int .i64 k ∧ k ≤ i ∧ Hid (∀ j (h : j < l0.length) (h2 : i < l0.length), j < k → l0[j].a ≠ l0[i].a) ∧ Hid (Below w6.heap.size w6 wr)) (fun p36 _ => i - (intOf p36).toNat)
   case atStart => exact ⟨0, rfl, Nat.zero_le _, fun j _ _ h => by omega, B68.out⟩
   case round =>
    obtain ⟨k, rfl, hk, hno, hBx⟩ := hrel
    have Bw : Hid (Below wo.heap.size wo wr) := B6.out.trans (hBx.out.mono B6.out.size)
    have B5x : Hid (Below w5.heap.size w5 wr) := B56.out.trans (hBx.out.mono B56.out.size)
    by_cases hki : k < i
    ·have hkl : k < l0.length := by omega
     have hsq := HO.out.s k hkl hki
     obtain ⟨hcq, hiq⟩ := HCA.out k hkl
     obtain ⟨q, hq⟩ : ∃ q, l0[k] = q := ⟨_, rfl⟩
     obtain ⟨p2, hp2⟩ : ∃ p, f k = p := ⟨_, rfl⟩
     rw [hq, hp2] at hcq hiq
     rw [hq] at hsq
     have hdr : Below wr.heap.size wr wr.drew := (Below.refl _ _).drew
     have HDX : Hid (Below wr.heap.size wr wr.drew) := hdr
     have hbk : b < wo.heap.size := HB.out
     have HCQ : Hid (∀ W, Below wr.heap.size wr W → ∀ j u, (recArr p2 q)[j]? = some u → W.cell? ⟨b, o + k * 9 + j, none⟩ = some u) := fun W hW j u hu => by rw [cell_blk ((Bw.out.trans (hW.mono Bw.out.size)).block b hbk)]; exact hcq j u hu
     have HKX : Hid (∀ W, Below wr.heap.size wr W → W.heap[wo.heap.size]? = some (.cells (recArr p r) 32 (0, 0))) := fun W hW => ((hBx.out.trans (hW.mono hBx.out.size)).block _ (heap_lt V6.out)).trans V6.out
     obtain ⟨e, he⟩ : ∃ e, sameA q.a r.a = e := ⟨_, rfl⟩
     have HSM := rsa_ok q p2 r.a p.pa p.pc wr.drew ((hiq.turn (Turn.below Bw.out)).turn (Turn.below hdr)) hsq (((HRIN.out wr hBx.out).isRec.turn (Turn.below hdr)).adr HSM.out) e he
     have HE : Hid (e = false → ∀ j (h : j < l0.length) (h2 : i < l0.length), j < k + 1 → l0[j].a ≠ l0[i].a) := fun h j hj h2 hjk e2 => by
      by_cases e3 : j = k
      ·subst e3
       rw [hq, HRi.out] at e2
       rw [← he, (sameA_iff _ _).2 e2] at h
       cases h
      ·exact hno.out j hj h2 (by omega) e2
     obtain ⟨z0, z1, z2, z3, z4, z5, z6, z7, z8⟩ := recs_nine (HCQ.out wr (Below.refl _ _))
     obtain ⟨y0, y1, y2, y3, y4, y5, y6, y7, y8⟩ := rec_cells (HKX.out wr (Below.refl _ _))
     have hkz : (k : Int) < (l0.length : Int) := by omega
     have hkz0 : (0 : Int) ≤ (k : Int) := by omega
     have tk : decide ((k : Int) < (i : Int)) = true := by rw [decide_eq_true_eq]; omega
     have tk2 : decide (k < i) = true := by rw [decide_eq_true_eq]; omega
     clear hcq hiq hq hp2 hsq hdr he
     go_wp2_with fail
     go_region_held3 (fun w' => w'.cell? ⟨b, o + k * 9, none⟩ = some (.slice p2.pa q.a.path.length p2.pc) ∧ w'.cell? ⟨b, o + k * 9 + 1, none⟩ = some (.string q.a.type) ∧ w'.cell? ⟨b, o + k * 9 + 2, none⟩ = some (.string q.a.name) ∧ w'.cell? ⟨b, o + k * 9 + 3, none⟩ = some (.int .i64 q.a.key) ∧ w'.cell? ⟨b, o + k * 9 + 4, none⟩ = some (.int .u64 q.a.place) ∧ w'.cell? ⟨b, o + k * 9 + 5, none⟩ = some (.string q.a.word) ∧ w'.cell? ⟨wo.heap.size, 0, none⟩ = some (.slice p.pa r.a.path.length p.pc) ∧ w'.cell? ⟨wo.heap.size, 1, none⟩ = some (.string r.a.type) ∧ w'.cell? ⟨wo.heap.size, 2, none⟩ = some (.string r.a.name) ∧ w'.cell? ⟨wo.heap.size, 3, none⟩ = some (.int .i64 r.a.key) ∧ w'.cell? ⟨wo.heap.size, 4, none⟩ = some (.int .u64 r.a.place) ∧ w'.cell? ⟨wo.heap.size, 5, none⟩ = some (.string r.a.word)) (go_keep)
      (first
       | (go_at_call 18; refine (Calls.mono HSM.out ?_); rintro z w7 ⟨rfl, hb7⟩; have C7 : Hid (Below wr.heap.size wr w7) := HDX.out.trans hb7; clear hb7; obtain ⟨az0, az1, az2, az3, az4, az5, az6, az7, az8⟩ := recs_nine (HCQ.out w7 C7.out); obtain ⟨ay0, ay1, ay2, ay3, ay4, ay5, ay6, ay7, ay8⟩ := rec_cells (HKX.out w7 C7.out)))
     all_goals
      cases e
      case true =>
       go_wp2_with fail
       go_ret
       exact ⟨rfl, HBW.out w7 (B5x.out.trans (C7.out.mono B5x.out.size))⟩
      case false =>
       have HE2 := Hid.out (p := Hid _) (HE.out rfl)
       go_wp2_with fail
       go_roundw
       case rel => exact ⟨k + 1, by go_num, by omega, HE2.out, hBx.out.trans (C7.out.mono hBx.out.size)⟩
       case measure => simp [intOf]; omega
    ·have hke : k = i := by omega
     subst hke
     have tk : decide ((k : Int) < (k : Int)) = false := by rw [decide_eq_false_iff_not]; omega
     have HON : Hid (Own l0 (k + 1)) := ⟨fun j hj h => by
      by_cases e : j = k
      ·subst e; rw [HRi.out]; exact HSM.out
      ·exact HO.out.s j hj (by omega), fun j hj h => by
      by_cases e : j = k
      ·subst e; rw [HRi.out]; exact HRB.out
      ·exact HO.out.r j hj (by omega), fun j m hj hm h h2 => by
      by_cases e : j = k
      ·subst e; exact hno.out m hm hj h2
      ·exact HO.out.d j m hj hm (by omega) h2⟩
     go_wp2_with fail
     go_roundw
     case rel => exact ⟨k + 1, by go_num, by omega, HON.out, B5x.out⟩
     case measure => simp [intOf]; omega
  ·have hie : i = l0.length := by omega
   subst hie
   have HOW : Hid (Own l0 l0.length) := HO.out
   have BLW : Hid (Below w3.heap.size w3 wo) := B35.out.trans (hB.out.mono B35.out.size)
   have HR3 : Hid (∀ W, Below w3.heap.size w3 W → RecsAt W ra l0) := fun W hb => ⟨HH.out W (B3.out.trans (hb.mono B3.out.size)), by omega, fun x hx => by
    obtain ⟨j, hj, rfl⟩ := List.getElem_of_mem hx
    exact HOW.out.s j hj hj⟩
   have HT3 : Hid (∀ W, Below w3.heap.size w3 W → TabsA W) := fun W hb => HT0.out W (B3.out.trans (hb.mono B3.out.size))
   have HBW3 : Hid (∀ W, Below w3.heap.size w3 W → Below w.heap.size w W) := fun W hb => B3.out.trans (hb.mono B3.out.size)
   have HXA : Hid (w3.heap.size ≤ w3.heap.size) := Nat.le_refl _
   have HXB : Hid (w3.heap.size < w4.heap.size) := by have := Z4.out; show _ < _; omega
   have hxab : w3.heap.size ≠ w4.heap.size := by have := HXB.out; omega
   have hxba : w4.heap.size ≠ w3.heap.size := by have := HXB.out; omega
   have V4r : Hid (wo.heap[w3.heap.size]? = some (.cells (staArr none 0 ⟨0, ⟨#[]⟩, []⟩) 26 (0, 0))) := (hB.out.block _ (heap_lt V45.out)).trans V45.out
   have V5r : Hid (wo.heap[w4.heap.size]? = some (.cells (staArr none 0 ⟨0, ⟨#[]⟩, []⟩) 26 (0, 0))) := (hB.out.block _ (heap_lt V5.out)).trans V5.out
   have hOA : OI w3 w3.heap.size (fun b => b ≠ w3.heap.size ∧ b ≠ w4.heap.size) l0 (fun k => k) 0 [] none 0 wo := ⟨V4r.out, .inl rfl, Nat.le_refl _, Good.nil, Putn.start _ _⟩
   have hOB : OI w3 w4.heap.size (fun b => b ≠ w3.heap.size ∧ b ≠ w4.heap.size) l0 (fun k => (k + bn) % l0.length) 0 [] none 0 wo := ⟨V5r.out, .inl rfl, Nat.le_refl _, Good.nil, Putn.start _ _⟩
   have HOA0 := Hid.out (p := Hid _) hOA
   have HOB0 := Hid.out (p := Hid _) hOB
   clear hOA hOB HO hi
   go_wp2_with fail
   go_loopw [51] (fun p51 wr => ∃ (i : Nat) (la : List Rec) (aa : Option Addr) (ca : Nat) (lb : List Rec) (ab : Option Addr) (cb : Nat), p51 = .int .i64 i ∧ i ≤ l0.length ∧ Hid (OI w3 w3.heap.size (fun b => b ≠ w3.heap.size ∧ b ≠ w4.heap.size) l0 (fun k => k) i la aa ca wr) ∧ Hid (OI w3 w4.heap.size (fun b => b ≠ w3.heap.size ∧ b ≠ w4.heap.size) l0 (fun k => (k + bn) % l0.length) i lb ab cb wr) ∧ Hid (Below w3.heap.size w3 wr)) (fun p51 _ => l0.length - (intOf p51).toNat)
   case atStart => exact ⟨0, [], none, 0, [], none, 0, rfl, Nat.zero_le _, HOA0.out, HOB0.out, BLW.out⟩
   case round =>
    obtain ⟨i, la, aa, ca, lb, ab, cb, rfl, hi, HOA, HOB, B5wr⟩ := hrel
    by_cases hlt : i < l0.length
    ·have hql7 : i < l0.length := hlt
     have hi12 : i ≤ 12 := by omega
     obtain ⟨b7, o7, p7, hra7, hb7, hcr7, hir7⟩ := (HR3.out w3 (Below.refl _ _)).get hql7
     have hsm7 := HOW.out.s _ hql7 hql7
     have hrb7 := HOW.out.r _ hql7 hql7
     obtain ⟨r7, hr7⟩ : ∃ r, l0[i] = r := ⟨_, rfl⟩
     rw [hr7] at hcr7 hir7 hsm7 hrb7
     have HRq7 := Hid.out (p := Hid _) hr7
     have HRB7 := Hid.out (p := Hid _) hrb7
     have HCR7 : Hid (∀ W, Below w3.heap.size w3 W → ∀ j u, (recArr p7 r7)[j]? = some u → W.cell? ⟨b7, o7 + i * 9 + j, none⟩ = some u) := fun W hW j u hu => by rw [cell_blk (hW.block b7 hb7)]; exact hcr7 j u hu
     have hdr7 : Below wr.heap.size wr wr.drew := (Below.refl _ _).drew
     have HDW7 : Hid (Below wr.heap.size wr wr.drew) := hdr7
     have B5d7 : Hid (Below w3.heap.size w3 wr.drew) := B5wr.out.trans (hdr7.mono B5wr.out.size)
     have HPU7 : Hid (Calls Tryz.prog 19 #[.agg #[.int .u64 0, .string ⟨#[]⟩, .slice aa la.length ca], .agg #[.slice p7.pa r7.a.path.length p7.pc, .string r7.a.type, .string r7.a.name, .int .i64 r7.a.key, .int .u64 r7.a.place, .string r7.a.word, .string r7.prov, .string r7.id, .slice p7.ta r7.attrs.length p7.tc]] wr.drew (PuPost ⟨0, ⟨#[]⟩, la⟩ r7 wr.drew)) := pu_ok ⟨0, ⟨#[]⟩, la⟩ aa ca r7 p7 wr.drew ((HOA.out.sta (by omega)).stays hdr7) (hir7.turn (Turn.below B5d7.out)) hsm7 (by have := HOA.out.P.len; show la.length ≤ 2000; omega) (HT3.out _ B5d7.out)
     obtain ⟨xw70, xw71, xw72⟩ := zst_cells (HOA.out.V)
     obtain ⟨xd70, xd71, xd72⟩ := zst_cells ((hdr7.block _ (heap_lt HOA.out.V)).trans HOA.out.V)
     obtain ⟨z70, z71, z72, z73, z74, z75, z76, z77, z78⟩ := recs_nine (HCR7.out wr B5wr.out)
     obtain ⟨zd70, zd71, zd72, zd73, zd74, zd75, zd76, zd77, zd78⟩ := recs_nine (HCR7.out wr.drew B5d7.out)
     have hnb7 : w3.heap.size ≠ b7 := by have := HXA.out; have := HXB.out; omega
     have hnc7 : b7 ≠ w3.heap.size := by have := HXA.out; have := HXB.out; omega
     have hiz : (i : Int) < (l0.length : Int) := by omega
     have hiz0 : (0 : Int) ≤ (i : Int) := by omega
     have hra7' := Hid.out (p := Hid _) hra7
     clear hcr7 hir7 hsm7 hrb7 hr7 hdr7
     rw [hra7]
     go_wp2_with fail
     refine wp_region_held_drew (S := (fun w' => w'.cell? ⟨b7, o7 + i * 9, none⟩ = some (.slice p7.pa r7.a.path.length p7.pc) ∧ w'.cell? ⟨b7, o7 + i * 9 + 1, none⟩ = some (.string r7.a.type) ∧ w'.cell? ⟨b7, o7 + i * 9 + 2, none⟩ = some (.string r7.a.name) ∧ w'.cell? ⟨b7, o7 + i * 9 + 3, none⟩ = some (.int .i64 r7.a.key) ∧ w'.cell? ⟨b7, o7 + i * 9 + 4, none⟩ = some (.int .u64 r7.a.place) ∧ w'.cell? ⟨b7, o7 + i * 9 + 5, none⟩ = some (.string r7.a.word) ∧ w'.cell? ⟨b7, o7 + i * 9 + 6, none⟩ = some (.string r7.prov) ∧ w'.cell? ⟨b7, o7 + i * 9 + 7, none⟩ = some (.string r7.id) ∧ w'.cell? ⟨b7, o7 + i * 9 + 8, none⟩ = some (.slice p7.ta r7.attrs.length p7.tc))) (by kernel_rfl) ?_ (fun hHeld => ?_)
     ·go_keep
     refine wpAnyH_take (i := 1) (v := ?v1) rfl (by kernel_rfl) (by kernel_rfl) (by kernel_rfl) (fun _ _ _ h => h) (Or.inl ⟨by rfl, ?hy1⟩) (by assumption) ?rest1
     case hy1 => (intro w hSw; (try dsimp only at hSw); go_simp <;> with_reducible rfl)
     try simp only [List.getElem_toArray, List.getElem_cons_succ, List.getElem_cons_zero, Act.put, List.setIfInBounds_toArray, List.set_cons_zero, List.set_cons_succ]
     refine wpAnyH_take (i := 2) (v := ?v2) rfl (by kernel_rfl) (by kernel_rfl) (by kernel_rfl) (fun _ _ _ h => h) (Or.inl ⟨by rfl, ?hy2⟩) (by assumption) ?rest2
     case hy2 => (intro w hSw; (try dsimp only at hSw); go_simp <;> with_reducible rfl)
     try simp only [List.getElem_toArray, List.getElem_cons_succ, List.getElem_cons_zero, Act.put, List.setIfInBounds_toArray, List.set_cons_zero, List.set_cons_succ]
     refine wpAnyH_take (i := 3) (v := ?v3) rfl (by kernel_rfl) (by kernel_rfl) (by kernel_rfl) (fun _ _ _ h => h) (Or.inl ⟨by rfl, ?hy3⟩) (by assumption) ?rest3
     case hy3 => (intro w hSw; (try dsimp only at hSw); go_simp <;> with_reducible rfl)
     try simp only [List.getElem_toArray, List.getElem_cons_succ, List.getElem_cons_zero, Act.put, List.setIfInBounds_toArray, List.set_cons_zero, List.set_cons_succ]
     refine wpAnyH_take (i := 4) (v := ?v4) rfl (by kernel_rfl) (by kernel_rfl) (by kernel_rfl) (fun _ _ _ h => h) (Or.inl ⟨by rfl, ?hy4⟩) (by assumption) ?rest4
     case hy4 => (intro w hSw; (try dsimp only at hSw); go_simp <;> with_reducible rfl)
     try simp only [List.getElem_toArray, List.getElem_cons_succ, List.getElem_cons_zero, Act.put, List.setIfInBounds_toArray, List.set_cons_zero, List.set_cons_succ]
     refine wpAnyH_ready (rs := [0]) (by kernel_rfl) (by simp) ?_
     refine AllReadyH.cons rfl (fun K hK => ?_) AllReadyH.nil
     try simp only [List.getElem_toArray, List.getElem_cons_succ, List.getElem_cons_zero]
     go_simp
     clear hHeld
     refine hK.out _ _ ?_ (fun hHeld => ?_)
     ·go_keep
     clear hK K
     try simp only [List.getElem_toArray, List.getElem_cons_succ, List.getElem_cons_zero, Act.put, List.setIfInBounds_toArray, List.set_cons_zero, List.set_cons_succ]
     refine wpAnyH_ready (rs := [5]) (by kernel_rfl) (by simp) ?_
     refine AllReadyH.cons rfl (fun K hK => ?_) AllReadyH.nil
     try simp only [List.getElem_toArray, List.getElem_cons_succ, List.getElem_cons_zero]
     go_simp
     go_at_call 19; refine (Calls.mono HPU7.out ?_); rintro z w7 hz; obtain ⟨hb7, l7, a7, c7, HPI7, rfl, HI7, HC7⟩ := pu_zero HRB7.out hz; have C7 : Hid (Below wr.heap.size wr w7) := HDW7.out.trans hb7.out; have HBN7 : Hid (Below wr.drew.heap.size wr.drew w7) := hb7.out; clear hz hb7; have V7 : Hid (w7.heap[w3.heap.size]? = some (.cells (staArr aa ca ⟨0, ⟨#[]⟩, la⟩) 26 (0, 0))) := (C7.out.block _ (heap_lt HOA.out.V)).trans HOA.out.V; obtain ⟨g70, g71, g72⟩ := zst_cells V7.out; have f70 := frozen_of V7.out 0; have f71 := frozen_of V7.out 1; have f72 := frozen_of V7.out 2; obtain ⟨t7, ht7⟩ : ∃ t7, (((w7.setCell ⟨w3.heap.size, 0, none⟩ (.int .u64 0)).setCell ⟨w3.heap.size, 1, none⟩ (.string ⟨#[]⟩)).setCell ⟨w3.heap.size, 2, none⟩ (.slice a7 l7.length c7)) = t7 := ⟨_, rfl⟩; have G7 : Hid (w7.grownBy t7 (some (w3.heap.size))) := (by rw [← ht7]; exact (((gb_set _ _ _ _).trans (gb_set _ _ _ _)).trans (gb_set _ _ _ _))); have VX7 : Hid (t7.heap[w3.heap.size]? = some (.cells (staArr a7 c7 ⟨0, ⟨#[]⟩, l7⟩) 26 (0, 0))) := (by rw [← ht7]; exact set3 (t := ⟨0, ⟨#[]⟩, l7⟩) V7.out); have B5w7 : Hid (Below w3.heap.size w3 w7) := B5wr.out.trans (C7.out.mono B5wr.out.size); have B5t7 : Hid (Below w3.heap.size w3 t7) := B5w7.out.grown G7.out B5w7.out.size (fun x hx => (by injection hx with hx; have := HXA.out; have := HXB.out; omega)); obtain ⟨u70, u71, u72, u73, u74, u75, u76, u77, u78⟩ := recs_nine (HCR7.out w7 B5w7.out); obtain ⟨v70, v71, v72, v73, v74, v75, v76, v77, v78⟩ := recs_nine (HCR7.out t7 B5t7.out); obtain ⟨i70, i71, i72⟩ := zst_cells VX7.out
     clear hHeld
     refine hK.out _ _ ?_ (fun hHeld => ?_)
     ·go_keep
     clear hK K
     try simp only [List.getElem_toArray, List.getElem_cons_succ, List.getElem_cons_zero, Act.put, List.setIfInBounds_toArray, List.set_cons_zero, List.set_cons_succ]
     refine wpAnyH_take (i := 6) (v := ?v5) rfl (by kernel_rfl) (by kernel_rfl) (by kernel_rfl) (fun _ _ _ h => h) (Or.inl ⟨by rfl, ?hy5⟩) (by assumption) ?rest5
     case hy5 => (intro w hSw; (try dsimp only at hSw); go_simp <;> with_reducible rfl)
     try simp only [List.getElem_toArray, List.getElem_cons_succ, List.getElem_cons_zero, Act.put, List.setIfInBounds_toArray, List.set_cons_zero, List.set_cons_succ]
     refine wpAnyH_take (i := 7) (v := ?v6) rfl (by kernel_rfl) (by kernel_rfl) (by kernel_rfl) (fun _ _ _ h => h) (Or.inl ⟨by rfl, ?hy6⟩) (by assumption) ?rest6
     case hy6 => (intro w hSw; (try dsimp only at hSw); go_simp <;> with_reducible rfl)
     try simp only [List.getElem_toArray, List.getElem_cons_succ, List.getElem_cons_zero, Act.put, List.setIfInBounds_toArray, List.set_cons_zero, List.set_cons_succ]
     refine wpAnyH_take (i := 8) (v := ?v7) rfl (by kernel_rfl) (by kernel_rfl) (by kernel_rfl) (fun _ _ _ h => h) (Or.inl ⟨by rfl, ?hy7⟩) (by assumption) ?rest7
     case hy7 => (intro w hSw; (try dsimp only at hSw); go_simp <;> with_reducible rfl)
     try simp only [List.getElem_toArray, List.getElem_cons_succ, List.getElem_cons_zero, Act.put, List.setIfInBounds_toArray, List.set_cons_zero, List.set_cons_succ]
     refine wpAnyH_ready (rs := [9]) (by kernel_rfl) (by simp) ?_
     refine AllReadyH.cons rfl (fun K hK => ?_) AllReadyH.nil
     try simp only [List.getElem_toArray, List.getElem_cons_succ, List.getElem_cons_zero]
     go_simp
     clear hHeld
     refine hK.out _ _ ?_ (fun hHeld => ?_)
     ·go_keep
     clear hK K
     try simp only [List.getElem_toArray, List.getElem_cons_succ, List.getElem_cons_zero, Act.put, List.setIfInBounds_toArray, List.set_cons_zero, List.set_cons_succ]
     refine wpAnyH_done (by kernel_rfl) ?_ _
     have HOA7 : Hid (OI w3 w3.heap.size (fun b => b ≠ w3.heap.size ∧ b ≠ w4.heap.size) l0 (fun k => k) (i + 1) l7 a7 c7 t7) := by
      have hla := heap_lt HOA.out.V
      have hlb := heap_lt HOB.out.V
      have hd := HDW7.out.size
      refine ⟨VX7.out, HI7.out.turn ⟨G7.out.size, fun b hb hl => ?_⟩, HC7.out, HPI7.out.good HOA.out.G HRB7.out (HRq7.out ▸ HOW.out.s i hql7 hql7), HOA.out.P.step HOW.out (fun k hk => by omega) hql7 HOA.out.G (by rw [HRq7.out]; exact HPI7.out)⟩
      have h0 : wr.drew.heap.size ≤ b := hb
      exact ⟨G7.out.block b hl (fun e => by injection e with e; omega), by omega, by omega⟩
     have HOB7 : Hid (OI w3 w4.heap.size (fun b => b ≠ w3.heap.size ∧ b ≠ w4.heap.size) l0 (fun k => (k + bn) % l0.length) i lb ab cb t7) := by
      refine HOB.out.turn ⟨Nat.le_trans C7.out.size G7.out.size, fun b hb hl => ⟨(G7.out.block b (by have := C7.out.size; omega) (fun e => by injection e with e; exact hb.1 e)).trans (C7.out.block b hl), hb⟩⟩ ?_
      have hlb := heap_lt HOB.out.V
      exact (G7.out.block _ (by have := C7.out.size; omega) (fun e => by injection e with e; exact hxba e)).trans (C7.out.block _ hlb)
     obtain ⟨q, hq⟩ : ∃ q : Nat, (i + bn) % l0.length = q := ⟨_, rfl⟩
     have hql8 : q < l0.length := by rw [← hq]; exact Nat.mod_lt _ (by omega)
     have HQ := Hid.out (p := Hid _) hq
     obtain ⟨sm, hs0⟩ : ∃ sm, i + bn = sm := ⟨_, rfl⟩
     have gs : (i : Int) + (bn : Int) = (sm : Int) := by omega
     have ws : IntKind.i64.wrap (sm : Int) = (sm : Int) := IntWalk.i64_in _ (by omega)
     have wb : IntKind.i64.wrap (bn : Int) = (bn : Int) := IntWalk.i64_in _ (by omega)
     have hqm : (sm : Int) % (l0.length : Int) = (q : Int) := by rw [← hq, hs0]; rfl
     have hqt : Int.tmod (sm : Int) (l0.length : Int) = (q : Int) := by rw [Int.tmod_eq_emod_of_nonneg (by omega)]; exact hqm
     have wq : IntKind.i64.wrap (q : Int) = (q : Int) := IntWalk.i64_in _ (by omega)
     have hnz0 : ((l0.length : Int) == 0) = false := by rw [beq_eq_false_iff_ne]; omega
     have hnz1 : (l0.length : Int) ≠ 0 := by omega
     have hq0 : (0 : Int) ≤ (q : Int) := by omega
     have hqz : (q : Int) < (l0.length : Int) := by omega
     have hnil : ¬ l0 = [] := by intro e; rw [e] at hql8; simp at hql8
     clear hq hs0 z70 z71 z72 z73 z74 z75 z76 z77 z78 zd70 zd71 zd72 zd73 zd74 zd75 zd76 zd77 zd78 u70 u71 u72 u73 u74 u75 u76 u77 u78 v70 v71 v72 v73 v74 v75 v76 v77 v78 xw70 xw71 xw72 xd70 xd71 xd72 g70 g71 g72 i70 i71 i72 f70 f71 f72 ht7
     obtain ⟨b8, o8, p8, hra8, hb8, hcr8, hir8⟩ := (HR3.out w3 (Below.refl _ _)).get hql8
     have hsm8 := HOW.out.s _ hql8 hql8
     have hrb8 := HOW.out.r _ hql8 hql8
     obtain ⟨r8, hr8⟩ : ∃ r, l0[q] = r := ⟨_, rfl⟩
     rw [hr8] at hcr8 hir8 hsm8 hrb8
     have HRq8 := Hid.out (p := Hid _) hr8
     have HRB8 := Hid.out (p := Hid _) hrb8
     have HCR8 : Hid (∀ W, Below w3.heap.size w3 W → ∀ j u, (recArr p8 r8)[j]? = some u → W.cell? ⟨b8, o8 + q * 9 + j, none⟩ = some u) := fun W hW j u hu => by rw [cell_blk (hW.block b8 hb8)]; exact hcr8 j u hu
     have hdr8 : Below t7.heap.size t7 t7.drew := (Below.refl _ _).drew
     have HDW8 : Hid (Below t7.heap.size t7 t7.drew) := hdr8
     have B5d8 : Hid (Below w3.heap.size w3 t7.drew) := B5t7.out.trans (hdr8.mono B5t7.out.size)
     have HPU8 : Hid (Calls Tryz.prog 19 #[.agg #[.int .u64 0, .string ⟨#[]⟩, .slice ab lb.length cb], .agg #[.slice p8.pa r8.a.path.length p8.pc, .string r8.a.type, .string r8.a.name, .int .i64 r8.a.key, .int .u64 r8.a.place, .string r8.a.word, .string r8.prov, .string r8.id, .slice p8.ta r8.attrs.length p8.tc]] t7.drew (PuPost ⟨0, ⟨#[]⟩, lb⟩ r8 t7.drew)) := pu_ok ⟨0, ⟨#[]⟩, lb⟩ ab cb r8 p8 t7.drew ((HOB7.out.sta (by omega)).stays hdr8) (hir8.turn (Turn.below B5d8.out)) hsm8 (by have := HOB7.out.P.len; show lb.length ≤ 2000; omega) (HT3.out _ B5d8.out)
     obtain ⟨xw80, xw81, xw82⟩ := zst_cells (HOB7.out.V)
     obtain ⟨xd80, xd81, xd82⟩ := zst_cells ((hdr8.block _ (heap_lt HOB7.out.V)).trans HOB7.out.V)
     obtain ⟨z80, z81, z82, z83, z84, z85, z86, z87, z88⟩ := recs_nine (HCR8.out t7 B5t7.out)
     obtain ⟨zd80, zd81, zd82, zd83, zd84, zd85, zd86, zd87, zd88⟩ := recs_nine (HCR8.out t7.drew B5d8.out)
     have hnb8 : w4.heap.size ≠ b8 := by have := HXA.out; have := HXB.out; omega
     have hnc8 : b8 ≠ w4.heap.size := by have := HXA.out; have := HXB.out; omega
     have hra8' := Hid.out (p := Hid _) hra8
     have hrr : (some (⟨b8, o8, none⟩ : Addr)) = some ⟨b7, o7, none⟩ := by rw [← hra8, hra7'.out]
     injection hrr with hrr
     injection hrr with hrr1 hrr2
     subst hrr1 hrr2
     clear hcr8 hir8 hsm8 hrb8 hr8 hdr8 hra8
     go_wp2_with fail
     refine wp_region_held_drew (S := (fun w' => w'.cell? ⟨b8, o8 + q * 9, none⟩ = some (.slice p8.pa r8.a.path.length p8.pc) ∧ w'.cell? ⟨b8, o8 + q * 9 + 1, none⟩ = some (.string r8.a.type) ∧ w'.cell? ⟨b8, o8 + q * 9 + 2, none⟩ = some (.string r8.a.name) ∧ w'.cell? ⟨b8, o8 + q * 9 + 3, none⟩ = some (.int .i64 r8.a.key) ∧ w'.cell? ⟨b8, o8 + q * 9 + 4, none⟩ = some (.int .u64 r8.a.place) ∧ w'.cell? ⟨b8, o8 + q * 9 + 5, none⟩ = some (.string r8.a.word) ∧ w'.cell? ⟨b8, o8 + q * 9 + 6, none⟩ = some (.string r8.prov) ∧ w'.cell? ⟨b8, o8 + q * 9 + 7, none⟩ = some (.string r8.id) ∧ w'.cell? ⟨b8, o8 + q * 9 + 8, none⟩ = some (.slice p8.ta r8.attrs.length p8.tc))) (by kernel_rfl) ?_ (fun hHeld => ?_)
     ·go_keep
     refine wpAnyH_take (i := 1) (v := ?v8) rfl (by kernel_rfl) (by kernel_rfl) (by kernel_rfl) (fun _ _ _ h => h) (Or.inl ⟨by rfl, ?hy8⟩) (by assumption) ?rest8
     case hy8 => (intro w hSw; (try dsimp only at hSw); go_simp <;> with_reducible rfl)
     try simp only [List.getElem_toArray, List.getElem_cons_succ, List.getElem_cons_zero, Act.put, List.setIfInBounds_toArray, List.set_cons_zero, List.set_cons_succ]
     refine wpAnyH_take (i := 2) (v := ?v9) rfl (by kernel_rfl) (by kernel_rfl) (by kernel_rfl) (fun _ _ _ h => h) (Or.inl ⟨by rfl, ?hy9⟩) (by assumption) ?rest9
     case hy9 => (intro w hSw; (try dsimp only at hSw); go_simp <;> with_reducible rfl)
     try simp only [List.getElem_toArray, List.getElem_cons_succ, List.getElem_cons_zero, Act.put, List.setIfInBounds_toArray, List.set_cons_zero, List.set_cons_succ]
     refine wpAnyH_take (i := 3) (v := ?v10) rfl (by kernel_rfl) (by kernel_rfl) (by kernel_rfl) (fun _ _ _ h => h) (Or.inl ⟨by rfl, ?hy10⟩) (by assumption) ?rest10
     case hy10 => (intro w hSw; (try dsimp only at hSw); go_simp <;> with_reducible rfl)
     try simp only [List.getElem_toArray, List.getElem_cons_succ, List.getElem_cons_zero, Act.put, List.setIfInBounds_toArray, List.set_cons_zero, List.set_cons_succ]
     refine wpAnyH_take (i := 4) (v := ?v11) rfl (by kernel_rfl) (by kernel_rfl) (by kernel_rfl) (fun _ _ _ h => h) (Or.inl ⟨by rfl, ?hy11⟩) (by assumption) ?rest11
     case hy11 => (intro w hSw; (try dsimp only at hSw); go_simp <;> with_reducible rfl)
     try simp only [List.getElem_toArray, List.getElem_cons_succ, List.getElem_cons_zero, Act.put, List.setIfInBounds_toArray, List.set_cons_zero, List.set_cons_succ]
     refine wpAnyH_take (i := 5) (v := ?v12) rfl (by kernel_rfl) (by kernel_rfl) (by kernel_rfl) (fun _ _ _ h => h) (Or.inl ⟨by rfl, ?hy12⟩) (by assumption) ?rest12
     case hy12 => (intro w hSw; (try dsimp only at hSw); go_simp <;> with_reducible rfl)
     try simp only [List.getElem_toArray, List.getElem_cons_succ, List.getElem_cons_zero, Act.put, List.setIfInBounds_toArray, List.set_cons_zero, List.set_cons_succ]
     refine wpAnyH_take (i := 6) (v := ?v13) rfl (by kernel_rfl) (by kernel_rfl) (by kernel_rfl) (fun _ _ _ h => h) (Or.inl ⟨by rfl, ?hy13⟩) (by assumption) ?rest13
     case hy13 => (intro w hSw; (try dsimp only at hSw); go_simp <;> with_reducible rfl)
     try simp only [List.getElem_toArray, List.getElem_cons_succ, List.getElem_cons_zero, Act.put, List.setIfInBounds_toArray, List.set_cons_zero, List.set_cons_succ]
     refine wpAnyH_take (i := 7) (v := ?v14) rfl (by kernel_rfl) (by kernel_rfl) (by kernel_rfl) (fun _ _ _ h => h) (Or.inl ⟨by rfl, ?hy14⟩) (by assumption) ?rest14
     case hy14 => (intro w hSw; (try dsimp only at hSw); go_simp <;> with_reducible rfl)
     try simp only [List.getElem_toArray, List.getElem_cons_succ, List.getElem_cons_zero, Act.put, List.setIfInBounds_toArray, List.set_cons_zero, List.set_cons_succ]
     refine wpAnyH_take (i := 8) (v := ?v15) rfl (by kernel_rfl) (by kernel_rfl) (by kernel_rfl) (fun _ _ _ h => h) (Or.inl ⟨by rfl, ?hy15⟩) (by assumption) ?rest15
     case hy15 => (intro w hSw; (try dsimp only at hSw); go_simp <;> with_reducible rfl)
     try simp only [List.getElem_toArray, List.getElem_cons_succ, List.getElem_cons_zero, Act.put, List.setIfInBounds_toArray, List.set_cons_zero, List.set_cons_succ]
     refine wpAnyH_take (i := 9) (v := ?v16) rfl (by kernel_rfl) (by kernel_rfl) (by kernel_rfl) (fun _ _ _ h => h) (Or.inl ⟨by rfl, ?hy16⟩) (by assumption) ?rest16
     case hy16 => (intro w hSw; (try dsimp only at hSw); go_simp <;> with_reducible rfl)
     try simp only [List.getElem_toArray, List.getElem_cons_succ, List.getElem_cons_zero, Act.put, List.setIfInBounds_toArray, List.set_cons_zero, List.set_cons_succ]
     refine wpAnyH_take (i := 10) (v := ?v17) rfl (by kernel_rfl) (by kernel_rfl) (by kernel_rfl) (fun _ _ _ h => h) (Or.inl ⟨by rfl, ?hy17⟩) (by assumption) ?rest17
     case hy17 => (intro w hSw; (try dsimp only at hSw); go_simp <;> with_reducible rfl)
     try simp only [List.getElem_toArray, List.getElem_cons_succ, List.getElem_cons_zero, Act.put, List.setIfInBounds_toArray, List.set_cons_zero, List.set_cons_succ]
     refine wpAnyH_ready (rs := [0]) (by kernel_rfl) (by simp) ?_
     refine AllReadyH.cons rfl (fun K hK => ?_) AllReadyH.nil
     try simp only [List.getElem_toArray, List.getElem_cons_succ, List.getElem_cons_zero]
     go_simp
     clear hHeld
     refine hK.out _ _ ?_ (fun hHeld => ?_)
     ·go_keep
     clear hK K
     try simp only [List.getElem_toArray, List.getElem_cons_succ, List.getElem_cons_zero, Act.put, List.setIfInBounds_toArray, List.set_cons_zero, List.set_cons_succ]
     refine wpAnyH_ready (rs := [11]) (by kernel_rfl) (by simp) ?_
     refine AllReadyH.cons rfl (fun K hK => ?_) AllReadyH.nil
     try simp only [List.getElem_toArray, List.getElem_cons_succ, List.getElem_cons_zero]
     go_simp
     go_at_call 19; refine (Calls.mono HPU8.out ?_); rintro z w8 hz; obtain ⟨hb8, l8, a8, c8, HPI8, rfl, HI8, HC8⟩ := pu_zero HRB8.out hz; have C8 : Hid (Below t7.heap.size t7 w8) := HDW8.out.trans hb8.out; have HBN8 : Hid (Below t7.drew.heap.size t7.drew w8) := hb8.out; clear hz hb8; have V8 : Hid (w8.heap[w4.heap.size]? = some (.cells (staArr ab cb ⟨0, ⟨#[]⟩, lb⟩) 26 (0, 0))) := (C8.out.block _ (heap_lt HOB7.out.V)).trans HOB7.out.V; obtain ⟨g80, g81, g82⟩ := zst_cells V8.out; have f80 := frozen_of V8.out 0; have f81 := frozen_of V8.out 1; have f82 := frozen_of V8.out 2; obtain ⟨t8, ht8⟩ : ∃ t8, (((w8.setCell ⟨w4.heap.size, 0, none⟩ (.int .u64 0)).setCell ⟨w4.heap.size, 1, none⟩ (.string ⟨#[]⟩)).setCell ⟨w4.heap.size, 2, none⟩ (.slice a8 l8.length c8)) = t8 := ⟨_, rfl⟩; have G8 : Hid (w8.grownBy t8 (some (w4.heap.size))) := (by rw [← ht8]; exact (((gb_set _ _ _ _).trans (gb_set _ _ _ _)).trans (gb_set _ _ _ _))); have VX8 : Hid (t8.heap[w4.heap.size]? = some (.cells (staArr a8 c8 ⟨0, ⟨#[]⟩, l8⟩) 26 (0, 0))) := (by rw [← ht8]; exact set3 (t := ⟨0, ⟨#[]⟩, l8⟩) V8.out); have B5w8 : Hid (Below w3.heap.size w3 w8) := B5t7.out.trans (C8.out.mono B5t7.out.size); have B5t8 : Hid (Below w3.heap.size w3 t8) := B5w8.out.grown G8.out B5w8.out.size (fun x hx => (by injection hx with hx; have := HXA.out; have := HXB.out; omega)); obtain ⟨u80, u81, u82, u83, u84, u85, u86, u87, u88⟩ := recs_nine (HCR8.out w8 B5w8.out); obtain ⟨v80, v81, v82, v83, v84, v85, v86, v87, v88⟩ := recs_nine (HCR8.out t8 B5t8.out); obtain ⟨i80, i81, i82⟩ := zst_cells VX8.out
     clear hHeld
     refine hK.out _ _ ?_ (fun hHeld => ?_)
     ·go_keep
     clear hK K
     try simp only [List.getElem_toArray, List.getElem_cons_succ, List.getElem_cons_zero, Act.put, List.setIfInBounds_toArray, List.set_cons_zero, List.set_cons_succ]
     refine wpAnyH_take (i := 12) (v := ?v18) rfl (by kernel_rfl) (by kernel_rfl) (by kernel_rfl) (fun _ _ _ h => h) (Or.inl ⟨by rfl, ?hy18⟩) (by assumption) ?rest18
     case hy18 => (intro w hSw; (try dsimp only at hSw); go_simp <;> with_reducible rfl)
     try simp only [List.getElem_toArray, List.getElem_cons_succ, List.getElem_cons_zero, Act.put, List.setIfInBounds_toArray, List.set_cons_zero, List.set_cons_succ]
     refine wpAnyH_take (i := 13) (v := ?v19) rfl (by kernel_rfl) (by kernel_rfl) (by kernel_rfl) (fun _ _ _ h => h) (Or.inl ⟨by rfl, ?hy19⟩) (by assumption) ?rest19
     case hy19 => (intro w hSw; (try dsimp only at hSw); go_simp <;> with_reducible rfl)
     try simp only [List.getElem_toArray, List.getElem_cons_succ, List.getElem_cons_zero, Act.put, List.setIfInBounds_toArray, List.set_cons_zero, List.set_cons_succ]
     refine wpAnyH_take (i := 14) (v := ?v20) rfl (by kernel_rfl) (by kernel_rfl) (by kernel_rfl) (fun _ _ _ h => h) (Or.inl ⟨by rfl, ?hy20⟩) (by assumption) ?rest20
     case hy20 => (intro w hSw; (try dsimp only at hSw); go_simp <;> with_reducible rfl)
     try simp only [List.getElem_toArray, List.getElem_cons_succ, List.getElem_cons_zero, Act.put, List.setIfInBounds_toArray, List.set_cons_zero, List.set_cons_succ]
     refine wpAnyH_ready (rs := [15]) (by kernel_rfl) (by simp) ?_
     refine AllReadyH.cons rfl (fun K hK => ?_) AllReadyH.nil
     try simp only [List.getElem_toArray, List.getElem_cons_succ, List.getElem_cons_zero]
     go_simp
     clear hHeld
     refine hK.out _ _ ?_ (fun hHeld => ?_)
     ·go_keep
     clear hK K
     try simp only [List.getElem_toArray, List.getElem_cons_succ, List.getElem_cons_zero, Act.put, List.setIfInBounds_toArray, List.set_cons_zero, List.set_cons_succ]
     refine wpAnyH_done (by kernel_rfl) ?_ _
     have HOB8 : Hid (OI w3 w4.heap.size (fun b => b ≠ w3.heap.size ∧ b ≠ w4.heap.size) l0 (fun k => (k + bn) % l0.length) (i + 1) l8 a8 c8 t8) := by
      have hla := heap_lt HOA7.out.V
      have hlb := heap_lt HOB7.out.V
      have hd := HDW8.out.size
      have hst := HOB7.out.P.step (l' := l8) HOW.out (fun k hk => mod_ne hk hql7) (by show (i + bn) % l0.length < l0.length; rw [HQ.out]; exact hql8) HOB7.out.G (by simp only [HQ.out]; rw [HRq8.out]; exact HPI8.out)
      refine ⟨VX8.out, HI8.out.turn ⟨G8.out.size, fun b hb hl => ?_⟩, HC8.out, HPI8.out.good HOB7.out.G HRB8.out (HRq8.out ▸ HOW.out.s q hql8 hql8), hst⟩
      have h0 : t7.drew.heap.size ≤ b := hb
      exact ⟨G8.out.block b hl (fun e => by injection e with e; omega), by omega, by omega⟩
     have HOA8 : Hid (OI w3 w3.heap.size (fun b => b ≠ w3.heap.size ∧ b ≠ w4.heap.size) l0 (fun k => k) (i + 1) l7 a7 c7 t8) := by
      refine HOA7.out.turn ⟨Nat.le_trans C8.out.size G8.out.size, fun b hb hl => ⟨(G8.out.block b (by have := C8.out.size; omega) (fun e => by injection e with e; exact hb.2 e)).trans (C8.out.block b hl), hb⟩⟩ ?_
      have hlb := heap_lt HOA7.out.V
      exact (G8.out.block _ (by have := C8.out.size; omega) (fun e => by injection e with e; exact hxab e)).trans (C8.out.block _ hlb)
     clear z80 z81 z82 z83 z84 z85 z86 z87 z88 zd80 zd81 zd82 zd83 zd84 zd85 zd86 zd87 zd88 u80 u81 u82 u83 u84 u85 u86 u87 u88 v80 v81 v82 v83 v84 v85 v86 v87 v88 hqm hqt gs ht8
     go_wp2_with fail
     go_roundw
     case rel => exact ⟨i + 1, l7, a7, c7, l8, a8, c8, by go_num, by omega, HOA8.out, HOB8.out, B5t8.out⟩
     case measure => simp [intOf]; omega
    ·have hie2 : i = l0.length := by omega
     subst hie2
     have hab : la = lb := HOA.out.P.both HOB.out.P HOA.out.G HOB.out.G
     subst hab
     have hll := HOA.out.P.len
     have e1 : ((la.length : Int) == (l0.length : Int)) = true := by rw [beq_iff_eq]; omega
     obtain ⟨xw0, xw1, xw2⟩ := zst_cells HOA.out.V
     obtain ⟨yw0, yw1, yw2⟩ := zst_cells HOB.out.V
     have HSS : Hid (Calls Tryz.prog 20 #[.agg #[.int .u64 0, .string ⟨#[]⟩, .slice aa la.length ca], .agg #[.int .u64 0, .string ⟨#[]⟩, .slice ab la.length cb]] wr fun e w' => e = .returned (.bool true) ∧ Below wr.heap.size wr w') := sm_ok ⟨0, ⟨#[]⟩, la⟩ ⟨0, ⟨#[]⟩, la⟩ aa ab ca cb wr ⟨HOA.out.R.any, by show la.length ≤ 3000; omega, HOA.out.G.s⟩ ⟨HOB.out.R.any, by show la.length ≤ 3000; omega, HOB.out.G.s⟩ true ((sameSta_iff _ _).2 rfl)
     have hlt2 := heap_lt HOA.out.V
     have VA := Hid.out (p := Hid _) HOA.out.V
     clear hll
     go_wp2_with fail
     refine (Calls.mono HSS.out ?_)
     rintro z w9 ⟨rfl, hb9⟩
     have B9 : Hid (Below w3.heap.size w3 w9) := B5wr.out.trans (hb9.mono B5wr.out.size)
     have V9 : Hid (w9.heap[w3.heap.size]? = some (.cells (staArr aa ca ⟨0, ⟨#[]⟩, la⟩) 26 (0, 0))) := (hb9.block _ hlt2).trans VA.out
     obtain ⟨zw0, zw1, zw2⟩ := zst_cells V9.out
     clear hb9 HSS xw0 xw1 xw2 yw0 yw1 yw2
     go_wp2_with fail
     go_ret
     exact ⟨rfl, HBW3.out w9 B9.out⟩
theorem stateOrder_arg (v : Value) (l : List Rec) (a1 : Int) (w : World) (h : ReclArg w v l) (h' : (Lit.int .u8 a1).wf = true) (T : TabsA w) :
  Calls Tryz.prog 3 #[v, .int .u8 a1] w fun e w' => e = .returned (.bool true) ∧ Below w.heap.size w w' := by
 obtain ⟨ra, rc, rfl, _, h1, h2, h3⟩ := h
 have hb : 0 ≤ a1 ∧ a1 ≤ 255 := by
  simp only [Lit.wf, Bool.and_eq_true, decide_eq_true_eq] at h'
  have e1 : IntKind.u8.min = 0 := by decide
  have e2 : IntKind.u8.max = 255 := by decide
  rw [e1, e2] at h'
  exact h'
 obtain ⟨bn, rfl⟩ : ∃ q : Nat, a1 = (q : Int) := ⟨a1.toNat, by omega⟩
 exact stateOrder_any l ra rc bn (by omega) w T h1 h2 h3
end Go.Proofs.YtckflnibkglheaaGreatDoor.State
