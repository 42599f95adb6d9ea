/- tabulariumlaw18.StateSame: the walk. -/
import Derived.Test.YtckflnibkglheaaGreatDoorYSLsH
import Derived.Test.YtckflnibkglheaaGreatDoorYSRanH
namespace Go.Proofs.YtckflnibkglheaaGreatDoor.State
open Go.RowKit Go.Shelf Go.Proofs.YtckflnibkglheaaGreatDoor.Utf Go.Proofs.YtckflnibkglheaaGreatDoor.Strs Go.Proofs.YtckflnibkglheaaGreatDoor.Addr
open Go.Proofs.YtckflnibkglheaaGreatDoor.Jdec (IsTexts Turn infoStr gb_set gb_below gb_refl)
set_option linter.unusedVariables false
set_option linter.unusedSimpArgs false
set_option maxRecDepth 100000

attribute [local go_sem] Oper.semAt_some
theorem keeps_set {B : Nat} {W v : World} {nb : Nat} {cs : Array Value} {T : TypeId} {fr : Nat × Nat} (x : Value) (h : KeepsFrom B W v) (hn : v.heap[nb]? = some (.cells cs T fr)) : KeepsFrom B W (v.setCell ⟨nb, 0, none⟩ x) :=
 ⟨Nat.le_trans h.size (gb_set v nb 0 x).size, fun k o hB hk ho => by
  have h1 := h.same k o hB hk ho
  refine ((gb_set v nb 0 x).block k (heap_lt h1) (fun e => ?_)).trans h1
  injection e with e
  subst e
  rw [hn] at h1
  cases h1
  cases ho⟩
set_option maxHeartbeats 64000000 in
theorem stateSame_any (a b : Sta) (ra rb : Option Addr) (rc rd : Nat) (stop : Nat) (hst : stop ≤ 255) (w : World) (T : TabsA w) (h : StaIn w ra a) (h' : StaIn w rb b) :
  Calls Tryz.prog 7 #[staV ra rc a, staV rb rd b, .int .u8 stop] w fun e w' => e = .returned (.bool true) ∧ Below w.heap.size w w' := by
 obtain ⟨w1, hw1, V1, B1⟩ := sta_new w ra rc a
 obtain ⟨w2, hw2, V2, B2⟩ := sta_new w1 rb rd b
 obtain ⟨w3, hw3, V3, B3⟩ := u8_new w2 stop
 obtain ⟨w4, hw4, V4, B4⟩ := bool_new w3
 have hl1 := heap_lt V1.out
 have hl2 := heap_lt V2.out
 have hl3 := heap_lt V3.out
 have hl4 := heap_lt V4.out
 have B02 : Hid (Below w.heap.size w w2) := B1.out.trans (B2.out.mono (by omega))
 have B03 : Hid (Below w.heap.size w w3) := B02.out.trans (B3.out.mono (by omega))
 have B04 : Hid (Below w.heap.size w w4) := B03.out.trans (B4.out.mono (by omega))
 have B34 : Hid (Below w3.heap.size w3 w4) := B4.out
 have HKA : Hid (∀ W, Below w4.heap.size w4 W → W.heap[w.heap.size]? = some (.cells (staArr ra rc a) 26 (0, 0))) := fun W hb => (hb.block _ (by omega)).trans ((B4.out.block _ (by omega)).trans ((B3.out.block _ (by omega)).trans ((B2.out.block _ hl1).trans V1.out)))
 have HKB : Hid (∀ W, Below w4.heap.size w4 W → W.heap[w1.heap.size]? = some (.cells (staArr rb rd b) 26 (0, 0))) := fun W hb => (hb.block _ (by omega)).trans ((B4.out.block _ (by omega)).trans ((B3.out.block _ hl2).trans V2.out))
 have HKS : Hid (∀ W, Below w4.heap.size w4 W → W.heap[w2.heap.size]? = some (.cells #[.int .u8 stop] 5 (0, 0))) := fun W hb => (hb.block _ (by omega)).trans ((B4.out.block _ hl3).trans V3.out)
 have HKR0 : Hid (∀ W, Below w4.heap.size w4 W → W.heap[w3.heap.size]? = some (.cells #[.bool false] 4 (0, 0))) := fun W hb => (hb.block _ hl4).trans V4.out
 have HBW : Hid (∀ W, Below w4.heap.size w4 W → Below w.heap.size w W) := fun W hb => B04.out.trans (hb.mono B04.out.size)
 have HT : Hid (∀ W, Below w.heap.size w W → TabsA W) := fun W hb => T.stays hb
 have HSA : Hid (∀ W, Below w.heap.size w W → StaIn W ra a) := fun W hb => h.stays hb
 have HSB : Hid (∀ W, Below w.heap.size w W → StaIn W rb b) := fun W hb => h'.stays hb
 have HWK : Hid (Calls Tryz.prog 15 #[] w4 fun e w' => e = .returned (.bool true) ∧ Below w4.heap.size w4 w') := wakes18 w4 (T.stays B04.out)
 have hx36 : w3.heap.size ≠ w2.heap.size := by have := B3.out.size; omega
 have HSZ : Hid (w.heap.size ≤ w1.heap.size ∧ w1.heap.size ≤ w2.heap.size ∧ w2.heap.size ≤ w3.heap.size ∧ w3.heap.size < w4.heap.size ∧ w.heap.size < w1.heap.size ∧ w1.heap.size < w2.heap.size ∧ w2.heap.size < w3.heap.size) := ⟨by omega, by omega, by omega, by omega, by omega, by omega, by omega⟩
 unfold staV
 clear T h h'
 rw [← callsIn_wide (n := 10)]
 refine callsIn_of_wp_marks Tryz.func7 rfl trivial ?_ rfl
 simp only [Tryz.ntmps7, List.size_toArray, List.length_cons, List.length_nil, Nat.reduceAdd, Nat.reduceSub, Array.replicate_succ, Array.replicate_zero, List.push_toArray, List.append_toArray, List.nil_append, List.cons_append]
 refine wpIn_wide.2 ?_
 go_wp2_with fail
 refine (Calls.mono HWK.out ?_)
 rintro z w5 ⟨rfl, hb5⟩
 have B5 : Hid (Below w4.heap.size w4 w5) := hb5
 clear hb5 HWK hw1 hw2 hw3 hw4
 obtain ⟨x50, x51, x52⟩ := sta_cells (HKA.out w5 B5.out)
 obtain ⟨y50, y51, y52⟩ := sta_cells (HKB.out w5 B5.out)
 have HGA := gs_ok a ra rc w5 (HSA.out w5 (HBW.out w5 B5.out))
 go_wp2_with fail
 refine (Calls.mono HGA.out ?_)
 rintro z w6 hz
 obtain ⟨g, rfl, hg, hb6⟩ := hz.to
 have B6 : Hid (Below w4.heap.size w4 w6) := B5.out.trans (hb6.out.mono B5.out.size)
 clear hz hb6 HGA x50 x51 x52 y50 y51 y52
 have VR6 : Hid (w6.heap[w3.heap.size]? = some (.cells #[.bool false] 4 (0, 0))) := HKR0.out w6 B6.out
 have cr6 := cell_of VR6.out 0
 have fr6 := frozen_of VR6.out 0
 have HSET6 : Hid ((w6.setCell ⟨w3.heap.size, 0, none⟩ (.bool true)).heap[w3.heap.size]? = some (.cells #[.bool true] 4 (0, 0))) := by rw [Hid, heap_set_same VR6.out]; rfl
 have HBS6 : Hid (Below w.heap.size w (w6.setCell ⟨w3.heap.size, 0, none⟩ (.bool true))) := (HBW.out w6 B6.out).setCell (p := ⟨w3.heap.size, 0, none⟩) (by show w.heap.size ≤ w3.heap.size; have := HSZ.out; omega) _
 cases g
 case true =>
  go_wp2_with fail
  exact ss_ret0 w _ w3.heap.size _ HSET6.out HBS6.out rfl
 have hsz := hg.out rfl
 have h30 := hsz.1
 have HSM := Hid.out (p := Hid _) hsz.2.2
 clear hsz hg
 obtain ⟨x60, x61, x62⟩ := sta_cells (HKA.out w6 B6.out)
 obtain ⟨y60, y61, y62⟩ := sta_cells (HKB.out w6 B6.out)
 have HGB := gs_ok b rb rd w6 (HSB.out w6 (HBW.out w6 B6.out))
 go_wp2_with fail
 refine (Calls.mono HGB.out ?_)
 rintro z w7 hz
 obtain ⟨g, rfl, hg, hb7⟩ := hz.to
 have B7 : Hid (Below w4.heap.size w4 w7) := B6.out.trans (hb7.out.mono B6.out.size)
 clear hz hb7 HGB x60 x61 x62 y60 y61 y62 VR6 cr6 fr6 HSET6 HBS6
 have VR7 : Hid (w7.heap[w3.heap.size]? = some (.cells #[.bool false] 4 (0, 0))) := HKR0.out w7 B7.out
 cases g
 case true =>
  have cr7 := cell_of VR7.out 0
  have fr7 := frozen_of VR7.out 0
  have HSET7 : Hid ((w7.setCell ⟨w3.heap.size, 0, none⟩ (.bool true)).heap[w3.heap.size]? = some (.cells #[.bool true] 4 (0, 0))) := by rw [Hid, heap_set_same VR7.out]; rfl
  have HBS7 : Hid (Below w.heap.size w (w7.setCell ⟨w3.heap.size, 0, none⟩ (.bool true))) := (HBW.out w7 B7.out).setCell (p := ⟨w3.heap.size, 0, none⟩) (by show w.heap.size ≤ w3.heap.size; have := HSZ.out; omega) _
  go_wp2_with fail
  exact ss_ret0 w _ w3.heap.size _ HSET7.out HBS7.out rfl
 have hsz := hg.out rfl
 have h30b := hsz.1
 have HSMB := Hid.out (p := Hid _) hsz.2.2
 clear hsz hg
 have HRA0 : Hid (∀ W, Below w.heap.size w W → RecsAt W ra a.recs) := fun W hb => ⟨(HSA.out W hb).t, by omega, HSM.out⟩
 have HRB0 : Hid (∀ W, Below w.heap.size w W → RecsAt W rb b.recs) := fun W hb => ⟨(HSB.out W hb).t, by omega, HSMB.out⟩
 obtain ⟨w8a, hw8a, V8a, B8a⟩ := int_new w7
 obtain ⟨w8, hw8⟩ : ∃ w8, w8a.setCell ⟨w7.heap.size, 0, none⟩ (.int .i64 0) = w8 := ⟨_, rfl⟩
 have G8 : Hid (w8a.grownBy w8 (some w7.heap.size)) := by rw [← hw8]; exact gb_set _ _ _ _
 have V8 : Hid (w8.heap[w7.heap.size]? = some (.cells #[.int .i64 0] 3 (0, 0))) := by rw [← hw8, Hid, heap_set_same V8a.out]; rfl
 have B8 : Hid (Below w7.heap.size w7 w8) := B8a.out.grown G8.out B8a.out.size (fun x hx => by injection hx with hx; omega)
 have cn8 := cell_of V8a.out 0
 have fn8 := frozen_of V8a.out 0
 have B48 : Hid (Below w4.heap.size w4 w8) := B7.out.trans (B8.out.mono B7.out.size)
 have HAL : Hid (Calls Tryz.prog 31 #[.agg #[.int .u64 a.serial, .string a.lin, .slice ra a.recs.length rc]] w8 fun e w' => ∃ (bs : Nat) (oa : Option Addr) (oc : Nat), e = .returned (.func (.func 59) #[] #[.pointer (some ⟨bs, 0, none⟩)]) ∧ w'.heap[bs]? = some (.cells #[.slice oa a.recs.length oc] 22 (0, 0)) ∧ IsRecs w' (fun b => w8.heap.size ≤ b) oa a.recs ∧ w8.heap.size ≤ bs ∧ Below w8.heap.size w8 w') := sall_any a ra rc w8 (HRA0.out w8 (HBW.out w8 B48.out))
 obtain ⟨x80, x81, x82⟩ := sta_cells (HKA.out w8 B48.out)
 go_wp2_with fail
 refine (Calls.mono HAL.out ?_)
 rintro z w9 ⟨bs, oa, oc, rfl, hbs, hoa, hbs8, hb9⟩
 have BS9 : Hid (w9.heap[bs]? = some (.cells #[.slice oa a.recs.length oc] 22 (0, 0))) := hbs
 have OA9 : Hid (IsRecs w9 (fun b => w8.heap.size ≤ b) oa a.recs) := hoa
 have B89 : Hid (Below w8.heap.size w8 w9) := hb9
 have B9 : Hid (Below w4.heap.size w4 w9) := B48.out.trans (hb9.mono B48.out.size)
 have VN9 : Hid (w9.heap[w7.heap.size]? = some (.cells #[.int .i64 0] 3 (0, 0))) := (hb9.block _ (heap_lt V8.out)).trans V8.out
 have hsq := seq2_some bs
 have hnb : w4.heap.size ≤ w7.heap.size := B7.out.size
 have hnb8 := heap_lt V8.out
 have hnb9 := heap_lt VN9.out
 clear hbs hoa hb9 HAL x80 x81 x82 hw8 hw8a cn8 fn8
 have HB09 : Hid (Below w.heap.size w w9) := HBW.out w9 B9.out
 have HZ9 : Hid (w.heap.size ≤ w9.heap.size) := HB09.out.size
 have HNB : Hid (w4.heap.size ≤ w7.heap.size ∧ w7.heap.size < w8.heap.size ∧ w7.heap.size < w9.heap.size ∧ w8.heap.size ≤ bs) := ⟨hnb, hnb8, hnb9, hbs8⟩
 have HSI0 : Hid (SI w w9 w7.heap.size stop a.recs [] w9) := ⟨VN9.out, fun k _ _ => rfl, Nat.le_refl _, HB09.out, by simp, Nat.zero_le _⟩
 have HOWN : Hid (∀ pre W, SI w w9 w7.heap.size stop a.recs pre W → OwnA W bs oa oc a.recs) := fun pre W hs => ⟨(hs.k bs (heap_lt BS9.out) (by have := HNB.out; omega)).trans BS9.out, ⟨((OA9.out.turn (Turn.mono _ (fun b hb _ => by have h0 : w8.heap.size ≤ b := hb; have := HNB.out; show b ≠ w7.heap.size; omega))).turn hs.turn).any, by omega, HSM.out⟩, HT.out W hs.b⟩
 go_wp2_with fail
 refine (wpIn_wide (n := 10)).1 ?_
 refine Ran.range_v (α := At × Rec) (w := w9) rfl (by decide) (gf := 59) (lb := #[.pointer (some ⟨bs, 0, none⟩)]) rfl trivial (enters_of Tryz.func59 (by kernel_rfl) rfl)
  (recs_stops 9 bs oa oc a.recs (by decide) w9 (HOWN.out [] w9 HSI0.out)) (Below.refl _ _) (fun _ => rfl)
  (fun pre W => SI w w9 w7.heap.size stop a.recs pre W)
  (fun id pre W => id = 0 ∧ ∃ p x, pre = p ++ [x] ∧ p.length = stop ∧ SI w w9 w7.heap.size stop a.recs p W)
  (fun s A B row hs hg hr => hs.grown HZ9.out hg hr)
  (fun c s A B row hs hg hr => ⟨hs.1, by obtain ⟨_, p, x, h1, h2, h3⟩ := hs; exact ⟨p, x, h1, h2, h3.grown HZ9.out hg hr⟩⟩)
  HSI0.out (fun pre W hs => HOWN.out pre W hs)
  (SAx w.heap.size w1.heap.size w2.heap.size w3.heap.size w7.heap.size w9.heap.size a.recs)
  (fun pre x a' s A B row hs hg hr => hs.grown hg (fun r e => (hr r e).2))
  ?assign ?body ?done ?stop
 case assign =>
  rintro l pre x W K hsi hx hK
  have HK := Hid.out (p := Hid _) hK
  have HX : Hid (Nxt a.recs pre x W) := hx
  have HSI : Hid (SI w w9 w7.heap.size stop a.recs pre W) := hsi
  clear hK hx hsi
  unfold toldV
  gi_wp2_with fail
  have hB : Below W.heap.size W (W.alloc (.cells (recArr x.1 x.2) 32)) := (Below.refl _ _).alloc (Nat.le_refl _) _
  refine HK.out _ _ (keeps_below _ hB) (HSI.out.stays hB) ?_
  exact ⟨W.heap.size, _, _, _, _, _, _, _, _, _, _, _, _, _, _, _, _, _, _, _, _, _, _, _, _, _, _, _, _, _, _, _, _, _, _, _, _, _, _, _, _, _, _, _, _, _, _, _, _, _, _, _, _, _, _, _, _, _, _, _, _, _, _, _, _, rfl, HSI.out.z, heap_alloc_new _ _, HX.out.i.turn (Turn.below hB), HX.out.s, HX.out.m⟩
 case body =>
  rintro l pre x a' W hll hlr hsi hax hlen
  have HSI : Hid (SI w w9 w7.heap.size stop a.recs pre W) := hsi
  obtain ⟨b, u0, u1, u2, u8, u11, u12, u13, u14, u15, u16, u17, u18, u19, u20, u21, u22, u23, u24, u25, u26, u27, u28, u29, u30, u31, u32, u33, u34, u35, u36, u37, u38, u39, u40, u41, u42, u43, u44, u45, u46, u47, u48, u49, u50, u51, u52, u53, u54, u55, u56, u57, u58, u59, u60, u61, u62, u63, u64, u65, u66, u67, u68, u69, u70, rfl, hb0, hb, hix, hsx, hmx⟩ := hax
  have HKW : Hid (∀ W', Below W.heap.size W W' → Below w.heap.size w W') := fun W' hW => HSI.out.b.trans (hW.mono HSI.out.b.size)
  have hq : a.recs[pre.length]'hlen = x.2 := by
   have h1 := congrArg (fun t => t[pre.length]?) hmx
   simp only [List.getElem?_take, List.getElem?_eq_getElem hlen] at h1
   rw [List.getElem?_append_right (by simp)] at h1
   simpa using h1.symm
  obtain ⟨b2, o2, p0, hra, hb2, hcr, hir⟩ := (HRA0.out w (Below.refl _ _)).get hlen
  rw [hq] at hcr hir
  have HRA : Hid (ra = some ⟨b2, o2, none⟩) := hra
  have HCR : Hid (∀ W', Below W.heap.size W W' → ∀ j u, (recArr p0 x.2)[j]? = some u → W'.cell? ⟨b2, o2 + pre.length * 9 + j, none⟩ = some u) := fun W' hW j u hu => by rw [cell_blk ((HKW.out W' hW).block b2 hb2)]; exact hcr j u hu
  have HIP : Hid (∀ W', Below W.heap.size W W' → IsRec W' (fun _ => True) p0 x.2) := fun W' hW => hir.turn (Turn.below (HKW.out W' hW))
  have HIX : Hid (∀ W', Below W.heap.size W W' → IsRec W' (fun _ => True) x.1 x.2) := fun W' hW => hix.turn (Turn.below hW)
  have HSX : Hid (Small x.2) := hsx
  have HMX : Hid (pre.map (·.2) ++ [x.2] = a.recs.take (pre.length + 1)) := hmx
  have hdr : Below W.heap.size W W.drew := (Below.refl _ _).drew
  have HDR : Hid (Below W.heap.size W W.drew) := hdr
  obtain ⟨qs, hqs⟩ : ∃ q, (⟨(printA x.2.a).toArray⟩ : ByteArray) = q := ⟨_, rfl⟩
  have HPR := rpr_ok x.2 x.1 W.drew (HIX.out W.drew hdr) HSX.out qs hqs
  have HKN : Hid (∀ W', Below W.heap.size W W' → W'.heap[w7.heap.size]? = some (.cells #[.int .i64 pre.length] 3 (0, 0))) := fun W' hW => (hW.block _ (heap_lt HSI.out.n)).trans HSI.out.n
  have HKR : Hid (∀ W', Below W.heap.size W W' → W'.heap[b]? = some (.cells (recArr x.1 x.2) 32 (0, 0))) := fun W' hW => (hW.block _ (heap_lt hb)).trans hb
  have hle : ∀ k, k < w9.heap.size → k < W.heap.size := fun k hk => Nat.lt_of_lt_of_le hk HSI.out.z
  have HKX : Hid (∀ W', Below W.heap.size W W' → W'.heap[w.heap.size]? = some (.cells (staArr ra rc a) 26 (0, 0))) := fun W' hW => (hW.block _ (hle _ (heap_lt (HKA.out w9 B9.out)))).trans ((HSI.out.k _ (heap_lt (HKA.out w9 B9.out)) (by have := HSZ.out; have := HNB.out; omega)).trans (HKA.out w9 B9.out))
  have HKS2 : Hid (∀ W', Below W.heap.size W W' → W'.heap[w2.heap.size]? = some (.cells #[.int .u8 stop] 5 (0, 0))) := fun W' hW => (hW.block _ (hle _ (heap_lt (HKS.out w9 B9.out)))).trans ((HSI.out.k _ (heap_lt (HKS.out w9 B9.out)) (by have := HSZ.out; have := HNB.out; omega)).trans (HKS.out w9 B9.out))
  rw [hqs]
  have V0 := HKN.out W (Below.refl _ _)
  have cn0 := cell_of V0 0
  have fn0 := frozen_of V0 0
  have cs0 := cell_of (HKS2.out W (Below.refl _ _)) 0
  clear V0 hqs hcr hir hix hsx hmx hb hle hsi
  by_cases hstop : stop ≤ pre.length
  ·gi_wp2_with fail
   exact ⟨KeepsFrom.refl _ _, rfl, pre, x, rfl, by have := HSI.out.s; omega, HSI.out⟩
  ·obtain ⟨ba0, ba1, ba2, ba3, ba4, ba5, ba6, ba7, ba8⟩ := rec_cells (HKR.out W (Below.refl _ _))
   obtain ⟨bb0, bb1, bb2⟩ := sta_cells (HKX.out W (Below.refl _ _))
   rw [HRA.out] at bb2
   obtain ⟨bc0, bc1, bc2, bc3, bc4, bc5, bc6, bc7, bc8⟩ := recs_nine (HCR.out W (Below.refl _ _))
   have cnd := cell_of (HKN.out W.drew hdr) 0
   obtain ⟨bd0, bd1, bd2, bd3, bd4, bd5, bd6, bd7, bd8⟩ := rec_cells (HKR.out W.drew hdr)
   obtain ⟨be0, be1, be2⟩ := sta_cells (HKX.out W.drew hdr)
   rw [HRA.out] at be2
   obtain ⟨bf0, bf1, bf2, bf3, bf4, bf5, bf6, bf7, bf8⟩ := recs_nine (HCR.out W.drew hdr)
   have hqe : (qs.toList != qs.toList) = false := by simp
   have hge : ¬ a.recs.length ≤ pre.length := by omega
   have hgd : decide (a.recs.length ≤ pre.length) = false := by simp; omega
   gi_wp2_with fail
   refine Ran.wpIn_region_held_drew (S := (fun w' => w'.cell? ⟨b, 0, none⟩ = some (.slice x.1.pa x.2.a.path.length x.1.pc) ∧ w'.cell? ⟨b, 1, none⟩ = some (.string x.2.a.type) ∧ w'.cell? ⟨b, 2, none⟩ = some (.string x.2.a.name) ∧ w'.cell? ⟨b, 3, none⟩ = some (.int .i64 x.2.a.key) ∧ w'.cell? ⟨b, 4, none⟩ = some (.int .u64 x.2.a.place) ∧ w'.cell? ⟨b, 5, none⟩ = some (.string x.2.a.word) ∧ w'.cell? ⟨b, 6, none⟩ = some (.string x.2.prov) ∧ w'.cell? ⟨b, 7, none⟩ = some (.string x.2.id) ∧ w'.cell? ⟨b, 8, none⟩ = some (.slice x.1.ta x.2.attrs.length x.1.tc) ∧ w'.cell? ⟨w7.heap.size, 0, none⟩ = some (.int .i64 pre.length) ∧ w'.cell? ⟨w.heap.size, 2, none⟩ = some (.slice (some ⟨b2, o2, none⟩) a.recs.length rc) ∧ w'.cell? ⟨b2, o2 + pre.length * 9, none⟩ = some (.slice p0.pa x.2.a.path.length p0.pc) ∧ w'.cell? ⟨b2, o2 + pre.length * 9 + 1, none⟩ = some (.string x.2.a.type) ∧ w'.cell? ⟨b2, o2 + pre.length * 9 + 2, none⟩ = some (.string x.2.a.name) ∧ w'.cell? ⟨b2, o2 + pre.length * 9 + 3, none⟩ = some (.int .i64 x.2.a.key) ∧ w'.cell? ⟨b2, o2 + pre.length * 9 + 4, none⟩ = some (.int .u64 x.2.a.place) ∧ w'.cell? ⟨b2, o2 + pre.length * 9 + 5, none⟩ = some (.string x.2.a.word) ∧ w'.cell? ⟨b2, o2 + pre.length * 9 + 6, none⟩ = some (.string x.2.prov) ∧ w'.cell? ⟨b2, o2 + pre.length * 9 + 7, none⟩ = some (.string x.2.id) ∧ w'.cell? ⟨b2, o2 + pre.length * 9 + 8, none⟩ = some (.slice p0.ta x.2.attrs.length p0.tc))) (fun h => by obtain ⟨_, _, h⟩ := h; exact h) (by kernel_rfl) (by kernel_rfl) ?_ (fun hHeld => ?_)
   ·go_keep
   refine wpAnyH_take (i := 0) (v := ?v1) rfl (by kernel_rfl) (by kernel_rfl) (by kernel_rfl) (fun _ _ _ h => h) (Or.inl ⟨by rfl, ?hy1⟩) (by assumption) ?rest1
   case hy1 => (intro w hSw; (try dsimp only at hSw); go_simp <;> with_reducible rfl)
   try simp only [List.getElem_toArray, List.getElem_cons_succ, List.getElem_cons_zero, Act.put, List.setIfInBounds_toArray, List.set_cons_zero, List.set_cons_succ]
   refine wpAnyH_take (i := 1) (v := ?v2) rfl (by kernel_rfl) (by kernel_rfl) (by kernel_rfl) (fun _ _ _ h => h) (Or.inl ⟨by rfl, ?hy2⟩) (by assumption) ?rest2
   case hy2 => (intro w hSw; (try dsimp only at hSw); go_simp <;> with_reducible rfl)
   try simp only [List.getElem_toArray, List.getElem_cons_succ, List.getElem_cons_zero, Act.put, List.setIfInBounds_toArray, List.set_cons_zero, List.set_cons_succ]
   refine wpAnyH_take (i := 2) (v := ?v3) rfl (by kernel_rfl) (by kernel_rfl) (by kernel_rfl) (fun _ _ _ h => h) (Or.inl ⟨by rfl, ?hy3⟩) (by assumption) ?rest3
   case hy3 => (intro w hSw; (try dsimp only at hSw); go_simp <;> with_reducible rfl)
   try simp only [List.getElem_toArray, List.getElem_cons_succ, List.getElem_cons_zero, Act.put, List.setIfInBounds_toArray, List.set_cons_zero, List.set_cons_succ]
   refine wpAnyH_take (i := 3) (v := ?v4) rfl (by kernel_rfl) (by kernel_rfl) (by kernel_rfl) (fun _ _ _ h => h) (Or.inl ⟨by rfl, ?hy4⟩) (by assumption) ?rest4
   case hy4 => (intro w hSw; (try dsimp only at hSw); go_simp <;> with_reducible rfl)
   try simp only [List.getElem_toArray, List.getElem_cons_succ, List.getElem_cons_zero, Act.put, List.setIfInBounds_toArray, List.set_cons_zero, List.set_cons_succ]
   refine wpAnyH_take (i := 4) (v := ?v5) rfl (by kernel_rfl) (by kernel_rfl) (by kernel_rfl) (fun _ _ _ h => h) (Or.inl ⟨by rfl, ?hy5⟩) (by assumption) ?rest5
   case hy5 => (intro w hSw; (try dsimp only at hSw); go_simp <;> with_reducible rfl)
   try simp only [List.getElem_toArray, List.getElem_cons_succ, List.getElem_cons_zero, Act.put, List.setIfInBounds_toArray, List.set_cons_zero, List.set_cons_succ]
   refine wpAnyH_take (i := 5) (v := ?v6) rfl (by kernel_rfl) (by kernel_rfl) (by kernel_rfl) (fun _ _ _ h => h) (Or.inl ⟨by rfl, ?hy6⟩) (by assumption) ?rest6
   case hy6 => (intro w hSw; (try dsimp only at hSw); go_simp <;> with_reducible rfl)
   try simp only [List.getElem_toArray, List.getElem_cons_succ, List.getElem_cons_zero, Act.put, List.setIfInBounds_toArray, List.set_cons_zero, List.set_cons_succ]
   refine wpAnyH_take (i := 6) (v := ?v7) rfl (by kernel_rfl) (by kernel_rfl) (by kernel_rfl) (fun _ _ _ h => h) (Or.inl ⟨by rfl, ?hy7⟩) (by assumption) ?rest7
   case hy7 => (intro w hSw; (try dsimp only at hSw); go_simp <;> with_reducible rfl)
   try simp only [List.getElem_toArray, List.getElem_cons_succ, List.getElem_cons_zero, Act.put, List.setIfInBounds_toArray, List.set_cons_zero, List.set_cons_succ]
   refine wpAnyH_take (i := 7) (v := ?v8) rfl (by kernel_rfl) (by kernel_rfl) (by kernel_rfl) (fun _ _ _ h => h) (Or.inl ⟨by rfl, ?hy8⟩) (by assumption) ?rest8
   case hy8 => (intro w hSw; (try dsimp only at hSw); go_simp <;> with_reducible rfl)
   try simp only [List.getElem_toArray, List.getElem_cons_succ, List.getElem_cons_zero, Act.put, List.setIfInBounds_toArray, List.set_cons_zero, List.set_cons_succ]
   refine wpAnyH_take (i := 8) (v := ?v9) rfl (by kernel_rfl) (by kernel_rfl) (by kernel_rfl) (fun _ _ _ h => h) (Or.inl ⟨by rfl, ?hy9⟩) (by assumption) ?rest9
   case hy9 => (intro w hSw; (try dsimp only at hSw); go_simp <;> with_reducible rfl)
   try simp only [List.getElem_toArray, List.getElem_cons_succ, List.getElem_cons_zero, Act.put, List.setIfInBounds_toArray, List.set_cons_zero, List.set_cons_succ]
   refine wpAnyH_ready (rs := [9]) (by kernel_rfl) (by simp) ?_
   refine AllReadyH.cons rfl (fun K hK => ?_) AllReadyH.nil
   try simp only [List.getElem_toArray, List.getElem_cons_succ, List.getElem_cons_zero]
   go_simp
   (refine (Calls.mono HPR.out ?_); rintro z v6 ⟨rfl, hb6⟩; have C6 : Hid (Below W.heap.size W v6) := HDR.out.trans hb6; clear hb6; obtain ⟨car0, car1, car2, car3, car4, car5, car6, car7, car8⟩ := rec_cells (HKR.out v6 C6.out); have can := cell_of (HKN.out v6 C6.out) 0; obtain ⟨cax0, cax1, cax2⟩ := sta_cells (HKX.out v6 C6.out); rw [HRA.out] at cax2; obtain ⟨caz0, caz1, caz2, caz3, caz4, caz5, caz6, caz7, caz8⟩ := recs_nine (HCR.out v6 C6.out); have HSR := sre_ok x.2 x.2 x.1 p0 v6 (HIX.out v6 C6.out) (HIP.out v6 C6.out) HSX.out HSX.out true ((sameRec_iff _ _).2 rfl))
   clear hHeld
   refine hK.out _ _ ?_ (fun hHeld => ?_)
   ·go_keep
   clear hK K
   try simp only [List.getElem_toArray, List.getElem_cons_succ, List.getElem_cons_zero, Act.put, List.setIfInBounds_toArray, List.set_cons_zero, List.set_cons_succ]
   refine wpAnyH_take (i := 10) (v := ?v10) rfl (by kernel_rfl) (by kernel_rfl) (by kernel_rfl) (fun _ _ _ h => h) (Or.inl ⟨by rfl, ?hy10⟩) (by assumption) ?rest10
   case hy10 => (intro w hSw; (try dsimp only at hSw); go_simp <;> with_reducible rfl)
   try simp only [List.getElem_toArray, List.getElem_cons_succ, List.getElem_cons_zero, Act.put, List.setIfInBounds_toArray, List.set_cons_zero, List.set_cons_succ]
   refine wpAnyH_take (i := 11) (v := ?v11) rfl (by kernel_rfl) (by kernel_rfl) (by kernel_rfl) (fun _ _ _ h => h) (Or.inl ⟨by rfl, ?hy11⟩) (by assumption) ?rest11
   case hy11 => (intro w hSw; (try dsimp only at hSw); go_simp <;> with_reducible rfl)
   try simp only [List.getElem_toArray, List.getElem_cons_succ, List.getElem_cons_zero, Act.put, List.setIfInBounds_toArray, List.set_cons_zero, List.set_cons_succ]
   refine wpAnyH_take (i := 12) (v := ?v12) rfl (by kernel_rfl) (by kernel_rfl) (by kernel_rfl) (fun _ _ _ h => h) (Or.inl ⟨by rfl, ?hy12⟩) (by assumption) ?rest12
   case hy12 => (intro w hSw; (try dsimp only at hSw); go_simp <;> with_reducible rfl)
   try simp only [List.getElem_toArray, List.getElem_cons_succ, List.getElem_cons_zero, Act.put, List.setIfInBounds_toArray, List.set_cons_zero, List.set_cons_succ]
   refine wpAnyH_take (i := 13) (v := ?v13) rfl (by kernel_rfl) (by kernel_rfl) (by kernel_rfl) (fun _ _ _ h => h) (Or.inl ⟨by rfl, ?hy13⟩) (by assumption) ?rest13
   case hy13 => (intro w hSw; (try dsimp only at hSw); go_simp <;> with_reducible rfl)
   try simp only [List.getElem_toArray, List.getElem_cons_succ, List.getElem_cons_zero, Act.put, List.setIfInBounds_toArray, List.set_cons_zero, List.set_cons_succ]
   refine wpAnyH_take (i := 14) (v := ?v14) rfl (by kernel_rfl) (by kernel_rfl) (by kernel_rfl) (fun _ _ _ h => h) (Or.inl ⟨by rfl, ?hy14⟩) (by assumption) ?rest14
   case hy14 => (intro w hSw; (try dsimp only at hSw); go_simp <;> with_reducible rfl)
   try simp only [List.getElem_toArray, List.getElem_cons_succ, List.getElem_cons_zero, Act.put, List.setIfInBounds_toArray, List.set_cons_zero, List.set_cons_succ]
   refine wpAnyH_take (i := 15) (v := ?v15) rfl (by kernel_rfl) (by kernel_rfl) (by kernel_rfl) (fun _ _ _ h => h) (Or.inl ⟨by rfl, ?hy15⟩) (by assumption) ?rest15
   case hy15 => (intro w hSw; (try dsimp only at hSw); go_simp <;> with_reducible rfl)
   try simp only [List.getElem_toArray, List.getElem_cons_succ, List.getElem_cons_zero, Act.put, List.setIfInBounds_toArray, List.set_cons_zero, List.set_cons_succ]
   refine wpAnyH_take (i := 16) (v := ?v16) rfl (by kernel_rfl) (by kernel_rfl) (by kernel_rfl) (fun _ _ _ h => h) (Or.inl ⟨by rfl, ?hy16⟩) (by assumption) ?rest16
   case hy16 => (intro w hSw; (try dsimp only at hSw); go_simp <;> with_reducible rfl)
   try simp only [List.getElem_toArray, List.getElem_cons_succ, List.getElem_cons_zero, Act.put, List.setIfInBounds_toArray, List.set_cons_zero, List.set_cons_succ]
   refine wpAnyH_take (i := 17) (v := ?v17) rfl (by kernel_rfl) (by kernel_rfl) (by kernel_rfl) (fun _ _ _ h => h) (Or.inl ⟨by rfl, ?hy17⟩) (by assumption) ?rest17
   case hy17 => (intro w hSw; (try dsimp only at hSw); go_simp <;> with_reducible rfl)
   try simp only [List.getElem_toArray, List.getElem_cons_succ, List.getElem_cons_zero, Act.put, List.setIfInBounds_toArray, List.set_cons_zero, List.set_cons_succ]
   refine wpAnyH_take (i := 18) (v := ?v18) rfl (by kernel_rfl) (by kernel_rfl) (by kernel_rfl) (fun _ _ _ h => h) (Or.inl ⟨by rfl, ?hy18⟩) (by assumption) ?rest18
   case hy18 => (intro w hSw; (try dsimp only at hSw); go_simp <;> with_reducible rfl)
   try simp only [List.getElem_toArray, List.getElem_cons_succ, List.getElem_cons_zero, Act.put, List.setIfInBounds_toArray, List.set_cons_zero, List.set_cons_succ]
   refine wpAnyH_ready (rs := [19]) (by kernel_rfl) (by simp) ?_
   refine AllReadyH.cons rfl (fun K hK => ?_) AllReadyH.nil
   try simp only [List.getElem_toArray, List.getElem_cons_succ, List.getElem_cons_zero]
   go_simp
   (refine (Calls.mono HSR.out ?_); rintro z v7 ⟨rfl, hb7⟩; have C7 : Hid (Below W.heap.size W v7) := C6.out.trans (hb7.mono C6.out.size); clear hb7; obtain ⟨cbr0, cbr1, cbr2, cbr3, cbr4, cbr5, cbr6, cbr7, cbr8⟩ := rec_cells (HKR.out v7 C7.out); have cbn := cell_of (HKN.out v7 C7.out) 0; obtain ⟨cbx0, cbx1, cbx2⟩ := sta_cells (HKX.out v7 C7.out); rw [HRA.out] at cbx2; obtain ⟨cbz0, cbz1, cbz2, cbz3, cbz4, cbz5, cbz6, cbz7, cbz8⟩ := recs_nine (HCR.out v7 C7.out))
   clear hHeld
   refine hK.out _ _ ?_ (fun hHeld => ?_)
   ·go_keep
   clear hK K
   try simp only [List.getElem_toArray, List.getElem_cons_succ, List.getElem_cons_zero, Act.put, List.setIfInBounds_toArray, List.set_cons_zero, List.set_cons_succ]
   refine wpAnyH_take (i := 20) (v := ?v19) rfl (by kernel_rfl) (by kernel_rfl) (by kernel_rfl) (fun _ _ _ h => h) (Or.inl ⟨by rfl, ?hy19⟩) (by assumption) ?rest19
   case hy19 => (intro w hSw; (try dsimp only at hSw); go_simp <;> with_reducible rfl)
   try simp only [List.getElem_toArray, List.getElem_cons_succ, List.getElem_cons_zero, Act.put, List.setIfInBounds_toArray, List.set_cons_zero, List.set_cons_succ]
   refine wpAnyH_take (i := 21) (v := ?v20) rfl (by kernel_rfl) (by kernel_rfl) (by kernel_rfl) (fun _ _ _ h => h) (Or.inl ⟨by rfl, ?hy20⟩) (by assumption) ?rest20
   case hy20 => (intro w hSw; (try dsimp only at hSw); go_simp <;> with_reducible rfl)
   try simp only [List.getElem_toArray, List.getElem_cons_succ, List.getElem_cons_zero, Act.put, List.setIfInBounds_toArray, List.set_cons_zero, List.set_cons_succ]
   refine wpAnyH_done (by kernel_rfl) ?_ _
   have VN7 := HKN.out v7 C7.out
   have fn7 := frozen_of VN7 0
   gi_wp2_with fail
   exact ⟨keeps_set _ (keeps_below _ C7.out) VN7, (HSI.out.stays C7.out).next (by have := HSZ.out; have := HNB.out; omega) HMX.out (by omega)⟩
 case done =>
  rintro D xs W hD hxs hsi hKD
  have HSI : Hid (SI w w9 w7.heap.size stop a.recs xs W) := hsi
  have hlx : xs.length = a.recs.length := by rw [← hxs, List.length_map]
  have hle := hsi.s
  obtain ⟨m, hm⟩ : ∃ m, xs.length = m := ⟨_, rfl⟩
  have hmn : min stop a.recs.length = m := by omega
  clear hxs
  have hdr : Below W.heap.size W W.drew := (Below.refl _ _).drew
  have HDR : Hid (Below W.heap.size W W.drew) := hdr
  have HKW : Hid (∀ W', Below W.heap.size W W' → Below w.heap.size w W') := fun W' hW => HSI.out.b.trans (hW.mono HSI.out.b.size)
  have hlt : ∀ k, k < w9.heap.size → k < W.heap.size := fun k hk => Nat.lt_of_lt_of_le hk HSI.out.z
  have hold : ∀ (k : Nat) (o : Obj), w9.heap[k]? = some o → k ≠ w7.heap.size → ∀ W', Below W.heap.size W W' → W'.heap[k]? = some o := fun k o ho hk W' hW => (hW.block _ (hlt _ (heap_lt ho))).trans ((HSI.out.k _ (heap_lt ho) hk).trans ho)
  have hz1 := HSZ.out
  have hz2 := HNB.out
  have HKX : Hid (∀ W', Below W.heap.size W W' → W'.heap[w.heap.size]? = some (.cells (staArr ra rc a) 26 (0, 0))) := hold _ _ (HKA.out w9 B9.out) (by omega)
  have HKY : Hid (∀ W', Below W.heap.size W W' → W'.heap[w1.heap.size]? = some (.cells (staArr rb rd b) 26 (0, 0))) := hold _ _ (HKB.out w9 B9.out) (by omega)
  have HKT : Hid (∀ W', Below W.heap.size W W' → W'.heap[w2.heap.size]? = some (.cells #[.int .u8 stop] 5 (0, 0))) := hold _ _ (HKS.out w9 B9.out) (by omega)
  have HKF : Hid (∀ W', Below W.heap.size W W' → W'.heap[w3.heap.size]? = some (.cells #[.bool false] 4 (0, 0))) := hold _ _ (HKR0.out w9 B9.out) (by omega)
  have HKN : Hid (∀ W', Below W.heap.size W W' → W'.heap[w7.heap.size]? = some (.cells #[.int .i64 m] 3 (0, 0))) := fun W' hW => by rw [← hm]; exact (hW.block _ (heap_lt HSI.out.n)).trans HSI.out.n
  obtain ⟨sab, hsab⟩ : ∃ t, sameSta a b = t := ⟨_, rfl⟩
  have HS1 : Hid (Calls Tryz.prog 33 #[.agg #[.int .u64 a.serial, .string a.lin, .slice ra a.recs.length rc], .agg #[.int .u64 b.serial, .string b.lin, .slice rb b.recs.length rd]] W.drew fun e w' => e = .returned (.bool sab) ∧ Below W.drew.heap.size W.drew w') := by rw [← hsab]; exact ssame_any a b ra rb rc rd W.drew (HRA0.out _ (HKW.out _ hdr)) (HRB0.out _ (HKW.out _ hdr))
  have HKD : Hid (W.heap[D]? = some (.deferred (some []))) := hKD
  have hDn : D ≠ w3.heap.size := by have := B9.out.size; omega
  have hn37 : w3.heap.size ≠ w7.heap.size := by omega
  have hn32 : w3.heap.size ≠ w2.heap.size := by omega
  have hn31 : w3.heap.size ≠ w1.heap.size := by omega
  have hn30 : w3.heap.size ≠ w.heap.size := by omega
  have hn73 : w7.heap.size ≠ w3.heap.size := by omega
  have hn23 : w2.heap.size ≠ w3.heap.size := by omega
  have hn13 : w1.heap.size ≠ w3.heap.size := by omega
  have hn03 : w.heap.size ≠ w3.heap.size := by omega
  have hwr : IntKind.i64.wrap (stop : Int) = (stop : Int) := by simp [IntKind.wrap, IntKind.signed, IntKind.bits]; omega
  have hm1 : min (IntKind.i64.wrap (stop : Int)) (a.recs.length : Int) = (m : Int) := by rw [hwr]; omega
  have hm3 : min (stop : Int) (a.recs.length : Int) = (m : Int) := by omega
  have hm2 : (if (stop : Int) ≤ (a.recs.length : Int) then (stop : Int) else (a.recs.length : Int)) = (m : Int) := by split <;> omega
  have hm4 : (if (a.recs.length : Int) < (stop : Int) then (a.recs.length : Int) else (stop : Int)) = (m : Int) := by split <;> omega
  clear hz1 hz2 hlt hold hsi hKD hle hmn hdr hm hlx
  obtain ⟨c0x0, c0x1, c0x2⟩ := sta_cells (HKX.out W.drew HDR.out)
  obtain ⟨c0y0, c0y1, c0y2⟩ := sta_cells (HKY.out W.drew HDR.out)
  have c0n := cell_of (HKN.out W.drew HDR.out) 0
  have c0s := cell_of (HKT.out W.drew HDR.out) 0
  go_wp2_with fail
  refine Ran.wp_calm ?_
  refine wp_region_held_drew (S := (fun w' => w'.cell? ⟨w.heap.size, 0, none⟩ = some (.int .u64 a.serial) ∧ w'.cell? ⟨w.heap.size, 1, none⟩ = some (.string a.lin) ∧ w'.cell? ⟨w.heap.size, 2, none⟩ = some (.slice ra a.recs.length rc) ∧ w'.cell? ⟨w1.heap.size, 0, none⟩ = some (.int .u64 b.serial) ∧ w'.cell? ⟨w1.heap.size, 1, none⟩ = some (.string b.lin) ∧ w'.cell? ⟨w1.heap.size, 2, none⟩ = some (.slice rb b.recs.length rd) ∧ w'.cell? ⟨w7.heap.size, 0, none⟩ = some (.int .i64 m) ∧ w'.cell? ⟨w2.heap.size, 0, none⟩ = some (.int .u8 stop))) (by kernel_rfl) ?_ (fun hHeld => ?_)
  ·go_keep
  refine wpAnyH_take (i := 0) (v := ?v21) rfl (by kernel_rfl) (by kernel_rfl) (by kernel_rfl) (fun _ _ _ h => h) (Or.inl ⟨by rfl, ?hy21⟩) (by assumption) ?rest21
  case hy21 => (intro w hSw; (try dsimp only at hSw); go_simp <;> with_reducible rfl)
  try simp only [List.getElem_toArray, List.getElem_cons_succ, List.getElem_cons_zero, Act.put, List.setIfInBounds_toArray, List.set_cons_zero, List.set_cons_succ]
  refine wpAnyH_take (i := 1) (v := ?v22) rfl (by kernel_rfl) (by kernel_rfl) (by kernel_rfl) (fun _ _ _ h => h) (Or.inl ⟨by rfl, ?hy22⟩) (by assumption) ?rest22
  case hy22 => (intro w hSw; (try dsimp only at hSw); go_simp <;> with_reducible rfl)
  try simp only [List.getElem_toArray, List.getElem_cons_succ, List.getElem_cons_zero, Act.put, List.setIfInBounds_toArray, List.set_cons_zero, List.set_cons_succ]
  refine wpAnyH_take (i := 2) (v := ?v23) rfl (by kernel_rfl) (by kernel_rfl) (by kernel_rfl) (fun _ _ _ h => h) (Or.inl ⟨by rfl, ?hy23⟩) (by assumption) ?rest23
  case hy23 => (intro w hSw; (try dsimp only at hSw); go_simp <;> with_reducible rfl)
  try simp only [List.getElem_toArray, List.getElem_cons_succ, List.getElem_cons_zero, Act.put, List.setIfInBounds_toArray, List.set_cons_zero, List.set_cons_succ]
  refine wpAnyH_take (i := 3) (v := ?v24) rfl (by kernel_rfl) (by kernel_rfl) (by kernel_rfl) (fun _ _ _ h => h) (Or.inl ⟨by rfl, ?hy24⟩) (by assumption) ?rest24
  case hy24 => (intro w hSw; (try dsimp only at hSw); go_simp <;> with_reducible rfl)
  try simp only [List.getElem_toArray, List.getElem_cons_succ, List.getElem_cons_zero, Act.put, List.setIfInBounds_toArray, List.set_cons_zero, List.set_cons_succ]
  refine wpAnyH_take (i := 4) (v := ?v25) rfl (by kernel_rfl) (by kernel_rfl) (by kernel_rfl) (fun _ _ _ h => h) (Or.inl ⟨by rfl, ?hy25⟩) (by assumption) ?rest25
  case hy25 => (intro w hSw; (try dsimp only at hSw); go_simp <;> with_reducible rfl)
  try simp only [List.getElem_toArray, List.getElem_cons_succ, List.getElem_cons_zero, Act.put, List.setIfInBounds_toArray, List.set_cons_zero, List.set_cons_succ]
  refine wpAnyH_take (i := 5) (v := ?v26) rfl (by kernel_rfl) (by kernel_rfl) (by kernel_rfl) (fun _ _ _ h => h) (Or.inl ⟨by rfl, ?hy26⟩) (by assumption) ?rest26
  case hy26 => (intro w hSw; (try dsimp only at hSw); go_simp <;> with_reducible rfl)
  try simp only [List.getElem_toArray, List.getElem_cons_succ, List.getElem_cons_zero, Act.put, List.setIfInBounds_toArray, List.set_cons_zero, List.set_cons_succ]
  refine wpAnyH_take (i := 6) (v := ?v27) rfl (by kernel_rfl) (by kernel_rfl) (by kernel_rfl) (fun _ _ _ h => h) (Or.inl ⟨by rfl, ?hy27⟩) (by assumption) ?rest27
  case hy27 => (intro w hSw; (try dsimp only at hSw); go_simp <;> with_reducible rfl)
  try simp only [List.getElem_toArray, List.getElem_cons_succ, List.getElem_cons_zero, Act.put, List.setIfInBounds_toArray, List.set_cons_zero, List.set_cons_succ]
  refine wpAnyH_take (i := 7) (v := ?v28) rfl (by kernel_rfl) (by kernel_rfl) (by kernel_rfl) (fun _ _ _ h => h) (Or.inl ⟨by rfl, ?hy28⟩) (by assumption) ?rest28
  case hy28 => (intro w hSw; (try dsimp only at hSw); go_simp <;> with_reducible rfl)
  try simp only [List.getElem_toArray, List.getElem_cons_succ, List.getElem_cons_zero, Act.put, List.setIfInBounds_toArray, List.set_cons_zero, List.set_cons_succ]
  refine wpAnyH_take (i := 8) (v := ?v29) rfl (by kernel_rfl) (by kernel_rfl) (by kernel_rfl) (fun _ _ _ h => h) (Or.inl ⟨by rfl, ?hy29⟩) (by assumption) ?rest29
  case hy29 => (intro w hSw; (try dsimp only at hSw); go_simp <;> with_reducible rfl)
  try simp only [List.getElem_toArray, List.getElem_cons_succ, List.getElem_cons_zero, Act.put, List.setIfInBounds_toArray, List.set_cons_zero, List.set_cons_succ]
  refine wpAnyH_take (i := 9) (v := ?v30) rfl (by kernel_rfl) (by kernel_rfl) (by kernel_rfl) (fun _ _ _ h => h) (Or.inl ⟨by rfl, ?hy30⟩) (by assumption) ?rest30
  case hy30 => (intro w hSw; (try dsimp only at hSw); go_simp <;> with_reducible rfl)
  try simp only [List.getElem_toArray, List.getElem_cons_succ, List.getElem_cons_zero, Act.put, List.setIfInBounds_toArray, List.set_cons_zero, List.set_cons_succ]
  refine wpAnyH_take (i := 10) (v := ?v31) rfl (by kernel_rfl) (by kernel_rfl) (by kernel_rfl) (fun _ _ _ h => h) (Or.inl ⟨by rfl, ?hy31⟩) (by assumption) ?rest31
  case hy31 => (intro w hSw; (try dsimp only at hSw); go_simp <;> with_reducible rfl)
  try simp only [List.getElem_toArray, List.getElem_cons_succ, List.getElem_cons_zero, Act.put, List.setIfInBounds_toArray, List.set_cons_zero, List.set_cons_succ]
  refine wpAnyH_take (i := 12) (v := ?v32) rfl (by kernel_rfl) (by kernel_rfl) (by kernel_rfl) (fun _ _ _ h => h) (Or.inl ⟨by rfl, ?hy32⟩) (by assumption) ?rest32
  case hy32 => (intro w hSw; (try dsimp only at hSw); go_simp <;> with_reducible rfl)
  try simp only [List.getElem_toArray, List.getElem_cons_succ, List.getElem_cons_zero, Act.put, List.setIfInBounds_toArray, List.set_cons_zero, List.set_cons_succ]
  refine wpAnyH_take (i := 13) (v := ?v33) rfl (by kernel_rfl) (by kernel_rfl) (by kernel_rfl) (fun _ _ _ h => h) (Or.inl ⟨by rfl, ?hy33⟩) (by assumption) ?rest33
  case hy33 => (intro w hSw; (try dsimp only at hSw); go_simp <;> with_reducible rfl)
  try simp only [List.getElem_toArray, List.getElem_cons_succ, List.getElem_cons_zero, Act.put, List.setIfInBounds_toArray, List.set_cons_zero, List.set_cons_succ]
  refine wpAnyH_ready (rs := [11]) (by kernel_rfl) (by simp) ?_
  refine AllReadyH.cons rfl (fun K hK => ?_) AllReadyH.nil
  try simp only [List.getElem_toArray, List.getElem_cons_succ, List.getElem_cons_zero]
  go_simp
  (go_at_call 33; refine (Calls.mono HS1.out ?_); rintro z v6 ⟨rfl, hb6⟩; have C6 : Hid (Below W.heap.size W v6) := HDR.out.trans hb6; clear hb6; obtain ⟨cax0, cax1, cax2⟩ := sta_cells (HKX.out v6 C6.out); obtain ⟨cay0, cay1, cay2⟩ := sta_cells (HKY.out v6 C6.out); have can := cell_of (HKN.out v6 C6.out) 0; have cas := cell_of (HKT.out v6 C6.out) 0; have HS2 := sm_ok a b ra rb rc rd v6 (HRA0.out v6 (HKW.out v6 C6.out)) (HRB0.out v6 (HKW.out v6 C6.out)) sab hsab)
  clear hHeld
  refine hK.out _ _ ?_ (fun hHeld => ?_)
  ·go_keep
  clear hK K
  try simp only [List.getElem_toArray, List.getElem_cons_succ, List.getElem_cons_zero, Act.put, List.setIfInBounds_toArray, List.set_cons_zero, List.set_cons_succ]
  refine wpAnyH_ready (rs := [14]) (by kernel_rfl) (by simp) ?_
  refine AllReadyH.cons rfl (fun K hK => ?_) AllReadyH.nil
  try simp only [List.getElem_toArray, List.getElem_cons_succ, List.getElem_cons_zero]
  go_simp
  (go_at_call 20; refine (Calls.mono HS2.out ?_); rintro z v7 ⟨rfl, hb7⟩; have C7 : Hid (Below W.heap.size W v7) := C6.out.trans (hb7.mono C6.out.size); clear hb7; obtain ⟨cbx0, cbx1, cbx2⟩ := sta_cells (HKX.out v7 C7.out); obtain ⟨cby0, cby1, cby2⟩ := sta_cells (HKY.out v7 C7.out); have cbn := cell_of (HKN.out v7 C7.out) 0; have cbs := cell_of (HKT.out v7 C7.out) 0; have VR7 := HKF.out v7 C7.out; have fr7 := frozen_of VR7 0; have cr7 := cell_of VR7 0)
  clear hHeld
  refine hK.out _ _ ?_ (fun hHeld => ?_)
  ·go_keep
  clear hK K
  try simp only [List.getElem_toArray, List.getElem_cons_succ, List.getElem_cons_zero, Act.put, List.setIfInBounds_toArray, List.set_cons_zero, List.set_cons_succ]
  refine wpAnyH_take (i := 15) (v := ?v34) rfl (by kernel_rfl) (by kernel_rfl) (by kernel_rfl) (fun _ _ _ h => h) (Or.inl ⟨by rfl, ?hy34⟩) (by assumption) ?rest34
  case hy34 => (intro w hSw; (try dsimp only at hSw); go_simp <;> with_reducible rfl)
  try simp only [List.getElem_toArray, List.getElem_cons_succ, List.getElem_cons_zero, Act.put, List.setIfInBounds_toArray, List.set_cons_zero, List.set_cons_succ]
  refine wpAnyH_take (i := 16) (v := ?v35) rfl (by kernel_rfl) (by kernel_rfl) (by kernel_rfl) (fun _ _ _ h => h) (Or.inl ⟨by rfl, ?hy35⟩) (by assumption) ?rest35
  case hy35 => (intro w hSw; (try dsimp only at hSw); go_simp <;> with_reducible rfl)
  try simp only [List.getElem_toArray, List.getElem_cons_succ, List.getElem_cons_zero, Act.put, List.setIfInBounds_toArray, List.set_cons_zero, List.set_cons_succ]
  refine wpAnyH_ready (rs := [17]) (by kernel_rfl) (by simp) ?_
  refine AllReadyH.cons rfl (fun K hK => ?_) AllReadyH.nil
  try simp only [List.getElem_toArray, List.getElem_cons_succ, List.getElem_cons_zero]
  go_simp
  clear hHeld
  refine hK.out _ _ ?_ (fun hHeld => ?_)
  ·go_keep
  clear hK K
  try simp only [List.getElem_toArray, List.getElem_cons_succ, List.getElem_cons_zero, Act.put, List.setIfInBounds_toArray, List.set_cons_zero, List.set_cons_succ]
  refine wpAnyH_done (by kernel_rfl) ?_ _
  simp only [Ran.calmQ]
  have HV : Hid ((v7.setCell ⟨w3.heap.size, 0, none⟩ (.bool true)).heap[w3.heap.size]? = some (.cells #[.bool true] 4 (0, 0))) := by rw [Hid, heap_set_same VR7]; rfl
  have HBV : Hid (Below w.heap.size w (v7.setCell ⟨w3.heap.size, 0, none⟩ (.bool true))) := (HKW.out v7 C7.out).setCell (p := ⟨w3.heap.size, 0, none⟩) (by show w.heap.size ≤ w3.heap.size; have := HSZ.out; omega) _
  have HDV : Hid ((v7.setCell ⟨w3.heap.size, 0, none⟩ (.bool true)).heap[D]? = some (.deferred (some []))) := ((gb_set v7 w3.heap.size 0 (.bool true)).block D (heap_lt ((C7.out.block _ (heap_lt HKD.out)).trans HKD.out)) (fun e => by injection e with e; exact hDn e)).trans ((C7.out.block _ (heap_lt HKD.out)).trans HKD.out)
  go_wp2_with fail
  exact ss_ret w _ D w3.heap.size _ HV.out HBV.out (by have := HZ9.out; omega) HDV.out rfl
 case stop =>
  rintro D id pre W hD _ ⟨rfl, p, x, rfl, hp, hsi⟩ hKD
  have HSI : Hid (SI w w9 w7.heap.size stop a.recs p W) := hsi
  have hle : p.length ≤ a.recs.length := by
   have := congrArg List.length hsi.m
   rw [List.length_map, List.length_take] at this
   omega
  obtain ⟨m, hm⟩ : ∃ m, p.length = m := ⟨_, rfl⟩
  have hlx : 0 = 0 := rfl
  have hmn : min stop a.recs.length = m := by omega
  refine wpIn_wide.2 ?_
  have hdr : Below W.heap.size W W.drew := (Below.refl _ _).drew
  have HDR : Hid (Below W.heap.size W W.drew) := hdr
  have HKW : Hid (∀ W', Below W.heap.size W W' → Below w.heap.size w W') := fun W' hW => HSI.out.b.trans (hW.mono HSI.out.b.size)
  have hlt : ∀ k, k < w9.heap.size → k < W.heap.size := fun k hk => Nat.lt_of_lt_of_le hk HSI.out.z
  have hold : ∀ (k : Nat) (o : Obj), w9.heap[k]? = some o → k ≠ w7.heap.size → ∀ W', Below W.heap.size W W' → W'.heap[k]? = some o := fun k o ho hk W' hW => (hW.block _ (hlt _ (heap_lt ho))).trans ((HSI.out.k _ (heap_lt ho) hk).trans ho)
  have hz1 := HSZ.out
  have hz2 := HNB.out
  have HKX : Hid (∀ W', Below W.heap.size W W' → W'.heap[w.heap.size]? = some (.cells (staArr ra rc a) 26 (0, 0))) := hold _ _ (HKA.out w9 B9.out) (by omega)
  have HKY : Hid (∀ W', Below W.heap.size W W' → W'.heap[w1.heap.size]? = some (.cells (staArr rb rd b) 26 (0, 0))) := hold _ _ (HKB.out w9 B9.out) (by omega)
  have HKT : Hid (∀ W', Below W.heap.size W W' → W'.heap[w2.heap.size]? = some (.cells #[.int .u8 stop] 5 (0, 0))) := hold _ _ (HKS.out w9 B9.out) (by omega)
  have HKF : Hid (∀ W', Below W.heap.size W W' → W'.heap[w3.heap.size]? = some (.cells #[.bool false] 4 (0, 0))) := hold _ _ (HKR0.out w9 B9.out) (by omega)
  have HKN : Hid (∀ W', Below W.heap.size W W' → W'.heap[w7.heap.size]? = some (.cells #[.int .i64 m] 3 (0, 0))) := fun W' hW => by rw [← hm]; exact (hW.block _ (heap_lt HSI.out.n)).trans HSI.out.n
  obtain ⟨sab, hsab⟩ : ∃ t, sameSta a b = t := ⟨_, rfl⟩
  have HS1 : Hid (Calls Tryz.prog 33 #[.agg #[.int .u64 a.serial, .string a.lin, .slice ra a.recs.length rc], .agg #[.int .u64 b.serial, .string b.lin, .slice rb b.recs.length rd]] W.drew fun e w' => e = .returned (.bool sab) ∧ Below W.drew.heap.size W.drew w') := by rw [← hsab]; exact ssame_any a b ra rb rc rd W.drew (HRA0.out _ (HKW.out _ hdr)) (HRB0.out _ (HKW.out _ hdr))
  have HKD : Hid (W.heap[D]? = some (.deferred (some []))) := hKD
  have hDn : D ≠ w3.heap.size := by have := B9.out.size; omega
  have hn37 : w3.heap.size ≠ w7.heap.size := by omega
  have hn32 : w3.heap.size ≠ w2.heap.size := by omega
  have hn31 : w3.heap.size ≠ w1.heap.size := by omega
  have hn30 : w3.heap.size ≠ w.heap.size := by omega
  have hn73 : w7.heap.size ≠ w3.heap.size := by omega
  have hn23 : w2.heap.size ≠ w3.heap.size := by omega
  have hn13 : w1.heap.size ≠ w3.heap.size := by omega
  have hn03 : w.heap.size ≠ w3.heap.size := by omega
  have hwr : IntKind.i64.wrap (stop : Int) = (stop : Int) := by simp [IntKind.wrap, IntKind.signed, IntKind.bits]; omega
  have hm1 : min (IntKind.i64.wrap (stop : Int)) (a.recs.length : Int) = (m : Int) := by rw [hwr]; omega
  have hm3 : min (stop : Int) (a.recs.length : Int) = (m : Int) := by omega
  have hm2 : (if (stop : Int) ≤ (a.recs.length : Int) then (stop : Int) else (a.recs.length : Int)) = (m : Int) := by split <;> omega
  have hm4 : (if (a.recs.length : Int) < (stop : Int) then (a.recs.length : Int) else (stop : Int)) = (m : Int) := by split <;> omega
  clear hz1 hz2 hlt hold hsi hKD hle hmn hdr hm hlx
  obtain ⟨c0x0, c0x1, c0x2⟩ := sta_cells (HKX.out W.drew HDR.out)
  obtain ⟨c0y0, c0y1, c0y2⟩ := sta_cells (HKY.out W.drew HDR.out)
  have c0n := cell_of (HKN.out W.drew HDR.out) 0
  have c0s := cell_of (HKT.out W.drew HDR.out) 0
  go_wp2_with fail
  refine Ran.wp_calm ?_
  refine wp_region_held_drew (S := (fun w' => w'.cell? ⟨w.heap.size, 0, none⟩ = some (.int .u64 a.serial) ∧ w'.cell? ⟨w.heap.size, 1, none⟩ = some (.string a.lin) ∧ w'.cell? ⟨w.heap.size, 2, none⟩ = some (.slice ra a.recs.length rc) ∧ w'.cell? ⟨w1.heap.size, 0, none⟩ = some (.int .u64 b.serial) ∧ w'.cell? ⟨w1.heap.size, 1, none⟩ = some (.string b.lin) ∧ w'.cell? ⟨w1.heap.size, 2, none⟩ = some (.slice rb b.recs.length rd) ∧ w'.cell? ⟨w7.heap.size, 0, none⟩ = some (.int .i64 m) ∧ w'.cell? ⟨w2.heap.size, 0, none⟩ = some (.int .u8 stop))) (by kernel_rfl) ?_ (fun hHeld => ?_)
  ·go_keep
  refine wpAnyH_take (i := 0) (v := ?v36) rfl (by kernel_rfl) (by kernel_rfl) (by kernel_rfl) (fun _ _ _ h => h) (Or.inl ⟨by rfl, ?hy36⟩) (by assumption) ?rest36
  case hy36 => (intro w hSw; (try dsimp only at hSw); go_simp <;> with_reducible rfl)
  try simp only [List.getElem_toArray, List.getElem_cons_succ, List.getElem_cons_zero, Act.put, List.setIfInBounds_toArray, List.set_cons_zero, List.set_cons_succ]
  refine wpAnyH_take (i := 1) (v := ?v37) rfl (by kernel_rfl) (by kernel_rfl) (by kernel_rfl) (fun _ _ _ h => h) (Or.inl ⟨by rfl, ?hy37⟩) (by assumption) ?rest37
  case hy37 => (intro w hSw; (try dsimp only at hSw); go_simp <;> with_reducible rfl)
  try simp only [List.getElem_toArray, List.getElem_cons_succ, List.getElem_cons_zero, Act.put, List.setIfInBounds_toArray, List.set_cons_zero, List.set_cons_succ]
  refine wpAnyH_take (i := 2) (v := ?v38) rfl (by kernel_rfl) (by kernel_rfl) (by kernel_rfl) (fun _ _ _ h => h) (Or.inl ⟨by rfl, ?hy38⟩) (by assumption) ?rest38
  case hy38 => (intro w hSw; (try dsimp only at hSw); go_simp <;> with_reducible rfl)
  try simp only [List.getElem_toArray, List.getElem_cons_succ, List.getElem_cons_zero, Act.put, List.setIfInBounds_toArray, List.set_cons_zero, List.set_cons_succ]
  refine wpAnyH_take (i := 3) (v := ?v39) rfl (by kernel_rfl) (by kernel_rfl) (by kernel_rfl) (fun _ _ _ h => h) (Or.inl ⟨by rfl, ?hy39⟩) (by assumption) ?rest39
  case hy39 => (intro w hSw; (try dsimp only at hSw); go_simp <;> with_reducible rfl)
  try simp only [List.getElem_toArray, List.getElem_cons_succ, List.getElem_cons_zero, Act.put, List.setIfInBounds_toArray, List.set_cons_zero, List.set_cons_succ]
  refine wpAnyH_take (i := 4) (v := ?v40) rfl (by kernel_rfl) (by kernel_rfl) (by kernel_rfl) (fun _ _ _ h => h) (Or.inl ⟨by rfl, ?hy40⟩) (by assumption) ?rest40
  case hy40 => (intro w hSw; (try dsimp only at hSw); go_simp <;> with_reducible rfl)
  try simp only [List.getElem_toArray, List.getElem_cons_succ, List.getElem_cons_zero, Act.put, List.setIfInBounds_toArray, List.set_cons_zero, List.set_cons_succ]
  refine wpAnyH_take (i := 5) (v := ?v41) rfl (by kernel_rfl) (by kernel_rfl) (by kernel_rfl) (fun _ _ _ h => h) (Or.inl ⟨by rfl, ?hy41⟩) (by assumption) ?rest41
  case hy41 => (intro w hSw; (try dsimp only at hSw); go_simp <;> with_reducible rfl)
  try simp only [List.getElem_toArray, List.getElem_cons_succ, List.getElem_cons_zero, Act.put, List.setIfInBounds_toArray, List.set_cons_zero, List.set_cons_succ]
  refine wpAnyH_take (i := 6) (v := ?v42) rfl (by kernel_rfl) (by kernel_rfl) (by kernel_rfl) (fun _ _ _ h => h) (Or.inl ⟨by rfl, ?hy42⟩) (by assumption) ?rest42
  case hy42 => (intro w hSw; (try dsimp only at hSw); go_simp <;> with_reducible rfl)
  try simp only [List.getElem_toArray, List.getElem_cons_succ, List.getElem_cons_zero, Act.put, List.setIfInBounds_toArray, List.set_cons_zero, List.set_cons_succ]
  refine wpAnyH_take (i := 7) (v := ?v43) rfl (by kernel_rfl) (by kernel_rfl) (by kernel_rfl) (fun _ _ _ h => h) (Or.inl ⟨by rfl, ?hy43⟩) (by assumption) ?rest43
  case hy43 => (intro w hSw; (try dsimp only at hSw); go_simp <;> with_reducible rfl)
  try simp only [List.getElem_toArray, List.getElem_cons_succ, List.getElem_cons_zero, Act.put, List.setIfInBounds_toArray, List.set_cons_zero, List.set_cons_succ]
  refine wpAnyH_take (i := 8) (v := ?v44) rfl (by kernel_rfl) (by kernel_rfl) (by kernel_rfl) (fun _ _ _ h => h) (Or.inl ⟨by rfl, ?hy44⟩) (by assumption) ?rest44
  case hy44 => (intro w hSw; (try dsimp only at hSw); go_simp <;> with_reducible rfl)
  try simp only [List.getElem_toArray, List.getElem_cons_succ, List.getElem_cons_zero, Act.put, List.setIfInBounds_toArray, List.set_cons_zero, List.set_cons_succ]
  refine wpAnyH_take (i := 9) (v := ?v45) rfl (by kernel_rfl) (by kernel_rfl) (by kernel_rfl) (fun _ _ _ h => h) (Or.inl ⟨by rfl, ?hy45⟩) (by assumption) ?rest45
  case hy45 => (intro w hSw; (try dsimp only at hSw); go_simp <;> with_reducible rfl)
  try simp only [List.getElem_toArray, List.getElem_cons_succ, List.getElem_cons_zero, Act.put, List.setIfInBounds_toArray, List.set_cons_zero, List.set_cons_succ]
  refine wpAnyH_take (i := 10) (v := ?v46) rfl (by kernel_rfl) (by kernel_rfl) (by kernel_rfl) (fun _ _ _ h => h) (Or.inl ⟨by rfl, ?hy46⟩) (by assumption) ?rest46
  case hy46 => (intro w hSw; (try dsimp only at hSw); go_simp <;> with_reducible rfl)
  try simp only [List.getElem_toArray, List.getElem_cons_succ, List.getElem_cons_zero, Act.put, List.setIfInBounds_toArray, List.set_cons_zero, List.set_cons_succ]
  refine wpAnyH_take (i := 12) (v := ?v47) rfl (by kernel_rfl) (by kernel_rfl) (by kernel_rfl) (fun _ _ _ h => h) (Or.inl ⟨by rfl, ?hy47⟩) (by assumption) ?rest47
  case hy47 => (intro w hSw; (try dsimp only at hSw); go_simp <;> with_reducible rfl)
  try simp only [List.getElem_toArray, List.getElem_cons_succ, List.getElem_cons_zero, Act.put, List.setIfInBounds_toArray, List.set_cons_zero, List.set_cons_succ]
  refine wpAnyH_take (i := 13) (v := ?v48) rfl (by kernel_rfl) (by kernel_rfl) (by kernel_rfl) (fun _ _ _ h => h) (Or.inl ⟨by rfl, ?hy48⟩) (by assumption) ?rest48
  case hy48 => (intro w hSw; (try dsimp only at hSw); go_simp <;> with_reducible rfl)
  try simp only [List.getElem_toArray, List.getElem_cons_succ, List.getElem_cons_zero, Act.put, List.setIfInBounds_toArray, List.set_cons_zero, List.set_cons_succ]
  refine wpAnyH_ready (rs := [11]) (by kernel_rfl) (by simp) ?_
  refine AllReadyH.cons rfl (fun K hK => ?_) AllReadyH.nil
  try simp only [List.getElem_toArray, List.getElem_cons_succ, List.getElem_cons_zero]
  go_simp
  (go_at_call 33; refine (Calls.mono HS1.out ?_); rintro z v6 ⟨rfl, hb6⟩; have C6 : Hid (Below W.heap.size W v6) := HDR.out.trans hb6; clear hb6; obtain ⟨cax0, cax1, cax2⟩ := sta_cells (HKX.out v6 C6.out); obtain ⟨cay0, cay1, cay2⟩ := sta_cells (HKY.out v6 C6.out); have can := cell_of (HKN.out v6 C6.out) 0; have cas := cell_of (HKT.out v6 C6.out) 0; have HS2 := sm_ok a b ra rb rc rd v6 (HRA0.out v6 (HKW.out v6 C6.out)) (HRB0.out v6 (HKW.out v6 C6.out)) sab hsab)
  clear hHeld
  refine hK.out _ _ ?_ (fun hHeld => ?_)
  ·go_keep
  clear hK K
  try simp only [List.getElem_toArray, List.getElem_cons_succ, List.getElem_cons_zero, Act.put, List.setIfInBounds_toArray, List.set_cons_zero, List.set_cons_succ]
  refine wpAnyH_ready (rs := [14]) (by kernel_rfl) (by simp) ?_
  refine AllReadyH.cons rfl (fun K hK => ?_) AllReadyH.nil
  try simp only [List.getElem_toArray, List.getElem_cons_succ, List.getElem_cons_zero]
  go_simp
  (go_at_call 20; refine (Calls.mono HS2.out ?_); rintro z v7 ⟨rfl, hb7⟩; have C7 : Hid (Below W.heap.size W v7) := C6.out.trans (hb7.mono C6.out.size); clear hb7; obtain ⟨cbx0, cbx1, cbx2⟩ := sta_cells (HKX.out v7 C7.out); obtain ⟨cby0, cby1, cby2⟩ := sta_cells (HKY.out v7 C7.out); have cbn := cell_of (HKN.out v7 C7.out) 0; have cbs := cell_of (HKT.out v7 C7.out) 0; have VR7 := HKF.out v7 C7.out; have fr7 := frozen_of VR7 0; have cr7 := cell_of VR7 0)
  clear hHeld
  refine hK.out _ _ ?_ (fun hHeld => ?_)
  ·go_keep
  clear hK K
  try simp only [List.getElem_toArray, List.getElem_cons_succ, List.getElem_cons_zero, Act.put, List.setIfInBounds_toArray, List.set_cons_zero, List.set_cons_succ]
  refine wpAnyH_take (i := 15) (v := ?v49) rfl (by kernel_rfl) (by kernel_rfl) (by kernel_rfl) (fun _ _ _ h => h) (Or.inl ⟨by rfl, ?hy49⟩) (by assumption) ?rest49
  case hy49 => (intro w hSw; (try dsimp only at hSw); go_simp <;> with_reducible rfl)
  try simp only [List.getElem_toArray, List.getElem_cons_succ, List.getElem_cons_zero, Act.put, List.setIfInBounds_toArray, List.set_cons_zero, List.set_cons_succ]
  refine wpAnyH_take (i := 16) (v := ?v50) rfl (by kernel_rfl) (by kernel_rfl) (by kernel_rfl) (fun _ _ _ h => h) (Or.inl ⟨by rfl, ?hy50⟩) (by assumption) ?rest50
  case hy50 => (intro w hSw; (try dsimp only at hSw); go_simp <;> with_reducible rfl)
  try simp only [List.getElem_toArray, List.getElem_cons_succ, List.getElem_cons_zero, Act.put, List.setIfInBounds_toArray, List.set_cons_zero, List.set_cons_succ]
  refine wpAnyH_ready (rs := [17]) (by kernel_rfl) (by simp) ?_
  refine AllReadyH.cons rfl (fun K hK => ?_) AllReadyH.nil
  try simp only [List.getElem_toArray, List.getElem_cons_succ, List.getElem_cons_zero]
  go_simp
  clear hHeld
  refine hK.out _ _ ?_ (fun hHeld => ?_)
  ·go_keep
  clear hK K
  try simp only [List.getElem_toArray, List.getElem_cons_succ, List.getElem_cons_zero, Act.put, List.setIfInBounds_toArray, List.set_cons_zero, List.set_cons_succ]
  refine wpAnyH_done (by kernel_rfl) ?_ _
  simp only [Ran.calmQ]
  have HV : Hid ((v7.setCell ⟨w3.heap.size, 0, none⟩ (.bool true)).heap[w3.heap.size]? = some (.cells #[.bool true] 4 (0, 0))) := by rw [Hid, heap_set_same VR7]; rfl
  have HBV : Hid (Below w.heap.size w (v7.setCell ⟨w3.heap.size, 0, none⟩ (.bool true))) := (HKW.out v7 C7.out).setCell (p := ⟨w3.heap.size, 0, none⟩) (by show w.heap.size ≤ w3.heap.size; have := HSZ.out; omega) _
  have HDV : Hid ((v7.setCell ⟨w3.heap.size, 0, none⟩ (.bool true)).heap[D]? = some (.deferred (some []))) := ((gb_set v7 w3.heap.size 0 (.bool true)).block D (heap_lt ((C7.out.block _ (heap_lt HKD.out)).trans HKD.out)) (fun e => by injection e with e; exact hDn e)).trans ((C7.out.block _ (heap_lt HKD.out)).trans HKD.out)
  go_wp2_with fail
  exact ss_ret w _ D w3.heap.size _ HV.out HBV.out (by have := HZ9.out; omega) HDV.out rfl
theorem stateSame_arg (v : Value) (s : Sta) (u : Value) (t : Sta) (a2 : Int) (w : World) (h : StaArg w v s) (g : StaArg w u t) (h' : (Lit.int .u8 a2).wf = true) (T : TabsA w) :
  Calls Tryz.prog 7 #[v, u, .int .u8 a2] w fun e w' => e = .returned (.bool true) ∧ Below w.heap.size w w' := by
 obtain ⟨ra, rc, rfl, h1, h2, _, _⟩ := h
 obtain ⟨rb, rd, rfl, g1, g2, _, _⟩ := g
 have hb : 0 ≤ a2 ∧ a2 ≤ 255 := by
  simp only [Lit.wf, Bool.and_eq_true, decide_eq_true_eq] at h'
  have e1 : IntKind.u8.min = 0 := by decide
  have e2 : IntKind.u8.max = 255 := by decide
  rw [e1, e2] at h'
  exact h'
 obtain ⟨bn, rfl⟩ : ∃ q : Nat, a2 = (q : Int) := ⟨a2.toNat, by omega⟩
 exact stateSame_any s t ra rb rc rd bn (by omega) w T h1 g1
end Go.Proofs.YtckflnibkglheaaGreatDoor.State
