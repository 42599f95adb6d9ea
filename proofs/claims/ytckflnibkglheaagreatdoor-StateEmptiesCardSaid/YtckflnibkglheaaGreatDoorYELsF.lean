/- tabulariumlaw18.StateEmpties. -/
import Derived.Test.YtckflnibkglheaaGreatDoorYELsE
namespace Go.Proofs.YtckflnibkglheaaGreatDoor.State
open Go.RowKit Go.Shelf Go.Proofs.YtckflnibkglheaaGreatDoor.Utf Go.Proofs.YtckflnibkglheaaGreatDoor.Strs Go.Proofs.YtckflnibkglheaaGreatDoor.Addr
open Go.Proofs.YtckflnibkglheaaGreatDoor.Jdec (IsTexts Turn infoStr gb_set gb_below gb_refl)
set_option linter.unusedVariables false
set_option linter.unusedSimpArgs false
set_option maxRecDepth 100000

/-- What is left after so many drops, from by on. -/
structure Emp (l0 : List Rec) (bn i : Nat) (l : List Rec) : Prop where
 len : l.length + i = l0.length
 mem : ∀ x, x ∈ l ↔ ∃ j, ∃ h : j < l0.length, l0[j] = x ∧ ∀ k, k < i → (k + bn) % l0.length ≠ j
theorem Emp.start (l0 : List Rec) (bn : Nat) : Emp l0 bn 0 l0 := ⟨rfl, fun x => ⟨fun hx => by
 obtain ⟨j, hj, rfl⟩ := List.getElem_of_mem hx
 exact ⟨j, hj, rfl, fun k hk => by omega⟩, fun ⟨j, hj, e, _⟩ => by rw [← e]; exact List.getElem_mem hj⟩⟩
theorem mod_ne {n k i b : Nat} (h1 : k < i) (h2 : i < n) : (k + b) % n ≠ (i + b) % n := by
 intro e
 have h := Nat.sub_mod_eq_zero_of_mod_eq e.symm
 have e2 : i + b - (k + b) = i - k := by omega
 rw [e2, Nat.mod_eq_of_lt (by omega)] at h
 omega
theorem Emp.has {l0 l : List Rec} {bn i q : Nat} (h : Emp l0 bn i l) (hi : i < l0.length) (hq : (i + bn) % l0.length = q) (hql : q < l0.length) : l0[q] ∈ l := by
 subst hq
 exact (h.mem _).2 ⟨_, hql, rfl, fun k hk => mod_ne hk hi⟩
theorem Emp.step {l0 l : List Rec} {bn i q : Nat} (h : Emp l0 bn i l) (hg0 : Good l0) (hg : Good l) (hi : i < l0.length) (hq : (i + bn) % l0.length = q) (hql : q < l0.length) {j : Nat} (hj : j < l.length) (e : l[j].a = l0[q].a) : Emp l0 bn (i + 1) (dropR l j) := by
 refine ⟨by rw [dropR_len hj]; have := h.len; omega, fun x => ?_⟩
 rw [mem_drop hg hj, h.mem, e]
 constructor
 ·rintro ⟨⟨m, hm, rfl, hk⟩, hn⟩
  refine ⟨m, hm, rfl, fun k hk2 => ?_⟩
  by_cases hki : k = i
  ·subst hki; rw [hq]; intro e2; subst e2; exact hn rfl
  ·exact hk k (by omega)
 ·rintro ⟨m, hm, rfl, hk⟩
  refine ⟨⟨m, hm, rfl, fun k hk2 => hk k (by omega)⟩, fun e2 => ?_⟩
  have := hg0.idx hm hql e2
  exact hk i (by omega) (by rw [hq]; exact this.symm)
theorem Emp.done {l0 l : List Rec} {bn : Nat} (h : Emp l0 bn l0.length l) : l = [] := by
 have := h.len
 exact List.length_eq_zero_iff.1 (by omega)
/-- How far it is emptied. -/
structure EI (w5 : World) (s : Sta) (bn i : Nat) (l : List Rec) (a : Option Addr) (c : Nat) (wr : World) : Prop where
 V : wr.heap[w5.heap.size]? = some (.cells (staArr a c { s with recs := l }) 26 (0, 0))
 B : Below w5.heap.size w5 wr
 R : IsRecs wr (fun b => b ≠ w5.heap.size) a l
 C : l.length ≤ c
 G : Good l
 E : Emp s.recs bn i l
theorem EI.sta {w5 : World} {s : Sta} {bn i : Nat} {l : List Rec} {a : Option Addr} {c : Nat} {wr : World} (h : EI w5 s bn i l a c wr) (hn : s.recs.length ≤ 3000) : StaAt wr a c { s with recs := l } :=
 ⟨⟨h.R.any, by have := h.E.len; show l.length ≤ 3000; omega, h.G.s⟩, h.C, h.G.sorted⟩
theorem dr_more {s : Sta} {a : Adr} {w w' : World} {e : Ending} (hg : Good s.recs) (hp : a.place < 18446744073709551616) (hin : ∃ x ∈ s.recs, x.a = a) (h : DrPost s (printA a) w e w') : Hid (Below w.heap.size w w') ∧
  ∃ (i : Nat) (hi : i < s.recs.length) (l' : List Rec) (a' : Option Addr) (c' : Nat), Hid (s.recs[i].a = a) ∧ Hid (l' = dropR s.recs i) ∧ e = .returned (.tuple #[.agg #[.int .u64 s.serial, .string s.lin, .slice a' l'.length c'], .int .i64 0]) ∧ Hid (IsRecs w' (fun b => w.heap.size ≤ b) a' l') ∧ Hid (l'.length ≤ c') := by
 obtain ⟨hb, i, hP, h⟩ := h
 refine ⟨hb, ?_⟩
 rcases h with ⟨hY, a', c', e1, hI, hc⟩ | ⟨hn2, e1⟩
 ·obtain ⟨hi, he⟩ := (is_iff hg hp i).1 hY
  exact ⟨i, hi, dropR s.recs i, a', c', he, rfl, e1, hI, hc⟩
 ·obtain ⟨x, hx, e⟩ := hin
  exact absurd e (not_is hg hp hP hn2 x hx)
set_option maxHeartbeats 32000000 in
theorem stateEmpties_any (s : Sta) (ra : Option Addr) (rc : Nat) (bn : Nat) (hbn : bn ≤ 255) (w : World) (T : TabsA w) (h : StaIn w ra s) (hc : s.recs.length ≤ rc) :
  Calls Tryz.prog 5 #[staV ra rc s, .int .u8 bn] w fun e w' => e = .returned (.bool true) ∧ Below w.heap.size w w' := by
 obtain ⟨w1, hw1, V1, B1⟩ := sta_new w ra rc s
 have hl1 := heap_lt V1.out
 have HKA : Hid (∀ W, Below w1.heap.size w1 W → W.heap[w.heap.size]? = some (.cells (staArr ra rc s) 26 (0, 0))) := fun W hb => (hb.block _ (by omega)).trans V1.out
 have HBW : Hid (∀ W, Below w1.heap.size w1 W → Below w.heap.size w W) := fun W hb => B1.out.trans (hb.mono B1.out.size)
 have HT : Hid (∀ W, Below w1.heap.size w1 W → TabsA W) := fun W hb => (T.stays B1.out).stays hb
 have HS : Hid (∀ W, Below w1.heap.size w1 W → StaIn W ra s) := fun W hb => (h.stays B1.out).stays hb
 have HWK : Hid (Calls Tryz.prog 15 #[] w1 fun e w' => e = .returned (.bool true) ∧ Below w1.heap.size w1 w') := wakes18 w1 (T.stays B1.out)
 unfold staV
 clear T h
 go_enter Tryz.func5, Tryz.ntmps5
 go_wp2_with fail
 refine (Calls.mono HWK.out ?_)
 rintro z w3 ⟨rfl, hb3⟩
 have B3 : Hid (Below w1.heap.size w1 w3) := hb3
 clear hb3 HWK hw1
 obtain ⟨x30, x31, x32⟩ := sta_cells (HKA.out w3 B3.out)
 have HGS := gs_ok s ra rc w3 (HS.out w3 B3.out)
 go_wp2_with fail
 refine (Calls.mono HGS.out ?_)
 rintro z w4 hz
 obtain ⟨g, rfl, hg, hb4⟩ := hz.to
 have B4 : Hid (Below w1.heap.size w1 w4) := B3.out.trans (hb4.out.mono B3.out.size)
 clear hz hb4 HGS x30 x31 x32
 cases g
 case true =>
  go_wp2_with fail
  go_ret
  exact ⟨rfl, HBW.out w4 B4.out⟩
 have hsz := hg.out rfl
 have h30 := hsz.1
 have hn3 : s.recs.length ≤ 3000 := by omega
 have h1000 := hsz.2.1
 have HSM := Hid.out (p := Hid _) hsz.2.2
 have HR : Hid (∀ W, Below w1.heap.size w1 W → RecsAt W ra s.recs) := fun W hb => ⟨(HS.out W hb).t, hn3, HSM.out⟩
 clear hsz hg
 obtain ⟨rs, hrs⟩ : ∃ b, rightS s = b := ⟨_, rfl⟩
 have HRR := rr_ok s ra rc w4 (HR.out w4 B4.out) (Nat.le_trans h1000 (by omega)) rs hrs
 have HRG := Hid.out (p := Hid _) hrs
 obtain ⟨x40, x41, x42⟩ := sta_cells (HKA.out w4 B4.out)
 clear hrs
 go_wp2_with fail
 refine (Calls.mono HRR.out ?_)
 rintro z w5 ⟨rfl, hb5⟩
 have B5 : Hid (Below w1.heap.size w1 w5) := B4.out.trans (hb5.mono B4.out.size)
 clear hb5 HRR x40 x41 x42
 cases rs
 case false =>
  go_wp2_with fail
  go_ret
  exact ⟨rfl, HBW.out w5 B5.out⟩
 have HG : Hid (Good s.recs) := rightS_good HRG.out HSM.out
 obtain ⟨x50, x51, x52⟩ := sta_cells (HKA.out w5 B5.out)
 obtain ⟨w5b, hw5b, V5b, B5b⟩ := sta_new w5 ra rc s
 have HW5 := Hid.out (p := Hid _) B5.out.size
 have B5c : Hid (Below w1.heap.size w1 w5b) := B5.out.trans (B5b.out.mono B5.out.size)
 have hE0 : EI w5 s bn 0 s.recs ra rc w5b   := ⟨V5b.out, B5b.out, ((HR.out w5 B5.out).t.turn (Turn.mono _ (fun b _ hb => hb))).turn ⟨B5b.out.size, fun b hb hl => ⟨B5b.out.block b hl, by have h0 : b < w5.heap.size := hb; show b ≠ w5.heap.size; omega⟩⟩, hc, HG.out, Emp.start _ _⟩
 have HE0 := Hid.out (p := Hid _) hE0
 obtain ⟨xb0, xb1, xb2⟩ := sta_cells (HKA.out w5b B5c.out)
 have hne : w5.heap.size ≠ w.heap.size := by have := B5.out.size; omega
 clear hE0
 go_wp2_with fail
 clear hw5b x50 x51 x52 xb0 xb1 xb2
 go_loopw [23] (fun p23 wr => ∃ (i : Nat) (l : List Rec) (a : Option Addr) (c : Nat), p23 = .int .i64 i ∧ i ≤ s.recs.length ∧ Hid (EI w5 s bn i l a c wr)) (fun p23 _ => s.recs.length - (intOf p23).toNat)
 case atStart => exact ⟨0, s.recs, ra, rc, rfl, Nat.zero_le _, HE0.out⟩
 case round =>
  obtain ⟨i, l, a, c, rfl, hi, HE⟩ := hrel
  have B5r : Hid (Below w5.heap.size w5 wr) := HE.out.B
  have BR : Hid (Below w1.heap.size w1 wr) := B5.out.trans (HE.out.B.mono B5.out.size)
  by_cases hlt : i < s.recs.length
  ·obtain ⟨q, hq⟩ : ∃ q : Nat, (i + bn) % s.recs.length = q := ⟨_, rfl⟩
   have hql : q < s.recs.length := by rw [← hq]; exact Nat.mod_lt _ (by omega)
   obtain ⟨b, o, p, hra, hb, hcr, hir⟩ := (HR.out w5 B5.out).get hql
   have hsm := HSM.out _ (List.getElem_mem hql)
   have HHAS : Hid (s.recs[q] ∈ l) := HE.out.E.has hlt hq hql
   have HQ := Hid.out (p := Hid _) hq
   obtain ⟨r, hr⟩ : ∃ r, s.recs[q] = r := ⟨_, rfl⟩
   have HRq := Hid.out (p := Hid _) hr
   rw [hr] at hcr hir hsm
   have HRS := Hid.out (p := Hid _) hsm
   have HIN : Hid (∃ x ∈ l, x.a = r.a) := ⟨_, HHAS.out, by rw [hr]⟩
   have HRA := Hid.out (p := Hid _) hra
   have HCR : Hid (∀ W, Below w5.heap.size w5 W → ∀ j u, (recArr p r)[j]? = some u → W.cell? ⟨b, o + q * 9 + j, none⟩ = some u) := fun W hW j u hu => by rw [cell_blk (hW.block b hb)]; exact hcr j u hu
   have hdr : Below wr.heap.size wr wr.drew := (Below.refl _ _).drew
   have HDW : Hid (Below wr.heap.size wr wr.drew) := hdr
   have HDR := dr_ok { s with recs := l } a c r.a p.pa p.pc wr.drew ((HE.out.sta hn3).stays hdr) (((hir.turn (Turn.below B5r.out)).turn (Turn.below hdr)).adr hsm) (HT.out _ (BR.out.trans (hdr.mono BR.out.size)))
   obtain ⟨sm, hs0⟩ : ∃ sm, i + bn = sm := ⟨_, rfl⟩
   have gs : (i : Int) + (bn : Int) = (sm : Int) := by omega
   have ws : IntKind.i64.wrap (sm : Int) = (sm : Int) := IntWalk.i64_in _ (by omega)
   have wb : IntKind.i64.wrap (bn : Int) = (bn : Int) := IntWalk.i64_in _ (by omega)
   have hqm : (sm : Int) % (s.recs.length : Int) = (q : Int) := by rw [← hq, hs0]; rfl
   have hqt : Int.tmod (sm : Int) (s.recs.length : Int) = (q : Int) := by rw [Int.tmod_eq_emod_of_nonneg (by omega)]; exact hqm
   have wq : IntKind.i64.wrap (q : Int) = (q : Int) := IntWalk.i64_in _ (by omega)
   have hn0 : ((s.recs.length : Int) == 0) = false := by rw [beq_eq_false_iff_ne]; omega
   have hn1 : (s.recs.length : Int) ≠ 0 := by omega
   have hq0 : (0 : Int) ≤ (q : Int) := by omega
   have hnil : ¬ s.recs = [] := by intro e; rw [e] at hql; simp at hql
   have hqz : (q : Int) < (s.recs.length : Int) := by omega
   obtain ⟨xw0, xw1, xw2⟩ := sta_cells (HE.out.V)
   obtain ⟨xd0, xd1, xd2⟩ := sta_cells ((hdr.block _ (heap_lt HE.out.V)).trans HE.out.V)
   obtain ⟨yw0, yw1, yw2⟩ := sta_cells (HKA.out wr BR.out)
   obtain ⟨yd0, yd1, yd2⟩ := sta_cells (HKA.out wr.drew (BR.out.trans (hdr.mono BR.out.size)))
   rw [hra] at yw2 yd2
   obtain ⟨z0, z1, z2, z3, z4, z5, z6, z7, z8⟩ := recs_nine (HCR.out wr B5r.out)
   obtain ⟨zd0, zd1, zd2, zd3, zd4, zd5, zd6, zd7, zd8⟩ := recs_nine (HCR.out wr.drew (B5r.out.trans (hdr.mono B5r.out.size)))
   have hneb : w5.heap.size ≠ b := by omega
   have hneb2 : b ≠ w5.heap.size := by omega
   have HIR : Hid (IsRec wr (fun _ => True) p r) := hir.turn (Turn.below B5r.out)
   clear hq hr hra hcr hir hsm hdr hs0
   go_wp2_with fail
   refine wp_region_held_drew (S := (fun w' => w'.cell? ⟨w.heap.size, 2, none⟩ = some (.slice (some ⟨b, o, none⟩) s.recs.length rc) ∧ w'.cell? ⟨b, o + q * 9, none⟩ = some (.slice p.pa r.a.path.length p.pc) ∧ w'.cell? ⟨b, o + q * 9 + 1, none⟩ = some (.string r.a.type) ∧ w'.cell? ⟨b, o + q * 9 + 2, none⟩ = some (.string r.a.name) ∧ w'.cell? ⟨b, o + q * 9 + 3, none⟩ = some (.int .i64 r.a.key) ∧ w'.cell? ⟨b, o + q * 9 + 4, none⟩ = some (.int .u64 r.a.place) ∧ w'.cell? ⟨b, o + q * 9 + 5, none⟩ = some (.string r.a.word))) (by kernel_rfl) ?_ (fun hHeld => ?_)
   ·go_keep
   refine wpAnyH_take (i := 1) (v := ?v1) rfl (by kernel_rfl) (by kernel_rfl) (by kernel_rfl) (fun _ _ _ h => h) (Or.inl ⟨by rfl, ?hy1⟩) (by assumption) ?rest1
   case hy1 => (intro w hSw; (try dsimp only at hSw); go_simp <;> with_reducible rfl)
   try simp only [List.getElem_toArray, List.getElem_cons_succ, List.getElem_cons_zero, Act.put, List.setIfInBounds_toArray, List.set_cons_zero, List.set_cons_succ]
   refine wpAnyH_take (i := 2) (v := ?v2) rfl (by kernel_rfl) (by kernel_rfl) (by kernel_rfl) (fun _ _ _ h => h) (Or.inl ⟨by rfl, ?hy2⟩) (by assumption) ?rest2
   case hy2 => (intro w hSw; (try dsimp only at hSw); go_simp <;> with_reducible rfl)
   try simp only [List.getElem_toArray, List.getElem_cons_succ, List.getElem_cons_zero, Act.put, List.setIfInBounds_toArray, List.set_cons_zero, List.set_cons_succ]
   refine wpAnyH_take (i := 3) (v := ?v3) rfl (by kernel_rfl) (by kernel_rfl) (by kernel_rfl) (fun _ _ _ h => h) (Or.inl ⟨by rfl, ?hy3⟩) (by assumption) ?rest3
   case hy3 => (intro w hSw; (try dsimp only at hSw); go_simp <;> with_reducible rfl)
   try simp only [List.getElem_toArray, List.getElem_cons_succ, List.getElem_cons_zero, Act.put, List.setIfInBounds_toArray, List.set_cons_zero, List.set_cons_succ]
   refine wpAnyH_take (i := 4) (v := ?v4) rfl (by kernel_rfl) (by kernel_rfl) (by kernel_rfl) (fun _ _ _ h => h) (Or.inl ⟨by rfl, ?hy4⟩) (by assumption) ?rest4
   case hy4 => (intro w hSw; (try dsimp only at hSw); go_simp <;> with_reducible rfl)
   try simp only [List.getElem_toArray, List.getElem_cons_succ, List.getElem_cons_zero, Act.put, List.setIfInBounds_toArray, List.set_cons_zero, List.set_cons_succ]
   refine wpAnyH_take (i := 5) (v := ?v5) rfl (by kernel_rfl) (by kernel_rfl) (by kernel_rfl) (fun _ _ _ h => h) (Or.inl ⟨by rfl, ?hy5⟩) (by assumption) ?rest5
   case hy5 => (intro w hSw; (try dsimp only at hSw); go_simp <;> with_reducible rfl)
   try simp only [List.getElem_toArray, List.getElem_cons_succ, List.getElem_cons_zero, Act.put, List.setIfInBounds_toArray, List.set_cons_zero, List.set_cons_succ]
   refine wpAnyH_take (i := 6) (v := ?v6) rfl (by kernel_rfl) (by kernel_rfl) (by kernel_rfl) (fun _ _ _ h => h) (Or.inl ⟨by rfl, ?hy6⟩) (by assumption) ?rest6
   case hy6 => (intro w hSw; (try dsimp only at hSw); go_simp <;> with_reducible rfl)
   try simp only [List.getElem_toArray, List.getElem_cons_succ, List.getElem_cons_zero, Act.put, List.setIfInBounds_toArray, List.set_cons_zero, List.set_cons_succ]
   refine wpAnyH_take (i := 7) (v := ?v7) rfl (by kernel_rfl) (by kernel_rfl) (by kernel_rfl) (fun _ _ _ h => h) (Or.inl ⟨by rfl, ?hy7⟩) (by assumption) ?rest7
   case hy7 => (intro w hSw; (try dsimp only at hSw); go_simp <;> with_reducible rfl)
   try simp only [List.getElem_toArray, List.getElem_cons_succ, List.getElem_cons_zero, Act.put, List.setIfInBounds_toArray, List.set_cons_zero, List.set_cons_succ]
   refine wpAnyH_take (i := 8) (v := ?v8) rfl (by kernel_rfl) (by kernel_rfl) (by kernel_rfl) (fun _ _ _ h => h) (Or.inl ⟨by rfl, ?hy8⟩) (by assumption) ?rest8
   case hy8 => (intro w hSw; (try dsimp only at hSw); go_simp <;> with_reducible rfl)
   try simp only [List.getElem_toArray, List.getElem_cons_succ, List.getElem_cons_zero, Act.put, List.setIfInBounds_toArray, List.set_cons_zero, List.set_cons_succ]
   refine wpAnyH_take (i := 9) (v := ?v9) rfl (by kernel_rfl) (by kernel_rfl) (by kernel_rfl) (fun _ _ _ h => h) (Or.inl ⟨by rfl, ?hy9⟩) (by assumption) ?rest9
   case hy9 => (intro w hSw; (try dsimp only at hSw); go_simp <;> with_reducible rfl)
   try simp only [List.getElem_toArray, List.getElem_cons_succ, List.getElem_cons_zero, Act.put, List.setIfInBounds_toArray, List.set_cons_zero, List.set_cons_succ]
   refine wpAnyH_take (i := 10) (v := ?v10) rfl (by kernel_rfl) (by kernel_rfl) (by kernel_rfl) (fun _ _ _ h => h) (Or.inl ⟨by rfl, ?hy10⟩) (by assumption) ?rest10
   case hy10 => (intro w hSw; (try dsimp only at hSw); go_simp <;> with_reducible rfl)
   try simp only [List.getElem_toArray, List.getElem_cons_succ, List.getElem_cons_zero, Act.put, List.setIfInBounds_toArray, List.set_cons_zero, List.set_cons_succ]
   refine wpAnyH_take (i := 11) (v := ?v11) rfl (by kernel_rfl) (by kernel_rfl) (by kernel_rfl) (fun _ _ _ h => h) (Or.inl ⟨by rfl, ?hy11⟩) (by assumption) ?rest11
   case hy11 => (intro w hSw; (try dsimp only at hSw); go_simp <;> with_reducible rfl)
   try simp only [List.getElem_toArray, List.getElem_cons_succ, List.getElem_cons_zero, Act.put, List.setIfInBounds_toArray, List.set_cons_zero, List.set_cons_succ]
   refine wpAnyH_ready (rs := [0]) (by kernel_rfl) (by simp) ?_
   refine AllReadyH.cons rfl (fun K hK => ?_) AllReadyH.nil
   try simp only [List.getElem_toArray, List.getElem_cons_succ, List.getElem_cons_zero]
   go_simp
   clear hHeld
   refine hK.out _ _ ?_ (fun hHeld => ?_)
   ·go_keep
   clear hK K
   try simp only [List.getElem_toArray, List.getElem_cons_succ, List.getElem_cons_zero, Act.put, List.setIfInBounds_toArray, List.set_cons_zero, List.set_cons_succ]
   refine wpAnyH_ready (rs := [12]) (by kernel_rfl) (by simp) ?_
   refine AllReadyH.cons rfl (fun K hK => ?_) AllReadyH.nil
   try simp only [List.getElem_toArray, List.getElem_cons_succ, List.getElem_cons_zero]
   go_simp
   go_at_call 27; refine (Calls.mono HDR.out ?_); rintro z w6 hz; obtain ⟨hb6, j, hj, l', a', c', HJA, HL', rfl, HI', HC'⟩ := dr_more (s := { s with recs := l }) HE.out.G HRS.out.p HIN.out hz; have C6 : Hid (Below wr.heap.size wr w6) := HDW.out.trans hb6.out; clear hz hb6; have V6 : Hid (w6.heap[w5.heap.size]? = some (.cells (staArr a c { s with recs := l }) 26 (0, 0))) := (C6.out.block _ (heap_lt HE.out.V)).trans HE.out.V; obtain ⟨g0, g1, g2⟩ := sta_cells V6.out; have f0 := frozen_of V6.out 0; have f1 := frozen_of V6.out 1; have f2 := frozen_of V6.out 2; have B56 : Hid (Below w5.heap.size w5 w6) := B5r.out.trans (C6.out.mono B5r.out.size); obtain ⟨h0, h1, h2⟩ := sta_cells (HKA.out w6 (B5.out.trans (B56.out.mono B5.out.size))); rw [HRA.out] at h2; obtain ⟨u0, u1, u2, u3, u4, u5, u6, u7, u8⟩ := recs_nine (HCR.out w6 B56.out); obtain ⟨t6, ht6⟩ : ∃ t6, (((w6.setCell ⟨w5.heap.size, 0, none⟩ (.int .u64 s.serial)).setCell ⟨w5.heap.size, 1, none⟩ (.string s.lin)).setCell ⟨w5.heap.size, 2, none⟩ (.slice a' l'.length c')) = t6 := ⟨_, rfl⟩; have G6 : Hid (w6.grownBy t6 (some w5.heap.size)) := (by rw [← ht6]; exact (((gb_set _ _ _ _).trans (gb_set _ _ _ _)).trans (gb_set _ _ _ _))); have VX : Hid (t6.heap[w5.heap.size]? = some (.cells (staArr a' c' { s with recs := l' }) 26 (0, 0))) := (by rw [← ht6]; exact set3 (t := { s with recs := l' }) V6.out); have B5t : Hid (Below w5.heap.size w5 t6) := B56.out.grown G6.out B56.out.size (fun x hx => (by injection hx with hx; omega)); obtain ⟨k0, k1, k2⟩ := sta_cells (HKA.out t6 (B5.out.trans (B5t.out.mono B5.out.size))); rw [HRA.out] at k2; obtain ⟨v0, v1, v2, v3, v4, v5, v6, v7, v8⟩ := recs_nine (HCR.out t6 B5t.out); obtain ⟨i0, i1, i2⟩ := sta_cells VX.out
   clear hHeld
   refine hK.out _ _ ?_ (fun hHeld => ?_)
   ·go_keep
   clear hK K
   try simp only [List.getElem_toArray, List.getElem_cons_succ, List.getElem_cons_zero, Act.put, List.setIfInBounds_toArray, List.set_cons_zero, List.set_cons_succ]
   refine wpAnyH_take (i := 13) (v := ?v12) rfl (by kernel_rfl) (by kernel_rfl) (by kernel_rfl) (fun _ _ _ h => h) (Or.inl ⟨by rfl, ?hy12⟩) (by assumption) ?rest12
   case hy12 => (intro w hSw; (try dsimp only at hSw); go_simp <;> with_reducible rfl)
   try simp only [List.getElem_toArray, List.getElem_cons_succ, List.getElem_cons_zero, Act.put, List.setIfInBounds_toArray, List.set_cons_zero, List.set_cons_succ]
   refine wpAnyH_take (i := 14) (v := ?v13) rfl (by kernel_rfl) (by kernel_rfl) (by kernel_rfl) (fun _ _ _ h => h) (Or.inl ⟨by rfl, ?hy13⟩) (by assumption) ?rest13
   case hy13 => (intro w hSw; (try dsimp only at hSw); go_simp <;> with_reducible rfl)
   try simp only [List.getElem_toArray, List.getElem_cons_succ, List.getElem_cons_zero, Act.put, List.setIfInBounds_toArray, List.set_cons_zero, List.set_cons_succ]
   refine wpAnyH_take (i := 15) (v := ?v14) rfl (by kernel_rfl) (by kernel_rfl) (by kernel_rfl) (fun _ _ _ h => h) (Or.inl ⟨by rfl, ?hy14⟩) (by assumption) ?rest14
   case hy14 => (intro w hSw; (try dsimp only at hSw); go_simp <;> with_reducible rfl)
   try simp only [List.getElem_toArray, List.getElem_cons_succ, List.getElem_cons_zero, Act.put, List.setIfInBounds_toArray, List.set_cons_zero, List.set_cons_succ]
   refine wpAnyH_ready (rs := [16]) (by kernel_rfl) (by simp) ?_
   refine AllReadyH.cons rfl (fun K hK => ?_) AllReadyH.nil
   try simp only [List.getElem_toArray, List.getElem_cons_succ, List.getElem_cons_zero]
   go_simp
   clear hHeld
   refine hK.out _ _ ?_ (fun hHeld => ?_)
   ·go_keep
   clear hK K
   try simp only [List.getElem_toArray, List.getElem_cons_succ, List.getElem_cons_zero, Act.put, List.setIfInBounds_toArray, List.set_cons_zero, List.set_cons_succ]
   refine wpAnyH_take (i := 17) (v := ?v15) rfl (by kernel_rfl) (by kernel_rfl) (by kernel_rfl) (fun _ _ _ h => h) (Or.inl ⟨by rfl, ?hy15⟩) (by assumption) ?rest15
   case hy15 => (intro w hSw; (try dsimp only at hSw); go_simp <;> with_reducible rfl)
   try simp only [List.getElem_toArray, List.getElem_cons_succ, List.getElem_cons_zero, Act.put, List.setIfInBounds_toArray, List.set_cons_zero, List.set_cons_succ]
   refine wpAnyH_done (by kernel_rfl) ?_ _
   obtain ⟨m1, hm1⟩ : ∃ m, m + 1 = s.recs.length := ⟨s.recs.length - 1, by omega⟩
   have hEs : EI w5 s bn (i + 1) l' a' c' t6 := by
    have hst := HE.out.E.step HG.out HE.out.G hlt HQ.out hql hj (by rw [HRq.out]; exact HJA.out)
    rw [← HL'.out] at hst
    refine ⟨VX.out, B5t.out, ?_, HC'.out, (by rw [HL'.out]; exact good_drop HE.out.G j), hst⟩
    refine HI'.out.turn ⟨G6.out.size, fun b hb hl => ?_⟩
    have h0 : wr.drew.heap.size ≤ b := hb
    have h1 := heap_lt HE.out.V
    have h2 := HDW.out.size
    have h3 : b ≠ w5.heap.size := by omega
    exact ⟨G6.out.block b hl (fun e => by injection e with e; exact h3 e), h3⟩
   have HEs := Hid.out (p := Hid _) hEs
   have hll := hEs.E.len
   have e1 : (s.recs.length : Int) - 1 = (m1 : Int) := by omega
   have e2 : (m1 : Int) - (i : Int) = (l'.length : Int) := by omega
   have e3 : IntKind.i64.wrap (m1 : Int) = (m1 : Int) := IntWalk.i64_in _ (by omega)
   have e4 : IntKind.i64.wrap (l'.length : Int) = (l'.length : Int) := IntWalk.i64_in _ (by omega)
   have e5 : ((l'.length : Int) != (l'.length : Int)) = false := by rw [bne_eq_false_iff_eq]
   clear hEs hll hm1 z0 z1 z2 z3 z4 z5 z6 z7 z8 zd0 zd1 zd2 zd3 zd4 zd5 zd6 zd7 zd8 u0 u1 u2 u3 u4 u5 u6 u7 u8 v0 v1 v2 v3 v4 v5 v6 v7 v8 hqm hqt gs
   go_wp2_with fail
   go_roundw
   case rel => exact ⟨i + 1, l', a', c', by go_num, by omega, HEs.out⟩
   case measure => simp [intOf]; omega
  ·have hie : i = s.recs.length := by omega
   subst hie
   have hle : l = [] := HE.out.E.done
   subst hle
   obtain ⟨xw0, xw1, xw2⟩ := sta_cells (HE.out.V)
   obtain ⟨yw0, yw1, yw2⟩ := sta_cells (HKA.out wr BR.out)
   have xw2' : wr.cell? ⟨w5.heap.size, 2, none⟩ = some (.slice a 0 c) := xw2
   have HSS : Hid (Calls Tryz.prog 20 #[.agg #[.int .u64 s.serial, .string s.lin, .slice a 0 c], .agg #[.int .u64 s.serial, .string s.lin, .slice none 0 0]] wr fun e w' => e = .returned (.bool true) ∧ Below wr.heap.size wr w') := sm_ok ⟨s.serial, s.lin, []⟩ ⟨s.serial, s.lin, []⟩ a none c 0 wr (RecsAt.nil _ _) (RecsAt.nil _ _) true ((sameSta_iff _ _).2 rfl)
   clear xw2
   go_wp2_with fail
   refine (Calls.mono HSS.out ?_)
   rintro z w6 ⟨rfl, hb6⟩
   have B6 : Hid (Below w1.heap.size w1 w6) := BR.out.trans (hb6.mono BR.out.size)
   clear hb6
   go_wp2_with fail
   go_ret
   exact ⟨rfl, HBW.out w6 B6.out⟩
theorem stateEmpties_arg (v : Value) (s : Sta) (a1 : Int) (w : World) (h : StaArg w v s) (h' : (Lit.int .u8 a1).wf = true) (T : TabsA w) :
  Calls Tryz.prog 5 #[v, .int .u8 a1] w fun e w' => e = .returned (.bool true) ∧ Below w.heap.size w w' := by
 obtain ⟨ra, rc, rfl, h1, h2, _, _⟩ := h
 have hb : 0 ≤ a1 ∧ a1 ≤ 255 := by
  simp only [Lit.wf, Bool.and_eq_true, decide_eq_true_eq] at h'
  have e1 : IntKind.u8.min = 0 := by decide
  have e2 : IntKind.u8.max = 255 := by decide
  rw [e1, e2] at h'
  exact h'
 obtain ⟨bn, rfl⟩ : ∃ q : Nat, a1 = (q : Int) := ⟨a1.toNat, by omega⟩
 exact stateEmpties_any s ra rc bn (by omega) w T h1 h2
end Go.Proofs.YtckflnibkglheaaGreatDoor.State
