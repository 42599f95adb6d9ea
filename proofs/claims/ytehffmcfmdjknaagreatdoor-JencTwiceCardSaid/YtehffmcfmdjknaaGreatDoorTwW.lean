/- jdec.Value; jenc.Is of a canon. -/
import Derived.Test.YtehffmcfmdjknaaGreatDoorRtC
import Derived.Test.YtehffmcfmdjknaaGreatDoorSorF
import Derived.Test.YtehffmcfmdjknaaGreatDoorJdecP
import Derived.Test.YtehffmcfmdjknaaGreatDoorCutG
import Derived.Test.YtehffmcfmdjknaaGreatDoorJdecEq
namespace Go.Proofs.YtehffmcfmdjknaaGreatDoor.Jdec
open Go.RowKit Go.Proofs.YtehffmcfmdjknaaGreatDoor.Strs Go.Proofs
set_option linter.unusedVariables false
set_option linter.unusedSimpArgs false
set_option maxRecDepth 100000

/-- What jdec.Value tells. -/
def JVPost (l : List UInt8) (w : World) (x : Ending) (w' : World) : Prop := ∃ a : Raw, x = .returned (.tuple #[a.val, .int .i64 (parse l).2.2]) ∧ IsV w' (fun j => w.heap.size ≤ j) a (parse l).1 ∧ Below w.heap.size w w'
theorem JVPost.to {l : List UInt8} {w w' : World} {x : Ending} (h : JVPost l w x w') : ∃ a : Raw, x = .returned (.tuple #[a.val, .int .i64 (parse l).2.2]) ∧ Hid (IsV w' (fun j => w.heap.size ≤ j) a (parse l).1) ∧ Hid (Below w.heap.size w w') := h
theorem PPost.to {l : List UInt8} {w w' : World} {x : Ending} (h : PPost l w x w') : ∃ a : Raw, x = .returned (.tuple #[a.val, .int .i64 (parse l).2.1, .int .i64 (parse l).2.2]) ∧ Hid (IsV w' (fun j => w.heap.size ≤ j) a (parse l).1) ∧ Hid (Below w.heap.size w w') := h
theorem res2v {F : Func} {p q : Tmp} (hr : F.results = #[.cell p 29, .tmp q]) (tm : Array Value) {w' : World} {b : Nat} {a : Raw}
    (hb : w'.heap[b]? = some (.cells a.arr 29 (0, 0))) (hp : tm.getD p undef = .pointer (some ⟨b, 0, none⟩)) :
    (results F tm).run Tryz.prog w' = .ok (.tuple #[a.val, tm.getD q undef]) w' := by
  have hp' : tm[p]?.getD undef = .pointer (some ⟨b, 0, none⟩) := by simpa using hp
  have hl := run_loadVar_row (P := Tryz.prog) w' b _ 29 _ _ _ hb Tryz.underlying29 rfl infoVal
  simp [results, hr, hp', asAddr, hl]
  rfl
set_option maxHeartbeats 4000000 in
theorem jvalue_any (s : ByteArray) (w : World) (hs : s.size ≤ 9223372036854775807) (T : JTabs w) : Calls Tryz.prog 9 #[.string s] w (JVPost s.data.toList w) := by
  obtain ⟨w2, hw2, V2, B2⟩ := own_new w Raw.zero
  have V2 : Hid (w2.heap[w.heap.size]? = some (.cells Raw.zero.arr 29 (0, 0))) := V2.out
  have hl2 := heap_lt V2.out
  have hp := parse_any s w2 hs (T.stays B2.out)
  have HP := Hid.out (p := Hid _) hp
  clear hp T
  dsimp only [Raw.zero] at hw2
  go_enter Tryz.func9, Tryz.ntmps9
  go_wp2_with fail
  refine (Calls.mono HP.out ?_)
  rintro z w3 hz
  obtain ⟨a, rfl, ha, B3⟩ := hz.to
  obtain ⟨at_, hat⟩ : ∃ x, (parse s.data.toList).2.1 = x := ⟨_, rfl⟩
  obtain ⟨e, he⟩ : ∃ x, (parse s.data.toList).2.2 = x := ⟨_, rfl⟩
  rw [hat, he]
  have HE := Hid.out (p := Hid _) he
  have h3 := B3.out.size
  have V23 : Hid (w3.heap[w.heap.size]? = some (.cells Raw.zero.arr 29 (0, 0))) := (B3.out.block _ hl2).trans V2.out
  obtain ⟨w4, hw4, V4, B4⟩ := own_new w3 a
  have V24 : Hid (w4.heap[w.heap.size]? = some (.cells Raw.zero.arr 29 (0, 0))) := (B4.out.block _ (by omega)).trans V23.out
  have B14 : Hid (Below w.heap.size w w4) := (B2.out.trans (B3.out.mono (by omega))).trans (B4.out.mono (by omega))
  have V4 : Hid (w4.heap[w3.heap.size]? = some (.cells a.arr 29 (0, 0))) := V4.out
  clear hz hat he hw2
  unfold Raw.val
  obtain ⟨⟨x0, x1, x2, x3, x4, x5, x6, x7⟩, _⟩ := val_cells V4.out
  obtain ⟨⟨r0, r1, r2, r3, r4, r5, r6, r7⟩, g0, g1, g2, g3, g4, g5, g6, g7⟩ := val_cells V24.out
  go_wp2_with fail
  refine bodyPost_ret (res2v rfl _ (b := w.heap.size) (a := a) (set8 V24.out a) rfl) rfl ?_
  have h14 := B14.out.size
  have G8 := gb8 w4 w.heap.size (.int .i64 a.kind) (.bool a.is) (.bool a.neg) (.string a.dig) (.int .i64 a.exp) (.string a.str) (.slice a.ka a.kn a.kc) (.slice a.va a.vn a.vc)
  refine ⟨a, by rw [HE.out]; rfl, (ha.out.behind B4.out).turn ⟨G8.size, fun b hA hb => ⟨G8.block b hb (fun e => by injection e with e; omega), by omega⟩⟩, B14.out.grown G8 (by omega) (fun k hk => by injection hk with hk; omega)⟩
/-- What is told of a value's own print. -/
theorem jvalue_print (s : ByteArray) (t : JV) (hg : GoodQ t) (hd : t.deepN ≤ 64) (hw : t.weigh ≤ 165000) (hs : s.data.toList = t.print false 0) (w : World) (T : JTabs w) :
    Calls Tryz.prog 9 #[.string s] w fun x w' => ∃ a : Raw, x = .returned (.tuple #[a.val, .int .i64 0]) ∧ Hid (IsV w' (fun j => w.heap.size ≤ j) a t) ∧ Hid (Below w.heap.size w w') := by
  have hl := print_weigh t hg 0
  have hz : s.data.toList.length = s.size := by simp
  rw [hs] at hz
  have hp := parse_print t hg hd (by omega)
  refine (jvalue_any s w (by omega) T).mono fun x w' h => ?_
  obtain ⟨a, h1, h2, h3⟩ := h
  rw [hs, hp] at h1 h2
  exact ⟨a, h1, h2, h3⟩
set_option maxHeartbeats 4000000 in
/-- A canon is one. -/
theorem is_yes (c : ByteArray) (t : JV) (hg : GoodQ t) (hf : Fine t) (hm : t.mass ≤ 3000) (hd : t.deepN ≤ 64) (hw : t.weigh ≤ 165000) (hst : t.sort = t) (hc : c.data.toList = t.print false 0) (w : World) (T : JTabs w) (P0 : Pow10 w) :
    Calls Tryz.prog 6 #[.string c] w fun x w' => x = .returned (.bool true) ∧ Below w.heap.size w w' := by
  have hv := jvalue_print c t hg hd hw hc w T
  have HV := Hid.out (p := Hid _) hv
  have HC : Hid (∀ (a : Raw) (A : Nat → Prop) w', Below w.heap.size w w' → IsV w' A a t → Calls Tryz.prog 11 #[a.val] w' (PrP false t.sort w')) := fun a A w' hb hi => canon_any t hg hf hm hd a A w' (T.z.stays hb) (P0.stays hb) hi
  have HST := Hid.out (p := Hid _) hst
  have HCC := Hid.out (p := Hid _) hc
  clear hv hg hf hm hd hw hst hc T P0
  go_enter Tryz.func6, Tryz.ntmps6
  go_wp2_with fail
  refine (Calls.mono HV.out ?_)
  rintro z w2 ⟨a, rfl, ha, B2⟩
  obtain ⟨w3, hw3, V3, B3⟩ := own_new w2 a
  have V3 : Hid (w3.heap[w2.heap.size]? = some (.cells a.arr 29 (0, 0))) := V3.out
  have B13 : Hid (Below w.heap.size w w3) := B2.out.trans (B3.out.mono B2.out.size)
  have hc := HC.out a _ w3 B13.out (ha.out.behind B3.out)
  have HC3 := Hid.out (p := Hid _) hc
  have h3 := B13.out.size
  clear hc HC HV
  unfold Raw.val at HC3 ⊢
  obtain ⟨⟨x0, x1, x2, x3, x4, x5, x6, x7⟩, _⟩ := val_cells V3.out
  go_wp2_with fail
  refine (Calls.mono HC3.out ?_)
  rintro z w4 hz
  obtain ⟨s, rfl, hs, B4⟩ := hz.to
  obtain rfl : s = c := ByteArray.ext (Array.toList_inj.1 (by rw [hs.out, HST.out, HCC.out]))
  have B14 : Hid (Below w.heap.size w w4) := B13.out.trans (B4.out.mono h3)
  clear hz HC3
  go_wp2_with fail
  go_ret
  exact ⟨rfl, B14.out⟩
end Go.Proofs.YtehffmcfmdjknaaGreatDoor.Jdec
/- tabulariumref09.Parse tells no error just where the text is a value's. -/
namespace Go.Proofs.YtehffmcfmdjknaaGreatDoor.Jdec
open Go.RowKit Go.Proofs.YtehffmcfmdjknaaGreatDoor.Strs
set_option linter.unusedVariables false
set_option linter.unusedSimpArgs false
set_option maxRecDepth 100000

/-- The text is a value's. -/
def Reads (l : List UInt8) : Prop := ∃ v q, value l 64 (skip l 0) = .ok (v, q) ∧ ¬ skip l q < l.length
/-- What tabulariumref09.Parse tells. -/
def PTw (l : List UInt8) (a : Raw) (en at_ e : Int) : Prop := e = 0 ↔ Reads l
theorem reads_parse {l : List UInt8} (hl : l.length ≤ 1048576) {v : JV} {q : Nat} (h : value l 64 (skip l 0) = .ok (v, q)) (hq : ¬ skip l q < l.length) : parse l = (v, -1, 0) := by
  unfold parse
  rw [if_neg (by omega), h]
  simp only
  rw [if_neg hq]
theorem reads_not {l : List UInt8} (hl : l.length ≤ 1048576) (h : ¬ Reads l) : (parse l).2.2 ≠ 0 := by
  have hf := value_fits l 64 (skip l 0) (skip_le l 0 (Nat.zero_le _))
  unfold parse
  rw [if_neg (by omega)]
  cases hx : value l 64 (skip l 0) with
  | error y => exact (hf.err _ hx).2
  | ok z =>
    obtain ⟨v, q⟩ := z
    simp only
    by_cases hq : skip l q < l.length
    · rw [if_pos hq]; exact (by decide : (14 : Nat) ≠ 0)
    · exact absurd ⟨v, q, hx, hq⟩ h

set_option maxHeartbeats 3200000 in
theorem rparse_tw (s : ByteArray) (w : World) (hs : s.size ≤ 1000000) :
    Calls Tryz.prog 8 #[.string s] w (GPost (PTw s.data.toList) w) := by
  have hl : s.data.toList.length = s.size := by simp
  obtain ⟨q0, hq0⟩ : ∃ q0, skip s.data.toList 0 = q0 := ⟨_, rfl⟩
  have hqs : q0 ≤ s.size := by have := skip_le s.data.toList 0 (Nat.zero_le _); omega
  have hbl : ∀ w, Calls Tryz.prog 15 #[.string s, .int .i64 0] w fun e w' => e = .returned (.int .i64 (skip s.data.toList 0 : Nat)) ∧ w = w' := fun w => rblanks_any s 0 w (by omega) (by omega)
  rw [hq0] at hbl
  have HBL := Hid.out (p := Hid _) hbl
  have hva : ∀ w, Calls Tryz.prog 14 #[.string s, .int .i64 q0, .int .i64 1] w (GPost (GAt (value s.data.toList 64 q0)) w) := fun w => rvalue_any s hs 64 1 rfl q0 w hqs
  have HVA := Hid.out (p := Hid _) hva
  have hfit := value_fits s.data.toList 64 q0 (by omega)
  have HFIT := Hid.out (p := Hid _) hfit
  obtain ⟨w1, hw1, R1, B1, S1⟩ := got_new w
  have HP : Hid (Reads s.data.toList ↔ ∃ v q, value s.data.toList 64 q0 = .ok (v, q) ∧ ¬ skip s.data.toList q < s.data.toList.length) := by rw [Hid, Reads, hq0]
  clear hbl hva hfit hq0
  go_enter Tryz.func8, Tryz.ntmps8
  go_wp2_with fail
  clear hw1
  refine (Calls.mono (HBL.out w1) ?_)
  rintro x w2 ⟨rfl, rfl⟩
  go_wp2_with fail
  refine (Calls.mono (HVA.out w1) ?_)
  rintro x w3 ⟨a, en, at_, e, rfl, hg, hb⟩
  dsimp only [gVal]
  have R3 := kept_z R1.out hb
  have B3 := Hid.out (p := Hid _) (B1.out.trans (hb.mono B1.out.size))
  clear hb R1 B1
  obtain ⟨e2, he2⟩ : ∃ e2, w3.heap.size = e2 := ⟨_, rfl⟩
  have hne2 : e2 ≠ w.heap.size := by have := heap_lt R3.out; omega
  cases hv : value s.data.toList 64 q0 with
  | error y =>
    rw [hv] at hg
    obtain ⟨rfl, rfl⟩ : e = (y.2 : Int) ∧ at_ = (y.1 : Int) := hg
    have hy := (HFIT.out.err _ hv).2
    have hez : ((y.2 : Int) != 0) = true := by rw [bne_iff_ne]; omega
    have HPO : Hid (PTw s.data.toList a en y.1 y.2) := ⟨fun he => by omega, fun hr => by
      obtain ⟨v, q, h1, _⟩ := HP.out.1 hr
      rw [hv] at h1; cases h1⟩
    obtain ⟨w4, hw4, X4, b4⟩ := got_put w3 a en y.1 y.2
    have R4 := kept_z R3.out b4.out
    have B4 := Hid.out (p := Hid _) (B3.out.trans (b4.out.mono B3.out.size))
    rw [he2] at X4
    obtain ⟨⟨d0, d1, d2, d3, d4, d5, d6, d7, d8, d9, d10⟩, g0, g1, g2, g3, g4, g5, g6, g7, g8, g9, g10⟩ := got_cells X4.out
    obtain ⟨⟨c0, c1, c2, c3, c4, c5, c6, c7, c8, c9, c10⟩, f0, f1, f2, f3, f4, f5, f6, f7, f8, f9, f10⟩ := got_cells R4.out
    clear hv hy b4 HFIT
    go_wp2_with fail
    exact got_fin rfl R4.out rfl B4.out (Nat.le_refl _) a en y.1 y.2 HPO.out
  | ok z =>
    obtain ⟨v, t⟩ := z
    rw [hv] at hg
    obtain ⟨he0, rfl⟩ : e = 0 ∧ en = (t : Int) := hg
    have hez : (e != 0) = false := by rw [he0]; rfl
    have ht := (HFIT.out.ok _ hv).2
    simp only [hl] at ht
    obtain ⟨p2, hp2⟩ : ∃ p2, skip s.data.toList t = p2 := ⟨_, rfl⟩
    have hp22 : p2 ≤ s.size := by have := skip_le s.data.toList t (by rw [hl]; exact ht); rw [hl, hp2] at this; exact this
    have hbl := fun w => rblanks_any s t w (by omega) ht
    rw [hp2] at hbl
    have HBL2 := Hid.out (p := Hid _) hbl
    have HPO : Hid (¬ p2 < s.size ↔ Reads s.data.toList) := ⟨fun h => HP.out.2 ⟨v, t, hv, by rw [hp2, hl]; exact h⟩, fun hr => by
      obtain ⟨v', q', h1, h2⟩ := HP.out.1 hr
      rw [hv] at h1
      injection h1 with h1
      injection h1 with _ h1
      subst h1
      rw [hp2, hl] at h2
      exact h2⟩
    obtain ⟨w4, hw4, X4, b4⟩ := got_put w3 a t at_ e
    have R4 := kept_z R3.out b4.out
    have B4 := Hid.out (p := Hid _) (B3.out.trans (b4.out.mono B3.out.size))
    rw [he2] at X4
    obtain ⟨⟨d0, d1, d2, d3, d4, d5, d6, d7, d8, d9, d10⟩, g0, g1, g2, g3, g4, g5, g6, g7, g8, g9, g10⟩ := got_cells X4.out
    obtain ⟨⟨c0, c1, c2, c3, c4, c5, c6, c7, c8, c9, c10⟩, f0, f1, f2, f3, f4, f5, f6, f7, f8, f9, f10⟩ := got_cells R4.out
    clear hv b4 HFIT HP hbl hp2 he0 HBL HVA
    go_wp2_with fail
    refine (Calls.mono (HBL2.out w4) ?_)
    rintro x w5 ⟨rfl, rfl⟩
    by_cases hlt : p2 < s.size
    · have q1 : decide ((p2 : Int) < (s.size : Int)) = true := by rw [decide_eq_true_eq]; omega
      have q2 : decide (p2 < s.size) = true := by rw [decide_eq_true_eq]; omega
      go_wp2_with fail
      refine (rbad_any p2 14 w4).mono ?_
      rintro x w6 ⟨a6, en6, at6, e6, rfl, hr, hb⟩
      dsimp only [gVal]
      have R6 := kept_z R4.out hb
      have B6 := Hid.out (p := Hid _) (B4.out.trans (hb.mono B4.out.size))
      have HB : Hid (PTw s.data.toList a6 en6 at6 e6) := ⟨fun he => by have := hr.2; omega, fun h => absurd hlt (HPO.out.2 h)⟩
      clear hb hr c0 c1 c2 c3 c4 c5 c6 c7 c8 c9 c10 f0 f1 f2 f3 f4 f5 f6 f7 f8 f9 f10
      obtain ⟨⟨c0, c1, c2, c3, c4, c5, c6, c7, c8, c9, c10⟩, f0, f1, f2, f3, f4, f5, f6, f7, f8, f9, f10⟩ := got_cells R6.out
      go_wp2_with fail
      exact got_fin rfl R6.out rfl B6.out (Nat.le_refl _) a6 en6 at6 e6 HB.out
    · have q1 : decide ((p2 : Int) < (s.size : Int)) = false := by rw [decide_eq_false_iff_not]; omega
      have q2 : decide (p2 < s.size) = false := by rw [decide_eq_false_iff_not]; omega
      have HB := Hid.out (p := Hid _) (HPO.out.1 hlt)
      clear HPO
      go_wp2_with fail
      exact got_fin rfl R4.out rfl B4.out (Nat.le_refl _) a 0 (-1) 0 ⟨fun _ => HB.out, fun _ => rfl⟩
end Go.Proofs.YtehffmcfmdjknaaGreatDoor.Jdec
/- tabulariumlaw10.JencTwice: the walk. -/
namespace Go.Proofs.YtehffmcfmdjknaaGreatDoor.Jdec
open Go.RowKit Go.Proofs.YtehffmcfmdjknaaGreatDoor.Strs Go.Proofs
set_option linter.unusedVariables false
set_option linter.unusedSimpArgs false
set_option maxRecDepth 100000

theorem GPost.to2 {R : Raw → Int → Int → Int → Prop} {w : World} {x : Ending} {w' : World} (h : GPost R w x w') : ∃ a en at_ e, x = .returned (gVal a en at_ e) ∧ Hid (R a en at_ e) ∧ Hid (Below w.heap.size w w') := h
set_option maxHeartbeats 8000000 in
theorem jencTwice_any (s : ByteArray) (w : World) (T : JTabs w ∧ Pow10 w) (hs : s.size ≤ 9223372036854775807) :
    Calls Tryz.prog 4 #[.string s] w fun e w' => e = .returned (.bool true) ∧ Below w.heap.size w w' := by
  have hl : s.data.toList.length = s.size := by simp
  have hwk := wakes10 w T.1.z T.2
  have HWK := Hid.out (p := Hid _) hwk
  have HT : Hid (JTabs w) := T.1
  have HP0 : Hid (Pow10 w) := T.2
  have HPA : Hid (∀ w', s.size ≤ 1500 → Calls Tryz.prog 8 #[.string s] w' (GPost (PTw s.data.toList) w')) := fun w' h => rparse_tw s w' (by omega)
  have HVA : Hid (∀ w', Below w.heap.size w w' → Calls Tryz.prog 9 #[.string s] w' (JVPost s.data.toList w')) := fun w' hb => jvalue_any s w' hs (T.1.stays hb)
  have HL := Hid.out (p := Hid _) hl
  clear hwk T hl
  by_cases hbig : 1500 < s.size
  · have q1 : decide ((1500 : Int) < (s.size : Int)) = true := by rw [decide_eq_true_eq]; omega
    have q2 : decide (1500 < s.size) = true := by rw [decide_eq_true_eq]; omega
    go_enter Tryz.func4, Tryz.ntmps4
    go_wp2_with fail
    refine (Calls.mono HWK.out ?_)
    rintro z w1 ⟨rfl, hb1⟩
    have B1 := Hid.out (p := Hid _) hb1
    clear hb1
    go_wp2_with fail
    go_ret
    exact ⟨rfl, B1.out⟩
  have q1 : decide ((1500 : Int) < (s.size : Int)) = false := by rw [decide_eq_false_iff_not]; omega
  have q2 : decide (1500 < s.size) = false := by rw [decide_eq_false_iff_not]; omega
  go_enter Tryz.func4, Tryz.ntmps4
  go_wp2_with fail
  refine (Calls.mono HWK.out ?_)
  rintro z w1 ⟨rfl, hb1⟩
  have B1 := Hid.out (p := Hid _) hb1
  have hpa := HPA.out w1 (by omega)
  have HPA1 := Hid.out (p := Hid _) hpa
  have h1 := hb1.size
  clear hb1 hpa HPA HWK
  go_wp2_with fail
  refine (Calls.mono HPA1.out ?_)
  rintro z w2 hz
  obtain ⟨a0, en, at_, e0, rfl, he0, B2⟩ := hz.to2
  dsimp only [gVal]
  obtain ⟨w3, hw3, X3, B3⟩ := got_put w2 a0 en at_ e0
  have B13 : Hid (Below w.heap.size w w3) := (B1.out.trans (B2.out.mono h1)).trans (B3.out.mono (by have := B2.out.size; omega))
  have hl3 := heap_lt X3.out
  have hva := HVA.out w3 B13.out
  have HVA3 := Hid.out (p := Hid _) hva
  have h2 := B2.out.size
  clear hz hva HVA HPA1
  go_wp2_with fail
  refine (Calls.mono HVA3.out ?_)
  rintro z w4 hz
  obtain ⟨a, rfl, ha, B4⟩ := hz.to
  have h4 := B4.out.size
  obtain ⟨w5, hw5, V5, B5⟩ := own_new w4 a
  have V5 : Hid (w5.heap[w4.heap.size]? = some (.cells a.arr 29 (0, 0))) := V5.out
  have X5 := kept_z (kept_z X3.out B4.out).out B5.out
  have B15 : Hid (Below w.heap.size w w5) := (B13.out.trans (B4.out.mono (by omega))).trans (B5.out.mono (by omega))
  have ha5 := Hid.out (p := Hid _) (ha.out.behind B5.out)
  have h5 := heap_lt V5.out
  obtain ⟨pe, hpe⟩ : ∃ x, (parse s.data.toList).2.2 = x := ⟨_, rfl⟩
  rw [hpe]
  have HPE := Hid.out (p := Hid _) hpe
  clear hz hpe ha HVA3 X3 hw3
  unfold Raw.val
  obtain ⟨⟨c0, c1, c2, c3, c4, c5, c6, c7, c8, c9, c10⟩, _⟩ := got_cells X5.out
  obtain ⟨⟨x0, x1, x2, x3, x4, x5, x6, x7⟩, _⟩ := val_cells V5.out
  by_cases hr : Reads s.data.toList
  case neg =>
    have hne : e0 ≠ 0 := fun h => hr (he0.out.1 h)
    have hpn : pe ≠ 0 := by rw [← HPE.out]; exact reads_not (by rw [HL.out]; omega) hr
    have q3 : (e0 != 0) = true := by rw [bne_iff_ne]; exact hne
    have q4 : ((pe : Int) != 0) = true := by rw [bne_iff_ne]; omega
    clear hr hne hpn
    go_wp2_with fail
    go_ret
    exact ⟨rfl, B15.out⟩
  case pos =>
  have hez : e0 = 0 := he0.out.2 hr
  have q3 : (e0 != 0) = false := by rw [hez]; rfl
  obtain ⟨v, q, hv, hq⟩ := hr
  have hp := reads_parse (by rw [HL.out]; omega) hv hq
  obtain ⟨g1, g2, g3, g4, g5⟩ := read_good (by rw [HL.out]; omega) hv hq
  have hpz : pe = 0 := by rw [← HPE.out, hp]
  have HAV : Hid (IsV w5 (fun j => w3.heap.size ≤ j) a v) := by
    have := ha5.out
    rw [hp] at this
    exact this
  have hsm : Small s.data.toList.length v := by
    have := parse_small_tree s.data.toList
    rw [hp] at this
    exact this
  obtain ⟨k1, k2, k3, k4⟩ := sort_keeps v g1
  have hal := same_alike _ (by rw [HL.out]; omega) v hsm
  have hpr := print_any v g1 g2 g3 g4 a _ w5 (HT.out.z.stays B15.out) (HP0.out.stays B15.out) HAV.out
  have HPR := Hid.out (p := Hid _) hpr
  have HVP : Hid (∀ (x : ByteArray) w', x.data.toList = v.print false 0 → Below w.heap.size w w' → Calls Tryz.prog 9 #[.string x] w' fun z w'' => ∃ b : Raw, z = .returned (.tuple #[b.val, .int .i64 0]) ∧ Hid (IsV w'' (fun j => w'.heap.size ≤ j) b v) ∧ Hid (Below w'.heap.size w' w'')) := fun x w' h hb => jvalue_print x v g1 g4 g5 h w' (HT.out.stays hb)
  have HCN : Hid (∀ w', Below w.heap.size w w' → Below w5.heap.size w5 w' → Calls Tryz.prog 11 #[a.val] w' (PrP false v.sort w')) := fun w' hb hb5 => canon_any v g1 g2 g3 g4 a _ w' (HT.out.z.stays hb) (HP0.out.stays hb) (HAV.out.behind hb5)
  have HAL := Hid.out (p := Hid _) hal
  have HIS : Hid (∀ (c : ByteArray) w', c.data.toList = v.sort.print false 0 → Below w.heap.size w w' → Calls Tryz.prog 6 #[.string c] w' fun z w'' => z = .returned (.bool true) ∧ Below w'.heap.size w' w'') := fun c w' h hb => is_yes c v.sort k1 (k4 g2) (by omega) (by omega) (by rw [weigh_sort v g1]; exact g5) (sort_sort v g1) h w' (HT.out.stays hb) (HP0.out.stays hb)
  subst hpz hez
  clear hp g1 g2 g3 g4 g5 k1 k2 k3 k4 hv hq hsm hal hpr he0 HPE ha5
  unfold Raw.val at HPR HCN
  go_wp2_with fail
  refine (Calls.mono HPR.out ?_)
  rintro z w6 hz
  obtain ⟨pa, rfl, hpa, B6⟩ := hz.to
  have h6 := B6.out.size
  have B16 : Hid (Below w.heap.size w w6) := B15.out.trans (B6.out.mono (by omega))
  have hvp := HVP.out pa w6 hpa.out B16.out
  have HVP6 := Hid.out (p := Hid _) hvp
  clear hz hvp HVP HPR
  go_wp2_with fail
  refine (Calls.mono HVP6.out ?_)
  rintro z w7 ⟨b, rfl, hb, B7⟩
  have h7 := B7.out.size
  obtain ⟨w8, hw8, V8, B8⟩ := own_new w7 b
  have V8 : Hid (w8.heap[w7.heap.size]? = some (.cells b.arr 29 (0, 0))) := V8.out
  have h8 := heap_lt V8.out
  have B58 : Hid (Below w5.heap.size w5 w8) := (B6.out.trans (B7.out.mono (by omega))).trans (B8.out.mono (by omega))
  have B18 : Hid (Below w.heap.size w w8) := B15.out.trans (B58.out.mono (by omega))
  have V58 : Hid (w8.heap[w4.heap.size]? = some (.cells a.arr 29 (0, 0))) := (B58.out.block _ h5).trans V5.out
  have hb8 := Hid.out (p := Hid _) (hb.out.behind B8.out)
  have hcn := HCN.out w8 B18.out B58.out
  have HCN8 := Hid.out (p := Hid _) hcn
  clear hcn HCN HVP6 hb c0 c1 c2 c3 c4 c5 c6 c7 c8 c9 c10 x0 x1 x2 x3 x4 x5 x6 x7
  unfold Raw.val
  obtain ⟨⟨x0, x1, x2, x3, x4, x5, x6, x7⟩, _⟩ := val_cells V58.out
  go_wp2_with fail
  refine (Calls.mono HCN8.out ?_)
  rintro z w9 hz
  obtain ⟨c, rfl, hc, B9⟩ := hz.to
  have h9 := B9.out.size
  have V59 : Hid (w9.heap[w4.heap.size]? = some (.cells a.arr 29 (0, 0))) := (B9.out.block _ (by omega)).trans V58.out
  have V89 : Hid (w9.heap[w7.heap.size]? = some (.cells b.arr 29 (0, 0))) := (B9.out.block _ h8).trans V8.out
  have B19 : Hid (Below w.heap.size w w9) := B18.out.trans (B9.out.mono (by omega))
  have hsame := HAL.out a b _ _ w9 ((HAV.out.behind B58.out).behind B9.out) (hb8.out.behind B9.out)
  have HSM := Hid.out (p := Hid _) hsame
  clear hz hsame HAL HCN8 x0 x1 x2 x3 x4 x5 x6 x7
  unfold Raw.val at HSM
  obtain ⟨⟨x0, x1, x2, x3, x4, x5, x6, x7⟩, _⟩ := val_cells V59.out
  obtain ⟨⟨y0, y1, y2, y3, y4, y5, y6, y7⟩, _⟩ := val_cells V89.out
  go_wp2_with fail
  refine (Calls.mono HSM.out ?_)
  rintro z w10 ⟨rfl, hb10⟩
  have B110 : Hid (Below w.heap.size w w10) := B19.out.trans (hb10.mono (by omega))
  have his := HIS.out c w10 hc.out B110.out
  have HIS10 := Hid.out (p := Hid _) his
  have h10 := hb10.size
  clear hb10 his HIS HSM
  go_wp2_with fail
  refine (Calls.mono HIS10.out ?_)
  rintro z w11 ⟨rfl, hb11⟩
  have B111 : Hid (Below w.heap.size w w11) := B110.out.trans (hb11.mono (by omega))
  clear hb11 HIS10
  go_wp2_with fail
  go_ret
  exact ⟨rfl, B111.out⟩
end Go.Proofs.YtehffmcfmdjknaaGreatDoor.Jdec
