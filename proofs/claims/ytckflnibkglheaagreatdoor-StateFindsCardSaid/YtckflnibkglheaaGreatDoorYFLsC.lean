/- tabulariumlaw18.wakes. -/
import Derived.Test.YtckflnibkglheaaGreatDoorYFStV
import Derived.Test.YtckflnibkglheaaGreatDoorYFOpS
namespace Go.Proofs.YtckflnibkglheaaGreatDoor.State
open Go.RowKit Go.Shelf Go.Proofs.YtckflnibkglheaaGreatDoor.Utf Go.Proofs.YtckflnibkglheaaGreatDoor.Strs Go.Proofs.YtckflnibkglheaaGreatDoor.Addr
open Go.Proofs.YtckflnibkglheaaGreatDoor.Jdec (IsTexts Turn infoStr gb_set gb_below gb_refl)
set_option linter.unusedVariables false
set_option linter.unusedSimpArgs false
set_option maxRecDepth 100000

def wakeR : Rec := ⟨⟨[], ⟨#[120]⟩, ⟨#[121]⟩, 0, 0, ⟨#[]⟩⟩, ⟨#[]⟩, ⟨#[]⟩, []⟩
theorem wakeR_right : recB wakeR = true := by kernel_rfl
theorem wakeR_small : Small wakeR := ⟨by decide, (fun x h => by cases h), by decide, by decide, by decide, by decide, by decide, by decide, by decide, (fun x h => by cases h), (fun x h => by cases h)⟩
theorem wakeR_good : Good [wakeR] := ⟨fun x h => by rw [List.mem_singleton.1 h]; exact wakeR_right, by simp, fun x h => by rw [List.mem_singleton.1 h]; exact wakeR_small⟩
theorem wake_state : rightS ⟨0, ⟨#[]⟩, [wakeR]⟩ = true := (rightS_iff _).2 ⟨by decide, wakeR_good.rows⟩
theorem wake_put {w w' : World} {e : Ending} (h : PuPost Sta.zero wakeR w e w') : ∃ a c, e = .returned (.tuple #[.agg #[.int .u64 0, .string ⟨#[]⟩, .slice a 1 c], .int .i64 0]) ∧ Hid (RecsAt w' a [wakeR]) ∧ Hid (Below w.heap.size w w') := by
 obtain ⟨hb, h⟩ := h
 rcases h with ⟨h1, _⟩ | ⟨_, i, nx, hP, hN, a, c, e1, hI, hc⟩
 ·rw [wakeR_right] at h1; cases h1
 ·have hi : i = 0 := by have := hP.n; simpa [Sta.zero] using this
  have hnx : nx = 0 := by have := (next_le hN hP).2; simpa [Sta.zero] using this
  subst hi hnx
  exact ⟨a, c, e1, ⟨hI.any, by decide, wakeR_good.s⟩, hb⟩
set_option maxHeartbeats 4000000 in
theorem wakes18 (w : World) (T : TabsA w) : Calls Tryz.prog 15 #[] w fun e w' => e = .returned (.bool true) ∧ Below w.heap.size w w' := by
 have HPU : Hid (Calls Tryz.prog 19 #[.agg #[.int .u64 0, .string ⟨#[]⟩, .slice none 0 0], .agg #[.slice none 0 0, .string ⟨#[120]⟩, .string ⟨#[121]⟩, .int .i64 0, .int .u64 0, .string ⟨#[]⟩, .string ⟨#[]⟩, .string ⟨#[]⟩, .slice none 0 0]] w (PuPost Sta.zero wakeR w)) := put_any Sta.zero none 0 wakeR At.zero w ⟨RecsAt.nil _ _, by decide, fun i j hi => by simp [Sta.zero] at hi⟩ ⟨.inl rfl, .inl rfl⟩ wakeR_small (by decide) T
 have HT : Hid (∀ W, Below w.heap.size w W → TabsA W) := fun W hb => T.stays hb
 clear T
 go_enter Tryz.func15, Tryz.ntmps15
 go_wp2_with fail
 refine (Calls.mono HPU.out ?_)
 rintro z w2 hz
 obtain ⟨a, c, rfl, hR, hB⟩ := wake_put hz
 obtain ⟨w3, hw3, V3, B3, Z3⟩ := zsta_new w2
 obtain ⟨w4, hw4⟩ : ∃ w4, (((w3.setCell ⟨w2.heap.size, 0, none⟩ (.int .u64 0)).setCell ⟨w2.heap.size, 1, none⟩ (.string ⟨#[]⟩)).setCell ⟨w2.heap.size, 2, none⟩ (.slice a 1 c)) = w4 := ⟨_, rfl⟩
 have G4 : Hid (w3.grownBy w4 (some w2.heap.size)) := by rw [← hw4]; exact ((gb_set _ _ _ _).trans (gb_set _ _ _ _)).trans (gb_set _ _ _ _)
 have V4 : Hid (w4.heap[w2.heap.size]? = some (.cells (staArr a c ⟨0, ⟨#[]⟩, [wakeR]⟩) 26 (0, 0))) := by rw [← hw4]; exact set3 (t := ⟨0, ⟨#[]⟩, [wakeR]⟩) V3.out
 have B24 : Hid (Below w2.heap.size w2 w4) := B3.out.grown G4.out B3.out.size (fun x hx => by injection hx with hx; omega)
 have B04 : Hid (Below w.heap.size w w4) := hB.out.trans (B24.out.mono hB.out.size)
 have f0 := frozen_of V3.out 0
 have f1 := frozen_of V3.out 1
 have f2 := frozen_of V3.out 2
 obtain ⟨x0, x1, x2⟩ := sta_cells V3.out
 have y0 : w4.cell? ⟨w2.heap.size, 0, none⟩ = some (.int .u64 0) := cell_of V4.out 0
 have y1 : w4.cell? ⟨w2.heap.size, 1, none⟩ = some (.string ⟨#[]⟩) := cell_of V4.out 1
 have y2 : w4.cell? ⟨w2.heap.size, 2, none⟩ = some (.slice a 1 c) := cell_of V4.out 2
 have HRI : Hid (Calls Tryz.prog 25 #[.agg #[.int .u64 0, .string ⟨#[]⟩, .slice a 1 c]] w4 fun e w' => e = .returned (.bool true) ∧ Below w4.heap.size w4 w') := by
  have h := sright_any ⟨0, ⟨#[]⟩, [wakeR]⟩ a c w4 (hR.out.stays B24.out) (by decide) (HT.out w4 B04.out)
  rw [wake_state] at h
  exact h
 clear hz
 go_wp2_with fail
 refine (Calls.mono HRI.out ?_)
 rintro z w5 ⟨rfl, hb5⟩
 have B05 : Hid (Below w.heap.size w w5) := B04.out.trans (hb5.mono B04.out.size)
 clear hb5
 go_wp2_with fail
 go_ret
 exact ⟨rfl, B05.out⟩
end Go.Proofs.YtckflnibkglheaaGreatDoor.State
/- StateFinds: what its calls tell. -/
namespace Go.Proofs.YtckflnibkglheaaGreatDoor.State
open Go.RowKit Go.Shelf Go.Proofs.YtckflnibkglheaaGreatDoor.Utf Go.Proofs.YtckflnibkglheaaGreatDoor.Strs Go.Proofs.YtckflnibkglheaaGreatDoor.Addr
open Go.Proofs.YtckflnibkglheaaGreatDoor.Jdec (IsTexts Turn infoStr gb_set gb_below gb_refl)
set_option linter.unusedVariables false
set_option linter.unusedSimpArgs false
set_option maxRecDepth 100000

theorem fi_cases {s : Sta} {a : Adr} {w w' : World} {e : Ending} (hg : Good s.recs) (hp : a.place < 18446744073709551616) (h : FiPost s (printA a) w e w') : Hid (Below w.heap.size w w') ∧
  ((∃ (i : Nat) (hi : i < s.recs.length) (p : At) (r : Rec), Hid (s.recs[i] = r) ∧ Hid (r.a = a) ∧ e = .returned (.tuple #[.agg #[.slice p.pa r.a.path.length p.pc, .string r.a.type, .string r.a.name, .int .i64 r.a.key, .int .u64 r.a.place, .string r.a.word, .string r.prov, .string r.id, .slice p.ta r.attrs.length p.tc], .bool true]) ∧ Hid (IsRec w' (fun _ => True) p r)) ∨
  (Hid (∀ x ∈ s.recs, x.a ≠ a) ∧ e = .returned (.tuple #[.agg #[.slice none 0 0, .string ⟨#[]⟩, .string ⟨#[]⟩, .int .i64 0, .int .u64 0, .string ⟨#[]⟩, .string ⟨#[]⟩, .string ⟨#[]⟩, .slice none 0 0], .bool false]))) := by
 obtain ⟨hb, i, hP, h⟩ := h
 refine ⟨hb, ?_⟩
 rcases h with ⟨hi, he, p, e1, hI⟩ | ⟨hn, e1⟩
 ·exact .inl ⟨i, hi, p, _, rfl, adr_eq (hg.r _ (List.getElem_mem hi)) (hg.s _ (List.getElem_mem hi)) hp he, e1, hI⟩
 ·exact .inr ⟨not_is hg hp hP hn, e1⟩
theorem dr_cases {s : Sta} {a : Adr} {w w' : World} {e : Ending} (hg : Good s.recs) (hn : s.recs.length ≤ 3000) (hp : a.place < 18446744073709551616) (h : DrPost s (printA a) w e w') : Hid (Below w.heap.size w w') ∧
  ((∃ (i : Nat) (hi : i < s.recs.length) (l' : List Rec) (a' : Option Addr) (c' : Nat), Hid (s.recs[i].a = a) ∧ Hid (l' = dropR s.recs i) ∧ e = .returned (.tuple #[.agg #[.int .u64 s.serial, .string s.lin, .slice a' l'.length c'], .int .i64 0]) ∧ Hid (StaAt w' a' c' { s with recs := l' }) ∧ Hid (Good l')) ∨
  (Hid (∀ x ∈ s.recs, x.a ≠ a) ∧ e = .returned (.tuple #[.agg #[.int .u64 0, .string ⟨#[]⟩, .slice none 0 0], .int .i64 12]))) := by
 obtain ⟨hb, i, hP, h⟩ := h
 refine ⟨hb, ?_⟩
 rcases h with ⟨hY, a', c', e1, hI, hc⟩ | ⟨hn2, e1⟩
 ·obtain ⟨hi, he⟩ := (is_iff hg hp i).1 hY
  have hgd := good_drop hg i
  have hlen := (dropR_sub s.recs i).length_le
  exact .inl ⟨i, hi, dropR s.recs i, a', c', he, rfl, e1, ⟨⟨hI.any, Nat.le_trans hlen hn, hgd.s⟩, hc, hgd.sorted⟩, hgd⟩
 ·exact .inr ⟨not_is hg hp hP hn2, e1⟩
def GsPost (s : Sta) (w : World) (e : Ending) (w' : World) : Prop := ∃ g : Bool, e = .returned (.bool g) ∧ (g = false → s.recs.length ≤ 30 ∧ s.lin.size ≤ 1000 ∧ ∀ r ∈ s.recs, Small r) ∧ Below w.heap.size w w'
theorem GsPost.to {s : Sta} {w w' : World} {e : Ending} (h : GsPost s w e w') : ∃ g : Bool, e = .returned (.bool g) ∧ Hid (g = false → s.recs.length ≤ 30 ∧ s.lin.size ≤ 1000 ∧ ∀ r ∈ s.recs, Small r) ∧ Hid (Below w.heap.size w w') := h
theorem gs_ok (s : Sta) (ra : Option Addr) (rc : Nat) (w : World) (h : StaIn w ra s) : Hid (Calls Tryz.prog 21 #[.agg #[.int .u64 s.serial, .string s.lin, .slice ra s.recs.length rc]] w (GsPost s w)) := great18_any s ra rc w h
theorem rr_ok (s : Sta) (ra : Option Addr) (rc : Nat) (w : World) (h : RecsAt w ra s.recs) (hl : s.lin.size ≤ 6000) (b : Bool) (hb : rightS s = b) : Hid (Calls Tryz.prog 22 #[.agg #[.int .u64 s.serial, .string s.lin, .slice ra s.recs.length rc]] w fun e w' => e = .returned (.bool b) ∧ Below w.heap.size w w') := by
 rw [← hb]; exact rright18_any s ra rc w h hl
theorem pr18_ok (s : Sta) (ra : Option Addr) (rc : Nat) (w : World) (h : RecsAt w ra s.recs) (hl : s.lin.size ≤ 6000) (T : TabsA w) (b : Bool) (hb : rightS s = b) : Hid (Calls Tryz.prog 25 #[.agg #[.int .u64 s.serial, .string s.lin, .slice ra s.recs.length rc]] w fun e w' => e = .returned (.bool b) ∧ Below w.heap.size w w') := by
 rw [← hb]; exact sright_any s ra rc w h hl T
theorem fi_ok (s : Sta) (ra : Option Addr) (rc : Nat) (a : Adr) (pa : Option Addr) (pc : Nat) (w : World) (h : StaAt w ra rc s) (ha : AdrAt w pa a) (T : TabsA w) : Hid (Calls Tryz.prog 23 #[.agg #[.int .u64 s.serial, .string s.lin, .slice ra s.recs.length rc], .agg #[.slice pa a.path.length pc, .string a.type, .string a.name, .int .i64 a.key, .int .u64 a.place, .string a.word]] w (FiPost s (printA a) w)) := find_any s ra rc a pa pc w h ha T
theorem dr_ok (s : Sta) (ra : Option Addr) (rc : Nat) (a : Adr) (pa : Option Addr) (pc : Nat) (w : World) (h : StaAt w ra rc s) (ha : AdrAt w pa a) (T : TabsA w) : Hid (Calls Tryz.prog 27 #[.agg #[.int .u64 s.serial, .string s.lin, .slice ra s.recs.length rc], .agg #[.slice pa a.path.length pc, .string a.type, .string a.name, .int .i64 a.key, .int .u64 a.place, .string a.word]] w (DrPost s (printA a) w)) := drop_any s ra rc a pa pc w h ha T
theorem sm_ok (s t : Sta) (ra rb : Option Addr) (rc rd : Nat) (w : World) (h : RecsAt w ra s.recs) (h' : RecsAt w rb t.recs) (b : Bool) (hb : sameSta s t = b) : Hid (Calls Tryz.prog 20 #[.agg #[.int .u64 s.serial, .string s.lin, .slice ra s.recs.length rc], .agg #[.int .u64 t.serial, .string t.lin, .slice rb t.recs.length rd]] w fun e w' => e = .returned (.bool b) ∧ Below w.heap.size w w') := by
 rw [← hb]; exact same18_any s t ra rb rc rd w h h'
theorem sre_ok (r s : Rec) (p q : At) (w : World) (h : IsRec w (fun _ => True) p r) (h' : IsRec w (fun _ => True) q s) (hr : Small r) (hs : Small s) (b : Bool) (hb : sameRec r s = b) : Hid (Calls Tryz.prog 26 #[.agg #[.slice p.pa r.a.path.length p.pc, .string r.a.type, .string r.a.name, .int .i64 r.a.key, .int .u64 r.a.place, .string r.a.word, .string r.prov, .string r.id, .slice p.ta r.attrs.length p.tc], .agg #[.slice q.pa s.a.path.length q.pc, .string s.a.type, .string s.a.name, .int .i64 s.a.key, .int .u64 s.a.place, .string s.a.word, .string s.prov, .string s.id, .slice q.ta s.attrs.length q.tc]] w fun e w' => e = .returned (.bool b) ∧ Below w.heap.size w w') := by
 rw [← hb]; exact sr_ok r s p q w h h' hr hs
theorem gra_ok (a : Adr) (pa : Option Addr) (pc : Nat) (w : World) (h : AdrIn w pa a) (g : Bool) (hg : greatA a = g) :
  Hid (Calls Tryz.prog 28 #[.agg #[.slice pa a.path.length pc, .string a.type, .string a.name, .int .i64 a.key, .int .u64 a.place, .string a.word]] w fun e w' => e = .returned (.bool g) ∧ Below w.heap.size w w') := by
 have := great_any a pa pc w h
 rw [hg] at this
 exact this
theorem zrec_small : Small Rec.zero := ⟨by decide, (fun x h => by cases h), by decide, by decide, by decide, by decide, by decide, by decide, by decide, (fun x h => by cases h), (fun x h => by cases h)⟩
theorem zrec_is (w : World) : IsRec w (fun _ => True) At.zero Rec.zero := ⟨.inl rfl, .inl rfl⟩
theorem rightS_good {s : Sta} (h : rightS s = true) (hs : ∀ r ∈ s.recs, Small r) : Good s.recs := good_of ((rightS_iff s).1 h).2 hs
theorem good_rightS {s : Sta} (h : Good s.recs) (hl : decide (badZ s.lin.data.toList < 0) = true) : rightS s = true := (rightS_iff s).2 ⟨of_decide_eq_true hl, h.rows⟩
theorem rightS_lin {s : Sta} (h : rightS s = true) : decide (badZ s.lin.data.toList < 0) = true := decide_eq_true ((rightS_iff s).1 h).1
end Go.Proofs.YtckflnibkglheaaGreatDoor.State
/- StateFinds: the walk. -/
namespace Go.Proofs.YtckflnibkglheaaGreatDoor.State
open Go.RowKit Go.Shelf Go.Proofs.YtckflnibkglheaaGreatDoor.Utf Go.Proofs.YtckflnibkglheaaGreatDoor.Strs Go.Proofs.YtckflnibkglheaaGreatDoor.Addr
open Go.Proofs.YtckflnibkglheaaGreatDoor.Jdec (IsTexts Turn infoStr gb_set gb_below gb_refl)
set_option linter.unusedVariables false
set_option linter.unusedSimpArgs false
set_option maxRecDepth 100000

theorem zrec_cells {w : World} {b : Nat} (h : w.heap[b]? = some (.cells (recArr At.zero Rec.zero) 32 (0, 0))) : w.cell? ⟨b, 0, none⟩ = some (.slice none 0 0) ∧ w.cell? ⟨b, 1, none⟩ = some (.string ⟨#[]⟩) ∧ w.cell? ⟨b, 2, none⟩ = some (.string ⟨#[]⟩) ∧ w.cell? ⟨b, 3, none⟩ = some (.int .i64 0) ∧ w.cell? ⟨b, 4, none⟩ = some (.int .u64 0) ∧ w.cell? ⟨b, 5, none⟩ = some (.string ⟨#[]⟩) ∧ w.cell? ⟨b, 6, none⟩ = some (.string ⟨#[]⟩) ∧ w.cell? ⟨b, 7, none⟩ = some (.string ⟨#[]⟩) ∧ w.cell? ⟨b, 8, none⟩ = some (.slice none 0 0) := rec_cells h
theorem zsta_cells {w : World} {b : Nat} (h : w.heap[b]? = some (.cells (staArr none 0 Sta.zero) 26 (0, 0))) : w.cell? ⟨b, 0, none⟩ = some (.int .u64 0) ∧ w.cell? ⟨b, 1, none⟩ = some (.string ⟨#[]⟩) ∧ w.cell? ⟨b, 2, none⟩ = some (.slice none 0 0) := sta_cells h
set_option maxHeartbeats 32000000 in
theorem stateFinds_any (s : Sta) (ra : Option Addr) (rc : Nat) (a : Adr) (pa : Option Addr) (pc : Nat) (w : World) (T : TabsA w) (h : StaIn w ra s) (hc : s.recs.length ≤ rc) (ha : AdrIn w pa a) :
  Calls Tryz.prog 6 #[staV ra rc s, wordsA pa pc a] w fun e w' => e = .returned (.bool true) ∧ Below w.heap.size w w' := by
 obtain ⟨w1, hw1, V1, B1⟩ := sta_new w ra rc s
 obtain ⟨w2, hw2, V2, B2⟩ := adr_new w1 pa pc a
 have hl1 := heap_lt V1.out
 have hl2 := heap_lt V2.out
 have B02 : Hid (Below w.heap.size w w2) := B1.out.trans (B2.out.mono (by omega))
 have V12 : Hid (w2.heap[w.heap.size]? = some (.cells (staArr ra rc s) 26 (0, 0))) := (B2.out.block _ hl1).trans V1.out
 have HKA : Hid (∀ W, Below w2.heap.size w2 W → W.heap[w.heap.size]? = some (.cells (staArr ra rc s) 26 (0, 0))) := fun W hb => (hb.block _ (by omega)).trans V12.out
 have HKB : Hid (∀ W, Below w2.heap.size w2 W → W.heap[w1.heap.size]? = some (.cells (arrA pa pc a) 29 (0, 0))) := fun W hb => (hb.block _ (by omega)).trans V2.out
 have HBW : Hid (∀ W, Below w2.heap.size w2 W → Below w.heap.size w W) := fun W hb => B02.out.trans (hb.mono B02.out.size)
 have HT : Hid (∀ W, Below w2.heap.size w2 W → TabsA W) := fun W hb => (T.stays B02.out).stays hb
 have HS : Hid (∀ W, Below w2.heap.size w2 W → StaIn W ra s) := fun W hb => (h.stays B02.out).stays hb
 have HA : Hid (∀ W, Below w2.heap.size w2 W → AdrIn W pa a) := fun W hb => (ha.stays B02.out).stays hb
 have HP : Hid (a.place < 18446744073709551616) := ha.p
 have HWK : Hid (Calls Tryz.prog 15 #[] w2 fun e w' => e = .returned (.bool true) ∧ Below w2.heap.size w2 w') := wakes18 w2 (T.stays B02.out)
 unfold staV wordsA
 clear T h ha
 go_enter Tryz.func6, Tryz.ntmps6
 go_wp2_with fail
 refine (Calls.mono HWK.out ?_)
 rintro z w3 ⟨rfl, hb3⟩
 have B3 : Hid (Below w2.heap.size w2 w3) := hb3
 clear hb3 HWK hw1 hw2
 obtain ⟨x30, x31, x32⟩ := sta_cells (HKA.out w3 B3.out)
 obtain ⟨y30, y31, y32, y33, y34, y35⟩ := adr_cells (HKB.out w3 B3.out)
 have HGS := gs_ok s ra rc w3 (HS.out w3 B3.out)
 go_wp2_with fail
 refine (Calls.mono HGS.out ?_)
 rintro z w4 hz
 obtain ⟨g, rfl, hg, hb4⟩ := hz.to
 have B4 : Hid (Below w2.heap.size w2 w4) := B3.out.trans (hb4.out.mono B3.out.size)
 clear hz hb4 HGS x30 x31 x32 y30 y31 y32 y33 y34 y35
 cases g
 case true =>
  go_wp2_with fail
  go_ret
  exact ⟨rfl, HBW.out w4 B4.out⟩
 have hsz := hg.out rfl
 have h30 := hsz.1
 have hn3 : s.recs.length ≤ 3000 := by omega
 have h1000 := hsz.2.1
 have HSM := Hid.out (p := Hid _) hsz.2.2
 have HR : Hid (∀ W, Below w2.heap.size w2 W → RecsAt W ra s.recs) := fun W hb => ⟨(HS.out W hb).t, hn3, HSM.out⟩
 clear hsz hg
 obtain ⟨rs, hrs⟩ : ∃ b, rightS s = b := ⟨_, rfl⟩
 have HRR := rr_ok s ra rc w4 (HR.out w4 B4.out) (Nat.le_trans h1000 (by omega)) rs hrs
 have HRS := Hid.out (p := Hid _) hrs
 obtain ⟨x40, x41, x42⟩ := sta_cells (HKA.out w4 B4.out)
 obtain ⟨y40, y41, y42, y43, y44, y45⟩ := adr_cells (HKB.out w4 B4.out)
 clear hrs
 go_wp2_with fail
 refine (Calls.mono HRR.out ?_)
 rintro z w5 ⟨rfl, hb5⟩
 have B5 : Hid (Below w2.heap.size w2 w5) := B4.out.trans (hb5.mono B4.out.size)
 clear hb5 HRR x40 x41 x42 y40 y41 y42 y43 y44 y45
 cases rs
 case false =>
  go_wp2_with fail
  go_ret
  exact ⟨rfl, HBW.out w5 B5.out⟩
 have HG : Hid (Good s.recs) := rightS_good HRS.out HSM.out
 obtain ⟨ga, hga⟩ : ∃ g, greatA a = g := ⟨_, rfl⟩
 have HGA := gra_ok a pa pc w5 (HA.out w5 B5.out) ga hga
 have HGE := Hid.out (p := Hid _) hga
 obtain ⟨x50, x51, x52⟩ := sta_cells (HKA.out w5 B5.out)
 obtain ⟨y50, y51, y52, y53, y54, y55⟩ := adr_cells (HKB.out w5 B5.out)
 clear hga
 go_wp2_with fail
 refine (Calls.mono HGA.out ?_)
 rintro z w6 ⟨rfl, hb6⟩
 have B6 : Hid (Below w2.heap.size w2 w6) := B5.out.trans (hb6.mono B5.out.size)
 clear hb6 HGA x50 x51 x52 y50 y51 y52 y53 y54 y55
 cases ga
 case true =>
  go_wp2_with fail
  go_ret
  exact ⟨rfl, HBW.out w6 B6.out⟩
 have HAT : Hid (∀ W, Below w2.heap.size w2 W → AdrAt W pa a) := fun W hb => (HA.out W hb).at HGE.out
 have HST : Hid (∀ W, Below w2.heap.size w2 W → StaAt W ra rc s) := fun W hb => ⟨HR.out W hb, hc, HG.out.sorted⟩
 have HFI := rf_ok s ra rc a pa pc w6 (HR.out w6 B6.out) (HAT.out w6 B6.out)
 obtain ⟨x60, x61, x62⟩ := sta_cells (HKA.out w6 B6.out)
 obtain ⟨y60, y61, y62, y63, y64, y65⟩ := adr_cells (HKB.out w6 B6.out)
 go_wp2_with fail
 refine (Calls.mono HFI.out ?_)
 rintro z w7 hz
 obtain ⟨hb7, hz⟩ := rfound _ _ _ _ _ hz
 have B7 : Hid (Below w2.heap.size w2 w7) := B6.out.trans (hb7.out.mono B6.out.size)
 clear hb7 HFI x60 x61 x62 y60 y61 y62 y63 y64 y65
 have HF2 := fi_ok s ra rc a pa pc w7 (HST.out w7 B7.out) (HAT.out w7 B7.out) (HT.out w7 B7.out)
 obtain ⟨x70, x71, x72⟩ := sta_cells (HKA.out w7 B7.out)
 obtain ⟨y70, y71, y72, y73, y74, y75⟩ := adr_cells (HKB.out w7 B7.out)
 rcases hz with ⟨i, hi, rfl, hia⟩ | ⟨rfl, hno⟩
 case inr =>
  go_wp2_with fail
  refine (Calls.mono HF2.out ?_)
  rintro z w8 hz
  obtain ⟨hb8, hz⟩ := fi_cases HG.out HP.out hz
  rcases hz with ⟨i, hi, p, r, e1, e2, _, _⟩ | ⟨_, rfl⟩
  case inl => exact absurd (by rw [e1.out]; exact e2.out) (hno.out _ (List.getElem_mem hi))
  have B8 : Hid (Below w2.heap.size w2 w8) := B7.out.trans (hb8.out.mono B7.out.size)
  clear hb8 HF2 x70 x71 x72 y70 y71 y72 y73 y74 y75
  obtain ⟨z8, hz8, Vz8, Bz8, Zz8⟩ := zrec_new w8
  obtain ⟨t8, ht8⟩ : ∃ t8, (((((((((z8.setCell ⟨w8.heap.size, 0, none⟩ (.slice none 0 0)).setCell ⟨w8.heap.size, 1, none⟩ (.string ⟨#[]⟩)).setCell ⟨w8.heap.size, 2, none⟩ (.string ⟨#[]⟩)).setCell ⟨w8.heap.size, 3, none⟩ (.int .i64 0)).setCell ⟨w8.heap.size, 4, none⟩ (.int .u64 0)).setCell ⟨w8.heap.size, 5, none⟩ (.string ⟨#[]⟩)).setCell ⟨w8.heap.size, 6, none⟩ (.string ⟨#[]⟩)).setCell ⟨w8.heap.size, 7, none⟩ (.string ⟨#[]⟩)).setCell ⟨w8.heap.size, 8, none⟩ (.slice none 0 0)) = t8 := ⟨_, rfl⟩
  have Gt8 : Hid (z8.grownBy t8 (some w8.heap.size)) := by rw [← ht8]; exact (((((((((gb_set _ _ _ _).trans (gb_set _ _ _ _)).trans (gb_set _ _ _ _)).trans (gb_set _ _ _ _)).trans (gb_set _ _ _ _)).trans (gb_set _ _ _ _)).trans (gb_set _ _ _ _)).trans (gb_set _ _ _ _)).trans (gb_set _ _ _ _))
  have Vt8 : Hid (t8.heap[w8.heap.size]? = some (.cells (recArr At.zero Rec.zero) 32 (0, 0))) := by rw [← ht8]; exact set9 Vz8.out At.zero Rec.zero
  have Bt8 : Hid (Below w8.heap.size w8 t8) := Bz8.out.grown Gt8.out Bz8.out.size (fun x hx => by injection hx with hx; omega)
  obtain ⟨fz80, fz81, fz82, fz83, fz84, fz85, fz86, fz87, fz88⟩ := rec_frozen Vz8.out
  obtain ⟨cz80, cz81, cz82, cz83, cz84, cz85, cz86, cz87, cz88⟩ := rec_cells Vz8.out
  have Bt8w : Hid (Below w2.heap.size w2 t8) := B8.out.trans (Bt8.out.mono B8.out.size)
  have HD := dr_ok s ra rc a pa pc t8 (HST.out t8 Bt8w.out) (HAT.out t8 Bt8w.out) (HT.out t8 Bt8w.out)
  obtain ⟨x80, x81, x82⟩ := sta_cells (HKA.out t8 Bt8w.out)
  obtain ⟨y80, y81, y82, y83, y84, y85⟩ := adr_cells (HKB.out t8 Bt8w.out)
  have ct8 := rec_cells Vt8.out
  go_wp2_with fail
  refine (Calls.mono HD.out ?_)
  rintro z w9 hz
  obtain ⟨hb9, hz⟩ := dr_cases HG.out hn3 HP.out hz
  rcases hz with ⟨i2, hi2, l', a', c', e3, _, _, _⟩ | ⟨_, rfl⟩
  case inl => exact absurd e3.out (hno.out _ (List.getElem_mem hi2))
  have B9 : Hid (Below w2.heap.size w2 w9) := Bt8w.out.trans (hb9.out.mono Bt8w.out.size)
  have V89 : Hid (w9.heap[w8.heap.size]? = some (.cells (recArr At.zero Rec.zero) 32 (0, 0))) := (hb9.out.block _ (heap_lt Vt8.out)).trans Vt8.out
  clear hb9 HD ct8 x80 x81 x82 y80 y81 y82 y83 y84 y85 hz8 ht8 fz80 cz80 fz81 cz81 fz82 cz82 fz83 cz83 fz84 cz84 fz85 cz85 fz86 cz86 fz87 cz87 fz88 cz88
  obtain ⟨z9, hz9, Vz9, Bz9, Zz9⟩ := zsta_new w9
  obtain ⟨t9, ht9⟩ : ∃ t9, (((z9.setCell ⟨w9.heap.size, 0, none⟩ (.int .u64 0)).setCell ⟨w9.heap.size, 1, none⟩ (.string ⟨#[]⟩)).setCell ⟨w9.heap.size, 2, none⟩ (.slice none 0 0)) = t9 := ⟨_, rfl⟩
  have Gt9 : Hid (z9.grownBy t9 (some w9.heap.size)) := by rw [← ht9]; exact (((gb_set _ _ _ _).trans (gb_set _ _ _ _)).trans (gb_set _ _ _ _))
  have Vt9 : Hid (t9.heap[w9.heap.size]? = some (.cells (staArr none 0 Sta.zero) 26 (0, 0))) := by rw [← ht9]; exact set3 (t := Sta.zero) Vz9.out
  have Bt9 : Hid (Below w9.heap.size w9 t9) := Bz9.out.grown Gt9.out Bz9.out.size (fun x hx => by injection hx with hx; omega)
  have fz90 := frozen_of Vz9.out 0
  have fz91 := frozen_of Vz9.out 1
  have fz92 := frozen_of Vz9.out 2
  obtain ⟨cz90, cz91, cz92⟩ := sta_cells Vz9.out
  have Bt9w : Hid (Below w2.heap.size w2 t9) := B9.out.trans (Bt9.out.mono B9.out.size)
  have V8t : Hid (t9.heap[w8.heap.size]? = some (.cells (recArr At.zero Rec.zero) 32 (0, 0))) := (Bt9.out.block _ (heap_lt V89.out)).trans V89.out
  have HSR : Hid (Calls Tryz.prog 26 #[.agg #[.slice none 0 0, .string ⟨#[]⟩, .string ⟨#[]⟩, .int .i64 0, .int .u64 0, .string ⟨#[]⟩, .string ⟨#[]⟩, .string ⟨#[]⟩, .slice none 0 0], .agg #[.slice none 0 0, .string ⟨#[]⟩, .string ⟨#[]⟩, .int .i64 0, .int .u64 0, .string ⟨#[]⟩, .string ⟨#[]⟩, .string ⟨#[]⟩, .slice none 0 0]] t9 fun e w' => e = .returned (.bool true) ∧ Below t9.heap.size t9 w') := sre_ok Rec.zero Rec.zero At.zero At.zero t9 (zrec_is _) (zrec_is _) zrec_small zrec_small true ((sameRec_iff _ _).2 rfl)
  obtain ⟨q0, q1, q2, q3, q4, q5, q6, q7, q8⟩ := zrec_cells V8t.out
  have t0 : decide ((-1 : Int) < (0 : Int)) = true := by decide
  go_wp2_with fail
  refine (Calls.mono HSR.out ?_)
  rintro z w10 ⟨rfl, hb10⟩
  have B10 : Hid (Below w2.heap.size w2 w10) := Bt9w.out.trans (hb10.mono Bt9w.out.size)
  have V910 : Hid (w10.heap[w9.heap.size]? = some (.cells (staArr none 0 Sta.zero) 26 (0, 0))) := (hb10.block _ (heap_lt Vt9.out)).trans Vt9.out
  have HSS : Hid (Calls Tryz.prog 20 #[.agg #[.int .u64 0, .string ⟨#[]⟩, .slice none 0 0], .agg #[.int .u64 0, .string ⟨#[]⟩, .slice none 0 0]] w10 fun e w' => e = .returned (.bool true) ∧ Below w10.heap.size w10 w') := sm_ok Sta.zero Sta.zero none none 0 0 w10 (RecsAt.nil _ _) (RecsAt.nil _ _) true ((sameSta_iff _ _).2 rfl)
  obtain ⟨m0, m1, m2⟩ := zsta_cells V910.out
  clear hb10 HSR q0 q1 q2 q3 q4 q5 q6 q7 q8
  go_wp2_with fail
  refine (Calls.mono HSS.out ?_)
  rintro z w11 ⟨rfl, hb11⟩
  have B11 : Hid (Below w2.heap.size w2 w11) := B10.out.trans (hb11.mono B10.out.size)
  clear hb11
  go_wp2_with fail
  go_ret
  exact ⟨rfl, HBW.out w11 B11.out⟩
 case inl =>
  go_wp2_with fail
  refine (Calls.mono HF2.out ?_)
  rintro z w8 hz
  obtain ⟨hb8, hz⟩ := fi_cases HG.out HP.out hz
  rcases hz with ⟨i1, hi1, p, r, e1, e2, rfl, hI⟩ | ⟨hno, _⟩
  case inr => exact absurd hia.out (hno.out _ (List.getElem_mem hi))
  obtain rfl : i1 = i := HG.out.idx hi1 hi (by rw [e1.out, e2.out, hia.out])
  have B8 : Hid (Below w2.heap.size w2 w8) := B7.out.trans (hb8.out.mono B7.out.size)
  clear hb8 HF2 x70 x71 x72 y70 y71 y72 y73 y74 y75
  obtain ⟨z8, hz8, Vz8, Bz8, Zz8⟩ := zrec_new w8
  obtain ⟨t8, ht8⟩ : ∃ t8, (((((((((z8.setCell ⟨w8.heap.size, 0, none⟩ (.slice p.pa r.a.path.length p.pc)).setCell ⟨w8.heap.size, 1, none⟩ (.string r.a.type)).setCell ⟨w8.heap.size, 2, none⟩ (.string r.a.name)).setCell ⟨w8.heap.size, 3, none⟩ (.int .i64 r.a.key)).setCell ⟨w8.heap.size, 4, none⟩ (.int .u64 r.a.place)).setCell ⟨w8.heap.size, 5, none⟩ (.string r.a.word)).setCell ⟨w8.heap.size, 6, none⟩ (.string r.prov)).setCell ⟨w8.heap.size, 7, none⟩ (.string r.id)).setCell ⟨w8.heap.size, 8, none⟩ (.slice p.ta r.attrs.length p.tc)) = t8 := ⟨_, rfl⟩
  have Gt8 : Hid (z8.grownBy t8 (some w8.heap.size)) := by rw [← ht8]; exact (((((((((gb_set _ _ _ _).trans (gb_set _ _ _ _)).trans (gb_set _ _ _ _)).trans (gb_set _ _ _ _)).trans (gb_set _ _ _ _)).trans (gb_set _ _ _ _)).trans (gb_set _ _ _ _)).trans (gb_set _ _ _ _)).trans (gb_set _ _ _ _))
  have Vt8 : Hid (t8.heap[w8.heap.size]? = some (.cells (recArr p r) 32 (0, 0))) := by rw [← ht8]; exact set9 Vz8.out p r
  have Bt8 : Hid (Below w8.heap.size w8 t8) := Bz8.out.grown Gt8.out Bz8.out.size (fun x hx => by injection hx with hx; omega)
  obtain ⟨fz80, fz81, fz82, fz83, fz84, fz85, fz86, fz87, fz88⟩ := rec_frozen Vz8.out
  obtain ⟨cz80, cz81, cz82, cz83, cz84, cz85, cz86, cz87, cz88⟩ := rec_cells Vz8.out
  have Bt8w : Hid (Below w2.heap.size w2 t8) := B8.out.trans (Bt8.out.mono B8.out.size)
  have HD := dr_ok s ra rc a pa pc t8 (HST.out t8 Bt8w.out) (HAT.out t8 Bt8w.out) (HT.out t8 Bt8w.out)
  obtain ⟨x80, x81, x82⟩ := sta_cells (HKA.out t8 Bt8w.out)
  obtain ⟨y80, y81, y82, y83, y84, y85⟩ := adr_cells (HKB.out t8 Bt8w.out)
  go_wp2_with fail
  refine (Calls.mono HD.out ?_)
  rintro z w9 hz
  obtain ⟨hb9, hz⟩ := dr_cases HG.out hn3 HP.out hz
  rcases hz with ⟨i2, hi2, l', a', c', e3, e4, rfl, hST, hGL⟩ | ⟨hno, _⟩
  case inr => exact absurd hia.out (hno.out _ (List.getElem_mem hi))
  obtain rfl : i2 = i1 := HG.out.idx hi2 hi (by rw [e3.out, hia.out])
  have B9 : Hid (Below w2.heap.size w2 w9) := Bt8w.out.trans (hb9.out.mono Bt8w.out.size)
  clear HD x80 x81 x82 y80 y81 y82 y83 y84 y85 hz8 ht8 fz80 cz80 fz81 cz81 fz82 cz82 fz83 cz83 fz84 cz84 fz85 cz85 fz86 cz86 fz87 cz87 fz88 cz88
  obtain ⟨z9, hz9, Vz9, Bz9, Zz9⟩ := zsta_new w9
  obtain ⟨t9, ht9⟩ : ∃ t9, (((z9.setCell ⟨w9.heap.size, 0, none⟩ (.int .u64 s.serial)).setCell ⟨w9.heap.size, 1, none⟩ (.string s.lin)).setCell ⟨w9.heap.size, 2, none⟩ (.slice a' l'.length c')) = t9 := ⟨_, rfl⟩
  have Gt9 : Hid (z9.grownBy t9 (some w9.heap.size)) := by rw [← ht9]; exact (((gb_set _ _ _ _).trans (gb_set _ _ _ _)).trans (gb_set _ _ _ _))
  have Vt9 : Hid (t9.heap[w9.heap.size]? = some (.cells (staArr a' c' { s with recs := l' }) 26 (0, 0))) := by rw [← ht9]; exact set3 (t := { s with recs := l' }) Vz9.out
  have Bt9 : Hid (Below w9.heap.size w9 t9) := Bz9.out.grown Gt9.out Bz9.out.size (fun x hx => by injection hx with hx; omega)
  have fz90 := frozen_of Vz9.out 0
  have fz91 := frozen_of Vz9.out 1
  have fz92 := frozen_of Vz9.out 2
  obtain ⟨cz90, cz91, cz92⟩ := sta_cells Vz9.out
  have Bt9w : Hid (Below w2.heap.size w2 t9) := B9.out.trans (Bt9.out.mono B9.out.size)
  have B89 : Hid (Below t8.heap.size t8 t9) := hb9.out.trans (Bt9.out.mono hb9.out.size)
  have HST9 : Hid (∀ W, Below t9.heap.size t9 W → StaAt W a' c' { s with recs := l' }) := fun W hb => (hST.out.stays Bt9.out).stays hb
  have HF3 := fi_ok { s with recs := l' } a' c' a pa pc t9 (HST9.out t9 (Below.refl _ _)) (HAT.out t9 Bt9w.out) (HT.out t9 Bt9w.out)
  obtain ⟨m0, m1, m2⟩ := sta_cells Vt9.out
  obtain ⟨x90, x91, x92⟩ := sta_cells (HKA.out t9 Bt9w.out)
  obtain ⟨y90, y91, y92, y93, y94, y95⟩ := adr_cells (HKB.out t9 Bt9w.out)
  have t0 : decide ((i2 : Int) < (0 : Int)) = false := by rw [decide_eq_false_iff_not]; omega
  clear hb9
  go_wp2_with fail
  refine (Calls.mono HF3.out ?_)
  rintro z w10 hz
  obtain ⟨hb10, hz⟩ := fi_cases (s := { s with recs := l' }) hGL.out HP.out hz
  rcases hz with ⟨i3, hi3, p3, r3, e5, e6, _, _⟩ | ⟨_, rfl⟩
  case inl =>
   have h3 : r3 ∈ l' := by rw [← e5.out]; exact List.getElem_mem hi3
   rw [e4.out, mem_drop HG.out hi] at h3
   exact absurd (e6.out.trans hia.out.symm) h3.2
  have B10 : Hid (Below w2.heap.size w2 w10) := Bt9w.out.trans (hb10.out.mono Bt9w.out.size)
  clear HF3 x90 x91 x92 y90 y91 y92 y93 y94 y95 m0 m1 m2 hz9 ht9 fz90 fz91 fz92 cz90 cz91 cz92
  obtain ⟨z10, hz10, Vz10, Bz10, Zz10⟩ := zrec_new w10
  obtain ⟨t10, ht10⟩ : ∃ t10, (((((((((z10.setCell ⟨w10.heap.size, 0, none⟩ (.slice none 0 0)).setCell ⟨w10.heap.size, 1, none⟩ (.string ⟨#[]⟩)).setCell ⟨w10.heap.size, 2, none⟩ (.string ⟨#[]⟩)).setCell ⟨w10.heap.size, 3, none⟩ (.int .i64 0)).setCell ⟨w10.heap.size, 4, none⟩ (.int .u64 0)).setCell ⟨w10.heap.size, 5, none⟩ (.string ⟨#[]⟩)).setCell ⟨w10.heap.size, 6, none⟩ (.string ⟨#[]⟩)).setCell ⟨w10.heap.size, 7, none⟩ (.string ⟨#[]⟩)).setCell ⟨w10.heap.size, 8, none⟩ (.slice none 0 0)) = t10 := ⟨_, rfl⟩
  have Gt10 : Hid (z10.grownBy t10 (some w10.heap.size)) := by rw [← ht10]; exact (((((((((gb_set _ _ _ _).trans (gb_set _ _ _ _)).trans (gb_set _ _ _ _)).trans (gb_set _ _ _ _)).trans (gb_set _ _ _ _)).trans (gb_set _ _ _ _)).trans (gb_set _ _ _ _)).trans (gb_set _ _ _ _)).trans (gb_set _ _ _ _))
  have Vt10 : Hid (t10.heap[w10.heap.size]? = some (.cells (recArr At.zero Rec.zero) 32 (0, 0))) := by rw [← ht10]; exact set9 Vz10.out At.zero Rec.zero
  have Bt10 : Hid (Below w10.heap.size w10 t10) := Bz10.out.grown Gt10.out Bz10.out.size (fun x hx => by injection hx with hx; omega)
  obtain ⟨fz100, fz101, fz102, fz103, fz104, fz105, fz106, fz107, fz108⟩ := rec_frozen Vz10.out
  obtain ⟨cz100, cz101, cz102, cz103, cz104, cz105, cz106, cz107, cz108⟩ := rec_cells Vz10.out
  have Bt10w : Hid (Below w2.heap.size w2 t10) := B10.out.trans (Bt10.out.mono B10.out.size)
  have B910 : Hid (Below t9.heap.size t9 t10) := hb10.out.trans (Bt10.out.mono hb10.out.size)
  have B810 : Hid (Below t8.heap.size t8 t10) := B89.out.trans (B910.out.mono B89.out.size)
  have HK2 : Hid (∀ W, Below t10.heap.size t10 W → Below w2.heap.size w2 W) := fun W hb => Bt10w.out.trans (hb.mono Bt10w.out.size)
  have HK9 : Hid (∀ W, Below t10.heap.size t10 W → Below t9.heap.size t9 W) := fun W hb => B910.out.trans (hb.mono B910.out.size)
  have HKR : Hid (∀ W, Below t10.heap.size t10 W → W.heap[w8.heap.size]? = some (.cells (recArr p r) 32 (0, 0))) := fun W hb => ((B810.out.trans (hb.mono B810.out.size)).block _ (heap_lt Vt8.out)).trans Vt8.out
  have HKX : Hid (∀ W, Below t10.heap.size t10 W → W.heap[w9.heap.size]? = some (.cells (staArr a' c' { s with recs := l' }) 26 (0, 0))) := fun W hb => ((HK9.out W hb).block _ (heap_lt Vt9.out)).trans Vt9.out
  obtain ⟨b, o, p0, hra, hb, hcr, hir⟩ := (HR.out t10 Bt10w.out).get hi
  have hsm := HSM.out _ (List.getElem_mem hi)
  rw [e1.out] at hcr hir hsm
  have HCR : Hid (∀ W, Below t10.heap.size t10 W → ∀ j u, (recArr p0 r)[j]? = some u → W.cell? ⟨b, o + i2 * 9 + j, none⟩ = some u) := fun W hW j u hu => by rw [cell_blk (hW.block b hb)]; exact hcr j u hu
  have hdr : Below t10.heap.size t10 t10.drew := (Below.refl _ _).drew
  have HDR : Hid (Below t10.heap.size t10 t10.drew) := hdr
  have hI10 : IsRec t10 (fun _ => True) p r := ((hI.out.turn (Turn.below Bt8.out)).turn (Turn.below B810.out))
  have HSR := sre_ok r r p p0 t10.drew (hI10.turn (Turn.below hdr)) (hir.turn (Turn.below hdr)) hsm hsm true ((sameRec_iff _ _).2 rfl)
  have HRA := Hid.out (p := Hid _) hra
  have HIN : Hid (∃ x ∈ s.recs, x.a = a) := ⟨_, List.getElem_mem hi, hia.out⟩
  have HTRUE : Hid (∀ (W : World), Below w2.heap.size w2 W → IsRecs W (fun _ => True) ra s.recs) := fun W hb => (HR.out W hb).t
  have HLIN : Hid (decide (badZ s.lin.data.toList < 0) = true) := rightS_lin HRS.out
  have HL6 : Hid (s.lin.size ≤ 6000) := by show s.lin.size ≤ 6000; omega
  obtain ⟨r0, r1, r2, r3, r4, r5, r6, r7, r8⟩ := rec_cells (HKR.out t10 (Below.refl _ _))
  obtain ⟨x0, x1, x2⟩ := sta_cells (HKA.out t10 Bt10w.out)
  rw [hra] at x2
  obtain ⟨z0, z1, z2, z3, z4, z5, z6, z7, z8⟩ := recs_nine hcr
  obtain ⟨m0, m1, m2⟩ := sta_cells (HKX.out t10 (Below.refl _ _))
  obtain ⟨y0, y1, y2, y3, y4, y5⟩ := adr_cells (HKB.out t10 Bt10w.out)
  clear hb10 hcr hir hsm hdr hI10 hra hI
  go_wp2_with fail
  go_region_held3 (fun w' => w'.cell? ⟨w8.heap.size, 0, none⟩ = some (.slice p.pa r.a.path.length p.pc) ∧ w'.cell? ⟨w8.heap.size, 1, none⟩ = some (.string r.a.type) ∧ w'.cell? ⟨w8.heap.size, 2, none⟩ = some (.string r.a.name) ∧ w'.cell? ⟨w8.heap.size, 3, none⟩ = some (.int .i64 r.a.key) ∧ w'.cell? ⟨w8.heap.size, 4, none⟩ = some (.int .u64 r.a.place) ∧ w'.cell? ⟨w8.heap.size, 5, none⟩ = some (.string r.a.word) ∧ w'.cell? ⟨w8.heap.size, 6, none⟩ = some (.string r.prov) ∧ w'.cell? ⟨w8.heap.size, 7, none⟩ = some (.string r.id) ∧ w'.cell? ⟨w8.heap.size, 8, none⟩ = some (.slice p.ta r.attrs.length p.tc) ∧ w'.cell? ⟨w.heap.size, 0, none⟩ = some (.int .u64 s.serial) ∧ w'.cell? ⟨w.heap.size, 1, none⟩ = some (.string s.lin) ∧ w'.cell? ⟨w.heap.size, 2, none⟩ = some (.slice (some ⟨b, o, none⟩) s.recs.length rc) ∧ w'.cell? ⟨b, o + i2 * 9, none⟩ = some (.slice p0.pa r.a.path.length p0.pc) ∧ w'.cell? ⟨b, o + i2 * 9 + 1, none⟩ = some (.string r.a.type) ∧ w'.cell? ⟨b, o + i2 * 9 + 2, none⟩ = some (.string r.a.name) ∧ w'.cell? ⟨b, o + i2 * 9 + 3, none⟩ = some (.int .i64 r.a.key) ∧ w'.cell? ⟨b, o + i2 * 9 + 4, none⟩ = some (.int .u64 r.a.place) ∧ w'.cell? ⟨b, o + i2 * 9 + 5, none⟩ = some (.string r.a.word) ∧ w'.cell? ⟨b, o + i2 * 9 + 6, none⟩ = some (.string r.prov) ∧ w'.cell? ⟨b, o + i2 * 9 + 7, none⟩ = some (.string r.id) ∧ w'.cell? ⟨b, o + i2 * 9 + 8, none⟩ = some (.slice p0.ta r.attrs.length p0.tc) ∧ w'.cell? ⟨w9.heap.size, 0, none⟩ = some (.int .u64 s.serial) ∧ w'.cell? ⟨w9.heap.size, 1, none⟩ = some (.string s.lin) ∧ w'.cell? ⟨w9.heap.size, 2, none⟩ = some (.slice a' l'.length c') ∧ w'.cell? ⟨w1.heap.size, 0, none⟩ = some (.slice pa a.path.length pc) ∧ w'.cell? ⟨w1.heap.size, 1, none⟩ = some (.string a.type) ∧ w'.cell? ⟨w1.heap.size, 2, none⟩ = some (.string a.name) ∧ w'.cell? ⟨w1.heap.size, 3, none⟩ = some (.int .i64 a.key) ∧ w'.cell? ⟨w1.heap.size, 4, none⟩ = some (.int .u64 a.place) ∧ w'.cell? ⟨w1.heap.size, 5, none⟩ = some (.string a.word)) (go_keep)
   (first
    | (go_at_call 25; refine (Calls.mono (pr18_ok { s with recs := l' } a' c' w13 (HST9.out _ (HK9.out w13 C13.out)).r HL6.out (HT.out w13 (HK2.out w13 C13.out)) true (good_rightS hGL.out HLIN.out)).out ?_); rintro z w14 ⟨rfl, hb14⟩; have C14 : Hid (Below t10.heap.size t10 w14) := C13.out.trans (hb14.mono C13.out.size); clear hb14; obtain ⟨dr0, dr1, dr2, dr3, dr4, dr5, dr6, dr7, dr8⟩ := rec_cells (HKR.out w14 C14.out); obtain ⟨dx0, dx1, dx2⟩ := sta_cells (HKA.out w14 (HK2.out w14 C14.out)); rw [HRA.out] at dx2; obtain ⟨dz0, dz1, dz2, dz3, dz4, dz5, dz6, dz7, dz8⟩ := recs_nine (HCR.out w14 C14.out); obtain ⟨dm0, dm1, dm2⟩ := sta_cells (HKX.out w14 C14.out); obtain ⟨dy0, dy1, dy2, dy3, dy4, dy5⟩ := adr_cells (HKB.out w14 (HK2.out w14 C14.out)))
    | (go_at_call 20; refine (Calls.mono (sm_ok { s with recs := l' } { s with recs := l4 } a' a4 c' c4 w12 (HST9.out _ (HK9.out w12 C12.out)).r HR4.out true ((sameSta_iff _ _).2 (by rw [HEQ4.out]))).out ?_); rintro z w13 ⟨rfl, hb13⟩; have C13 : Hid (Below t10.heap.size t10 w13) := C12.out.trans (hb13.mono C12.out.size); clear hb13; obtain ⟨cr0, cr1, cr2, cr3, cr4, cr5, cr6, cr7, cr8⟩ := rec_cells (HKR.out w13 C13.out); obtain ⟨cx0, cx1, cx2⟩ := sta_cells (HKA.out w13 (HK2.out w13 C13.out)); rw [HRA.out] at cx2; obtain ⟨cz0, cz1, cz2, cz3, cz4, cz5, cz6, cz7, cz8⟩ := recs_nine (HCR.out w13 C13.out); obtain ⟨cm0, cm1, cm2⟩ := sta_cells (HKX.out w13 C13.out); obtain ⟨cy0, cy1, cy2, cy3, cy4, cy5⟩ := adr_cells (HKB.out w13 (HK2.out w13 C13.out)))
    | (go_at_call 30; refine (Calls.mono (rd_ok _ s _ rc a pa pc w11 (by rw [← HRA.out]; exact HR.out w11 (HK2.out w11 C11.out)) hc (by rw [← HRA.out]; exact HTRUE.out w11 (HK2.out w11 C11.out)) (HAT.out w11 (HK2.out w11 C11.out)) HIN.out).out ?_); rintro z w12 hz; obtain ⟨i4, hi4, l4, a4, c4, rfl, e7, e8, hI4, hC4, hb12⟩ := hz.to; have C12 : Hid (Below t10.heap.size t10 w12) := C11.out.trans (hb12.out.mono C11.out.size); have HEQ4 : Hid (l4 = l') := (by rw [Hid, e8.out, e4.out, HG.out.idx hi4 hi (by rw [e7.out, hia.out])]); have HR4 : Hid (RecsAt w12 a4 l4) := ⟨hI4.out.any, (by rw [HEQ4.out]; exact (HST9.out _ (HK9.out w12 C12.out)).r.n), (by rw [HEQ4.out]; exact (HST9.out _ (HK9.out w12 C12.out)).r.s)⟩; clear hz hb12 hI4 e7 e8; obtain ⟨br0, br1, br2, br3, br4, br5, br6, br7, br8⟩ := rec_cells (HKR.out w12 C12.out); obtain ⟨bx0, bx1, bx2⟩ := sta_cells (HKA.out w12 (HK2.out w12 C12.out)); rw [HRA.out] at bx2; obtain ⟨bz0, bz1, bz2, bz3, bz4, bz5, bz6, bz7, bz8⟩ := recs_nine (HCR.out w12 C12.out); obtain ⟨bm0, bm1, bm2⟩ := sta_cells (HKX.out w12 C12.out); obtain ⟨by0, by1, by2, by3, by4, by5⟩ := adr_cells (HKB.out w12 (HK2.out w12 C12.out)))
    | (go_at_call 26; refine (Calls.mono HSR.out ?_); rintro z w11 ⟨rfl, hb11⟩; have C11 : Hid (Below t10.heap.size t10 w11) := HDR.out.trans hb11; clear hb11; obtain ⟨ar0, ar1, ar2, ar3, ar4, ar5, ar6, ar7, ar8⟩ := rec_cells (HKR.out w11 C11.out); obtain ⟨ax0, ax1, ax2⟩ := sta_cells (HKA.out w11 (HK2.out w11 C11.out)); rw [HRA.out] at ax2; obtain ⟨az0, az1, az2, az3, az4, az5, az6, az7, az8⟩ := recs_nine (HCR.out w11 C11.out); obtain ⟨am0, am1, am2⟩ := sta_cells (HKX.out w11 C11.out); obtain ⟨ay0, ay1, ay2, ay3, ay4, ay5⟩ := adr_cells (HKB.out w11 (HK2.out w11 C11.out))))
  all_goals
   go_wp2_with fail
   go_ret
   exact ⟨rfl, HBW.out w14 (HK2.out w14 C14.out)⟩
theorem stateFinds_arg (v : Value) (s : Sta) (u : Value) (a : Adr) (w : World) (h : StaArg w v s) (h' : ∃ pa pc, u = wordsA pa pc a ∧ AdrIn w pa a) (T : TabsA w) :
  Calls Tryz.prog 6 #[v, u] w fun e w' => e = .returned (.bool true) ∧ Below w.heap.size w w' := by
 obtain ⟨ra, rc, rfl, h1, h2, _, _⟩ := h
 obtain ⟨pa, pc, rfl, h3⟩ := h'
 exact stateFinds_any s ra rc a pa pc w T h1 h2 h3
end Go.Proofs.YtckflnibkglheaaGreatDoor.State
