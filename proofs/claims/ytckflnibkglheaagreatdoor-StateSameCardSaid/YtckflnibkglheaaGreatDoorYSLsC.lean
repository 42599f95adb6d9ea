/- tabulariumlaw18.wakes. -/
import Derived.Test.YtckflnibkglheaaGreatDoorYSStV
namespace Go.Proofs.YtckflnibkglheaaGreatDoor.State
open Go.RowKit Go.Shelf Go.Proofs.YtckflnibkglheaaGreatDoor.Utf Go.Proofs.YtckflnibkglheaaGreatDoor.Strs Go.Proofs.YtckflnibkglheaaGreatDoor.Addr
open Go.Proofs.YtckflnibkglheaaGreatDoor.Jdec (IsTexts Turn infoStr gb_set gb_below gb_refl)
set_option linter.unusedVariables false
set_option linter.unusedSimpArgs false
set_option maxRecDepth 100000

def wakeR : Rec := ⟨⟨[], ⟨#[120]⟩, ⟨#[121]⟩, 0, 0, ⟨#[]⟩⟩, ⟨#[]⟩, ⟨#[]⟩, []⟩
theorem wakeR_right : recB wakeR = true := by kernel_rfl
theorem wakeR_small : Small wakeR := ⟨by decide, (fun x h => by cases h), by decide, by decide, by decide, by decide, by decide, by decide, by decide, (fun x h => by cases h), (fun x h => by cases h)⟩
theorem wakeR_good : Good [wakeR] := ⟨fun x h => by rw [List.mem_singleton.1 h]; exact wakeR_right, by simp, fun x h => by rw [List.mem_singleton.1 h]; exact wakeR_small⟩
theorem wake_state : rightS ⟨0, ⟨#[]⟩, [wakeR]⟩ = true := (rightS_iff _).2 ⟨by decide, wakeR_good.rows⟩
theorem wake_put {w w' : World} {e : Ending} (h : PuPost Sta.zero wakeR w e w') : ∃ a c, e = .returned (.tuple #[.agg #[.int .u64 0, .string ⟨#[]⟩, .slice a 1 c], .int .i64 0]) ∧ Hid (RecsAt w' a [wakeR]) ∧ Hid (Below w.heap.size w w') := by
 obtain ⟨hb, h⟩ := h
 rcases h with ⟨h1, _⟩ | ⟨_, i, nx, hP, hN, a, c, e1, hI, hc⟩
 ·rw [wakeR_right] at h1; cases h1
 ·have hi : i = 0 := by have := hP.n; simpa [Sta.zero] using this
  have hnx : nx = 0 := by have := (next_le hN hP).2; simpa [Sta.zero] using this
  subst hi hnx
  exact ⟨a, c, e1, ⟨hI.any, by decide, wakeR_good.s⟩, hb⟩
set_option maxHeartbeats 4000000 in
theorem wakes18 (w : World) (T : TabsA w) : Calls Tryz.prog 15 #[] w fun e w' => e = .returned (.bool true) ∧ Below w.heap.size w w' := by
 have HPU : Hid (Calls Tryz.prog 19 #[.agg #[.int .u64 0, .string ⟨#[]⟩, .slice none 0 0], .agg #[.slice none 0 0, .string ⟨#[120]⟩, .string ⟨#[121]⟩, .int .i64 0, .int .u64 0, .string ⟨#[]⟩, .string ⟨#[]⟩, .string ⟨#[]⟩, .slice none 0 0]] w (PuPost Sta.zero wakeR w)) := put_any Sta.zero none 0 wakeR At.zero w ⟨RecsAt.nil _ _, by decide, fun i j hi => by simp [Sta.zero] at hi⟩ ⟨.inl rfl, .inl rfl⟩ wakeR_small (by decide) T
 have HT : Hid (∀ W, Below w.heap.size w W → TabsA W) := fun W hb => T.stays hb
 clear T
 go_enter Tryz.func15, Tryz.ntmps15
 go_wp2_with fail
 refine (Calls.mono HPU.out ?_)
 rintro z w2 hz
 obtain ⟨a, c, rfl, hR, hB⟩ := wake_put hz
 obtain ⟨w3, hw3, V3, B3, Z3⟩ := zsta_new w2
 obtain ⟨w4, hw4⟩ : ∃ w4, (((w3.setCell ⟨w2.heap.size, 0, none⟩ (.int .u64 0)).setCell ⟨w2.heap.size, 1, none⟩ (.string ⟨#[]⟩)).setCell ⟨w2.heap.size, 2, none⟩ (.slice a 1 c)) = w4 := ⟨_, rfl⟩
 have G4 : Hid (w3.grownBy w4 (some w2.heap.size)) := by rw [← hw4]; exact ((gb_set _ _ _ _).trans (gb_set _ _ _ _)).trans (gb_set _ _ _ _)
 have V4 : Hid (w4.heap[w2.heap.size]? = some (.cells (staArr a c ⟨0, ⟨#[]⟩, [wakeR]⟩) 26 (0, 0))) := by rw [← hw4]; exact set3 (t := ⟨0, ⟨#[]⟩, [wakeR]⟩) V3.out
 have B24 : Hid (Below w2.heap.size w2 w4) := B3.out.grown G4.out B3.out.size (fun x hx => by injection hx with hx; omega)
 have B04 : Hid (Below w.heap.size w w4) := hB.out.trans (B24.out.mono hB.out.size)
 have f0 := frozen_of V3.out 0
 have f1 := frozen_of V3.out 1
 have f2 := frozen_of V3.out 2
 obtain ⟨x0, x1, x2⟩ := sta_cells V3.out
 have y0 : w4.cell? ⟨w2.heap.size, 0, none⟩ = some (.int .u64 0) := cell_of V4.out 0
 have y1 : w4.cell? ⟨w2.heap.size, 1, none⟩ = some (.string ⟨#[]⟩) := cell_of V4.out 1
 have y2 : w4.cell? ⟨w2.heap.size, 2, none⟩ = some (.slice a 1 c) := cell_of V4.out 2
 have HRI : Hid (Calls Tryz.prog 25 #[.agg #[.int .u64 0, .string ⟨#[]⟩, .slice a 1 c]] w4 fun e w' => e = .returned (.bool true) ∧ Below w4.heap.size w4 w') := by
  have h := sright_any ⟨0, ⟨#[]⟩, [wakeR]⟩ a c w4 (hR.out.stays B24.out) (by decide) (HT.out w4 B04.out)
  rw [wake_state] at h
  exact h
 clear hz
 go_wp2_with fail
 refine (Calls.mono HRI.out ?_)
 rintro z w5 ⟨rfl, hb5⟩
 have B05 : Hid (Below w.heap.size w w5) := B04.out.trans (hb5.mono B04.out.size)
 clear hb5
 go_wp2_with fail
 go_ret
 exact ⟨rfl, B05.out⟩
end Go.Proofs.YtckflnibkglheaaGreatDoor.State
/- StateFinds: what its calls tell. -/
namespace Go.Proofs.YtckflnibkglheaaGreatDoor.State
open Go.RowKit Go.Shelf Go.Proofs.YtckflnibkglheaaGreatDoor.Utf Go.Proofs.YtckflnibkglheaaGreatDoor.Strs Go.Proofs.YtckflnibkglheaaGreatDoor.Addr
open Go.Proofs.YtckflnibkglheaaGreatDoor.Jdec (IsTexts Turn infoStr gb_set gb_below gb_refl)
set_option linter.unusedVariables false
set_option linter.unusedSimpArgs false
set_option maxRecDepth 100000

def GsPost (s : Sta) (w : World) (e : Ending) (w' : World) : Prop := ∃ g : Bool, e = .returned (.bool g) ∧ (g = false → s.recs.length ≤ 30 ∧ s.lin.size ≤ 1000 ∧ ∀ r ∈ s.recs, Small r) ∧ Below w.heap.size w w'
theorem GsPost.to {s : Sta} {w w' : World} {e : Ending} (h : GsPost s w e w') : ∃ g : Bool, e = .returned (.bool g) ∧ Hid (g = false → s.recs.length ≤ 30 ∧ s.lin.size ≤ 1000 ∧ ∀ r ∈ s.recs, Small r) ∧ Hid (Below w.heap.size w w') := h
theorem gs_ok (s : Sta) (ra : Option Addr) (rc : Nat) (w : World) (h : StaIn w ra s) : Hid (Calls Tryz.prog 21 #[.agg #[.int .u64 s.serial, .string s.lin, .slice ra s.recs.length rc]] w (GsPost s w)) := great18_any s ra rc w h
theorem sm_ok (s t : Sta) (ra rb : Option Addr) (rc rd : Nat) (w : World) (h : RecsAt w ra s.recs) (h' : RecsAt w rb t.recs) (b : Bool) (hb : sameSta s t = b) : Hid (Calls Tryz.prog 20 #[.agg #[.int .u64 s.serial, .string s.lin, .slice ra s.recs.length rc], .agg #[.int .u64 t.serial, .string t.lin, .slice rb t.recs.length rd]] w fun e w' => e = .returned (.bool b) ∧ Below w.heap.size w w') := by
 rw [← hb]; exact same18_any s t ra rb rc rd w h h'
theorem sre_ok (r s : Rec) (p q : At) (w : World) (h : IsRec w (fun _ => True) p r) (h' : IsRec w (fun _ => True) q s) (hr : Small r) (hs : Small s) (b : Bool) (hb : sameRec r s = b) : Hid (Calls Tryz.prog 26 #[.agg #[.slice p.pa r.a.path.length p.pc, .string r.a.type, .string r.a.name, .int .i64 r.a.key, .int .u64 r.a.place, .string r.a.word, .string r.prov, .string r.id, .slice p.ta r.attrs.length p.tc], .agg #[.slice q.pa s.a.path.length q.pc, .string s.a.type, .string s.a.name, .int .i64 s.a.key, .int .u64 s.a.place, .string s.a.word, .string s.prov, .string s.id, .slice q.ta s.attrs.length q.tc]] w fun e w' => e = .returned (.bool b) ∧ Below w.heap.size w w') := by
 rw [← hb]; exact sr_ok r s p q w h h' hr hs
end Go.Proofs.YtckflnibkglheaaGreatDoor.State
