/- tabulariumlaw26.EditBack. -/
import Derived.Test.YtehghladpnpcoaaGreatDoorVEdO
import Derived.Test.YtehghladpnpcoaaGreatDoorVEdG
namespace Go.Proofs.YtehghladpnpcoaaGreatDoor.State.Edit
open Go.RowKit Go.Shelf Go.Proofs.YtehghladpnpcoaaGreatDoor.Utf Go.Proofs.YtehghladpnpcoaaGreatDoor.Strs Go.Proofs.YtehghladpnpcoaaGreatDoor.Addr Go.Proofs.YtehghladpnpcoaaGreatDoor.State
open Go.Proofs.YtehghladpnpcoaaGreatDoor.Jdec (IsTexts Turn infoStr gb_set gb_below gb_refl)
set_option linter.unusedVariables false
set_option linter.unusedSimpArgs false
set_option maxRecDepth 100000

theorem set6a {w : World} {b : Nat} {T : TypeId} (h : w.heap[b]? = some (.cells #[.slice none 0 0, .string ⟨#[]⟩, .string ⟨#[]⟩, .int .i64 0, .int .u64 0, .string ⟨#[]⟩] T (0, 0))) :
    ((((((w.setCell ⟨b, 0, none⟩ (.slice none 0 0)).setCell ⟨b, 1, none⟩ (.string ⟨#[120]⟩)).setCell ⟨b, 2, none⟩ (.string ⟨#[121]⟩)).setCell ⟨b, 3, none⟩ (.int .i64 0)).setCell ⟨b, 4, none⟩ (.int .u64 0)).setCell ⟨b, 5, none⟩ (.string ⟨#[]⟩)).heap[b]? = some (.cells #[.slice none 0 0, .string ⟨#[120]⟩, .string ⟨#[121]⟩, .int .i64 0, .int .u64 0, .string ⟨#[]⟩] T (0, 0)) := by
  have h0 := heap_set_same h (i := 0) (.slice none 0 0)
  have h1 := heap_set_same h0 (i := 1) (.string ⟨#[120]⟩)
  have h2 := heap_set_same h1 (i := 2) (.string ⟨#[121]⟩)
  have h3 := heap_set_same h2 (i := 3) (.int .i64 0)
  have h4 := heap_set_same h3 (i := 4) (.int .u64 0)
  have h5 := heap_set_same h4 (i := 5) (.string ⟨#[]⟩)
  rw [h5]
  simp
def wakeC : Cmd := ⟨1, wakeR.a, wakeR.a, Rec.zero⟩
def wakeK : CAt := ⟨none, 0, none, 0, At.zero⟩
theorem wake_at (w : World) : CmdAt w wakeK wakeC := ⟨⟨.inl rfl, by decide, (fun x h => by cases h), by decide, by decide, by decide, by decide⟩, ⟨.inl rfl, by decide, (fun x h => by cases h), by decide, by decide, by decide, by decide⟩, ⟨.inl rfl, .inl rfl⟩, zrec_small⟩
theorem wake_one : errC ⟨0, ⟨#[]⟩, [wakeR]⟩ wakeC = 11 := by kernel_rfl
theorem wake_none : errC ⟨0, ⟨#[]⟩, []⟩ wakeC = 12 := by kernel_rfl
theorem EdPost.to {s : Sta} {c : Cmd} {w w' : World} {e : Ending} (h : EdPost s c w e w') : ∃ a c' s', e = .returned (.tuple #[.agg #[.int .u64 s'.serial, .string s'.lin, .slice a s'.recs.length c'], .int .i64 (errC s c)]) ∧ Hid (Done s c s') ∧ Hid (RecsAt w' a s'.recs) ∧ Hid (s'.recs.length ≤ c' ∧ s'.recs.length ≤ s.recs.length + 1) ∧ Hid (Below w.heap.size w w') := h
set_option maxHeartbeats 16000000 in
theorem wakes26 (w : World) (T : TabsA w) : Hid (Calls Tryz.prog 21 #[] w fun e w' => e = .returned (.bool true) ∧ Below w.heap.size w w') := by
  show Calls _ _ _ _ _
  obtain ⟨z1, hz1, Vz1, Bz1⟩ : ∃ z1, w.alloc (.cells #[.slice none 0 0, .string ⟨#[]⟩, .string ⟨#[]⟩, .int .i64 0, .int .u64 0, .string ⟨#[]⟩] 35) = z1 ∧ Hid (z1.heap[w.heap.size]? = some (.cells #[.slice none 0 0, .string ⟨#[]⟩, .string ⟨#[]⟩, .int .i64 0, .int .u64 0, .string ⟨#[]⟩] 35 (0, 0))) ∧ Hid (Below w.heap.size w z1) := ⟨_, rfl, heap_alloc_new _ _, (Below.refl _ _).alloc (Nat.le_refl _) _⟩
  obtain ⟨w1, ht1⟩ : ∃ w1, ((((((z1.setCell ⟨w.heap.size, 0, none⟩ (.slice none 0 0)).setCell ⟨w.heap.size, 1, none⟩ (.string ⟨#[120]⟩)).setCell ⟨w.heap.size, 2, none⟩ (.string ⟨#[121]⟩)).setCell ⟨w.heap.size, 3, none⟩ (.int .i64 0)).setCell ⟨w.heap.size, 4, none⟩ (.int .u64 0)).setCell ⟨w.heap.size, 5, none⟩ (.string ⟨#[]⟩)) = w1 := ⟨_, rfl⟩
  have Gt1 : Hid (z1.grownBy w1 (some w.heap.size)) := by rw [← ht1]; exact gb6 _ _ _ _ _ _ _ _
  have V1 : Hid (w1.heap[w.heap.size]? = some (.cells #[.slice none 0 0, .string ⟨#[120]⟩, .string ⟨#[121]⟩, .int .i64 0, .int .u64 0, .string ⟨#[]⟩] 35 (0, 0))) := by rw [← ht1]; exact set6a Vz1.out
  have B1 : Hid (Below w.heap.size w w1) := Bz1.out.grown Gt1.out Bz1.out.size (fun x hx => by injection hx with hx; omega)
  have fz10 := frozen_of Vz1.out 0
  have cz10 : z1.cell? ⟨w.heap.size, 0, none⟩ = some (.slice none 0 0) := cell_of Vz1.out 0
  have fz11 := frozen_of Vz1.out 1
  have cz11 : z1.cell? ⟨w.heap.size, 1, none⟩ = some (.string ⟨#[]⟩) := cell_of Vz1.out 1
  have fz12 := frozen_of Vz1.out 2
  have cz12 : z1.cell? ⟨w.heap.size, 2, none⟩ = some (.string ⟨#[]⟩) := cell_of Vz1.out 2
  have fz13 := frozen_of Vz1.out 3
  have cz13 : z1.cell? ⟨w.heap.size, 3, none⟩ = some (.int .i64 0) := cell_of Vz1.out 3
  have fz14 := frozen_of Vz1.out 4
  have cz14 : z1.cell? ⟨w.heap.size, 4, none⟩ = some (.int .u64 0) := cell_of Vz1.out 4
  have fz15 := frozen_of Vz1.out 5
  have cz15 : z1.cell? ⟨w.heap.size, 5, none⟩ = some (.string ⟨#[]⟩) := cell_of Vz1.out 5
  obtain ⟨w2, hw2, V2, B2⟩ : ∃ z1, w1.alloc (.cells #[.slice none 0 0, .string ⟨#[120]⟩, .string ⟨#[121]⟩, .int .i64 0, .int .u64 0, .string ⟨#[]⟩, .string ⟨#[]⟩, .string ⟨#[]⟩, .slice none 0 0] 38) = z1 ∧ Hid (z1.heap[w1.heap.size]? = some (.cells (recArr At.zero wakeR) 38 (0, 0))) ∧ Hid (Below w1.heap.size w1 z1) := ⟨_, rfl, heap_alloc_new _ _, (Below.refl _ _).alloc (Nat.le_refl _) _⟩
  obtain ⟨z3, hz3, Vz3, Bz3, Zz3⟩ := zsta_new w2
  obtain ⟨w3, ht3⟩ : ∃ w3, (((z3.setCell ⟨w2.heap.size, 0, none⟩ (.int .u64 0)).setCell ⟨w2.heap.size, 1, none⟩ (.string ⟨#[]⟩)).setCell ⟨w2.heap.size, 2, none⟩ (.slice (some ⟨w1.heap.size, 0, none⟩) 1 1)) = w3 := ⟨_, rfl⟩
  have Gt3 : Hid (z3.grownBy w3 (some w2.heap.size)) := by rw [← ht3]; exact (((gb_set _ _ _ _).trans (gb_set _ _ _ _)).trans (gb_set _ _ _ _))
  have V3 : Hid (w3.heap[w2.heap.size]? = some (.cells (staArr (some ⟨w1.heap.size, 0, none⟩) 1 ⟨0, ⟨#[]⟩, [wakeR]⟩) 25 (0, 0))) := by rw [← ht3]; exact set3 (t := ⟨0, ⟨#[]⟩, [wakeR]⟩) Vz3.out
  have B3 : Hid (Below w2.heap.size w2 w3) := Bz3.out.grown Gt3.out Bz3.out.size (fun x hx => by injection hx with hx; omega)
  have fz30 := frozen_of Vz3.out 0
  have fz31 := frozen_of Vz3.out 1
  have fz32 := frozen_of Vz3.out 2
  obtain ⟨cz30, cz31, cz32⟩ := sta_cells Vz3.out
  have s1 := B1.out.size
  have s2 := B2.out.size
  have HB3 : Hid (Below w.heap.size w w3) := (B1.out.trans (B2.out.mono s1)).trans (B3.out.mono (by omega))
  have HRW : Hid (RecsAt w3 (some ⟨w1.heap.size, 0, none⟩) [wakeR]) := (one_rec V2.out ⟨.inl rfl, .inl rfl⟩ wakeR_small).stays B3.out
  have HT : Hid (∀ W, Below w.heap.size w W → TabsA W) := fun W hb => T.stays hb
  have HAB : Hid (∀ W, Below w3.heap.size w3 W → W.heap[w.heap.size]? = some (.cells #[.slice none 0 0, .string ⟨#[120]⟩, .string ⟨#[121]⟩, .int .i64 0, .int .u64 0, .string ⟨#[]⟩] 35 (0, 0))) := fun W hb => (hb.block _ (by have := heap_lt V1.out; have := B3.out.size; omega)).trans ((B3.out.block _ (by have := heap_lt V1.out; omega)).trans ((B2.out.block _ (heap_lt V1.out)).trans V1.out))
  have HD1 : Hid (Calls Tryz.prog 23 #[.agg #[.int .u64 0, .string ⟨#[]⟩, .slice (some ⟨w1.heap.size, 0, none⟩) 1 1], .agg #[.int .i64 1, .slice none 0 0, .string ⟨#[120]⟩, .string ⟨#[121]⟩, .int .i64 0, .int .u64 0, .string ⟨#[]⟩, .slice none 0 0, .string ⟨#[120]⟩, .string ⟨#[121]⟩, .int .i64 0, .int .u64 0, .string ⟨#[]⟩, .slice none 0 0, .string ⟨#[]⟩, .string ⟨#[]⟩, .int .i64 0, .int .u64 0, .string ⟨#[]⟩, .string ⟨#[]⟩, .string ⟨#[]⟩, .slice none 0 0]] w3 (EdPost ⟨0, ⟨#[]⟩, [wakeR]⟩ wakeC w3)) := edo_any ⟨0, ⟨#[]⟩, [wakeR]⟩ (some ⟨w1.heap.size, 0, none⟩) 1 wakeK wakeC w3 HRW.out wakeR_good (wake_at w3) (HT.out w3 HB3.out) (by decide) (by decide)
  have HD2 : Hid (∀ W, Below w.heap.size w W → Calls Tryz.prog 23 #[.agg #[.int .u64 0, .string ⟨#[]⟩, .slice none 0 0], .agg #[.int .i64 1, .slice none 0 0, .string ⟨#[120]⟩, .string ⟨#[121]⟩, .int .i64 0, .int .u64 0, .string ⟨#[]⟩, .slice none 0 0, .string ⟨#[120]⟩, .string ⟨#[121]⟩, .int .i64 0, .int .u64 0, .string ⟨#[]⟩, .slice none 0 0, .string ⟨#[]⟩, .string ⟨#[]⟩, .int .i64 0, .int .u64 0, .string ⟨#[]⟩, .string ⟨#[]⟩, .string ⟨#[]⟩, .slice none 0 0]] W (EdPost ⟨0, ⟨#[]⟩, []⟩ wakeC W)) := fun W hb => (edo_any ⟨0, ⟨#[]⟩, []⟩ none 0 wakeK wakeC W (RecsAt.nil _ _) Good.nil (wake_at W) (HT.out W hb) (by decide) (by decide)).out
  have ea0 : w1.cell? ⟨w.heap.size, 0, none⟩ = some (.slice none 0 0) := cell_of V1.out 0
  have ec0 : w3.cell? ⟨w.heap.size, 0, none⟩ = some (.slice none 0 0) := cell_of (HAB.out w3 (Below.refl _ _)) 0
  have ea1 : w1.cell? ⟨w.heap.size, 1, none⟩ = some (.string ⟨#[120]⟩) := cell_of V1.out 1
  have ec1 : w3.cell? ⟨w.heap.size, 1, none⟩ = some (.string ⟨#[120]⟩) := cell_of (HAB.out w3 (Below.refl _ _)) 1
  have ea2 : w1.cell? ⟨w.heap.size, 2, none⟩ = some (.string ⟨#[121]⟩) := cell_of V1.out 2
  have ec2 : w3.cell? ⟨w.heap.size, 2, none⟩ = some (.string ⟨#[121]⟩) := cell_of (HAB.out w3 (Below.refl _ _)) 2
  have ea3 : w1.cell? ⟨w.heap.size, 3, none⟩ = some (.int .i64 0) := cell_of V1.out 3
  have ec3 : w3.cell? ⟨w.heap.size, 3, none⟩ = some (.int .i64 0) := cell_of (HAB.out w3 (Below.refl _ _)) 3
  have ea4 : w1.cell? ⟨w.heap.size, 4, none⟩ = some (.int .u64 0) := cell_of V1.out 4
  have ec4 : w3.cell? ⟨w.heap.size, 4, none⟩ = some (.int .u64 0) := cell_of (HAB.out w3 (Below.refl _ _)) 4
  have ea5 : w1.cell? ⟨w.heap.size, 5, none⟩ = some (.string ⟨#[]⟩) := cell_of V1.out 5
  have ec5 : w3.cell? ⟨w.heap.size, 5, none⟩ = some (.string ⟨#[]⟩) := cell_of (HAB.out w3 (Below.refl _ _)) 5
  have eb0 : w3.cell? ⟨w2.heap.size, 0, none⟩ = some (.int .u64 0) := cell_of V3.out 0
  have eb1 : w3.cell? ⟨w2.heap.size, 1, none⟩ = some (.string ⟨#[]⟩) := cell_of V3.out 1
  have eb2 : w3.cell? ⟨w2.heap.size, 2, none⟩ = some (.slice (some ⟨w1.heap.size, 0, none⟩) 1 1) := cell_of V3.out 2
  clear T s1 s2
  go_enter Tryz.func21, Tryz.ntmps21
  go_wp2_with fail
  refine (Calls.mono HD1.out ?_)
  rintro z w4 hz
  obtain ⟨a1, c1, s1, rfl, _, _, _, hb4⟩ := hz.to
  rw [wake_one]
  have C4 : Hid (Below w3.heap.size w3 w4) := hb4.out
  clear ea0 ec0 ea1 ec1 ea2 ec2 ea3 ec3 ea4 ec4 ea5 ec5 eb0 eb1 eb2 hz hb4 hw2 hz1 ht1 hz3 ht3 HD1
  obtain ⟨z5, hz5, Vz5, Bz5, Zz5⟩ := zsta_new w4
  obtain ⟨w5, ht5⟩ : ∃ w5, (((z5.setCell ⟨w4.heap.size, 0, none⟩ (.int .u64 s1.serial)).setCell ⟨w4.heap.size, 1, none⟩ (.string s1.lin)).setCell ⟨w4.heap.size, 2, none⟩ (.slice a1 s1.recs.length c1)) = w5 := ⟨_, rfl⟩
  have Gt5 : Hid (z5.grownBy w5 (some w4.heap.size)) := by rw [← ht5]; exact (((gb_set _ _ _ _).trans (gb_set _ _ _ _)).trans (gb_set _ _ _ _))
  have V5 : Hid (w5.heap[w4.heap.size]? = some (.cells (staArr a1 c1 s1) 25 (0, 0))) := by rw [← ht5]; exact set3 (t := s1) Vz5.out
  have B5 : Hid (Below w4.heap.size w4 w5) := Bz5.out.grown Gt5.out Bz5.out.size (fun x hx => by injection hx with hx; omega)
  have fz50 := frozen_of Vz5.out 0
  have fz51 := frozen_of Vz5.out 1
  have fz52 := frozen_of Vz5.out 2
  obtain ⟨cz50, cz51, cz52⟩ := sta_cells Vz5.out
  have C5 : Hid (Below w3.heap.size w3 w5) := C4.out.trans (B5.out.mono C4.out.size)
  have C05 : Hid (Below w.heap.size w w5) := HB3.out.trans (C5.out.mono HB3.out.size)
  have e0 : w5.cell? ⟨w.heap.size, 0, none⟩ = some (.slice none 0 0) := cell_of (HAB.out w5 C5.out) 0
  have e1 : w5.cell? ⟨w.heap.size, 1, none⟩ = some (.string ⟨#[120]⟩) := cell_of (HAB.out w5 C5.out) 1
  have e2 : w5.cell? ⟨w.heap.size, 2, none⟩ = some (.string ⟨#[121]⟩) := cell_of (HAB.out w5 C5.out) 2
  have e3 : w5.cell? ⟨w.heap.size, 3, none⟩ = some (.int .i64 0) := cell_of (HAB.out w5 C5.out) 3
  have e4 : w5.cell? ⟨w.heap.size, 4, none⟩ = some (.int .u64 0) := cell_of (HAB.out w5 C5.out) 4
  have e5 : w5.cell? ⟨w.heap.size, 5, none⟩ = some (.string ⟨#[]⟩) := cell_of (HAB.out w5 C5.out) 5
  go_wp2_with fail
  refine (Calls.mono (HD2.out w5 C05.out) ?_)
  rintro z w6 hz
  obtain ⟨a2, c2, s2, rfl, _, _, _, hb6⟩ := hz.to
  rw [wake_none]
  have C06 : Hid (Below w.heap.size w w6) := C05.out.trans (hb6.out.mono C05.out.size)
  clear hz hb6 hz5 ht5 e0 e1 e2 e3 e4 e5
  obtain ⟨z7, hz7, Vz7, Bz7, Zz7⟩ := zsta_new w6
  obtain ⟨w7, ht7⟩ : ∃ w7, (((z7.setCell ⟨w6.heap.size, 0, none⟩ (.int .u64 s2.serial)).setCell ⟨w6.heap.size, 1, none⟩ (.string s2.lin)).setCell ⟨w6.heap.size, 2, none⟩ (.slice a2 s2.recs.length c2)) = w7 := ⟨_, rfl⟩
  have Gt7 : Hid (z7.grownBy w7 (some w6.heap.size)) := by rw [← ht7]; exact (((gb_set _ _ _ _).trans (gb_set _ _ _ _)).trans (gb_set _ _ _ _))
  have V7 : Hid (w7.heap[w6.heap.size]? = some (.cells (staArr a2 c2 s2) 25 (0, 0))) := by rw [← ht7]; exact set3 (t := s2) Vz7.out
  have B7 : Hid (Below w6.heap.size w6 w7) := Bz7.out.grown Gt7.out Bz7.out.size (fun x hx => by injection hx with hx; omega)
  have fz70 := frozen_of Vz7.out 0
  have fz71 := frozen_of Vz7.out 1
  have fz72 := frozen_of Vz7.out 2
  obtain ⟨cz70, cz71, cz72⟩ := sta_cells Vz7.out
  have C07 : Hid (Below w.heap.size w w7) := C06.out.trans (B7.out.mono C06.out.size)
  go_wp2_with fail
  go_ret
  exact ⟨rfl, C07.out⟩
theorem GcPost.to {l : List Cmd} {w w' : World} {e : Ending} (h : GcPost l w e w') : ∃ g : Bool, e = .returned (.bool g) ∧ Hid (g = false → l.length ≤ 20 ∧ ∀ c ∈ l, Fit c) ∧ Hid (Below w.heap.size w w') := h
end Go.Proofs.YtehghladpnpcoaaGreatDoor.State.Edit
namespace Go.Proofs.YtehghladpnpcoaaGreatDoor.State.Edit
open Go.RowKit Go.Shelf Go.Proofs.YtehghladpnpcoaaGreatDoor.Utf Go.Proofs.YtehghladpnpcoaaGreatDoor.Strs Go.Proofs.YtehghladpnpcoaaGreatDoor.Addr Go.Proofs.YtehghladpnpcoaaGreatDoor.State
open Go.Proofs.YtehghladpnpcoaaGreatDoor.Jdec (IsTexts Turn infoStr gb_set gb_below gb_refl)
set_option linter.unusedVariables false
set_option linter.unusedSimpArgs false
set_option maxRecDepth 100000

def backM (c : Cmd) : Cmd := ⟨1, c.ad, c.fr, Rec.zero⟩
def backG (c : Cmd) : Cmd := ⟨2, c.r.a, zeroA, Rec.zero⟩
theorem zadr_at (w : World) : AdrAt w none zeroA := ⟨.inl rfl, by decide, (fun x h => by cases h), by decide, by decide, by decide, by decide⟩
theorem noR_zero : noR Rec.zero = true := by kernel_rfl
theorem noA_zero : noA zeroA = true := by kernel_rfl
theorem moved_back {r : Rec} {a b : Adr} (h : r.a = b) : moved (moved r a) b = r := by
  subst h; rfl
theorem back_move {s s1 : Sta} {c : Cmd} (hg : Good s.recs) (h : Done s c s1) (he : errC s c = 0) (kk : c.kind = 1) (hs : s.serial < 18446744073709551614) :
    errC s1 (backM c) = 0 ∧ ∀ s2, Done s1 (backM c) s2 → s2 = ⟨s.serial + 2, s.lin, s.recs⟩ := by
  have ho := err_okay.1 he
  obtain ⟨r, hr, hra⟩ := ho.f (by rw [kk]; decide)
  have hm : ∀ x, x ∈ s1.recs ↔ (x ∈ s.recs ∧ x.a ≠ c.fr) ∨ ∃ r ∈ s.recs, r.a = c.fr ∧ x = moved r c.ad := fun x => by rw [h.mem he, memC, if_pos kk]
  have hne : c.ad ≠ c.fr := fun e => ho.t kk r hr (hra.trans e.symm)
  have hR : rightA c.fr = true ∧ rightA c.ad = true := by
    rcases rightC_cases ho.r with h1 | h1 | h1
    · exact ⟨h1.2.1, h1.2.2.1⟩
    · rw [kk] at h1; exact absurd h1.1 (by decide)
    · rw [kk] at h1; exact absurd h1.1 (by decide)
  have h0 : errC s1 (backM c) = 0 := by
    refine err_okay.2 ⟨?_, fun _ => ⟨moved r c.ad, (hm _).2 (.inr ⟨r, hr, hra, rfl⟩), rfl⟩, fun _ x hx e => ?_, fun hk => absurd hk (by show (1 : Int) ≠ 3; decide), by rw [h.ser he]; omega⟩
    · show rightC ⟨1, c.ad, c.fr, Rec.zero⟩ = true
      rw [rightC, if_pos rfl, hR.1, hR.2, noR_zero]; rfl
    · have e2 : x.a = c.fr := e
      rcases (hm x).1 hx with h1 | ⟨r2, _, _, rfl⟩
      · exact h1.2 e2
      · exact hne e2
  refine ⟨h0, fun s2 h2 => ?_⟩
  have h3 : s2.recs = s.recs := good_ext h2.good.o hg.o fun x => by
    rw [h2.mem h0, memC, if_pos (show (backM c).kind = 1 from rfl)]
    show (x ∈ s1.recs ∧ x.a ≠ c.ad) ∨ (∃ r' ∈ s1.recs, r'.a = c.ad ∧ x = moved r' c.fr) ↔ x ∈ s.recs
    constructor
    · rintro (⟨hx, hn⟩ | ⟨r', hr', e1, rfl⟩)
      · rcases (hm x).1 hx with h1 | ⟨r2, _, _, rfl⟩
        · exact h1.1
        · exact absurd rfl hn
      · rcases (hm r').1 hr' with h1 | ⟨r2, hr2, e2, rfl⟩
        · exact absurd e1 (ho.t kk r' h1.1)
        · rw [moved_back e2]; exact hr2
    · intro hx
      by_cases e : x.a = c.fr
      · exact .inr ⟨moved x c.ad, (hm _).2 (.inr ⟨x, hx, e, rfl⟩), rfl, (moved_back e).symm⟩
      · exact .inl ⟨(hm x).2 (.inl ⟨hx, e⟩), ho.t kk x hx⟩
  have h4 := h2.ser h0
  have h5 := h.ser he
  have h6 := h2.lin.trans h.lin
  cases s2
  simp only at h3 h4 h6
  rw [h3, h4, h5, h6]
theorem back_gain {s s1 : Sta} {c : Cmd} (hg : Good s.recs) (h : Done s c s1) (he : errC s c = 0) (kk : c.kind = 3) (hs : s.serial < 18446744073709551614) :
    errC s1 (backG c) = 0 ∧ ∀ s2, Done s1 (backG c) s2 → s2 = ⟨s.serial + 2, s.lin, s.recs⟩ := by
  have ho := err_okay.1 he
  have hm : ∀ x, x ∈ s1.recs ↔ x ∈ s.recs ∨ x = c.r := fun x => by rw [h.mem he, memC, if_neg (by rw [kk]; decide), if_neg (by rw [kk]; decide)]
  have hR : recB c.r = true := by
    rcases rightC_cases ho.r with h1 | h1 | h1
    · rw [kk] at h1; exact absurd h1.1 (by decide)
    · rw [kk] at h1; exact absurd h1.1 (by decide)
    · exact h1.2.1
  have h0 : errC s1 (backG c) = 0 := by
    refine err_okay.2 ⟨?_, fun _ => ⟨c.r, (hm _).2 (.inr rfl), rfl⟩, fun hk => absurd hk (by show (2 : Int) ≠ 1; decide), fun hk => absurd hk (by show (2 : Int) ≠ 3; decide), by rw [h.ser he]; omega⟩
    show rightC ⟨2, c.r.a, zeroA, Rec.zero⟩ = true
    rw [rightC, if_neg (show ¬ (2 : Int) = 1 by decide), if_pos rfl, recB_right hR, noA_zero, noR_zero]; rfl
  refine ⟨h0, fun s2 h2 => ?_⟩
  have h3 : s2.recs = s.recs := good_ext h2.good.o hg.o fun x => by
    rw [h2.mem h0, memC, if_neg (show ¬ (backG c).kind = 1 by show ¬ (2 : Int) = 1; decide), if_pos (show (backG c).kind = 2 from rfl)]
    show (x ∈ s1.recs ∧ x.a ≠ c.r.a) ↔ x ∈ s.recs
    rw [hm]
    constructor
    · rintro ⟨h1 | rfl, hn⟩
      · exact h1
      · exact absurd rfl hn
    · exact fun hx => ⟨.inl hx, ho.g kk x hx⟩
  have h4 := h2.ser h0
  have h5 := h.ser he
  have h6 := h2.lin.trans h.lin
  cases s2
  simp only at h3 h4 h6
  rw [h3, h4, h5, h6]
/-! ## A command stored -/
theorem cells_set (b : Nat) : ∀ (vs : List Value) (o : Nat) (w : World) (cs : Array Value) (T : TypeId) (fr : Nat × Nat), w.heap[b]? = some (.cells cs T fr) → ∃ cs', (w.setCells b o vs).heap[b]? = some (.cells cs' T fr) ∧ cs'.size = cs.size
  | [], o, w, cs, T, fr, h => ⟨cs, h, rfl⟩
  | v :: vs, o, w, cs, T, fr, h => by
    obtain ⟨cs', h1, h2⟩ := cells_set b vs (o + 1) (w.setCell ⟨b, o, none⟩ v) _ T fr (heap_set_same h (i := o) v)
    exact ⟨cs', h1, by rw [h2]; simp⟩
theorem gb_cells (b : Nat) : ∀ (vs : List Value) (o : Nat) (w : World), w.grownBy (w.setCells b o vs) (some b)
  | [], o, w => gb_refl _ _
  | v :: vs, o, w => (gb_set w b o v).trans (gb_cells b vs (o + 1) (w.setCell ⟨b, o, none⟩ v))
theorem cmd_store {w : World} {b : Nat} {cs0 : Array Value} (h : w.heap[b]? = some (.cells cs0 44 (0, 0))) (hs : cs0.size = 22) (k : CAt) (c : Cmd) :
    ∃ w', Hid ((Instr.storeAt 44 (.pointer (some ⟨b, 0, none⟩)) (.agg #[.int .i64 c.kind, .slice k.pf c.fr.path.length k.fc, .string c.fr.type, .string c.fr.name, .int .i64 c.fr.key, .int .u64 c.fr.place, .string c.fr.word, .slice k.pt c.ad.path.length k.tc, .string c.ad.type, .string c.ad.name, .int .i64 c.ad.key, .int .u64 c.ad.place, .string c.ad.word, .slice k.p.pa c.r.a.path.length k.p.pc, .string c.r.a.type, .string c.r.a.name, .int .i64 c.r.a.key, .int .u64 c.r.a.place, .string c.r.a.word, .string c.r.prov, .string c.r.id, .slice k.p.ta c.r.attrs.length k.p.tc])).run Tryz.prog w = .ok () w') ∧ Hid (∃ cs, w'.heap[b]? = some (.cells cs 44 (0, 0)) ∧ cs.size = 22) ∧ Hid (w'.rangeAt b 0 (cmdArr k c).toList) ∧ Hid (w.grownBy w' (some b)) := by
  have ht : w.there b 0 (cmdArr k c).size := fun j hj => by
    have hj2 : j < cs0.size := by rw [hs]; exact hj
    rw [Nat.zero_add]
    exact ⟨by rw [cell_of h j, Array.getElem?_eq_getElem hj2]; rfl, frozen_of h j⟩
  have hr := run_storeAt_mid (P := Tryz.prog) w b 0 44 (cmdArr k c) ht infoCmd (by simp [cmdArr, Value.oneCell'])
  obtain ⟨cs, h1, h2⟩ := cells_set b (cmdArr k c).toList 0 w cs0 _ _ h
  exact ⟨_, hr, ⟨cs, h1, h2.trans hs⟩, World.rangeAt_setCells_same w b 0 (cmdArr k c).toList ht, gb_cells b _ 0 w⟩
theorem cmd_load2 {w : World} {b : Nat} {k : CAt} {c : Cmd} (h : w.rangeAt b 0 (cmdArr k c).toList) :
    Hid ((Instr.loadAt 44 (.pointer (some ⟨b, 0, none⟩))).run Tryz.prog w = .ok (.agg #[.int .i64 c.kind, .slice k.pf c.fr.path.length k.fc, .string c.fr.type, .string c.fr.name, .int .i64 c.fr.key, .int .u64 c.fr.place, .string c.fr.word, .slice k.pt c.ad.path.length k.tc, .string c.ad.type, .string c.ad.name, .int .i64 c.ad.key, .int .u64 c.ad.place, .string c.ad.word, .slice k.p.pa c.r.a.path.length k.p.pc, .string c.r.a.type, .string c.r.a.name, .int .i64 c.r.a.key, .int .u64 c.r.a.place, .string c.r.a.word, .string c.r.prov, .string c.r.id, .slice k.p.ta c.r.attrs.length k.p.tc]) w) :=
  run_loadAt_mid (P := Tryz.prog) w b 0 44 (cmdArr k c).toList _ h Tryz.underlying44 rfl infoCmd
theorem wpList_store_run {P : Program} {w w' : World} {ops : Array Oper} {rest : List Oper} {o : Oper} {a : Act} {Q : Exit → Act → World → Prop} {t : TypeId} {p V : Value} (hr : (Instr.storeAt t p V).run P w = .ok () w') (hw : Region.wanted o (yielded ops a.tmps) = true) (x y : Operand)
    (ho : o.op = .store t x y) (hx : a.eval x = p) (hy : a.eval y = V) (h : wpList P ops Q rest (a.put o.dst undef) w') : wpList P ops Q (o :: rest) a w := by
  unfold wpList
  rw [if_pos hw]
  refine .inl ?_
  unfold Oper.wp execOp
  simp only [ho, hx, hy, Sem.run_bind, hr, Result.andThen_ok]
  exact h
end Go.Proofs.YtehghladpnpcoaaGreatDoor.State.Edit
namespace Go.Proofs.YtehghladpnpcoaaGreatDoor.State.Edit
open Go.RowKit Go.Shelf Go.Proofs.YtehghladpnpcoaaGreatDoor.Utf Go.Proofs.YtehghladpnpcoaaGreatDoor.Strs Go.Proofs.YtehghladpnpcoaaGreatDoor.Addr Go.Proofs.YtehghladpnpcoaaGreatDoor.State
open Go.Proofs.YtehghladpnpcoaaGreatDoor.Jdec (IsTexts Turn infoStr gb_set gb_below gb_refl)
set_option linter.unusedVariables false
set_option linter.unusedSimpArgs false
set_option maxRecDepth 100000

set_option maxHeartbeats 64000000 in
theorem editBack_any (s : Sta) (ra : Option Addr) (rc : Nat) (k : CAt) (c : Cmd) (w : World) (T : TabsA w) (h : StaIn w ra s) (hcp : s.recs.length ≤ rc) (hc : CmdIn w k c) (hsn : s.serial < 18446744073709551616) :
    Calls Tryz.prog 7 #[.agg #[.int .u64 s.serial, .string s.lin, .slice ra s.recs.length rc], .agg #[.int .i64 c.kind, .slice k.pf c.fr.path.length k.fc, .string c.fr.type, .string c.fr.name, .int .i64 c.fr.key, .int .u64 c.fr.place, .string c.fr.word, .slice k.pt c.ad.path.length k.tc, .string c.ad.type, .string c.ad.name, .int .i64 c.ad.key, .int .u64 c.ad.place, .string c.ad.word, .slice k.p.pa c.r.a.path.length k.p.pc, .string c.r.a.type, .string c.r.a.name, .int .i64 c.r.a.key, .int .u64 c.r.a.place, .string c.r.a.word, .string c.r.prov, .string c.r.id, .slice k.p.ta c.r.attrs.length k.p.tc]] w fun e w' => e = .returned (.bool true) ∧ Below w.heap.size w w' := by
  obtain ⟨w1, hw1, V1, B1⟩ := sta_new w ra rc s
  obtain ⟨w2, hw2, V2, B2⟩ := cmd_new w1 k c
  have hl1 := heap_lt V1.out
  have hl2 := heap_lt V2.out
  have B02 : Hid (Below w.heap.size w w2) := B1.out.trans (B2.out.mono (by omega))
  have HSB : Hid (∀ W, Below w2.heap.size w2 W → W.heap[w.heap.size]? = some (.cells (staArr ra rc s) 25 (0, 0))) := fun W hb => (hb.block _ (by omega)).trans ((B2.out.block _ hl1).trans V1.out)
  have HCB : Hid (∀ W, Below w2.heap.size w2 W → W.heap[w1.heap.size]? = some (.cells (cmdArr k c) 44 (0, 0))) := fun W hb => (hb.block _ hl2).trans V2.out
  have HBW : Hid (∀ W, Below w2.heap.size w2 W → Below w.heap.size w W) := fun W hb => B02.out.trans (hb.mono B02.out.size)
  have HT : Hid (∀ W, Below w2.heap.size w2 W → TabsA W) := fun W hb => T.stays (HBW.out W hb)
  have HS : Hid (∀ W, Below w2.heap.size w2 W → StaIn W ra s) := fun W hb => h.stays (HBW.out W hb)
  have HC : Hid (∀ W, Below w2.heap.size w2 W → CmdIn W k c) := fun W hb => hc.stays (HBW.out W hb)
  have HWK := wakes26 w2 (HT.out w2 (Below.refl _ _))
  have HSN := Hid.out (p := Hid _) hsn
  have HCP := Hid.out (p := Hid _) hcp
  clear T h hc hsn hcp hl1 hl2
  go_enter Tryz.func7, Tryz.ntmps7
  go_wp2_with fail
  refine (Calls.mono HWK.out ?_)
  rintro z w3 ⟨rfl, hb⟩
  have C3 : Hid (Below w2.heap.size w2 w3) := hb
  clear hb HWK hw1 hw2
  have HGS := gs_ok s ra rc w3 (HS.out w3 C3.out)
  obtain ⟨x0, x1, x2⟩ := sta_cells (HSB.out w3 C3.out)
  go_wp2_with fail
  refine (Calls.mono HGS.out ?_)
  rintro z w4 hz
  obtain ⟨g, rfl, hg, hb⟩ := hz.to
  have C4 : Hid (Below w2.heap.size w2 w4) := C3.out.trans (hb.out.mono C3.out.size)
  clear hz hb HGS x0 x1 x2
  cases g
  case true =>
    go_wp2_with fail
    go_ret
    exact ⟨rfl, HBW.out _ C4.out⟩
  have hsz := hg.out rfl
  have hn3 : s.recs.length ≤ 3000 := by omega
  have HN : Hid (s.recs.length ≤ 30) := hsz.1
  have hl6 : s.lin.size ≤ 6000 := by omega
  have HSM := Hid.out (p := Hid _) hsz.2.2
  have HR : Hid (∀ W, Below w2.heap.size w2 W → RecsAt W ra s.recs) := fun W hb => ⟨(HS.out W hb).t, hn3, HSM.out⟩
  have HL6 := Hid.out (p := Hid _) hl6
  obtain ⟨rs, hrs⟩ : ∃ b, rightS s = b := ⟨_, rfl⟩
  have HRR := rr_ok s ra rc w4 (HR.out w4 C4.out) hl6 rs hrs
  have HRS := Hid.out (p := Hid _) hrs
  obtain ⟨x0, x1, x2⟩ := sta_cells (HSB.out w4 C4.out)
  clear hsz hg hrs hl6 hn3
  go_wp2_with fail
  refine (Calls.mono HRR.out ?_)
  rintro z w5 ⟨rfl, hb⟩
  have C5 : Hid (Below w2.heap.size w2 w5) := C4.out.trans (hb.mono C4.out.size)
  clear hb HRR x0 x1 x2
  cases rs
  case false =>
    go_wp2_with fail
    go_ret
    exact ⟨rfl, HBW.out _ C5.out⟩
  have HG : Hid (Good s.recs) := rightS_good HRS.out HSM.out
  have LD := cmd_load (HCB.out w5 C5.out)
  obtain ⟨w6, hw6, V6, B6⟩ := cmd_new w5 k c
  have C6 : Hid (Below w2.heap.size w2 w6) := C5.out.trans (B6.out.mono C5.out.size)
  have HGC := rgreat26_any [c] (some ⟨w5.heap.size, 0, none⟩) 1 w6 (cmd_one V6.out (HC.out w6 C6.out))
  go_wp2_with (refine wpList_load_run LD.out rfl _ rfl rfl ?_)
  refine (Calls.mono HGC.out ?_)
  rintro z w7 hz
  obtain ⟨g, rfl, hg, hb⟩ := hz.to
  have C7 : Hid (Below w2.heap.size w2 w7) := C6.out.trans (hb.out.mono C6.out.size)
  clear hz hb HGC hw6 LD
  cases g
  case true =>
    go_wp2_with fail
    go_ret
    exact ⟨rfl, HBW.out _ C7.out⟩
  have hft := (hg.out rfl).2 c (by simp)
  have HCM : Hid (∀ W, Below w2.heap.size w2 W → CmdAt W k c) := fun W hb => (HC.out W hb).at hft.f hft.t hft.r
  clear hg hft
  by_cases hbig : 9223372036854775808 < s.serial
  · have q1 : decide ((9223372036854775808 : Int) < (s.serial : Int)) = true := by rw [decide_eq_true_eq]; omega
    have q2 : decide (9223372036854775808 < s.serial) = true := by rw [decide_eq_true_eq]; omega
    clear hbig
    obtain ⟨x0, x1, x2⟩ := sta_cells (HSB.out w7 C7.out)
    go_wp2_with fail
    go_ret
    exact ⟨rfl, HBW.out _ C7.out⟩
  have q1 : decide ((9223372036854775808 : Int) < (s.serial : Int)) = false := by rw [decide_eq_false_iff_not]; omega
  have q2 : decide (9223372036854775808 < s.serial) = false := by rw [decide_eq_false_iff_not]; omega
  have HSE : Hid (s.serial < 18446744073709551614) := by show s.serial < _; omega
  clear hbig
  obtain ⟨ec, hec⟩ : ∃ ec, errC s c = ec := ⟨_, rfl⟩
  have LD := cmd_load (HCB.out w7 C7.out)
  obtain ⟨x0, x1, x2⟩ := sta_cells (HSB.out w7 C7.out)
  have HDO := edo_any s ra rc k c w7 (HR.out w7 C7.out) HG.out (HCM.out w7 C7.out) (HT.out w7 C7.out) (by have := HN.out; omega) HSN.out
  go_wp2_with (refine wpList_load_run LD.out rfl _ rfl rfl ?_)
  refine (Calls.mono HDO.out ?_)
  rintro z w8 hz
  obtain ⟨a9, c9, s9, rfl, HD9, HR9, HL9, hb⟩ := hz.to
  have C8 : Hid (Below w2.heap.size w2 w8) := C7.out.trans (hb.out.mono C7.out.size)
  have K8 : Hid (Below w7.heap.size w7 w8) := hb.out
  clear hz hb HDO LD x0 x1 x2
  obtain ⟨z9, hz9, Vz9, Bz9, Zz9⟩ := zsta_new w8
  obtain ⟨w9, ht9⟩ : ∃ w9, (((z9.setCell ⟨w8.heap.size, 0, none⟩ (.int .u64 s9.serial)).setCell ⟨w8.heap.size, 1, none⟩ (.string s9.lin)).setCell ⟨w8.heap.size, 2, none⟩ (.slice a9 s9.recs.length c9)) = w9 := ⟨_, rfl⟩
  have Gt9 : Hid (z9.grownBy w9 (some w8.heap.size)) := by rw [← ht9]; exact (((gb_set _ _ _ _).trans (gb_set _ _ _ _)).trans (gb_set _ _ _ _))
  have V9 : Hid (w9.heap[w8.heap.size]? = some (.cells (staArr a9 c9 s9) 25 (0, 0))) := by rw [← ht9]; exact set3 (t := s9) Vz9.out
  have B9 : Hid (Below w8.heap.size w8 w9) := Bz9.out.grown Gt9.out Bz9.out.size (fun x hx => by injection hx with hx; omega)
  have fz90 := frozen_of Vz9.out 0
  have fz91 := frozen_of Vz9.out 1
  have fz92 := frozen_of Vz9.out 2
  obtain ⟨cz90, cz91, cz92⟩ := sta_cells Vz9.out
  have C9 : Hid (Below w2.heap.size w2 w9) := C8.out.trans (B9.out.mono C8.out.size)
  have HEC := Hid.out (p := Hid _) hec
  clear q1 q2
  by_cases h0 : ec = 0
  case neg =>
    have e1 : (ec != 0) = true := by rw [bne_iff_ne]; exact h0
    have e2 : (ec == 0) = false := by rw [beq_eq_false_iff_ne]; exact h0
    clear h0
    rw [hec]
    clear hec HEC
    go_wp2_with fail
    go_ret
    exact ⟨rfl, HBW.out _ C9.out⟩
  subst h0
  have HOK := Hid.out (p := Hid _) (err_okay.1 hec)
  rw [hec]
  clear hec
  have HB9 : Hid (∀ W, Below w9.heap.size w9 W → Below w2.heap.size w2 W) := fun W hb => C9.out.trans (hb.mono C9.out.size)
  have HXB : Hid (∀ W, Below w9.heap.size w9 W → W.heap[w8.heap.size]? = some (.cells (staArr a9 c9 s9) 25 (0, 0))) := fun W hb => (hb.block _ (heap_lt V9.out)).trans V9.out
  have HXR : Hid (∀ W, Below w9.heap.size w9 W → RecsAt W a9 s9.recs) := fun W hb => (HR9.out.stays B9.out).stays hb
  rcases rightC_cases HOK.out.r with ⟨kk, _⟩ | ⟨kk, _⟩ | ⟨kk, _⟩
  case inr.inl =>
    have t1 : (c.kind == 1) = false := by rw [kk]; rfl
    have t2 : (c.kind == 2) = true := by rw [kk]; rfl
    have t3 : (c.kind == 3) = false := by rw [kk]; rfl
    clear kk
    obtain ⟨y0, y1, y2, y3, y4, y5, y6, y7, y8, y9, y10, y11, y12, y13, y14, y15, y16, y17, y18, y19, y20, y21⟩ := cmd_cells (HCB.out w9 C9.out)
    go_wp2_with fail
    go_ret
    exact ⟨rfl, HBW.out _ C9.out⟩
  case inl =>
    have t1 : (c.kind == 1) = true := by rw [kk]; rfl
    have t2 : (c.kind == 2) = false := by rw [kk]; rfl
    have t3 : (c.kind == 3) = false := by rw [kk]; rfl
    have HPL := Hid.out (p := Hid _) (back_move HG.out HD9.out HEC.out kk HSE.out)
    clear kk
    obtain ⟨z10, hz10, Vz10, Bz10⟩ : ∃ z, w9.alloc (.cells #[.int .i64 0, .slice none 0 0, .string ⟨#[]⟩, .string ⟨#[]⟩, .int .i64 0, .int .u64 0, .string ⟨#[]⟩, .slice none 0 0, .string ⟨#[]⟩, .string ⟨#[]⟩, .int .i64 0, .int .u64 0, .string ⟨#[]⟩, .slice none 0 0, .string ⟨#[]⟩, .string ⟨#[]⟩, .int .i64 0, .int .u64 0, .string ⟨#[]⟩, .string ⟨#[]⟩, .string ⟨#[]⟩, .slice none 0 0] 44) = z ∧ Hid (z.heap[w9.heap.size]? = some (.cells #[.int .i64 0, .slice none 0 0, .string ⟨#[]⟩, .string ⟨#[]⟩, .int .i64 0, .int .u64 0, .string ⟨#[]⟩, .slice none 0 0, .string ⟨#[]⟩, .string ⟨#[]⟩, .int .i64 0, .int .u64 0, .string ⟨#[]⟩, .slice none 0 0, .string ⟨#[]⟩, .string ⟨#[]⟩, .int .i64 0, .int .u64 0, .string ⟨#[]⟩, .string ⟨#[]⟩, .string ⟨#[]⟩, .slice none 0 0] 44 (0, 0))) ∧ Hid (Below w9.heap.size w9 z) := ⟨_, rfl, heap_alloc_new _ _, (Below.refl _ _).alloc (Nat.le_refl _) _⟩
    obtain ⟨w10, HST, HV10, HR10, HG10⟩ := cmd_store Vz10.out rfl ⟨k.pt, k.tc, k.pf, k.fc, At.zero⟩ (backM c)
    have HST2 : Hid ((Instr.storeAt 44 (.pointer (some ⟨w9.heap.size, 0, none⟩)) (.agg #[.int .i64 1, .slice k.pt c.ad.path.length k.tc, .string c.ad.type, .string c.ad.name, .int .i64 c.ad.key, .int .u64 c.ad.place, .string c.ad.word, .slice k.pf c.fr.path.length k.fc, .string c.fr.type, .string c.fr.name, .int .i64 c.fr.key, .int .u64 c.fr.place, .string c.fr.word, .slice none 0 0, .string ⟨#[]⟩, .string ⟨#[]⟩, .int .i64 0, .int .u64 0, .string ⟨#[]⟩, .string ⟨#[]⟩, .string ⟨#[]⟩, .slice none 0 0])).run Tryz.prog z10 = .ok () w10) := HST
    have D10 : Hid (Below w9.heap.size w9 w10) := Bz10.out.grown HG10.out Bz10.out.size (fun x hx => by injection hx with hx; omega)
    obtain ⟨y0, y1, y2, y3, y4, y5, y6, y7, y8, y9, y10, y11, y12, y13, y14, y15, y16, y17, y18, y19, y20, y21⟩ := cmd_cells (HCB.out w9 C9.out)
    have e10 : w10.cell? ⟨w1.heap.size, 0, none⟩ = some (.int .i64 c.kind) := cell_of (HCB.out w10 (HB9.out _ D10.out)) 0
    clear HST
    have LD : Hid ((Instr.loadAt 44 (.pointer (some ⟨w9.heap.size, 0, none⟩))).run Tryz.prog w10 = .ok (.agg #[.int .i64 1, .slice k.pt c.ad.path.length k.tc, .string c.ad.type, .string c.ad.name, .int .i64 c.ad.key, .int .u64 c.ad.place, .string c.ad.word, .slice k.pf c.fr.path.length k.fc, .string c.fr.type, .string c.fr.name, .int .i64 c.fr.key, .int .u64 c.fr.place, .string c.fr.word, .slice none 0 0, .string ⟨#[]⟩, .string ⟨#[]⟩, .int .i64 0, .int .u64 0, .string ⟨#[]⟩, .string ⟨#[]⟩, .string ⟨#[]⟩, .slice none 0 0]) w10) := cmd_load2 HR10.out
    obtain ⟨x0, x1, x2⟩ := sta_cells (HXB.out w10 D10.out)
    have HDO : Hid (Calls Tryz.prog 23 #[.agg #[.int .u64 s9.serial, .string s9.lin, .slice a9 s9.recs.length c9], .agg #[.int .i64 1, .slice k.pt c.ad.path.length k.tc, .string c.ad.type, .string c.ad.name, .int .i64 c.ad.key, .int .u64 c.ad.place, .string c.ad.word, .slice k.pf c.fr.path.length k.fc, .string c.fr.type, .string c.fr.name, .int .i64 c.fr.key, .int .u64 c.fr.place, .string c.fr.word, .slice none 0 0, .string ⟨#[]⟩, .string ⟨#[]⟩, .int .i64 0, .int .u64 0, .string ⟨#[]⟩, .string ⟨#[]⟩, .string ⟨#[]⟩, .slice none 0 0]] w10 (EdPost s9 (backM c) w10)) := edo_any s9 a9 c9 ⟨k.pt, k.tc, k.pf, k.fc, At.zero⟩ (backM c) w10 (HXR.out w10 D10.out) HD9.out.good ⟨(HCM.out w10 (HB9.out _ D10.out)).t, (HCM.out w10 (HB9.out _ D10.out)).f, ⟨.inl rfl, .inl rfl⟩, zrec_small⟩ (HT.out w10 (HB9.out w10 D10.out)) (by have := HL9.out.2; have := HN.out; omega) (by have := HD9.out.ser HEC.out; have := HSE.out; omega)
    go_wp2_with (first | (refine wpList_store_run HST2.out rfl _ _ rfl rfl rfl ?_) | (refine wpList_load_run LD.out rfl _ rfl rfl ?_))
    refine (Calls.mono HDO.out ?_)
    rintro z w12 hz
    obtain ⟨a12, c12, s12, rfl, HD12, HR12, HL12, hb⟩ := hz.to
    have D12 : Hid (Below w9.heap.size w9 w12) := D10.out.trans (hb.out.mono D10.out.size)
    have HS12 : Hid (s12 = ⟨s.serial + 2, s.lin, s.recs⟩) := HPL.out.2 _ HD12.out
    have he2 := HPL.out.1
    rw [he2]
    clear hz hb HDO LD x0 x1 x2 he2
    obtain ⟨z13, hz13, Vz13, Bz13, Zz13⟩ := zsta_new w12
    obtain ⟨w13, ht13⟩ : ∃ w13, (((z13.setCell ⟨w12.heap.size, 0, none⟩ (.int .u64 s12.serial)).setCell ⟨w12.heap.size, 1, none⟩ (.string s12.lin)).setCell ⟨w12.heap.size, 2, none⟩ (.slice a12 s12.recs.length c12)) = w13 := ⟨_, rfl⟩
    have Gt13 : Hid (z13.grownBy w13 (some w12.heap.size)) := by rw [← ht13]; exact (((gb_set _ _ _ _).trans (gb_set _ _ _ _)).trans (gb_set _ _ _ _))
    have V13 : Hid (w13.heap[w12.heap.size]? = some (.cells (staArr a12 c12 s12) 25 (0, 0))) := by rw [← ht13]; exact set3 (t := s12) Vz13.out
    have B13 : Hid (Below w12.heap.size w12 w13) := Bz13.out.grown Gt13.out Bz13.out.size (fun x hx => by injection hx with hx; omega)
    have fz130 := frozen_of Vz13.out 0
    have fz131 := frozen_of Vz13.out 1
    have fz132 := frozen_of Vz13.out 2
    obtain ⟨cz130, cz131, cz132⟩ := sta_cells Vz13.out
    have D13 : Hid (Below w9.heap.size w9 w13) := D12.out.trans (B13.out.mono D12.out.size)
    obtain ⟨m0, m1, m2⟩ := sta_cells V13.out
    have mf := frozen_of V13.out 0
    obtain ⟨q, hq⟩ : ∃ q : Int, (s.serial : Int) = q := ⟨_, rfl⟩
    have hwr : IntKind.u64.wrap ((s12.serial : Int) - 2) = q := by
      rw [IntKind.wrap_u64, ← hq, HS12.out]
      have := HSE.out
      show (((s.serial + 2 : Nat) : Int) - 2) % _ = _
      omega
    have HQ := Hid.out (p := Hid _) hq
    clear hq
    obtain ⟨w14, hw14⟩ : ∃ w14, w13.setCell ⟨w12.heap.size, 0, none⟩ (.int .u64 q) = w14 := ⟨_, rfl⟩
    have V14 : Hid (w14.heap[w12.heap.size]? = some (.cells #[.int .u64 q, .string s12.lin, .slice a12 s12.recs.length c12] 25 (0, 0))) := by rw [← hw14, Hid, heap_set_same V13.out]; rfl
    have G14 : Hid (w13.grownBy w14 (some w12.heap.size)) := by rw [← hw14]; exact gb_set _ _ _ _
    have E14 : Hid (Below w12.heap.size w12 w14) := B13.out.grown G14.out B13.out.size (fun x hx => by injection hx with hx; omega)
    have D14 : Hid (Below w9.heap.size w9 w14) := D12.out.trans (E14.out.mono D12.out.size)
    have n0 : w14.cell? ⟨w12.heap.size, 0, none⟩ = some (.int .u64 q) := cell_of V14.out 0
    have n1 : w14.cell? ⟨w12.heap.size, 1, none⟩ = some (.string s12.lin) := cell_of V14.out 1
    have n2 : w14.cell? ⟨w12.heap.size, 2, none⟩ = some (.slice a12 s12.recs.length c12) := cell_of V14.out 2
    obtain ⟨x0, x1, x2⟩ := sta_cells (HSB.out w14 (HB9.out _ D14.out))
    have HSM : Hid (Calls Tryz.prog 18 #[.agg #[.int .u64 q, .string s12.lin, .slice a12 s12.recs.length c12], .agg #[.int .u64 s.serial, .string s.lin, .slice ra s.recs.length rc]] w14 fun e w' => e = .returned (.bool true) ∧ Below w14.heap.size w14 w') := by
      rw [← HQ.out]
      exact (sm_ok ⟨s.serial, s12.lin, s12.recs⟩ s a12 ra c12 rc w14 (HR12.out.stays E14.out) (HR.out _ (HB9.out _ D14.out)) true ((sameSta_iff _ _).2 (by rw [HS12.out]))).out
    go_wp2_with fail
    refine (Calls.mono HSM.out ?_)
    rintro z w15 ⟨rfl, hb⟩
    have D15 : Hid (Below w9.heap.size w9 w15) := D14.out.trans (hb.mono D14.out.size)
    clear hb
    go_wp2_with fail
    go_ret
    exact ⟨rfl, HBW.out _ (HB9.out _ D15.out)⟩
  case inr.inr =>
    have t1 : (c.kind == 1) = false := by rw [kk]; rfl
    have t2 : (c.kind == 2) = false := by rw [kk]; rfl
    have t3 : (c.kind == 3) = true := by rw [kk]; rfl
    have HPL := Hid.out (p := Hid _) (back_gain HG.out HD9.out HEC.out kk HSE.out)
    clear kk
    obtain ⟨z10, hz10, Vz10, Bz10⟩ : ∃ z, w9.alloc (.cells #[.int .i64 0, .slice none 0 0, .string ⟨#[]⟩, .string ⟨#[]⟩, .int .i64 0, .int .u64 0, .string ⟨#[]⟩, .slice none 0 0, .string ⟨#[]⟩, .string ⟨#[]⟩, .int .i64 0, .int .u64 0, .string ⟨#[]⟩, .slice none 0 0, .string ⟨#[]⟩, .string ⟨#[]⟩, .int .i64 0, .int .u64 0, .string ⟨#[]⟩, .string ⟨#[]⟩, .string ⟨#[]⟩, .slice none 0 0] 44) = z ∧ Hid (z.heap[w9.heap.size]? = some (.cells #[.int .i64 0, .slice none 0 0, .string ⟨#[]⟩, .string ⟨#[]⟩, .int .i64 0, .int .u64 0, .string ⟨#[]⟩, .slice none 0 0, .string ⟨#[]⟩, .string ⟨#[]⟩, .int .i64 0, .int .u64 0, .string ⟨#[]⟩, .slice none 0 0, .string ⟨#[]⟩, .string ⟨#[]⟩, .int .i64 0, .int .u64 0, .string ⟨#[]⟩, .string ⟨#[]⟩, .string ⟨#[]⟩, .slice none 0 0] 44 (0, 0))) ∧ Hid (Below w9.heap.size w9 z) := ⟨_, rfl, heap_alloc_new _ _, (Below.refl _ _).alloc (Nat.le_refl _) _⟩
    obtain ⟨w10, HST, HV10, HR10, HG10⟩ := cmd_store Vz10.out rfl ⟨k.pt, k.tc, k.pf, k.fc, At.zero⟩ (backM c)
    have HST2 : Hid ((Instr.storeAt 44 (.pointer (some ⟨w9.heap.size, 0, none⟩)) (.agg #[.int .i64 1, .slice k.pt c.ad.path.length k.tc, .string c.ad.type, .string c.ad.name, .int .i64 c.ad.key, .int .u64 c.ad.place, .string c.ad.word, .slice k.pf c.fr.path.length k.fc, .string c.fr.type, .string c.fr.name, .int .i64 c.fr.key, .int .u64 c.fr.place, .string c.fr.word, .slice none 0 0, .string ⟨#[]⟩, .string ⟨#[]⟩, .int .i64 0, .int .u64 0, .string ⟨#[]⟩, .string ⟨#[]⟩, .string ⟨#[]⟩, .slice none 0 0])).run Tryz.prog z10 = .ok () w10) := HST
    have D10 : Hid (Below w9.heap.size w9 w10) := Bz10.out.grown HG10.out Bz10.out.size (fun x hx => by injection hx with hx; omega)
    obtain ⟨y0, y1, y2, y3, y4, y5, y6, y7, y8, y9, y10, y11, y12, y13, y14, y15, y16, y17, y18, y19, y20, y21⟩ := cmd_cells (HCB.out w9 C9.out)
    obtain ⟨cs, hcs, hss⟩ := HV10.out
    obtain ⟨w11, HSU, HV11, HR11, HG11⟩ := cmd_store hcs hss ⟨k.p.pa, k.p.pc, none, 0, At.zero⟩ (backG c)
    have HSU2 : Hid ((Instr.storeAt 44 (.pointer (some ⟨w9.heap.size, 0, none⟩)) (.agg #[.int .i64 2, .slice k.p.pa c.r.a.path.length k.p.pc, .string c.r.a.type, .string c.r.a.name, .int .i64 c.r.a.key, .int .u64 c.r.a.place, .string c.r.a.word, .slice none 0 0, .string ⟨#[]⟩, .string ⟨#[]⟩, .int .i64 0, .int .u64 0, .string ⟨#[]⟩, .slice none 0 0, .string ⟨#[]⟩, .string ⟨#[]⟩, .int .i64 0, .int .u64 0, .string ⟨#[]⟩, .string ⟨#[]⟩, .string ⟨#[]⟩, .slice none 0 0])).run Tryz.prog w10 = .ok () w11) := HSU
    have D11 : Hid (Below w9.heap.size w9 w11) := D10.out.grown HG11.out D10.out.size (fun x hx => by injection hx with hx; omega)
    obtain ⟨v0, v1, v2, v3, v4, v5, v6, v7, v8, v9, v10, v11, v12, v13, v14, v15, v16, v17, v18, v19, v20, v21⟩ := cmd_cells (HCB.out w10 (HB9.out _ D10.out))
    clear HST HSU hcs hss
    have LD : Hid ((Instr.loadAt 44 (.pointer (some ⟨w9.heap.size, 0, none⟩))).run Tryz.prog w11 = .ok (.agg #[.int .i64 2, .slice k.p.pa c.r.a.path.length k.p.pc, .string c.r.a.type, .string c.r.a.name, .int .i64 c.r.a.key, .int .u64 c.r.a.place, .string c.r.a.word, .slice none 0 0, .string ⟨#[]⟩, .string ⟨#[]⟩, .int .i64 0, .int .u64 0, .string ⟨#[]⟩, .slice none 0 0, .string ⟨#[]⟩, .string ⟨#[]⟩, .int .i64 0, .int .u64 0, .string ⟨#[]⟩, .string ⟨#[]⟩, .string ⟨#[]⟩, .slice none 0 0]) w11) := cmd_load2 HR11.out
    obtain ⟨x0, x1, x2⟩ := sta_cells (HXB.out w11 D11.out)
    have HDO : Hid (Calls Tryz.prog 23 #[.agg #[.int .u64 s9.serial, .string s9.lin, .slice a9 s9.recs.length c9], .agg #[.int .i64 2, .slice k.p.pa c.r.a.path.length k.p.pc, .string c.r.a.type, .string c.r.a.name, .int .i64 c.r.a.key, .int .u64 c.r.a.place, .string c.r.a.word, .slice none 0 0, .string ⟨#[]⟩, .string ⟨#[]⟩, .int .i64 0, .int .u64 0, .string ⟨#[]⟩, .slice none 0 0, .string ⟨#[]⟩, .string ⟨#[]⟩, .int .i64 0, .int .u64 0, .string ⟨#[]⟩, .string ⟨#[]⟩, .string ⟨#[]⟩, .slice none 0 0]] w11 (EdPost s9 (backG c) w11)) := edo_any s9 a9 c9 ⟨k.p.pa, k.p.pc, none, 0, At.zero⟩ (backG c) w11 (HXR.out w11 D11.out) HD9.out.good ⟨(HCM.out w11 (HB9.out _ D11.out)).r.adr (HCM.out w11 (HB9.out _ D11.out)).s, zadr_at _, ⟨.inl rfl, .inl rfl⟩, zrec_small⟩ (HT.out w11 (HB9.out w11 D11.out)) (by have := HL9.out.2; have := HN.out; omega) (by have := HD9.out.ser HEC.out; have := HSE.out; omega)
    go_wp2_with (first | (refine wpList_store_run HSU2.out rfl _ _ rfl rfl rfl ?_) | (refine wpList_store_run HST2.out rfl _ _ rfl rfl rfl ?_) | (refine wpList_load_run LD.out rfl _ rfl rfl ?_))
    refine (Calls.mono HDO.out ?_)
    rintro z w12 hz
    obtain ⟨a12, c12, s12, rfl, HD12, HR12, HL12, hb⟩ := hz.to
    have D12 : Hid (Below w9.heap.size w9 w12) := D11.out.trans (hb.out.mono D11.out.size)
    have HS12 : Hid (s12 = ⟨s.serial + 2, s.lin, s.recs⟩) := HPL.out.2 _ HD12.out
    have he2 := HPL.out.1
    rw [he2]
    clear hz hb HDO LD x0 x1 x2 he2
    obtain ⟨z13, hz13, Vz13, Bz13, Zz13⟩ := zsta_new w12
    obtain ⟨w13, ht13⟩ : ∃ w13, (((z13.setCell ⟨w12.heap.size, 0, none⟩ (.int .u64 s12.serial)).setCell ⟨w12.heap.size, 1, none⟩ (.string s12.lin)).setCell ⟨w12.heap.size, 2, none⟩ (.slice a12 s12.recs.length c12)) = w13 := ⟨_, rfl⟩
    have Gt13 : Hid (z13.grownBy w13 (some w12.heap.size)) := by rw [← ht13]; exact (((gb_set _ _ _ _).trans (gb_set _ _ _ _)).trans (gb_set _ _ _ _))
    have V13 : Hid (w13.heap[w12.heap.size]? = some (.cells (staArr a12 c12 s12) 25 (0, 0))) := by rw [← ht13]; exact set3 (t := s12) Vz13.out
    have B13 : Hid (Below w12.heap.size w12 w13) := Bz13.out.grown Gt13.out Bz13.out.size (fun x hx => by injection hx with hx; omega)
    have fz130 := frozen_of Vz13.out 0
    have fz131 := frozen_of Vz13.out 1
    have fz132 := frozen_of Vz13.out 2
    obtain ⟨cz130, cz131, cz132⟩ := sta_cells Vz13.out
    have D13 : Hid (Below w9.heap.size w9 w13) := D12.out.trans (B13.out.mono D12.out.size)
    obtain ⟨m0, m1, m2⟩ := sta_cells V13.out
    have mf := frozen_of V13.out 0
    obtain ⟨q, hq⟩ : ∃ q : Int, (s.serial : Int) = q := ⟨_, rfl⟩
    have hwr : IntKind.u64.wrap ((s12.serial : Int) - 2) = q := by
      rw [IntKind.wrap_u64, ← hq, HS12.out]
      have := HSE.out
      show (((s.serial + 2 : Nat) : Int) - 2) % _ = _
      omega
    have HQ := Hid.out (p := Hid _) hq
    clear hq
    obtain ⟨w14, hw14⟩ : ∃ w14, w13.setCell ⟨w12.heap.size, 0, none⟩ (.int .u64 q) = w14 := ⟨_, rfl⟩
    have V14 : Hid (w14.heap[w12.heap.size]? = some (.cells #[.int .u64 q, .string s12.lin, .slice a12 s12.recs.length c12] 25 (0, 0))) := by rw [← hw14, Hid, heap_set_same V13.out]; rfl
    have G14 : Hid (w13.grownBy w14 (some w12.heap.size)) := by rw [← hw14]; exact gb_set _ _ _ _
    have E14 : Hid (Below w12.heap.size w12 w14) := B13.out.grown G14.out B13.out.size (fun x hx => by injection hx with hx; omega)
    have D14 : Hid (Below w9.heap.size w9 w14) := D12.out.trans (E14.out.mono D12.out.size)
    have n0 : w14.cell? ⟨w12.heap.size, 0, none⟩ = some (.int .u64 q) := cell_of V14.out 0
    have n1 : w14.cell? ⟨w12.heap.size, 1, none⟩ = some (.string s12.lin) := cell_of V14.out 1
    have n2 : w14.cell? ⟨w12.heap.size, 2, none⟩ = some (.slice a12 s12.recs.length c12) := cell_of V14.out 2
    obtain ⟨x0, x1, x2⟩ := sta_cells (HSB.out w14 (HB9.out _ D14.out))
    have HSM : Hid (Calls Tryz.prog 18 #[.agg #[.int .u64 q, .string s12.lin, .slice a12 s12.recs.length c12], .agg #[.int .u64 s.serial, .string s.lin, .slice ra s.recs.length rc]] w14 fun e w' => e = .returned (.bool true) ∧ Below w14.heap.size w14 w') := by
      rw [← HQ.out]
      exact (sm_ok ⟨s.serial, s12.lin, s12.recs⟩ s a12 ra c12 rc w14 (HR12.out.stays E14.out) (HR.out _ (HB9.out _ D14.out)) true ((sameSta_iff _ _).2 (by rw [HS12.out]))).out
    go_wp2_with fail
    refine (Calls.mono HSM.out ?_)
    rintro z w15 ⟨rfl, hb⟩
    have D15 : Hid (Below w9.heap.size w9 w15) := D14.out.trans (hb.mono D14.out.size)
    clear hb
    go_wp2_with fail
    go_ret
    exact ⟨rfl, HBW.out _ (HB9.out _ D15.out)⟩
theorem editBack_arg (v : Value) (s : Sta) (u : Value) (c : Cmd) (w : World) (h : StaArg w v s) (h' : CmdArg w u c) (T : TabsA w) :
    Calls Tryz.prog 7 #[v, u] w fun e w' => e = .returned (.bool true) ∧ Below w.heap.size w w' := by
  obtain ⟨ra, rc, rfl, h1, h2, h3, _⟩ := h
  obtain ⟨k, rfl, h4⟩ := h'
  exact editBack_any s ra rc k c w T h1 h2 h4 h3
end Go.Proofs.YtehghladpnpcoaaGreatDoor.State.Edit
