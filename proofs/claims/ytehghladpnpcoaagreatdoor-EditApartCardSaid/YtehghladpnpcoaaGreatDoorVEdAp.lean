/- tabulariumlaw26.EditApart. -/
import Derived.Test.YtehghladpnpcoaaGreatDoorVEdO
import Derived.Test.YtehghladpnpcoaaGreatDoorVEdG
namespace Go.Proofs.YtehghladpnpcoaaGreatDoor.State.Edit
open Go.RowKit Go.Shelf Go.Proofs.YtehghladpnpcoaaGreatDoor.Utf Go.Proofs.YtehghladpnpcoaaGreatDoor.Strs Go.Proofs.YtehghladpnpcoaaGreatDoor.Addr Go.Proofs.YtehghladpnpcoaaGreatDoor.State
open Go.Proofs.YtehghladpnpcoaaGreatDoor.Jdec (IsTexts Turn infoStr gb_set gb_below gb_refl)
set_option linter.unusedVariables false
set_option linter.unusedSimpArgs false
set_option maxRecDepth 100000

theorem set6a {w : World} {b : Nat} {T : TypeId} (h : w.heap[b]? = some (.cells #[.slice none 0 0, .string ⟨#[]⟩, .string ⟨#[]⟩, .int .i64 0, .int .u64 0, .string ⟨#[]⟩] T (0, 0))) :
    ((((((w.setCell ⟨b, 0, none⟩ (.slice none 0 0)).setCell ⟨b, 1, none⟩ (.string ⟨#[120]⟩)).setCell ⟨b, 2, none⟩ (.string ⟨#[121]⟩)).setCell ⟨b, 3, none⟩ (.int .i64 0)).setCell ⟨b, 4, none⟩ (.int .u64 0)).setCell ⟨b, 5, none⟩ (.string ⟨#[]⟩)).heap[b]? = some (.cells #[.slice none 0 0, .string ⟨#[120]⟩, .string ⟨#[121]⟩, .int .i64 0, .int .u64 0, .string ⟨#[]⟩] T (0, 0)) := by
  have h0 := heap_set_same h (i := 0) (.slice none 0 0)
  have h1 := heap_set_same h0 (i := 1) (.string ⟨#[120]⟩)
  have h2 := heap_set_same h1 (i := 2) (.string ⟨#[121]⟩)
  have h3 := heap_set_same h2 (i := 3) (.int .i64 0)
  have h4 := heap_set_same h3 (i := 4) (.int .u64 0)
  have h5 := heap_set_same h4 (i := 5) (.string ⟨#[]⟩)
  rw [h5]
  simp
def wakeC : Cmd := ⟨1, wakeR.a, wakeR.a, Rec.zero⟩
def wakeK : CAt := ⟨none, 0, none, 0, At.zero⟩
theorem wake_at (w : World) : CmdAt w wakeK wakeC := ⟨⟨.inl rfl, by decide, (fun x h => by cases h), by decide, by decide, by decide, by decide⟩, ⟨.inl rfl, by decide, (fun x h => by cases h), by decide, by decide, by decide, by decide⟩, ⟨.inl rfl, .inl rfl⟩, zrec_small⟩
theorem wake_one : errC ⟨0, ⟨#[]⟩, [wakeR]⟩ wakeC = 11 := by kernel_rfl
theorem wake_none : errC ⟨0, ⟨#[]⟩, []⟩ wakeC = 12 := by kernel_rfl
theorem EdPost.to {s : Sta} {c : Cmd} {w w' : World} {e : Ending} (h : EdPost s c w e w') : ∃ a c' s', e = .returned (.tuple #[.agg #[.int .u64 s'.serial, .string s'.lin, .slice a s'.recs.length c'], .int .i64 (errC s c)]) ∧ Hid (Done s c s') ∧ Hid (RecsAt w' a s'.recs) ∧ Hid (s'.recs.length ≤ c' ∧ s'.recs.length ≤ s.recs.length + 1) ∧ Hid (Below w.heap.size w w') := h
set_option maxHeartbeats 16000000 in
theorem wakes26 (w : World) (T : TabsA w) : Hid (Calls Tryz.prog 21 #[] w fun e w' => e = .returned (.bool true) ∧ Below w.heap.size w w') := by
  show Calls _ _ _ _ _
  obtain ⟨z1, hz1, Vz1, Bz1⟩ : ∃ z1, w.alloc (.cells #[.slice none 0 0, .string ⟨#[]⟩, .string ⟨#[]⟩, .int .i64 0, .int .u64 0, .string ⟨#[]⟩] 35) = z1 ∧ Hid (z1.heap[w.heap.size]? = some (.cells #[.slice none 0 0, .string ⟨#[]⟩, .string ⟨#[]⟩, .int .i64 0, .int .u64 0, .string ⟨#[]⟩] 35 (0, 0))) ∧ Hid (Below w.heap.size w z1) := ⟨_, rfl, heap_alloc_new _ _, (Below.refl _ _).alloc (Nat.le_refl _) _⟩
  obtain ⟨w1, ht1⟩ : ∃ w1, ((((((z1.setCell ⟨w.heap.size, 0, none⟩ (.slice none 0 0)).setCell ⟨w.heap.size, 1, none⟩ (.string ⟨#[120]⟩)).setCell ⟨w.heap.size, 2, none⟩ (.string ⟨#[121]⟩)).setCell ⟨w.heap.size, 3, none⟩ (.int .i64 0)).setCell ⟨w.heap.size, 4, none⟩ (.int .u64 0)).setCell ⟨w.heap.size, 5, none⟩ (.string ⟨#[]⟩)) = w1 := ⟨_, rfl⟩
  have Gt1 : Hid (z1.grownBy w1 (some w.heap.size)) := by rw [← ht1]; exact gb6 _ _ _ _ _ _ _ _
  have V1 : Hid (w1.heap[w.heap.size]? = some (.cells #[.slice none 0 0, .string ⟨#[120]⟩, .string ⟨#[121]⟩, .int .i64 0, .int .u64 0, .string ⟨#[]⟩] 35 (0, 0))) := by rw [← ht1]; exact set6a Vz1.out
  have B1 : Hid (Below w.heap.size w w1) := Bz1.out.grown Gt1.out Bz1.out.size (fun x hx => by injection hx with hx; omega)
  have fz10 := frozen_of Vz1.out 0
  have cz10 : z1.cell? ⟨w.heap.size, 0, none⟩ = some (.slice none 0 0) := cell_of Vz1.out 0
  have fz11 := frozen_of Vz1.out 1
  have cz11 : z1.cell? ⟨w.heap.size, 1, none⟩ = some (.string ⟨#[]⟩) := cell_of Vz1.out 1
  have fz12 := frozen_of Vz1.out 2
  have cz12 : z1.cell? ⟨w.heap.size, 2, none⟩ = some (.string ⟨#[]⟩) := cell_of Vz1.out 2
  have fz13 := frozen_of Vz1.out 3
  have cz13 : z1.cell? ⟨w.heap.size, 3, none⟩ = some (.int .i64 0) := cell_of Vz1.out 3
  have fz14 := frozen_of Vz1.out 4
  have cz14 : z1.cell? ⟨w.heap.size, 4, none⟩ = some (.int .u64 0) := cell_of Vz1.out 4
  have fz15 := frozen_of Vz1.out 5
  have cz15 : z1.cell? ⟨w.heap.size, 5, none⟩ = some (.string ⟨#[]⟩) := cell_of Vz1.out 5
  obtain ⟨w2, hw2, V2, B2⟩ : ∃ z1, w1.alloc (.cells #[.slice none 0 0, .string ⟨#[120]⟩, .string ⟨#[121]⟩, .int .i64 0, .int .u64 0, .string ⟨#[]⟩, .string ⟨#[]⟩, .string ⟨#[]⟩, .slice none 0 0] 38) = z1 ∧ Hid (z1.heap[w1.heap.size]? = some (.cells (recArr At.zero wakeR) 38 (0, 0))) ∧ Hid (Below w1.heap.size w1 z1) := ⟨_, rfl, heap_alloc_new _ _, (Below.refl _ _).alloc (Nat.le_refl _) _⟩
  obtain ⟨z3, hz3, Vz3, Bz3, Zz3⟩ := zsta_new w2
  obtain ⟨w3, ht3⟩ : ∃ w3, (((z3.setCell ⟨w2.heap.size, 0, none⟩ (.int .u64 0)).setCell ⟨w2.heap.size, 1, none⟩ (.string ⟨#[]⟩)).setCell ⟨w2.heap.size, 2, none⟩ (.slice (some ⟨w1.heap.size, 0, none⟩) 1 1)) = w3 := ⟨_, rfl⟩
  have Gt3 : Hid (z3.grownBy w3 (some w2.heap.size)) := by rw [← ht3]; exact (((gb_set _ _ _ _).trans (gb_set _ _ _ _)).trans (gb_set _ _ _ _))
  have V3 : Hid (w3.heap[w2.heap.size]? = some (.cells (staArr (some ⟨w1.heap.size, 0, none⟩) 1 ⟨0, ⟨#[]⟩, [wakeR]⟩) 25 (0, 0))) := by rw [← ht3]; exact set3 (t := ⟨0, ⟨#[]⟩, [wakeR]⟩) Vz3.out
  have B3 : Hid (Below w2.heap.size w2 w3) := Bz3.out.grown Gt3.out Bz3.out.size (fun x hx => by injection hx with hx; omega)
  have fz30 := frozen_of Vz3.out 0
  have fz31 := frozen_of Vz3.out 1
  have fz32 := frozen_of Vz3.out 2
  obtain ⟨cz30, cz31, cz32⟩ := sta_cells Vz3.out
  have s1 := B1.out.size
  have s2 := B2.out.size
  have HB3 : Hid (Below w.heap.size w w3) := (B1.out.trans (B2.out.mono s1)).trans (B3.out.mono (by omega))
  have HRW : Hid (RecsAt w3 (some ⟨w1.heap.size, 0, none⟩) [wakeR]) := (one_rec V2.out ⟨.inl rfl, .inl rfl⟩ wakeR_small).stays B3.out
  have HT : Hid (∀ W, Below w.heap.size w W → TabsA W) := fun W hb => T.stays hb
  have HAB : Hid (∀ W, Below w3.heap.size w3 W → W.heap[w.heap.size]? = some (.cells #[.slice none 0 0, .string ⟨#[120]⟩, .string ⟨#[121]⟩, .int .i64 0, .int .u64 0, .string ⟨#[]⟩] 35 (0, 0))) := fun W hb => (hb.block _ (by have := heap_lt V1.out; have := B3.out.size; omega)).trans ((B3.out.block _ (by have := heap_lt V1.out; omega)).trans ((B2.out.block _ (heap_lt V1.out)).trans V1.out))
  have HD1 : Hid (Calls Tryz.prog 23 #[.agg #[.int .u64 0, .string ⟨#[]⟩, .slice (some ⟨w1.heap.size, 0, none⟩) 1 1], .agg #[.int .i64 1, .slice none 0 0, .string ⟨#[120]⟩, .string ⟨#[121]⟩, .int .i64 0, .int .u64 0, .string ⟨#[]⟩, .slice none 0 0, .string ⟨#[120]⟩, .string ⟨#[121]⟩, .int .i64 0, .int .u64 0, .string ⟨#[]⟩, .slice none 0 0, .string ⟨#[]⟩, .string ⟨#[]⟩, .int .i64 0, .int .u64 0, .string ⟨#[]⟩, .string ⟨#[]⟩, .string ⟨#[]⟩, .slice none 0 0]] w3 (EdPost ⟨0, ⟨#[]⟩, [wakeR]⟩ wakeC w3)) := edo_any ⟨0, ⟨#[]⟩, [wakeR]⟩ (some ⟨w1.heap.size, 0, none⟩) 1 wakeK wakeC w3 HRW.out wakeR_good (wake_at w3) (HT.out w3 HB3.out) (by decide) (by decide)
  have HD2 : Hid (∀ W, Below w.heap.size w W → Calls Tryz.prog 23 #[.agg #[.int .u64 0, .string ⟨#[]⟩, .slice none 0 0], .agg #[.int .i64 1, .slice none 0 0, .string ⟨#[120]⟩, .string ⟨#[121]⟩, .int .i64 0, .int .u64 0, .string ⟨#[]⟩, .slice none 0 0, .string ⟨#[120]⟩, .string ⟨#[121]⟩, .int .i64 0, .int .u64 0, .string ⟨#[]⟩, .slice none 0 0, .string ⟨#[]⟩, .string ⟨#[]⟩, .int .i64 0, .int .u64 0, .string ⟨#[]⟩, .string ⟨#[]⟩, .string ⟨#[]⟩, .slice none 0 0]] W (EdPost ⟨0, ⟨#[]⟩, []⟩ wakeC W)) := fun W hb => (edo_any ⟨0, ⟨#[]⟩, []⟩ none 0 wakeK wakeC W (RecsAt.nil _ _) Good.nil (wake_at W) (HT.out W hb) (by decide) (by decide)).out
  have ea0 : w1.cell? ⟨w.heap.size, 0, none⟩ = some (.slice none 0 0) := cell_of V1.out 0
  have ec0 : w3.cell? ⟨w.heap.size, 0, none⟩ = some (.slice none 0 0) := cell_of (HAB.out w3 (Below.refl _ _)) 0
  have ea1 : w1.cell? ⟨w.heap.size, 1, none⟩ = some (.string ⟨#[120]⟩) := cell_of V1.out 1
  have ec1 : w3.cell? ⟨w.heap.size, 1, none⟩ = some (.string ⟨#[120]⟩) := cell_of (HAB.out w3 (Below.refl _ _)) 1
  have ea2 : w1.cell? ⟨w.heap.size, 2, none⟩ = some (.string ⟨#[121]⟩) := cell_of V1.out 2
  have ec2 : w3.cell? ⟨w.heap.size, 2, none⟩ = some (.string ⟨#[121]⟩) := cell_of (HAB.out w3 (Below.refl _ _)) 2
  have ea3 : w1.cell? ⟨w.heap.size, 3, none⟩ = some (.int .i64 0) := cell_of V1.out 3
  have ec3 : w3.cell? ⟨w.heap.size, 3, none⟩ = some (.int .i64 0) := cell_of (HAB.out w3 (Below.refl _ _)) 3
  have ea4 : w1.cell? ⟨w.heap.size, 4, none⟩ = some (.int .u64 0) := cell_of V1.out 4
  have ec4 : w3.cell? ⟨w.heap.size, 4, none⟩ = some (.int .u64 0) := cell_of (HAB.out w3 (Below.refl _ _)) 4
  have ea5 : w1.cell? ⟨w.heap.size, 5, none⟩ = some (.string ⟨#[]⟩) := cell_of V1.out 5
  have ec5 : w3.cell? ⟨w.heap.size, 5, none⟩ = some (.string ⟨#[]⟩) := cell_of (HAB.out w3 (Below.refl _ _)) 5
  have eb0 : w3.cell? ⟨w2.heap.size, 0, none⟩ = some (.int .u64 0) := cell_of V3.out 0
  have eb1 : w3.cell? ⟨w2.heap.size, 1, none⟩ = some (.string ⟨#[]⟩) := cell_of V3.out 1
  have eb2 : w3.cell? ⟨w2.heap.size, 2, none⟩ = some (.slice (some ⟨w1.heap.size, 0, none⟩) 1 1) := cell_of V3.out 2
  clear T s1 s2
  go_enter Tryz.func21, Tryz.ntmps21
  go_wp2_with fail
  refine (Calls.mono HD1.out ?_)
  rintro z w4 hz
  obtain ⟨a1, c1, s1, rfl, _, _, _, hb4⟩ := hz.to
  rw [wake_one]
  have C4 : Hid (Below w3.heap.size w3 w4) := hb4.out
  clear ea0 ec0 ea1 ec1 ea2 ec2 ea3 ec3 ea4 ec4 ea5 ec5 eb0 eb1 eb2 hz hb4 hw2 hz1 ht1 hz3 ht3 HD1
  obtain ⟨z5, hz5, Vz5, Bz5, Zz5⟩ := zsta_new w4
  obtain ⟨w5, ht5⟩ : ∃ w5, (((z5.setCell ⟨w4.heap.size, 0, none⟩ (.int .u64 s1.serial)).setCell ⟨w4.heap.size, 1, none⟩ (.string s1.lin)).setCell ⟨w4.heap.size, 2, none⟩ (.slice a1 s1.recs.length c1)) = w5 := ⟨_, rfl⟩
  have Gt5 : Hid (z5.grownBy w5 (some w4.heap.size)) := by rw [← ht5]; exact (((gb_set _ _ _ _).trans (gb_set _ _ _ _)).trans (gb_set _ _ _ _))
  have V5 : Hid (w5.heap[w4.heap.size]? = some (.cells (staArr a1 c1 s1) 25 (0, 0))) := by rw [← ht5]; exact set3 (t := s1) Vz5.out
  have B5 : Hid (Below w4.heap.size w4 w5) := Bz5.out.grown Gt5.out Bz5.out.size (fun x hx => by injection hx with hx; omega)
  have fz50 := frozen_of Vz5.out 0
  have fz51 := frozen_of Vz5.out 1
  have fz52 := frozen_of Vz5.out 2
  obtain ⟨cz50, cz51, cz52⟩ := sta_cells Vz5.out
  have C5 : Hid (Below w3.heap.size w3 w5) := C4.out.trans (B5.out.mono C4.out.size)
  have C05 : Hid (Below w.heap.size w w5) := HB3.out.trans (C5.out.mono HB3.out.size)
  have e0 : w5.cell? ⟨w.heap.size, 0, none⟩ = some (.slice none 0 0) := cell_of (HAB.out w5 C5.out) 0
  have e1 : w5.cell? ⟨w.heap.size, 1, none⟩ = some (.string ⟨#[120]⟩) := cell_of (HAB.out w5 C5.out) 1
  have e2 : w5.cell? ⟨w.heap.size, 2, none⟩ = some (.string ⟨#[121]⟩) := cell_of (HAB.out w5 C5.out) 2
  have e3 : w5.cell? ⟨w.heap.size, 3, none⟩ = some (.int .i64 0) := cell_of (HAB.out w5 C5.out) 3
  have e4 : w5.cell? ⟨w.heap.size, 4, none⟩ = some (.int .u64 0) := cell_of (HAB.out w5 C5.out) 4
  have e5 : w5.cell? ⟨w.heap.size, 5, none⟩ = some (.string ⟨#[]⟩) := cell_of (HAB.out w5 C5.out) 5
  go_wp2_with fail
  refine (Calls.mono (HD2.out w5 C05.out) ?_)
  rintro z w6 hz
  obtain ⟨a2, c2, s2, rfl, _, _, _, hb6⟩ := hz.to
  rw [wake_none]
  have C06 : Hid (Below w.heap.size w w6) := C05.out.trans (hb6.out.mono C05.out.size)
  clear hz hb6 hz5 ht5 e0 e1 e2 e3 e4 e5
  obtain ⟨z7, hz7, Vz7, Bz7, Zz7⟩ := zsta_new w6
  obtain ⟨w7, ht7⟩ : ∃ w7, (((z7.setCell ⟨w6.heap.size, 0, none⟩ (.int .u64 s2.serial)).setCell ⟨w6.heap.size, 1, none⟩ (.string s2.lin)).setCell ⟨w6.heap.size, 2, none⟩ (.slice a2 s2.recs.length c2)) = w7 := ⟨_, rfl⟩
  have Gt7 : Hid (z7.grownBy w7 (some w6.heap.size)) := by rw [← ht7]; exact (((gb_set _ _ _ _).trans (gb_set _ _ _ _)).trans (gb_set _ _ _ _))
  have V7 : Hid (w7.heap[w6.heap.size]? = some (.cells (staArr a2 c2 s2) 25 (0, 0))) := by rw [← ht7]; exact set3 (t := s2) Vz7.out
  have B7 : Hid (Below w6.heap.size w6 w7) := Bz7.out.grown Gt7.out Bz7.out.size (fun x hx => by injection hx with hx; omega)
  have fz70 := frozen_of Vz7.out 0
  have fz71 := frozen_of Vz7.out 1
  have fz72 := frozen_of Vz7.out 2
  obtain ⟨cz70, cz71, cz72⟩ := sta_cells Vz7.out
  have C07 : Hid (Below w.heap.size w w7) := C06.out.trans (B7.out.mono C06.out.size)
  go_wp2_with fail
  go_ret
  exact ⟨rfl, C07.out⟩
theorem exec_load {P : Program} {op : Oper} {ρ : Operand → Value} {w : World} {ty : TypeId} {x : Operand} (ho : op.op = .load ty x) {p V : Value} (hx : ρ x = p) (h : (Instr.loadAt ty p).run P w = .ok V w) : (execOp ρ op).run P w = .ok (.value V) w := by
  unfold execOp
  simp only [ho, hx, Sem.run_bind, h, Result.andThen_ok]
  rfl
theorem infoSta : (Tryz.prog.info? 25).map (·.size) = some 3 := by kernel_rfl
theorem sta_load {w : World} {b : Nat} {ra : Option Addr} {rc : Nat} {s : Sta} (h : w.heap[b]? = some (.cells (staArr ra rc s) 25 (0, 0))) :
    Hid ((Instr.loadAt 25 (.pointer (some ⟨b, 0, none⟩))).run Tryz.prog w = .ok (.agg #[.int .u64 s.serial, .string s.lin, .slice ra s.recs.length rc]) w) :=
  run_loadAt_mid (P := Tryz.prog) w b 0 25 (staArr ra rc s).toList _ (fun j v hv => by rw [Nat.zero_add, cell_of h j]; simpa using hv) Tryz.underlying25 rfl infoSta
theorem GcPost.to {l : List Cmd} {w w' : World} {e : Ending} (h : GcPost l w e w') : ∃ g : Bool, e = .returned (.bool g) ∧ Hid (g = false → l.length ≤ 20 ∧ ∀ c ∈ l, Fit c) ∧ Hid (Below w.heap.size w w') := h
end Go.Proofs.YtehghladpnpcoaaGreatDoor.State.Edit
namespace Go.Proofs.YtehghladpnpcoaaGreatDoor.State.Edit
open Go.RowKit Go.Shelf Go.Proofs.YtehghladpnpcoaaGreatDoor.Utf Go.Proofs.YtehghladpnpcoaaGreatDoor.Strs Go.Proofs.YtehghladpnpcoaaGreatDoor.Addr Go.Proofs.YtehghladpnpcoaaGreatDoor.State
open Go.Proofs.YtehghladpnpcoaaGreatDoor.Jdec (IsTexts Turn infoStr gb_set gb_below gb_refl)
set_option linter.unusedVariables false
set_option linter.unusedSimpArgs false
set_option maxRecDepth 100000

def backM (c : Cmd) : Cmd := ⟨1, c.ad, c.fr, Rec.zero⟩
def backG (c : Cmd) : Cmd := ⟨2, c.r.a, zeroA, Rec.zero⟩
theorem zadr_at (w : World) : AdrAt w none zeroA := ⟨.inl rfl, by decide, (fun x h => by cases h), by decide, by decide, by decide, by decide⟩
theorem noR_zero : noR Rec.zero = true := by kernel_rfl
theorem noA_zero : noA zeroA = true := by kernel_rfl
theorem moved_back {r : Rec} {a b : Adr} (h : r.a = b) : moved (moved r a) b = r := by
  subst h; rfl
theorem back_move {s s1 : Sta} {c : Cmd} (hg : Good s.recs) (h : Done s c s1) (he : errC s c = 0) (kk : c.kind = 1) (hs : s.serial < 18446744073709551614) :
    errC s1 (backM c) = 0 ∧ ∀ s2, Done s1 (backM c) s2 → s2 = ⟨s.serial + 2, s.lin, s.recs⟩ := by
  have ho := err_okay.1 he
  obtain ⟨r, hr, hra⟩ := ho.f (by rw [kk]; decide)
  have hm : ∀ x, x ∈ s1.recs ↔ (x ∈ s.recs ∧ x.a ≠ c.fr) ∨ ∃ r ∈ s.recs, r.a = c.fr ∧ x = moved r c.ad := fun x => by rw [h.mem he, memC, if_pos kk]
  have hne : c.ad ≠ c.fr := fun e => ho.t kk r hr (hra.trans e.symm)
  have hR : rightA c.fr = true ∧ rightA c.ad = true := by
    rcases rightC_cases ho.r with h1 | h1 | h1
    · exact ⟨h1.2.1, h1.2.2.1⟩
    · rw [kk] at h1; exact absurd h1.1 (by decide)
    · rw [kk] at h1; exact absurd h1.1 (by decide)
  have h0 : errC s1 (backM c) = 0 := by
    refine err_okay.2 ⟨?_, fun _ => ⟨moved r c.ad, (hm _).2 (.inr ⟨r, hr, hra, rfl⟩), rfl⟩, fun _ x hx e => ?_, fun hk => absurd hk (by show (1 : Int) ≠ 3; decide), by rw [h.ser he]; omega⟩
    · show rightC ⟨1, c.ad, c.fr, Rec.zero⟩ = true
      rw [rightC, if_pos rfl, hR.1, hR.2, noR_zero]; rfl
    · have e2 : x.a = c.fr := e
      rcases (hm x).1 hx with h1 | ⟨r2, _, _, rfl⟩
      · exact h1.2 e2
      · exact hne e2
  refine ⟨h0, fun s2 h2 => ?_⟩
  have h3 : s2.recs = s.recs := good_ext h2.good.o hg.o fun x => by
    rw [h2.mem h0, memC, if_pos (show (backM c).kind = 1 from rfl)]
    show (x ∈ s1.recs ∧ x.a ≠ c.ad) ∨ (∃ r' ∈ s1.recs, r'.a = c.ad ∧ x = moved r' c.fr) ↔ x ∈ s.recs
    constructor
    · rintro (⟨hx, hn⟩ | ⟨r', hr', e1, rfl⟩)
      · rcases (hm x).1 hx with h1 | ⟨r2, _, _, rfl⟩
        · exact h1.1
        · exact absurd rfl hn
      · rcases (hm r').1 hr' with h1 | ⟨r2, hr2, e2, rfl⟩
        · exact absurd e1 (ho.t kk r' h1.1)
        · rw [moved_back e2]; exact hr2
    · intro hx
      by_cases e : x.a = c.fr
      · exact .inr ⟨moved x c.ad, (hm _).2 (.inr ⟨x, hx, e, rfl⟩), rfl, (moved_back e).symm⟩
      · exact .inl ⟨(hm x).2 (.inl ⟨hx, e⟩), ho.t kk x hx⟩
  have h4 := h2.ser h0
  have h5 := h.ser he
  have h6 := h2.lin.trans h.lin
  cases s2
  simp only at h3 h4 h6
  rw [h3, h4, h5, h6]
theorem back_gain {s s1 : Sta} {c : Cmd} (hg : Good s.recs) (h : Done s c s1) (he : errC s c = 0) (kk : c.kind = 3) (hs : s.serial < 18446744073709551614) :
    errC s1 (backG c) = 0 ∧ ∀ s2, Done s1 (backG c) s2 → s2 = ⟨s.serial + 2, s.lin, s.recs⟩ := by
  have ho := err_okay.1 he
  have hm : ∀ x, x ∈ s1.recs ↔ x ∈ s.recs ∨ x = c.r := fun x => by rw [h.mem he, memC, if_neg (by rw [kk]; decide), if_neg (by rw [kk]; decide)]
  have hR : recB c.r = true := by
    rcases rightC_cases ho.r with h1 | h1 | h1
    · rw [kk] at h1; exact absurd h1.1 (by decide)
    · rw [kk] at h1; exact absurd h1.1 (by decide)
    · exact h1.2.1
  have h0 : errC s1 (backG c) = 0 := by
    refine err_okay.2 ⟨?_, fun _ => ⟨c.r, (hm _).2 (.inr rfl), rfl⟩, fun hk => absurd hk (by show (2 : Int) ≠ 1; decide), fun hk => absurd hk (by show (2 : Int) ≠ 3; decide), by rw [h.ser he]; omega⟩
    show rightC ⟨2, c.r.a, zeroA, Rec.zero⟩ = true
    rw [rightC, if_neg (show ¬ (2 : Int) = 1 by decide), if_pos rfl, recB_right hR, noA_zero, noR_zero]; rfl
  refine ⟨h0, fun s2 h2 => ?_⟩
  have h3 : s2.recs = s.recs := good_ext h2.good.o hg.o fun x => by
    rw [h2.mem h0, memC, if_neg (show ¬ (backG c).kind = 1 by show ¬ (2 : Int) = 1; decide), if_pos (show (backG c).kind = 2 from rfl)]
    show (x ∈ s1.recs ∧ x.a ≠ c.r.a) ↔ x ∈ s.recs
    rw [hm]
    constructor
    · rintro ⟨h1 | rfl, hn⟩
      · exact h1
      · exact absurd rfl hn
    · exact fun hx => ⟨.inl hx, ho.g kk x hx⟩
  have h4 := h2.ser h0
  have h5 := h.ser he
  have h6 := h2.lin.trans h.lin
  cases s2
  simp only at h3 h4 h6
  rw [h3, h4, h5, h6]
/-! ## A command stored -/
theorem cells_set (b : Nat) : ∀ (vs : List Value) (o : Nat) (w : World) (cs : Array Value) (T : TypeId) (fr : Nat × Nat), w.heap[b]? = some (.cells cs T fr) → ∃ cs', (w.setCells b o vs).heap[b]? = some (.cells cs' T fr) ∧ cs'.size = cs.size
  | [], o, w, cs, T, fr, h => ⟨cs, h, rfl⟩
  | v :: vs, o, w, cs, T, fr, h => by
    obtain ⟨cs', h1, h2⟩ := cells_set b vs (o + 1) (w.setCell ⟨b, o, none⟩ v) _ T fr (heap_set_same h (i := o) v)
    exact ⟨cs', h1, by rw [h2]; simp⟩
theorem gb_cells (b : Nat) : ∀ (vs : List Value) (o : Nat) (w : World), w.grownBy (w.setCells b o vs) (some b)
  | [], o, w => gb_refl _ _
  | v :: vs, o, w => (gb_set w b o v).trans (gb_cells b vs (o + 1) (w.setCell ⟨b, o, none⟩ v))
theorem cmd_store {w : World} {b : Nat} {cs0 : Array Value} (h : w.heap[b]? = some (.cells cs0 44 (0, 0))) (hs : cs0.size = 22) (k : CAt) (c : Cmd) :
    ∃ w', Hid ((Instr.storeAt 44 (.pointer (some ⟨b, 0, none⟩)) (.agg #[.int .i64 c.kind, .slice k.pf c.fr.path.length k.fc, .string c.fr.type, .string c.fr.name, .int .i64 c.fr.key, .int .u64 c.fr.place, .string c.fr.word, .slice k.pt c.ad.path.length k.tc, .string c.ad.type, .string c.ad.name, .int .i64 c.ad.key, .int .u64 c.ad.place, .string c.ad.word, .slice k.p.pa c.r.a.path.length k.p.pc, .string c.r.a.type, .string c.r.a.name, .int .i64 c.r.a.key, .int .u64 c.r.a.place, .string c.r.a.word, .string c.r.prov, .string c.r.id, .slice k.p.ta c.r.attrs.length k.p.tc])).run Tryz.prog w = .ok () w') ∧ Hid (∃ cs, w'.heap[b]? = some (.cells cs 44 (0, 0)) ∧ cs.size = 22) ∧ Hid (w'.rangeAt b 0 (cmdArr k c).toList) ∧ Hid (w.grownBy w' (some b)) := by
  have ht : w.there b 0 (cmdArr k c).size := fun j hj => by
    have hj2 : j < cs0.size := by rw [hs]; exact hj
    rw [Nat.zero_add]
    exact ⟨by rw [cell_of h j, Array.getElem?_eq_getElem hj2]; rfl, frozen_of h j⟩
  have hr := run_storeAt_mid (P := Tryz.prog) w b 0 44 (cmdArr k c) ht infoCmd (by simp [cmdArr, Value.oneCell'])
  obtain ⟨cs, h1, h2⟩ := cells_set b (cmdArr k c).toList 0 w cs0 _ _ h
  exact ⟨_, hr, ⟨cs, h1, h2.trans hs⟩, World.rangeAt_setCells_same w b 0 (cmdArr k c).toList ht, gb_cells b _ 0 w⟩
theorem cmd_load2 {w : World} {b : Nat} {k : CAt} {c : Cmd} (h : w.rangeAt b 0 (cmdArr k c).toList) :
    Hid ((Instr.loadAt 44 (.pointer (some ⟨b, 0, none⟩))).run Tryz.prog w = .ok (.agg #[.int .i64 c.kind, .slice k.pf c.fr.path.length k.fc, .string c.fr.type, .string c.fr.name, .int .i64 c.fr.key, .int .u64 c.fr.place, .string c.fr.word, .slice k.pt c.ad.path.length k.tc, .string c.ad.type, .string c.ad.name, .int .i64 c.ad.key, .int .u64 c.ad.place, .string c.ad.word, .slice k.p.pa c.r.a.path.length k.p.pc, .string c.r.a.type, .string c.r.a.name, .int .i64 c.r.a.key, .int .u64 c.r.a.place, .string c.r.a.word, .string c.r.prov, .string c.r.id, .slice k.p.ta c.r.attrs.length k.p.tc]) w) :=
  run_loadAt_mid (P := Tryz.prog) w b 0 44 (cmdArr k c).toList _ h Tryz.underlying44 rfl infoCmd
theorem wpList_store_run {P : Program} {w w' : World} {ops : Array Oper} {rest : List Oper} {o : Oper} {a : Act} {Q : Exit → Act → World → Prop} {t : TypeId} {p V : Value} (hr : (Instr.storeAt t p V).run P w = .ok () w') (hw : Region.wanted o (yielded ops a.tmps) = true) (x y : Operand)
    (ho : o.op = .store t x y) (hx : a.eval x = p) (hy : a.eval y = V) (h : wpList P ops Q rest (a.put o.dst undef) w') : wpList P ops Q (o :: rest) a w := by
  unfold wpList
  rw [if_pos hw]
  refine .inl ?_
  unfold Oper.wp execOp
  simp only [ho, hx, hy, Sem.run_bind, hr, Result.andThen_ok]
  exact h
end Go.Proofs.YtehghladpnpcoaaGreatDoor.State.Edit
namespace Go.Proofs.YtehghladpnpcoaaGreatDoor.State.Edit
open Go.RowKit Go.Shelf Go.Proofs.YtehghladpnpcoaaGreatDoor.Utf Go.Proofs.YtehghladpnpcoaaGreatDoor.Strs Go.Proofs.YtehghladpnpcoaaGreatDoor.Addr Go.Proofs.YtehghladpnpcoaaGreatDoor.State
open Go.Proofs.YtehghladpnpcoaaGreatDoor.Jdec (IsTexts Turn infoStr gb_set gb_below gb_refl)
set_option linter.unusedVariables false
set_option linter.unusedSimpArgs false
set_option maxRecDepth 100000

/-- Commands, the last one first: what they leave and tell. -/
def ChainR (s : Sta) : List Cmd → Sta → List Int → Prop
  | [], s', es => s' = s ∧ es = []
  | c :: l, s', es => ∃ s1 es1, ChainR s l s1 es1 ∧ Done s1 c s' ∧ es = es1 ++ [errC s1 c]
theorem ChainR.uniq {s : Sta} : ∀ (l : List Cmd) {s1 s2 : Sta} {e1 e2 : List Int}, ChainR s l s1 e1 → ChainR s l s2 e2 → s1 = s2 ∧ e1 = e2
  | [], _, _, _, _, ⟨h1, h2⟩, ⟨h3, h4⟩ => ⟨h1.trans h3.symm, h2.trans h4.symm⟩
  | c :: l, _, _, _, _, ⟨t1, f1, h1, d1, q1⟩, ⟨t2, f2, h2, d2, q2⟩ => by
    obtain ⟨rfl, rfl⟩ := ChainR.uniq l h1 h2
    exact ⟨d1.uniq d2, q1.trans q2.symm⟩
theorem Done.ser_lt {s s' : Sta} {c : Cmd} (h : Done s c s') (hs : s.serial < 18446744073709551616) : s'.serial < 18446744073709551616 := by
  by_cases e : errC s c = 0
  · have := (err_okay.1 e).n
    rw [h.ser e]; omega
  · rw [h.bad e]; exact hs
/-- How many told OK. -/
def oks : List Int → Nat
  | [] => 0
  | e :: l => (if e = 0 then 1 else 0) + oks l
theorem oks_append : ∀ a b, oks (a ++ b) = oks a + oks b
  | [], b => by simp [oks]
  | e :: a, b => by rw [List.cons_append, oks, oks, oks_append a b]; omega
theorem Chain.facts {s : Sta} (hg : Good s.recs) (hs : s.serial < 18446744073709551616) : ∀ (l : List Cmd) {s1 : Sta} {es : List Int}, ChainR s l s1 es → Good s1.recs ∧ s1.serial < 18446744073709551616 ∧ s1.lin = s.lin ∧ es.length = l.length ∧ s1.serial = s.serial + oks es
  | [], _, _, ⟨h1, h2⟩ => by subst h1 h2; exact ⟨hg, hs, rfl, rfl, rfl⟩
  | c :: l, s1, es, ⟨t, f, h, d, q⟩ => by
    obtain ⟨h1, h2, h3, h4, h5⟩ := Chain.facts hg hs l h
    subst q
    refine ⟨d.good, d.ser_lt h2, d.lin.trans h3, by rw [List.length_append, h4]; rfl, ?_⟩
    rw [oks_append]
    by_cases e : errC t c = 0
    · rw [d.ser e, h5, e]; simp [oks]; omega
    · rw [d.bad e, h5]; simp [oks, e]
/-- Numbers in a row. -/
def IsInts (w : World) (a : Option Addr) (l : List Int) : Prop := l = [] ∨ ∃ b o, a = some ⟨b, o, none⟩ ∧ b < w.heap.size ∧ ∀ i (h : i < l.length), w.cell? ⟨b, o + i, none⟩ = some (.int .i64 l[i])
theorem IsInts.stays {w w' : World} {a : Option Addr} {l : List Int} (h : IsInts w a l) (hb : Below w.heap.size w w') : IsInts w' a l := by
  rcases h with h | ⟨b, o, ha, hbl, hc⟩
  · exact .inl h
  · exact .inr ⟨b, o, ha, Nat.lt_of_lt_of_le hbl hb.size, fun i hi => by rw [cell_blk (hb.block b hbl)]; exact hc i hi⟩
def IntRow (T : TypeId) (w : World) (B : Nat) (v : Value) (l : List Int) : Prop := w.ownsRow B T 1 v l.length (l.map (Value.int .i64))
theorem IntRow.moves {T : TypeId} {w w' : World} {B : Nat} {v : Value} {l : List Int} (h : IntRow T w B v l) (hk : ∀ g, v.ownBlock = some g → w'.heap[g]? = w.heap[g]?) : IntRow T w' B v l := by
  obtain ⟨h1, h2⟩ := h
  refine ⟨h1, ?_⟩
  rcases h2 with h2 | ⟨g, cap, cur, rfl, h3, h4, h5⟩
  · exact .inl h2
  · exact .inr ⟨g, cap, cur, rfl, h3, (hk g rfl).trans h4, h5⟩
theorem IntRow.form {T : TypeId} {w : World} {B : Nat} {v : Value} {l : List Int} (h : IntRow T w B v l) : ∃ a c, v = .slice a l.length c ∧ IsInts w a l ∧ (∀ k, v.ownBlock = some k → B ≤ k ∧ k < w.heap.size) := by
  have hl := fun k hk => World.ownsRow.lt h k hk
  have h0 := h
  obtain ⟨h1, h2⟩ := h
  rcases h2 with ⟨rfl, e⟩ | ⟨g, cap, cur, rfl, h3, h4, h5⟩
  · exact ⟨none, 0, by rw [e], .inl (List.length_eq_zero_iff.1 e), fun k hk => hl k hk⟩
  · refine ⟨some ⟨g, 0, none⟩, cap, rfl, .inr ⟨g, 0, rfl, (hl g rfl).2, fun i hi => ?_⟩, fun k hk => hl k hk⟩
    have := World.ownsRow.cellAt h0 i (by omega)
    rw [Nat.zero_add, this]
    simp [hi]
theorem infoErr : (Tryz.prog.info? 28).map (fun i => (i.zero, i.size, i.bytes)) = some (some (.int .i64 0), 1, 8) := by kernel_rfl
theorem infoInt : (Tryz.prog.info? 3).map (fun i => (i.zero, i.size, i.bytes)) = some (some (.int .i64 0), 1, 8) := by kernel_rfl
/-- One number more is put behind. -/
theorem app_int {t T : TypeId} (ht : Tryz.prog.underlying t = some (.slice T)) (hiT : (Tryz.prog.info? T).map (fun i => (i.zero, i.size, i.bytes)) = some (some (.int .i64 0), 1, 8)) (ty : TypeId) (w : World) (B : Nat) (v : Value) (l : List Int) (e : Int) (h : IntRow T w B v l) (hl : l.length ≤ 3000) (hB : B ≤ w.heap.size) :
    ∃ v' w', (Builtin.append_ #[t, t] ty #[v, .slice (some ⟨w.heap.size, 0, none⟩) 1 1]).run Tryz.prog (w.alloc (.cells #[.int .i64 e] T)) = .ok v' w' ∧ Hid (IntRow T w' B v' (l ++ [e])) ∧ Hid ((w.alloc (.cells #[.int .i64 e] T)).grownBy w' v.ownBlock) := by
  obtain ⟨i0, hi, hz0, hz1, hz2⟩ := info_parts hiT
  have V1 := heap_alloc_new w (.cells #[.int .i64 e] T (0, 0))
  have h1 : IntRow T (w.alloc (.cells #[.int .i64 e] T)) B v l := h.moves (fun g hg => ((Below.refl _ w).alloc (Nat.le_refl _) _).block g (World.ownsRow.lt h g hg).2)
  obtain ⟨v', w', hr, hn, hg, _⟩ := run_append_own (P := Tryz.prog) (w.alloc (.cells #[.int .i64 e] T)) B t ty T i0 _ 1 8 ht hi hz0 hz1 hz2 rfl (by decide) v l.length (l.map (Value.int .i64)) h1 ⟨w.heap.size, 0, none⟩ 1 1 [.int .i64 e] rfl (fun j u hu => by
    have hj : j = 0 := by have := (List.getElem?_eq_some_iff.1 hu).1; simpa using this
    subst hj
    have e2 : (⟨w.heap.size, 0, none⟩ : Addr).add 0 = ⟨w.heap.size, 0, none⟩ := by unfold Addr.add; split <;> simp_all
    rw [e2, cell_of V1 0]
    exact hu) (fun u hu => by rw [List.mem_singleton.1 hu]; rfl) (by unfold maxLen; omega) (by omega) (by simp; omega)
  refine ⟨v', w', hr, ?_, hg⟩
  show w'.ownsRow B T 1 v' (l ++ [e]).length ((l ++ [e]).map (Value.int .i64))
  rw [List.length_append, List.map_append]
  exact hn
end Go.Proofs.YtehghladpnpcoaaGreatDoor.State.Edit
namespace Go.Proofs.YtehghladpnpcoaaGreatDoor.State.Edit
open Go.RowKit Go.Shelf Go.Proofs.YtehghladpnpcoaaGreatDoor.Utf Go.Proofs.YtehghladpnpcoaaGreatDoor.Strs Go.Proofs.YtehghladpnpcoaaGreatDoor.Addr Go.Proofs.YtehghladpnpcoaaGreatDoor.State
open Go.Proofs.YtehghladpnpcoaaGreatDoor.Jdec (IsTexts Turn infoStr gb_set gb_below gb_refl)
set_option linter.unusedVariables false
set_option linter.unusedSimpArgs false
set_option maxRecDepth 100000

/-- Commands in a row, of no more than the statements take. -/
def CmdsAt (w : World) (a : Option Addr) (l : List Cmd) : Prop := l = [] ∨ ∃ b o, a = some ⟨b, o, none⟩ ∧ b < w.heap.size ∧ ∃ f : Nat → CAt, ∀ i (h : i < l.length), (∀ j u, (cmdArr (f i) l[i])[j]? = some u → w.cell? ⟨b, o + i * 22 + j, none⟩ = some u) ∧ CmdAt w (f i) l[i]
theorem CmdsAt.stays {w w' : World} {a : Option Addr} {l : List Cmd} (h : CmdsAt w a l) (hb : Below w.heap.size w w') : CmdsAt w' a l := by
  rcases h with h | ⟨b, o, ha, hbl, f, hc⟩
  · exact .inl h
  · exact .inr ⟨b, o, ha, Nat.lt_of_lt_of_le hbl hb.size, f, fun i hi => ⟨fun j u hu => by rw [cell_blk (hb.block b hbl)]; exact (hc i hi).1 j u hu, (hc i hi).2.stays hb⟩⟩
theorem IsCmds.at {w : World} {a : Option Addr} {l : List Cmd} (h : IsCmds w a l) (hf : ∀ c ∈ l, Fit c) : CmdsAt w a l := by
  rcases h with h | ⟨b, o, ha, hbl, f, hc⟩
  · exact .inl h
  · exact .inr ⟨b, o, ha, hbl, f, fun i hi => ⟨(hc i hi).1, (hc i hi).2.at (hf _ (List.getElem_mem hi)).f (hf _ (List.getElem_mem hi)).t (hf _ (List.getElem_mem hi)).r⟩⟩
theorem cmd_load3 {w : World} {b o : Nat} {k : CAt} {c : Cmd} (h : ∀ j u, (cmdArr k c)[j]? = some u → w.cell? ⟨b, o + j, none⟩ = some u) :
    Hid ((Instr.loadAt 44 (.pointer (some ⟨b, o, none⟩))).run Tryz.prog w = .ok (.agg #[.int .i64 c.kind, .slice k.pf c.fr.path.length k.fc, .string c.fr.type, .string c.fr.name, .int .i64 c.fr.key, .int .u64 c.fr.place, .string c.fr.word, .slice k.pt c.ad.path.length k.tc, .string c.ad.type, .string c.ad.name, .int .i64 c.ad.key, .int .u64 c.ad.place, .string c.ad.word, .slice k.p.pa c.r.a.path.length k.p.pc, .string c.r.a.type, .string c.r.a.name, .int .i64 c.r.a.key, .int .u64 c.r.a.place, .string c.r.a.word, .string c.r.prov, .string c.r.id, .slice k.p.ta c.r.attrs.length k.p.tc]) w) :=
  run_loadAt_mid (P := Tryz.prog) w b o 44 (cmdArr k c).toList _ (fun j v hv => h j v (by simpa using hv)) Tryz.underlying44 rfl infoCmd
theorem BkAt.grow {w0 w w' : World} {b bm n : Nat} {s : Sta} {r : Option Nat} {m : Nat} (h : BkAt w0 w b bm n s) (hg : w.grownBy w' r) (hr : ∀ k, r = some k → m ≤ k) (h1 : b < m) (h2 : bm < m) (h3 : w0.heap.size ≤ m) : BkAt w0 w' b bm n s :=
  ⟨h.up.grown hg h.up.size (fun k hk => Nat.le_trans h3 (hr k hk)), (hg.block b (heap_lt h.blk) (fun e => by have := hr b e.symm; omega)).trans h.blk, h.lo, h.ne, h.map.kept hg (fun e => by have := hr bm e.symm; omega)⟩
theorem run_ret (s : Sta) (u : Value) (w' : World) (tm : Array Value) (b : Nat) (a : Option Addr) (c : Nat) (Q : Ending → World → Prop) (hb : w'.heap[b]? = some (.cells (staArr a c s) 25 (0, 0))) (h2 : tm[4]? = some (.pointer (some ⟨b, 0, none⟩))) (h3 : tm[5]? = some u) (hq : Q (.returned (.tuple #[staV a c s, u])) w') :
    bodyPost Tryz.prog Tryz.f31 Q Exit.ret { tmps := tm, defers := [] } w' := by
  obtain ⟨c0, c1, c2⟩ := sta_cells hb
  refine bodyPost_ret (v := .tuple #[staV a c s, u]) ?_ rfl hq
  simp [results, Tryz.results31, go_sem, h2, h3, c0, c1, c2, staV]
structure RI (w2 w3 wr : World) (b bm : Nat) (s : Sta) (l : List Cmd) (i : Nat) (s1 : Sta) (es : List Int) (a : Option Addr) (c : Nat) : Prop where
  bk : BkAt w2 wr b bm (s.recs.length + i) s1
  ch : ChainR s (l.take i).reverse s1 es
  n : s1.recs.length ≤ s.recs.length + i
  row : IntRow 28 wr w3.heap.size (.slice a es.length c) es
  z : w3.heap.size ≤ wr.heap.size
def RnPost (s : Sta) (l : List Cmd) (w : World) (e : Ending) (w' : World) : Prop := ∃ a1 c1 s1 a2 c2, ∃ es : List Int, e = .returned (.tuple #[.agg #[.int .u64 s1.serial, .string s1.lin, .slice a1 s1.recs.length c1], .slice a2 es.length c2]) ∧ Hid (ChainR s l.reverse s1 es) ∧ Hid (RecsAt w' a1 s1.recs) ∧ Hid (s1.recs.length ≤ c1 ∧ s1.recs.length ≤ s.recs.length + l.length) ∧ Hid (IsInts w' a2 es) ∧ Hid (Below w.heap.size w w')
set_option maxHeartbeats 32000000 in
theorem run_any (s : Sta) (ra : Option Addr) (rc : Nat) (l : List Cmd) (la : Option Addr) (lc : Nat) (w : World) (h : RecsAt w ra s.recs) (hg : Good s.recs) (hcm : CmdsAt w la l) (hl : l.length ≤ 20) (hn : s.recs.length ≤ 2000) (hsn : s.serial < 18446744073709551616) (T : TabsA w) :
    Hid (Calls Tryz.prog 31 #[.agg #[.int .u64 s.serial, .string s.lin, .slice ra s.recs.length rc], .slice la l.length lc] w (RnPost s l w)) := by
  show Calls _ _ _ _ _
  obtain ⟨w1, hw1, V1, B1⟩ := sta_new w ra rc s
  obtain ⟨w2, hw2, V2, B2, Z2⟩ := zsta_new w1
  have hl1 := heap_lt V1.out
  have hs1 := B1.out.size
  have hs2 : w2.heap.size = w1.heap.size + 1 := Z2.out
  have B02 : Hid (Below w.heap.size w w2) := B1.out.trans (B2.out.mono hs1)
  have V12 : Hid (w2.heap[w.heap.size]? = some (.cells (staArr ra rc s) 25 (0, 0))) := (B2.out.block _ hl1).trans V1.out
  have KO : Hid (Calls Tryz.prog 56 #[.agg #[.int .u64 s.serial, .string s.lin, .slice ra s.recs.length rc]] w2 fun e w' => ∃ b bm, e = .returned (.pointer (some ⟨b, 0, none⟩)) ∧ Hid (BkAt w2 w' b bm s.recs.length s)) := open_any s ra rc w2 (h.stays B02.out) hg (T.stays B02.out)
  have HCM := Hid.out (p := Hid _) (hcm.stays B02.out)
  have HT := Hid.out (p := Hid _) (T.stays B02.out)
  have HG := Hid.out (p := Hid _) hg
  have HSN := Hid.out (p := Hid _) hsn
  have HN := Hid.out (p := Hid _) hn
  have HZ := Hid.out (p := Hid _) hs2
  have HS1 := Hid.out (p := Hid _) hl1
  obtain ⟨x0, x1, x2⟩ := sta_cells V12.out
  clear h hg hcm hn hsn T hl1 hs1 hs2
  go_enter Tryz.func31, Tryz.ntmps31
  go_wp2_with fail
  refine (Calls.mono KO.out ?_)
  rintro z w3 ⟨b, bm, rfl, H3⟩
  have HB3 : Hid (b < w3.heap.size ∧ bm < w3.heap.size ∧ w2.heap.size ≤ w3.heap.size) := ⟨heap_lt H3.out.blk, H3.out.map.lt, H3.out.up.size⟩
  clear x0 x1 x2 hw1 hw2 KO
  go_wp2_with fail
  go_loopw [7, 14] (fun p7 p14 wr => ∃ (i : Nat) (s1 : Sta) (es : List Int) (a : Option Addr) (c : Nat), p7 = .slice a es.length c ∧ p14 = .int .i64 i ∧ i ≤ l.length ∧ Hid (RI w2 w3 wr b bm s l i s1 es a c)) (fun _ p14 _ => l.length - (intOf p14).toNat)
  case atStart => exact ⟨0, s, [], none, 0, rfl, rfl, Nat.zero_le _, ⟨H3.out, ⟨rfl, rfl⟩, Nat.le_refl _, World.ownsRow_nil _ _ _ _, Nat.le_refl _⟩⟩
  case round =>
    obtain ⟨i, s1, es, a, c, rfl, rfl, hi, hI⟩ := hrel
    by_cases hlt : i < l.length
    · obtain ⟨lb, lo, hla, hlb, f, hf⟩ := HCM.out.resolve_left (by intro e; rw [e] at hlt; simp at hlt)
      obtain ⟨hf1, hf2⟩ := hf i hlt
      have htk : (l.take (i + 1)).reverse = l[i] :: (l.take i).reverse := by
        rw [List.take_add_one, List.getElem?_eq_getElem hlt, List.reverse_append]; rfl
      obtain ⟨cm, hcm⟩ : ∃ cm, l[i] = cm := ⟨_, rfl⟩
      obtain ⟨k, hk⟩ : ∃ k, f i = k := ⟨_, rfl⟩
      rw [hcm] at hf1 hf2 htk
      rw [hk] at hf1 hf2
      have HTK := Hid.out (p := Hid _) htk
      have HCK := Hid.out (p := Hid _) hf2
      have LD := cmd_load3 (w := wr) (b := lb) (o := lo + i * 22) (k := k) (c := cm) (fun j u hu => by rw [cell_blk (hI.out.bk.up.block lb hlb)]; exact hf1 j u hu)
      have HCF := Chain.facts HG.out HSN.out _ hI.out.ch
      have HGS : Hid (Good s1.recs ∧ s1.serial < 18446744073709551616 ∧ es.length ≤ 20) := ⟨HCF.1, HCF.2.1, by rw [HCF.2.2.2.1, List.length_reverse, List.length_take]; omega⟩
      obtain ⟨z4, hz4, Vz4, Bz4⟩ : ∃ z, wr.alloc (.cells #[.int .i64 0, .slice none 0 0, .string ⟨#[]⟩, .string ⟨#[]⟩, .int .i64 0, .int .u64 0, .string ⟨#[]⟩, .slice none 0 0, .string ⟨#[]⟩, .string ⟨#[]⟩, .int .i64 0, .int .u64 0, .string ⟨#[]⟩, .slice none 0 0, .string ⟨#[]⟩, .string ⟨#[]⟩, .int .i64 0, .int .u64 0, .string ⟨#[]⟩, .string ⟨#[]⟩, .string ⟨#[]⟩, .slice none 0 0] 44) = z ∧ Hid (z.heap[wr.heap.size]? = some (.cells #[.int .i64 0, .slice none 0 0, .string ⟨#[]⟩, .string ⟨#[]⟩, .int .i64 0, .int .u64 0, .string ⟨#[]⟩, .slice none 0 0, .string ⟨#[]⟩, .string ⟨#[]⟩, .int .i64 0, .int .u64 0, .string ⟨#[]⟩, .slice none 0 0, .string ⟨#[]⟩, .string ⟨#[]⟩, .int .i64 0, .int .u64 0, .string ⟨#[]⟩, .string ⟨#[]⟩, .string ⟨#[]⟩, .slice none 0 0] 44 (0, 0))) ∧ Hid (Below wr.heap.size wr z) := ⟨_, rfl, heap_alloc_new _ _, (Below.refl _ _).alloc (Nat.le_refl _) _⟩
      obtain ⟨w5, HST, HV5, HR5, HG5⟩ := cmd_store Vz4.out rfl k cm
      have C5 : Hid (Below wr.heap.size wr w5) := Bz4.out.grown HG5.out Bz4.out.size (fun x hx => by injection hx with hx; omega)
      have LD5 : Hid ((Instr.loadAt 44 (.pointer (some ⟨wr.heap.size, 0, none⟩))).run Tryz.prog w5 = .ok (.agg #[.int .i64 cm.kind, .slice k.pf cm.fr.path.length k.fc, .string cm.fr.type, .string cm.fr.name, .int .i64 cm.fr.key, .int .u64 cm.fr.place, .string cm.fr.word, .slice k.pt cm.ad.path.length k.tc, .string cm.ad.type, .string cm.ad.name, .int .i64 cm.ad.key, .int .u64 cm.ad.place, .string cm.ad.word, .slice k.p.pa cm.r.a.path.length k.p.pc, .string cm.r.a.type, .string cm.r.a.name, .int .i64 cm.r.a.key, .int .u64 cm.r.a.place, .string cm.r.a.word, .string cm.r.prov, .string cm.r.id, .slice k.p.ta cm.r.attrs.length k.p.tc]) w5) := cmd_load2 HR5.out
      have H5 : Hid (BkAt w2 w5 b bm (s.recs.length + i) s1) := hI.out.bk.below C5.out
      have KD : Hid (Calls Tryz.prog 57 #[.pointer (some ⟨b, 0, none⟩), .agg #[.int .i64 cm.kind, .slice k.pf cm.fr.path.length k.fc, .string cm.fr.type, .string cm.fr.name, .int .i64 cm.fr.key, .int .u64 cm.fr.place, .string cm.fr.word, .slice k.pt cm.ad.path.length k.tc, .string cm.ad.type, .string cm.ad.name, .int .i64 cm.ad.key, .int .u64 cm.ad.place, .string cm.ad.word, .slice k.p.pa cm.r.a.path.length k.p.pc, .string cm.r.a.type, .string cm.r.a.name, .int .i64 cm.r.a.key, .int .u64 cm.r.a.place, .string cm.r.a.word, .string cm.r.prov, .string cm.r.id, .slice k.p.ta cm.r.attrs.length k.p.tc]] w5 (DoPost w2 b bm (s.recs.length + i) s1 cm w5)) := do_any H5.out HGS.out.1 HCK.out HT.out (by have := HN.out; omega) HGS.out.2.1
      subst hla
      clear hf hf1 hf2 htk hcm hk HCF hlb
      go_wp2_with (first | (refine wpList_store_run HST.out rfl _ _ rfl rfl rfl ?_) | (refine wpList_load_run LD.out rfl _ rfl rfl ?_) | (refine wpList_load_run LD5.out rfl _ rfl rfl ?_))
      refine (Calls.mono KD.out ?_)
      rintro z w6 ⟨rfl, s2, hD, hL, H6, K6⟩
      obtain ⟨e, he⟩ : ∃ e, errC s1 cm = e := ⟨_, rfl⟩
      have HD := Hid.out (p := Hid _) hD
      have HL2 : Hid (s2.recs.length ≤ s.recs.length + (i + 1)) := by have := hI.out.n; show _ ≤ _; omega
      have HK6 := Hid.out (p := Hid _) K6
      have HH6 := Hid.out (p := Hid _) H6
      have hrow6 : IntRow 28 w6 w3.heap.size (.slice a es.length c) es := hI.out.row.moves (fun g hg => by
        obtain ⟨h1, h2⟩ := World.ownsRow.lt hI.out.row g hg
        have := HB3.out
        rw [HK6.out.block g (Nat.lt_of_lt_of_le h2 C5.out.size) (by omega) (by omega), C5.out.block g h2])
      have hs36 : w3.heap.size ≤ w6.heap.size := Nat.le_trans hI.out.z (Nat.le_trans C5.out.size HK6.out.size)
      obtain ⟨v', w8, hap, hrow, hgr⟩ := app_int Tryz.underlying55 infoErr 55 w6 w3.heap.size (.slice a es.length c) es e hrow6 (by have := HGS.out.2.2; omega) hs36
      obtain ⟨w7, hw7, B7⟩ : ∃ w7, w6.alloc (.cells #[.int .i64 e] 28) = w7 ∧ Hid (Below w6.heap.size w6 w7) := ⟨_, rfl, (Below.refl _ _).alloc (Nat.le_refl _) _⟩
      rw [hw7] at hap hgr
      have HAP := Hid.out (p := Hid _) hap
      have HE := Hid.out (p := Hid _) he
      have hown : ∀ k, (Value.slice a es.length c).ownBlock = some k → w3.heap.size ≤ k := fun k hk => (World.ownsRow.lt hI.out.row k hk).1
      obtain ⟨a', c', rfl, _, _⟩ := hrow.out.form
      have HR : Hid (RI w2 w3 w8 b bm s l (i + 1) s2 (es ++ [e]) a' c') := ⟨(HH6.out.below B7.out).grow hgr.out hown HB3.out.1 HB3.out.2.1 HB3.out.2.2, by rw [HTK.out]; exact ⟨s1, es, hI.out.ch, HD.out, by rw [HE.out]⟩, HL2.out, hrow.out, Nat.le_trans hs36 (Nat.le_trans B7.out.size hgr.out.size)⟩
      clear hD hL H6 K6 hap hown hrow6 hs36 hrow hz4
      go_wp2_with (at_builtin; refine wpList_append_run (.slice a es.length c) (.slice (some ⟨w6.heap.size, 0, none⟩) 1 1) 55 HAP.out rfl _ _ rfl rfl rfl ?_)
      go_roundw
      case rel => exact ⟨i + 1, s2, es ++ [e], a', c', by rw [List.length_append]; rfl, by go_num, by omega, HR.out⟩
      case measure => simp [intOf]; omega
    · have hie : i = l.length := by omega
      have HI : Hid (RI w2 w3 wr b bm s l l.length s1 es a c) := by rw [← hie]; exact hI.out
      have HCF := Hid.out (p := Hid _) (Chain.facts HG.out HSN.out _ HI.out.ch)
      have KS : Hid (Calls Tryz.prog 58 #[.pointer (some ⟨b, 0, none⟩)] wr (JnPost s1 s1.recs wr)) := bstate_any HI.out.bk HCF.out.1 (by have := HI.out.n; have := HN.out; omega) (by have := HN.out; omega)
      clear hie hI
      go_wp2_with fail
      refine (Calls.mono KS.out ?_)
      rintro z w6 ⟨a1, c1, rfl, hII, hc1, hb6⟩
      have V2r : Hid (w6.heap[w1.heap.size]? = some (.cells (staArr none 0 ⟨0, ⟨#[]⟩, []⟩) 25 (0, 0))) := (hb6.block _ (Nat.lt_of_lt_of_le (heap_lt V2.out) HI.out.bk.up.size)).trans ((HI.out.bk.up.block _ (heap_lt V2.out)).trans V2.out)
      have f0 := frozen_of V2r.out 0
      have f1 := frozen_of V2r.out 1
      have f2 := frozen_of V2r.out 2
      obtain ⟨r0, r1, r2⟩ := sta_cells V2r.out
      have HII := Hid.out (p := Hid _) hII
      have HC1 := Hid.out (p := Hid _) hc1
      have HB6 := Hid.out (p := Hid _) hb6
      clear hII hc1 hb6
      unfold staV
      go_wp2_with fail
      have hg6 : w6.grownBy (((w6.setCell ⟨w1.heap.size, 0, none⟩ (.int .u64 s1.serial)).setCell ⟨w1.heap.size, 1, none⟩ (.string s1.lin)).setCell ⟨w1.heap.size, 2, none⟩ (.slice a1 s1.recs.length c1)) (some w1.heap.size) := ((gb_set _ _ _ _).trans (gb_set _ _ _ _)).trans (gb_set _ _ _ _)
      have hB : Below w.heap.size w w6 := (B02.out.trans (HI.out.bk.up.mono B02.out.size)).trans (HB6.out.mono (Nat.le_trans B02.out.size HI.out.bk.up.size))
      have hz1 := HZ.out
      have hz3 := HB3.out
      have hz4 := HI.out.z
      have hz5 := HS1.out
      refine run_ret s1 (.slice a es.length c) _ _ w1.heap.size a1 c1 _ (set3 (t := s1) V2r.out) rfl rfl ⟨a1, c1, s1, a, c, es, rfl, by have := HI.out.ch; rw [List.take_length] at this; exact this, ⟨?_, by have := HI.out.n; have := HN.out; omega, HCF.out.1.s⟩, ⟨HC1.out, HI.out.n⟩, ?_, hB.grown hg6 hB.size (fun x hx => by injection hx with hx; omega)⟩
      · have ht : Turn w6 (((w6.setCell ⟨w1.heap.size, 0, none⟩ (.int .u64 s1.serial)).setCell ⟨w1.heap.size, 1, none⟩ (.string s1.lin)).setCell ⟨w1.heap.size, 2, none⟩ (.slice a1 s1.recs.length c1)) (fun x => wr.heap.size ≤ x) (fun _ => True) := ⟨hg6.size, fun x hx hl => ⟨hg6.block x hl (fun e => by injection e with e; omega), trivial⟩⟩
        exact IsRecs.turn HII.out ht
      · have hm := HI.out.row.moves (w' := (((w6.setCell ⟨w1.heap.size, 0, none⟩ (.int .u64 s1.serial)).setCell ⟨w1.heap.size, 1, none⟩ (.string s1.lin)).setCell ⟨w1.heap.size, 2, none⟩ (.slice a1 s1.recs.length c1))) (fun g hg => by
          obtain ⟨h1, h2⟩ := World.ownsRow.lt HI.out.row g hg
          rw [hg6.block g (Nat.lt_of_lt_of_le h2 HB6.out.size) (fun e => by injection e with e; omega), HB6.out.block g h2])
        obtain ⟨a3, c3, e3, h3, _⟩ := hm.form
        injection e3 with e3 _ _
        rw [e3]; exact h3
end Go.Proofs.YtehghladpnpcoaaGreatDoor.State.Edit
namespace Go.Proofs.YtehghladpnpcoaaGreatDoor.State.Edit
open Go.RowKit Go.Shelf Go.Proofs.YtehghladpnpcoaaGreatDoor.Utf Go.Proofs.YtehghladpnpcoaaGreatDoor.Strs Go.Proofs.YtehghladpnpcoaaGreatDoor.Addr Go.Proofs.YtehghladpnpcoaaGreatDoor.State
open Go.Proofs.YtehghladpnpcoaaGreatDoor.Jdec (IsTexts Turn infoStr gb_set gb_below gb_refl)
set_option linter.unusedVariables false
set_option linter.unusedSimpArgs false
set_option maxRecDepth 100000

def names3 (c : Cmd) : List Adr := [c.fr, c.ad, c.r.a]
/-- Both name an address that isn't zero. -/
def Clash (c d : Cmd) : Prop := ∃ a ∈ names3 c, a ∈ names3 d ∧ a ≠ zeroA
def RA (c : Cmd) (a : Adr) : Prop := (c.kind = 1 ∧ (a = c.fr ∨ a = c.ad)) ∨ (c.kind = 2 ∧ a = c.fr) ∨ (c.kind = 3 ∧ a = c.r.a)
theorem RA.mem {c : Cmd} {a : Adr} (h : RA c a) : a ∈ names3 c := by
  unfold names3
  rcases h with ⟨_, rfl | rfl⟩ | ⟨_, rfl⟩ | ⟨_, rfl⟩ <;> simp
theorem zero_wrong : rightA zeroA = false := by kernel_rfl
theorem RA.right {c : Cmd} {a : Adr} (h : RA c a) (hr : rightC c = true) : a ≠ zeroA := by
  have h2 : rightA a = true := by
    rcases rightC_cases hr with h1 | h1 | h1
    · rcases h with ⟨_, rfl | rfl⟩ | ⟨k, _⟩ | ⟨k, _⟩
      · exact h1.2.1
      · exact h1.2.2.1
      · rw [h1.1] at k; exact absurd k (by decide)
      · rw [h1.1] at k; exact absurd k (by decide)
    · rcases h with ⟨k, _⟩ | ⟨_, rfl⟩ | ⟨k, _⟩
      · rw [h1.1] at k; exact absurd k (by decide)
      · exact h1.2.1
      · rw [h1.1] at k; exact absurd k (by decide)
    · rcases h with ⟨k, _⟩ | ⟨k, _⟩ | ⟨_, rfl⟩
      · rw [h1.1] at k; exact absurd k (by decide)
      · rw [h1.1] at k; exact absurd k (by decide)
      · exact recB_right h1.2.1
  rintro rfl
  rw [zero_wrong] at h2; cases h2
theorem apart_of {c d : Cmd} (hn : ¬ Clash c d) (hr : rightC c = true) {a : Adr} (h1 : RA c a) (h2 : RA d a) : False := hn ⟨a, h1.mem, h2.mem, h1.right hr⟩
def NC (l : List Rec) (c : Cmd) (x : Rec) : Prop := (c.kind = 1 ∧ ∃ r ∈ l, r.a = c.fr ∧ x = moved r c.ad) ∨ (c.kind = 3 ∧ x = c.r)
theorem mem_iff {s s1 : Sta} {c : Cmd} (h : Done s c s1) (he : errC s c = 0) (x : Rec) : x ∈ s1.recs ↔ (RA c x.a ∧ NC s.recs c x) ∨ (¬ RA c x.a ∧ x ∈ s.recs) := by
  have ho := err_okay.1 he
  rw [h.mem he, memC]
  rcases rightC_cases ho.r with h1 | h1 | h1
  · have k := h1.1
    rw [if_pos k]
    constructor
    · rintro (⟨hx, hn⟩ | ⟨r, hr, hra, rfl⟩)
      · refine .inr ⟨?_, hx⟩
        rintro (⟨_, e | e⟩ | ⟨k2, _⟩ | ⟨k2, _⟩)
        · exact hn e
        · exact ho.t k x hx e
        · rw [k] at k2; exact absurd k2 (by decide)
        · rw [k] at k2; exact absurd k2 (by decide)
      · exact .inl ⟨.inl ⟨k, .inr rfl⟩, .inl ⟨k, r, hr, hra, rfl⟩⟩
    · rintro (⟨_, ⟨_, r, hr, hra, e⟩ | ⟨k2, _⟩⟩ | ⟨hn, hx⟩)
      · exact .inr ⟨r, hr, hra, e⟩
      · rw [k] at k2; exact absurd k2 (by decide)
      · exact .inl ⟨hx, fun e => hn (.inl ⟨k, .inl e⟩)⟩
  · have k := h1.1
    rw [if_neg (by rw [k]; decide), if_pos k]
    constructor
    · rintro ⟨hx, hn⟩
      refine .inr ⟨?_, hx⟩
      rintro (⟨k2, _⟩ | ⟨_, e⟩ | ⟨k2, _⟩)
      · rw [k] at k2; exact absurd k2 (by decide)
      · exact hn e
      · rw [k] at k2; exact absurd k2 (by decide)
    · rintro (⟨_, ⟨k2, _⟩ | ⟨k2, _⟩⟩ | ⟨hn, hx⟩)
      · rw [k] at k2; exact absurd k2 (by decide)
      · rw [k] at k2; exact absurd k2 (by decide)
      · exact ⟨hx, fun e => hn (.inr (.inl ⟨k, e⟩))⟩
  · have k := h1.1
    rw [if_neg (by rw [k]; decide), if_neg (by rw [k]; decide)]
    constructor
    · rintro (hx | rfl)
      · refine .inr ⟨?_, hx⟩
        rintro (⟨k2, _⟩ | ⟨k2, _⟩ | ⟨_, e⟩)
        · rw [k] at k2; exact absurd k2 (by decide)
        · rw [k] at k2; exact absurd k2 (by decide)
        · exact ho.g k x hx e
      · exact .inl ⟨.inr (.inr ⟨k, rfl⟩), .inr ⟨k, rfl⟩⟩
    · rintro (⟨_, ⟨k2, _⟩ | ⟨_, e⟩⟩ | ⟨hn, hx⟩)
      · rw [k] at k2; exact absurd k2 (by decide)
      · exact .inr e
      · exact .inl hx
/-- Of an address that the one doesn't name there is as much as before. -/
theorem mem_keep {s s1 : Sta} {c d : Cmd} (h : Done s c s1) (hn : ¬ Clash c d) {x : Rec} (hx : RA d x.a) : x ∈ s1.recs ↔ x ∈ s.recs := by
  by_cases he : errC s c = 0
  · have hna : ¬ RA c x.a := fun h1 => apart_of hn (err_okay.1 he).r h1 hx
    rw [mem_iff h he]
    exact ⟨fun h => h.elim (fun h => absurd h.1 hna) (fun h => h.2), fun h => .inr ⟨hna, h⟩⟩
  · rw [h.bad he]
theorem has_keep {s s1 : Sta} {c d : Cmd} (h : Done s c s1) (hn : ¬ Clash c d) {a : Adr} (ha : RA d a) : hasB s1.recs a = hasB s.recs a := by
  rw [Bool.eq_iff_iff, hasB_iff, hasB_iff]
  constructor
  · rintro ⟨x, hx, rfl⟩
    exact ⟨x, (mem_keep h hn ha).1 hx, rfl⟩
  · rintro ⟨x, hx, rfl⟩
    exact ⟨x, (mem_keep h hn ha).2 hx, rfl⟩
theorem err_keep {s s1 : Sta} {c d : Cmd} (h : Done s c s1) (hn : ¬ Clash c d) (h1 : s1.serial ≠ 18446744073709551615) (h2 : s.serial ≠ 18446744073709551615) : errC s1 d = errC s d := by
  cases hr : rightC d
  · rw [errC, errC, if_pos hr, if_pos hr]
  · rw [errC, errC, hr, if_neg h1, if_neg h2]
    rcases rightC_cases hr with k | k | k
    · have a1 := has_keep h hn (d := d) (a := d.fr) (.inl ⟨k.1, .inl rfl⟩)
      have a2 := has_keep h hn (d := d) (a := d.ad) (.inl ⟨k.1, .inr rfl⟩)
      rw [thereC, thereC, if_pos k.1, if_pos k.1, a1, a2]
    · have a1 := has_keep h hn (d := d) (a := d.fr) (.inr (.inl ⟨k.1, rfl⟩))
      rw [a1]
      simp only [thereC, k.1]
      rfl
    · have a1 := has_keep h hn (d := d) (a := d.r.a) (.inr (.inr ⟨k.1, rfl⟩))
      simp only [thereC, k.1, a1]
      rfl
theorem NC_keep {s s1 : Sta} {c d : Cmd} (h : Done s c s1) (hn : ¬ Clash c d) (x : Rec) : NC s1.recs d x ↔ NC s.recs d x := by
  unfold NC
  constructor
  · rintro (⟨k, r, hr, hra, e⟩ | h3)
    · exact .inl ⟨k, r, (mem_keep h hn (.inl ⟨k, .inl hra⟩)).1 hr, hra, e⟩
    · exact .inr h3
  · rintro (⟨k, r, hr, hra, e⟩ | h3)
    · exact .inl ⟨k, r, (mem_keep h hn (.inl ⟨k, .inl hra⟩)).2 hr, hra, e⟩
    · exact .inr h3
theorem Clash.symm {c d : Cmd} (h : ¬ Clash c d) : ¬ Clash d c := fun ⟨a, h1, h2, h3⟩ => h ⟨a, h2, h1, h3⟩
theorem Done.ser_le {s s' : Sta} {c : Cmd} (h : Done s c s') : s'.serial ≤ s.serial + 1 := by
  by_cases e : errC s c = 0
  · rw [h.ser e]; exact Nat.le_refl _
  · rw [h.bad e]; omega
/-- Two commands that name no address both may change places. -/
theorem commute {s s1 s12 s2 s21 : Sta} {c d : Cmd} (hn : ¬ Clash c d) (h1 : Done s c s1) (h12 : Done s1 d s12) (h2 : Done s d s2) (h21 : Done s2 c s21) (hs : s.serial ≤ 9223372036854775808) :
    errC s1 d = errC s d ∧ errC s2 c = errC s c ∧ s12 = s21 := by
  have l1 := h1.ser_le
  have l2 := h2.ser_le
  have e1 := err_keep h1 hn (by omega) (by omega)
  have e2 := err_keep h2 (Clash.symm hn) (by omega) (by omega)
  refine ⟨e1, e2, ?_⟩
  have hlin : s12.lin = s21.lin := by rw [h12.lin, h1.lin, h21.lin, h2.lin]
  have hser : s12.serial = s21.serial := by
    by_cases a : errC s c = 0
    · by_cases b : errC s d = 0
      · rw [h12.ser (e1.trans b), h21.ser (e2.trans a), h1.ser a, h2.ser b]
      · rw [h12.bad (by rw [e1]; exact b), h21.ser (e2.trans a), h1.ser a, h2.bad b]
    · by_cases b : errC s d = 0
      · rw [h12.ser (e1.trans b), h21.bad (by rw [e2]; exact a), h1.bad a, h2.ser b]
      · rw [h12.bad (by rw [e1]; exact b), h21.bad (by rw [e2]; exact a), h1.bad a, h2.bad b]
  have hrec : s12.recs = s21.recs := good_ext h12.good.o h21.good.o fun x => by
    by_cases a : errC s c = 0
    · have ap : ∀ {y}, RA c y → RA d y → False := fun h3 h4 => apart_of hn (err_okay.1 a).r h3 h4
      by_cases b : errC s d = 0
      · rw [mem_iff h12 (e1.trans b), mem_iff h21 (e2.trans a), NC_keep h1 hn, NC_keep h2 (Clash.symm hn), mem_iff h1 a, mem_iff h2 b]
        by_cases ra : RA c x.a
        · have rd : ¬ RA d x.a := fun h => ap ra h
          simp [ra, rd]
        · by_cases rd : RA d x.a
          · simp [ra, rd]
          · simp [ra, rd]
      · rw [h12.bad (by rw [e1]; exact b), mem_iff h21 (e2.trans a), mem_iff h1 a, h2.bad b]
    · by_cases b : errC s d = 0
      · rw [h21.bad (by rw [e2]; exact a), mem_iff h12 (e1.trans b), mem_iff h2 b, h1.bad a]
      · rw [h12.bad (by rw [e1]; exact b), h21.bad (by rw [e2]; exact a), h1.bad a, h2.bad b]
  cases s12; cases s21
  simp only at hlin hser hrec
  rw [hlin, hser, hrec]
end Go.Proofs.YtehghladpnpcoaaGreatDoor.State.Edit
namespace Go.Proofs.YtehghladpnpcoaaGreatDoor.State.Edit
open Go.RowKit Go.Shelf Go.Proofs.YtehghladpnpcoaaGreatDoor.Utf Go.Proofs.YtehghladpnpcoaaGreatDoor.Strs Go.Proofs.YtehghladpnpcoaaGreatDoor.Addr Go.Proofs.YtehghladpnpcoaaGreatDoor.State
open Go.Proofs.YtehghladpnpcoaaGreatDoor.Jdec (IsTexts Turn infoStr gb_set gb_below gb_refl)
set_option linter.unusedVariables false
set_option linter.unusedSimpArgs false
set_option maxRecDepth 100000

theorem two_row {w : World} {b : Nat} {k m : CAt} {c d : Cmd} (h : w.heap[b]? = some (.cells ((cmdArr k c).toList ++ (cmdArr m d).toList).toArray 44 (0, 0))) (i : Nat) (hi : i < [c, d].length) :
    ∀ j u, (cmdArr (if i = 0 then k else m) [c, d][i])[j]? = some u → w.cell? ⟨b, 0 + i * 22 + j, none⟩ = some u := fun j u hu => by
  rw [cell_of h, List.getElem?_toArray]
  have hi2 : i = 0 ∨ i = 1 := by simp at hi; omega
  rcases hi2 with rfl | rfl
  · have hj : j < 22 := (Array.getElem?_eq_some_iff.1 hu).1
    rw [List.getElem?_append_left (by show 0 + 0 * 22 + j < 22; omega), show 0 + 0 * 22 + j = j by omega]
    simpa using hu
  · rw [List.getElem?_append_right (by show 22 ≤ 0 + 1 * 22 + j; omega), show 0 + 1 * 22 + j - (cmdArr k c).toList.length = j by show 0 + 1 * 22 + j - 22 = j; omega]
    simpa using hu
theorem two_cmds {w : World} {b : Nat} {k m : CAt} {c d : Cmd} (h : w.heap[b]? = some (.cells ((cmdArr k c).toList ++ (cmdArr m d).toList).toArray 44 (0, 0))) (hc : CmdIn w k c) (hd : CmdIn w m d) : IsCmds w (some ⟨b, 0, none⟩) [c, d] :=
  .inr ⟨b, 0, rfl, heap_lt h, fun i => if i = 0 then k else m, fun i hi => ⟨two_row h i hi, by
    have hi2 : i = 0 ∨ i = 1 := by simp at hi; omega
    rcases hi2 with rfl | rfl
    · exact hc
    · exact hd⟩⟩
theorem two_at {w : World} {b : Nat} {k m : CAt} {c d : Cmd} (h : w.heap[b]? = some (.cells ((cmdArr k c).toList ++ (cmdArr m d).toList).toArray 44 (0, 0))) (hc : CmdAt w k c) (hd : CmdAt w m d) : CmdsAt w (some ⟨b, 0, none⟩) [c, d] :=
  .inr ⟨b, 0, rfl, heap_lt h, fun i => if i = 0 then k else m, fun i hi => ⟨two_row h i hi, by
    have hi2 : i = 0 ∨ i = 1 := by simp at hi; omega
    rcases hi2 with rfl | rfl
    · exact hc
    · exact hd⟩⟩
theorem two_new {w : World} (k m : CAt) (c d : Cmd) : ∃ w1, w.alloc (.cells #[.int .i64 c.kind, .slice k.pf c.fr.path.length k.fc, .string c.fr.type, .string c.fr.name, .int .i64 c.fr.key, .int .u64 c.fr.place, .string c.fr.word, .slice k.pt c.ad.path.length k.tc, .string c.ad.type, .string c.ad.name, .int .i64 c.ad.key, .int .u64 c.ad.place, .string c.ad.word, .slice k.p.pa c.r.a.path.length k.p.pc, .string c.r.a.type, .string c.r.a.name, .int .i64 c.r.a.key, .int .u64 c.r.a.place, .string c.r.a.word, .string c.r.prov, .string c.r.id, .slice k.p.ta c.r.attrs.length k.p.tc, .int .i64 d.kind, .slice m.pf d.fr.path.length m.fc, .string d.fr.type, .string d.fr.name, .int .i64 d.fr.key, .int .u64 d.fr.place, .string d.fr.word, .slice m.pt d.ad.path.length m.tc, .string d.ad.type, .string d.ad.name, .int .i64 d.ad.key, .int .u64 d.ad.place, .string d.ad.word, .slice m.p.pa d.r.a.path.length m.p.pc, .string d.r.a.type, .string d.r.a.name, .int .i64 d.r.a.key, .int .u64 d.r.a.place, .string d.r.a.word, .string d.r.prov, .string d.r.id, .slice m.p.ta d.r.attrs.length m.p.tc] 44) = w1 ∧ Hid (w1.heap[w.heap.size]? = some (.cells ((cmdArr k c).toList ++ (cmdArr m d).toList).toArray 44 (0, 0))) ∧ Hid (Below w.heap.size w w1) := ⟨_, rfl, heap_alloc_new _ _, (Below.refl _ _).alloc (Nat.le_refl _) _⟩
/-- A command's three addresses in a row. -/
structure Adrs3 (w : World) (b : Nat) (c : Cmd) : Prop where
  lt : b < w.heap.size
  row : ∀ i (h : i < (names3 c).length), ∃ pa pc, (∀ j u, (arrA pa pc (names3 c)[i])[j]? = some u → w.cell? ⟨b, i * 6 + j, none⟩ = some u) ∧ AdrAt w pa (names3 c)[i]
theorem Adrs3.stays {w w' : World} {b : Nat} {c : Cmd} (h : Adrs3 w b c) (hb : Below w.heap.size w w') : Adrs3 w' b c :=
  ⟨Nat.lt_of_lt_of_le h.lt hb.size, fun i hi => by
    obtain ⟨pa, pc, h1, h2⟩ := h.row i hi
    exact ⟨pa, pc, fun j u hu => by rw [cell_blk (hb.block b h.lt)]; exact h1 j u hu, h2.stays hb⟩⟩
theorem adrs3_new {w : World} {k : CAt} {c : Cmd} (h : CmdAt w k c) : ∃ w1, w.alloc (.cells #[.slice k.pf c.fr.path.length k.fc, .string c.fr.type, .string c.fr.name, .int .i64 c.fr.key, .int .u64 c.fr.place, .string c.fr.word, .slice k.pt c.ad.path.length k.tc, .string c.ad.type, .string c.ad.name, .int .i64 c.ad.key, .int .u64 c.ad.place, .string c.ad.word, .slice k.p.pa c.r.a.path.length k.p.pc, .string c.r.a.type, .string c.r.a.name, .int .i64 c.r.a.key, .int .u64 c.r.a.place, .string c.r.a.word] 35) = w1 ∧ Hid (Adrs3 w1 w.heap.size c) ∧ Hid (Below w.heap.size w w1) := by
  have V : (w.alloc (.cells #[.slice k.pf c.fr.path.length k.fc, .string c.fr.type, .string c.fr.name, .int .i64 c.fr.key, .int .u64 c.fr.place, .string c.fr.word, .slice k.pt c.ad.path.length k.tc, .string c.ad.type, .string c.ad.name, .int .i64 c.ad.key, .int .u64 c.ad.place, .string c.ad.word, .slice k.p.pa c.r.a.path.length k.p.pc, .string c.r.a.type, .string c.r.a.name, .int .i64 c.r.a.key, .int .u64 c.r.a.place, .string c.r.a.word] 35)).heap[w.heap.size]? = some (.cells ((arrA k.pf k.fc c.fr).toList ++ ((arrA k.pt k.tc c.ad).toList ++ (arrA k.p.pa k.p.pc c.r.a).toList)).toArray 35 (0, 0)) := heap_alloc_new _ _
  have hb : Below w.heap.size w (w.alloc (.cells #[.slice k.pf c.fr.path.length k.fc, .string c.fr.type, .string c.fr.name, .int .i64 c.fr.key, .int .u64 c.fr.place, .string c.fr.word, .slice k.pt c.ad.path.length k.tc, .string c.ad.type, .string c.ad.name, .int .i64 c.ad.key, .int .u64 c.ad.place, .string c.ad.word, .slice k.p.pa c.r.a.path.length k.p.pc, .string c.r.a.type, .string c.r.a.name, .int .i64 c.r.a.key, .int .u64 c.r.a.place, .string c.r.a.word] 35)) := (Below.refl _ _).alloc (Nat.le_refl _) _
  refine ⟨_, rfl, ⟨heap_lt V, fun i hi => ?_⟩, hb⟩
  have hi2 : i = 0 ∨ i = 1 ∨ i = 2 := by simp [names3] at hi; omega
  rcases hi2 with rfl | rfl | rfl
  · refine ⟨k.pf, k.fc, fun j u hu => ?_, h.f.stays hb⟩
    have hj : j < 6 := (Array.getElem?_eq_some_iff.1 hu).1
    rw [cell_of V, List.getElem?_toArray, List.getElem?_append_left (by show 0 * 6 + j < 6; omega), show 0 * 6 + j = j by omega]
    simpa [names3] using hu
  · refine ⟨k.pt, k.tc, fun j u hu => ?_, h.t.stays hb⟩
    have hj : j < 6 := (Array.getElem?_eq_some_iff.1 hu).1
    rw [cell_of V, List.getElem?_toArray, List.getElem?_append_right (by show 6 ≤ 1 * 6 + j; omega), List.getElem?_append_left (by show 1 * 6 + j - 6 < 6; omega), show 1 * 6 + j - (arrA k.pf k.fc c.fr).toList.length = j by show 1 * 6 + j - 6 = j; omega]
    simpa [names3] using hu
  · refine ⟨k.p.pa, k.p.pc, fun j u hu => ?_, (h.r.adr h.s).stays hb⟩
    have hj : j < 6 := (Array.getElem?_eq_some_iff.1 hu).1
    rw [cell_of V, List.getElem?_toArray, List.getElem?_append_right (by show 6 ≤ 2 * 6 + j; omega), List.getElem?_append_right (by show 6 ≤ 2 * 6 + j - 6; omega), show 2 * 6 + j - (arrA k.pf k.fc c.fr).toList.length - (arrA k.pt k.tc c.ad).toList.length = j by show 2 * 6 + j - 6 - 6 = j; omega]
    simpa [names3] using hu
theorem adr_six {w : World} {b o : Nat} {pa : Option Addr} {pc : Nat} {a : Adr} (h : ∀ j u, (arrA pa pc a)[j]? = some u → w.cell? ⟨b, o + j, none⟩ = some u) :
    w.cell? ⟨b, o, none⟩ = some (.slice pa a.path.length pc) ∧ w.cell? ⟨b, o + 1, none⟩ = some (.string a.type) ∧ w.cell? ⟨b, o + 2, none⟩ = some (.string a.name) ∧ w.cell? ⟨b, o + 3, none⟩ = some (.int .i64 a.key) ∧ w.cell? ⟨b, o + 4, none⟩ = some (.int .u64 a.place) ∧ w.cell? ⟨b, o + 5, none⟩ = some (.string a.word) := ⟨h 0 _ rfl, h 1 _ rfl, h 2 _ rfl, h 3 _ rfl, h 4 _ rfl, h 5 _ rfl⟩
theorem same_two {w : World} {a b : Adr} {pa pb : Option Addr} (pc pd : Nat) (ha : AdrAt w pa a) (hb : AdrAt w pb b) (x : Bool) (hx : sameA a b = x) :
    Hid (Calls Tryz.prog 27 #[.agg #[.slice pa a.path.length pc, .string a.type, .string a.name, .int .i64 a.key, .int .u64 a.place, .string a.word], .agg #[.slice pb b.path.length pd, .string b.type, .string b.name, .int .i64 b.key, .int .u64 b.place, .string b.word]] w fun e w' => e = .returned (.bool x) ∧ Below w.heap.size w w') := by
  rw [← hx]; exact rsame_any a b pa pb pc pd _ _ w ha.t hb.t (by have := ha.l; omega) (by have := hb.l; omega)
theorem RnPost.to {s : Sta} {l : List Cmd} {w w' : World} {e : Ending} (h : RnPost s l w e w') : ∃ a1 c1 s1 a2 c2, ∃ es : List Int, e = .returned (.tuple #[.agg #[.int .u64 s1.serial, .string s1.lin, .slice a1 s1.recs.length c1], .slice a2 es.length c2]) ∧ Hid (ChainR s l.reverse s1 es) ∧ Hid (RecsAt w' a1 s1.recs) ∧ Hid (s1.recs.length ≤ c1 ∧ s1.recs.length ≤ s.recs.length + l.length) ∧ Hid (IsInts w' a2 es) ∧ Hid (Below w.heap.size w w') := h
/-- What two commands, one behind the other, tell. -/
theorem chain_two {s s2 : Sta} {c d : Cmd} {es : List Int} (h : ChainR s [c, d].reverse s2 es) : ∃ s1, Done s c s1 ∧ Done s1 d s2 ∧ es = [errC s c, errC s1 d] := by
  obtain ⟨s1, e1, ⟨s0, e0, ⟨rfl, rfl⟩, hd, rfl⟩, hd2, rfl⟩ := h
  exact ⟨s1, hd, hd2, rfl⟩
end Go.Proofs.YtehghladpnpcoaaGreatDoor.State.Edit
namespace Go.Proofs.YtehghladpnpcoaaGreatDoor.State.Edit
open Go.RowKit Go.Shelf Go.Proofs.YtehghladpnpcoaaGreatDoor.Utf Go.Proofs.YtehghladpnpcoaaGreatDoor.Strs Go.Proofs.YtehghladpnpcoaaGreatDoor.Addr Go.Proofs.YtehghladpnpcoaaGreatDoor.State
open Go.Proofs.YtehghladpnpcoaaGreatDoor.Jdec (IsTexts Turn infoStr gb_set gb_below gb_refl)
set_option linter.unusedVariables false
set_option linter.unusedSimpArgs false
set_option maxRecDepth 100000

set_option maxHeartbeats 64000000 in
theorem editApart_any (s : Sta) (ra : Option Addr) (rc : Nat) (k m : CAt) (c d : Cmd) (w : World) (T : TabsA w) (h : StaIn w ra s) (hcp : s.recs.length ≤ rc) (hc : CmdIn w k c) (hd : CmdIn w m d) (hsn : s.serial < 18446744073709551616) :
    Calls Tryz.prog 9 #[.agg #[.int .u64 s.serial, .string s.lin, .slice ra s.recs.length rc], .agg #[.int .i64 c.kind, .slice k.pf c.fr.path.length k.fc, .string c.fr.type, .string c.fr.name, .int .i64 c.fr.key, .int .u64 c.fr.place, .string c.fr.word, .slice k.pt c.ad.path.length k.tc, .string c.ad.type, .string c.ad.name, .int .i64 c.ad.key, .int .u64 c.ad.place, .string c.ad.word, .slice k.p.pa c.r.a.path.length k.p.pc, .string c.r.a.type, .string c.r.a.name, .int .i64 c.r.a.key, .int .u64 c.r.a.place, .string c.r.a.word, .string c.r.prov, .string c.r.id, .slice k.p.ta c.r.attrs.length k.p.tc], .agg #[.int .i64 d.kind, .slice m.pf d.fr.path.length m.fc, .string d.fr.type, .string d.fr.name, .int .i64 d.fr.key, .int .u64 d.fr.place, .string d.fr.word, .slice m.pt d.ad.path.length m.tc, .string d.ad.type, .string d.ad.name, .int .i64 d.ad.key, .int .u64 d.ad.place, .string d.ad.word, .slice m.p.pa d.r.a.path.length m.p.pc, .string d.r.a.type, .string d.r.a.name, .int .i64 d.r.a.key, .int .u64 d.r.a.place, .string d.r.a.word, .string d.r.prov, .string d.r.id, .slice m.p.ta d.r.attrs.length m.p.tc]] w fun e w' => e = .returned (.bool true) ∧ Below w.heap.size w w' := by
  obtain ⟨w1, hw1, V1, B1⟩ := sta_new w ra rc s
  obtain ⟨wb, hwb, Vb, Bb⟩ := cmd_new w1 k c
  obtain ⟨w2, hw2, V2, B2⟩ := cmd_new wb m d
  have hl1 := heap_lt V1.out
  have hlb := heap_lt Vb.out
  have hl2 := heap_lt V2.out
  have B02 : Hid (Below w.heap.size w w2) := (B1.out.trans (Bb.out.mono (by omega))).trans (B2.out.mono (by omega))
  have HSB : Hid (∀ W, Below w2.heap.size w2 W → W.heap[w.heap.size]? = some (.cells (staArr ra rc s) 25 (0, 0))) := fun W hb => (hb.block _ (by omega)).trans ((B2.out.block _ (by omega)).trans ((Bb.out.block _ hl1).trans V1.out))
  have HCB : Hid (∀ W, Below w2.heap.size w2 W → W.heap[w1.heap.size]? = some (.cells (cmdArr k c) 44 (0, 0))) := fun W hb => (hb.block _ (by omega)).trans ((B2.out.block _ hlb).trans Vb.out)
  have HDB : Hid (∀ W, Below w2.heap.size w2 W → W.heap[wb.heap.size]? = some (.cells (cmdArr m d) 44 (0, 0))) := fun W hb => (hb.block _ hl2).trans V2.out
  have HBW : Hid (∀ W, Below w2.heap.size w2 W → Below w.heap.size w W) := fun W hb => B02.out.trans (hb.mono B02.out.size)
  have HT : Hid (∀ W, Below w2.heap.size w2 W → TabsA W) := fun W hb => T.stays (HBW.out W hb)
  have HS : Hid (∀ W, Below w2.heap.size w2 W → StaIn W ra s) := fun W hb => h.stays (HBW.out W hb)
  have HC : Hid (∀ W, Below w2.heap.size w2 W → CmdIn W k c) := fun W hb => hc.stays (HBW.out W hb)
  have HD : Hid (∀ W, Below w2.heap.size w2 W → CmdIn W m d) := fun W hb => hd.stays (HBW.out W hb)
  have HWK := wakes26 w2 (HT.out w2 (Below.refl _ _))
  have HSN := Hid.out (p := Hid _) hsn
  clear T h hc hd hsn hcp hl1 hl2 hlb
  go_enter Tryz.func9, Tryz.ntmps9
  go_wp2_with fail
  refine (Calls.mono HWK.out ?_)
  rintro z w3 ⟨rfl, hb⟩
  have C3 : Hid (Below w2.heap.size w2 w3) := hb
  clear hb HWK hw1 hw2 hwb
  have HGS := gs_ok s ra rc w3 (HS.out w3 C3.out)
  obtain ⟨x0, x1, x2⟩ := sta_cells (HSB.out w3 C3.out)
  go_wp2_with fail
  refine (Calls.mono HGS.out ?_)
  rintro z w4 hz
  obtain ⟨g, rfl, hg, hb⟩ := hz.to
  have C4 : Hid (Below w2.heap.size w2 w4) := C3.out.trans (hb.out.mono C3.out.size)
  clear hz hb HGS x0 x1 x2
  cases g
  case true =>
    go_wp2_with fail
    go_ret
    exact ⟨rfl, HBW.out _ C4.out⟩
  have hsz := hg.out rfl
  have hn3 : s.recs.length ≤ 3000 := by omega
  have HN : Hid (s.recs.length ≤ 30) := hsz.1
  have hl6 : s.lin.size ≤ 6000 := by omega
  have HSM := Hid.out (p := Hid _) hsz.2.2
  have HR : Hid (∀ W, Below w2.heap.size w2 W → RecsAt W ra s.recs) := fun W hb => ⟨(HS.out W hb).t, hn3, HSM.out⟩
  obtain ⟨rs, hrs⟩ : ∃ b, rightS s = b := ⟨_, rfl⟩
  have HRR := rr_ok s ra rc w4 (HR.out w4 C4.out) hl6 rs hrs
  have HRS := Hid.out (p := Hid _) hrs
  obtain ⟨x0, x1, x2⟩ := sta_cells (HSB.out w4 C4.out)
  clear hsz hg hrs hl6 hn3
  go_wp2_with fail
  refine (Calls.mono HRR.out ?_)
  rintro z w5 ⟨rfl, hb⟩
  have C5 : Hid (Below w2.heap.size w2 w5) := C4.out.trans (hb.mono C4.out.size)
  clear hb HRR x0 x1 x2
  cases rs
  case false =>
    go_wp2_with fail
    go_ret
    exact ⟨rfl, HBW.out _ C5.out⟩
  have HG : Hid (Good s.recs) := rightS_good HRS.out HSM.out
  have LC := cmd_load (HCB.out w5 C5.out)
  have LD := cmd_load (HDB.out w5 C5.out)
  obtain ⟨w6, hw6, V6, B6⟩ := two_new (w := w5) k m c d
  have C6 : Hid (Below w2.heap.size w2 w6) := C5.out.trans (B6.out.mono C5.out.size)
  have HGC : Hid (Calls Tryz.prog 22 #[.slice (some ⟨w5.heap.size, 0, none⟩) 2 2] w6 (GcPost [c, d] w6)) := rgreat26_any [c, d] (some ⟨w5.heap.size, 0, none⟩) 2 w6 (two_cmds V6.out (HC.out w6 C6.out) (HD.out w6 C6.out))
  go_wp2_with (first | (refine wpList_load_run LC.out rfl _ rfl rfl ?_) | (refine wpList_load_run LD.out rfl _ rfl rfl ?_))
  refine (Calls.mono HGC.out ?_)
  rintro z w7 hz
  obtain ⟨g, rfl, hg, hb⟩ := hz.to
  have C7 : Hid (Below w2.heap.size w2 w7) := C6.out.trans (hb.out.mono C6.out.size)
  clear hz hb HGC hw6 LC LD
  cases g
  case true =>
    go_wp2_with fail
    go_ret
    exact ⟨rfl, HBW.out _ C7.out⟩
  have hft := (hg.out rfl).2
  have HCM : Hid (∀ W, Below w2.heap.size w2 W → CmdAt W k c) := fun W hb => (HC.out W hb).at (hft c (by simp)).f (hft c (by simp)).t (hft c (by simp)).r
  have HDM : Hid (∀ W, Below w2.heap.size w2 W → CmdAt W m d) := fun W hb => (HD.out W hb).at (hft d (by simp)).f (hft d (by simp)).t (hft d (by simp)).r
  clear hg hft
  obtain ⟨x0, x1, x2⟩ := sta_cells (HSB.out w7 C7.out)
  by_cases hbig : 9223372036854775808 < s.serial
  · have q1 : decide ((9223372036854775808 : Int) < (s.serial : Int)) = true := by rw [decide_eq_true_eq]; omega
    have q2 : decide (9223372036854775808 < s.serial) = true := by rw [decide_eq_true_eq]; omega
    clear hbig
    go_wp2_with fail
    go_ret
    exact ⟨rfl, HBW.out _ C7.out⟩
  have q1 : decide ((9223372036854775808 : Int) < (s.serial : Int)) = false := by rw [decide_eq_false_iff_not]; omega
  have q2 : decide (9223372036854775808 < s.serial) = false := by rw [decide_eq_false_iff_not]; omega
  have HSE : Hid (s.serial ≤ 9223372036854775808) := by show s.serial ≤ _; omega
  clear hbig
  obtain ⟨y0, y1, y2, y3, y4, y5, y6, y7, y8, y9, y10, y11, y12, y13, y14, y15, y16, y17, y18, y19, y20, y21⟩ := cmd_cells (HCB.out w7 C7.out)
  obtain ⟨w8, hw8, HA8, B8⟩ := adrs3_new (HCM.out w7 C7.out)
  have C8 : Hid (Below w2.heap.size w2 w8) := C7.out.trans (B8.out.mono C7.out.size)
  have hn3 : (names3 c).length = 3 := rfl
  go_wp2_with fail
  clear hw8 x0 x1 x2 q1 q2 y0 y1 y2 y3 y4 y5 y6 y7 y8 y9 y10 y11 y12 y13 y14 y15 y16 y17 y18 y19 y20 y21
  go_loopw [44] (fun p44 wr => ∃ i : Nat, p44 = .int .i64 i ∧ i ≤ 3 ∧ Hid (∀ j (h : j < (names3 c).length), j < i → ∀ b ∈ names3 d, (names3 c)[j] = b → (names3 c)[j] = zeroA) ∧ Hid (Below w8.heap.size w8 wr)) (fun p44 _ => 3 - (intOf p44).toNat)
  case atStart => exact ⟨0, rfl, by omega, fun j _ h => by omega, Below.refl _ _⟩
  case round =>
    obtain ⟨i, rfl, hi, hI, hB⟩ := hrel
    by_cases hlt : i < 3
    · have CR : Hid (Below w2.heap.size w2 wr) := C8.out.trans (hB.out.mono C8.out.size)
      have qi1 : decide ((i : Int) < 3) = true := by rw [decide_eq_true_eq]; omega
      have qi2 : decide (i < 3) = true := by rw [decide_eq_true_eq]; omega
      obtain ⟨pa, pc, hcl, hat⟩ := (HA8.out.stays hB.out).row i hlt
      obtain ⟨a, ha⟩ : ∃ a, (names3 c)[i] = a := ⟨_, rfl⟩
      rw [ha] at hcl hat
      have HAE := Hid.out (p := Hid _) ha
      obtain ⟨z0, z1, z2, z3, z4, z5⟩ := adr_six hcl
      obtain ⟨w9, hw9, V9, B9⟩ := adr_new wr pa pc a
      have C9 : Hid (Below w2.heap.size w2 w9) := CR.out.trans (B9.out.mono CR.out.size)
      have HAT : Hid (∀ W, Below w9.heap.size w9 W → AdrAt W pa a) := fun W hb => (hat.stays B9.out).stays hb
      have HAB : Hid (∀ W, Below w9.heap.size w9 W → W.heap[wr.heap.size]? = some (.cells (arrA pa pc a) 35 (0, 0))) := fun W hb => (hb.block _ (heap_lt V9.out)).trans V9.out
      obtain ⟨y0, y1, y2, y3, y4, y5, y6, y7, y8, y9, y10, y11, y12, y13, y14, y15, y16, y17, y18, y19, y20, y21⟩ := cmd_cells (HDB.out w9 C9.out)
      obtain ⟨w10, hw10, HA10, B10⟩ := adrs3_new (HDM.out w9 C9.out)
      clear hcl hat ha
      go_wp2_with fail
      clear hw9 hw10 z0 z1 z2 z3 z4 z5 y0 y1 y2 y3 y4 y5 y6 y7 y8 y9 y10 y11 y12 y13 y14 y15 y16 y17 y18 y19 y20 y21
      go_loopw [57] (fun p57 wx => ∃ j : Nat, p57 = .int .i64 j ∧ j ≤ 3 ∧ Hid (∀ n (h : n < (names3 d).length), n < j → a = (names3 d)[n] → a = zeroA) ∧ Hid (Below w10.heap.size w10 wx)) (fun p57 _ => 3 - (intOf p57).toNat)
      case atStart => exact ⟨0, rfl, by omega, fun j _ h => by omega, Below.refl _ _⟩
      case round =>
        obtain ⟨j, rfl, hj, hJ, hBx⟩ := hrel
        have E9 : Hid (Below w9.heap.size w9 wr) := B10.out.trans (hBx.out.mono B10.out.size)
        by_cases hjl : j < 3
        · have qj1 : decide ((j : Int) < 3) = true := by rw [decide_eq_true_eq]; omega
          have qj2 : decide (j < 3) = true := by rw [decide_eq_true_eq]; omega
          obtain ⟨pb, pd, hcl, hat⟩ := (HA10.out.stays hBx.out).row j hjl
          obtain ⟨b, hb0⟩ : ∃ b, (names3 d)[j] = b := ⟨_, rfl⟩
          rw [hb0] at hcl hat
          have HBE := Hid.out (p := Hid _) hb0
          obtain ⟨z0, z1, z2, z3, z4, z5⟩ := adr_six hcl
          obtain ⟨w11, hw11, V11, B11⟩ := adr_new wr pb pd b
          have E11 : Hid (Below w9.heap.size w9 w11) := E9.out.trans (B11.out.mono E9.out.size)
          have F11 : Hid (Below w10.heap.size w10 w11) := hBx.out.trans (B11.out.mono hBx.out.size)
          obtain ⟨sx, hsx⟩ : ∃ b0, sameA a b = b0 := ⟨_, rfl⟩
          obtain ⟨sz, hsz⟩ : ∃ b0, sameA a zeroA = b0 := ⟨_, rfl⟩
          have HSX := Hid.out (p := Hid _) hsx
          have HSZ := Hid.out (p := Hid _) hsz
          have HSM1 := same_two pc pd (HAT.out w11 E11.out) (hat.stays B11.out) sx hsx
          have HSM2 : Hid (∀ W, Below w9.heap.size w9 W → Calls Tryz.prog 27 #[.agg #[.slice pa a.path.length pc, .string a.type, .string a.name, .int .i64 a.key, .int .u64 a.place, .string a.word], .agg #[.slice none 0 0, .string ⟨#[]⟩, .string ⟨#[]⟩, .int .i64 0, .int .u64 0, .string ⟨#[]⟩]] W fun e w' => e = .returned (.bool sz) ∧ Below W.heap.size W w') := fun W hb => (same_two pc 0 (HAT.out W hb) (zadr_at W) sz hsz).out
          obtain ⟨y0, y1, y2, y3, y4, y5⟩ := adr_cells (HAB.out w11 E11.out)
          obtain ⟨v0, v1, v2, v3, v4, v5⟩ := adr_cells V11.out
          clear hcl hat hb0 hsx hsz
          go_wp2_with fail
          refine (Calls.mono HSM1.out ?_)
          rintro z w12 ⟨rfl, hb⟩
          have E12 : Hid (Below w9.heap.size w9 w12) := E11.out.trans (hb.mono E11.out.size)
          have F12 : Hid (Below w10.heap.size w10 w12) := F11.out.trans (hb.mono F11.out.size)
          clear hb HSM1 hw11 z0 z1 z2 z3 z4 z5 y0 y1 y2 y3 y4 y5 v0 v1 v2 v3 v4 v5
          cases sx
          case false =>
            have HJ2 : Hid (∀ n (h : n < (names3 d).length), n < j + 1 → a = (names3 d)[n] → a = zeroA) := fun n h hn e => by
              rcases Nat.lt_or_ge n j with h1 | h1
              · exact hJ.out n h h1 e
              · obtain rfl : n = j := by omega
                have e2 : a = b := e.trans HBE.out
                have := HSX.out
                rw [(sameA_iff _ _).2 e2] at this; cases this
            go_wp2_with fail
            go_roundw
            case rel => exact ⟨j + 1, by go_num, by omega, HJ2.out, F12.out⟩
            case measure => simp [intOf]; omega
          obtain ⟨y0, y1, y2, y3, y4, y5⟩ := adr_cells (HAB.out w12 E12.out)
          go_wp2_with fail
          refine (Calls.mono (HSM2.out w12 E12.out) ?_)
          rintro z w13 ⟨rfl, hb⟩
          have E13 : Hid (Below w9.heap.size w9 w13) := E12.out.trans (hb.mono E12.out.size)
          have F13 : Hid (Below w10.heap.size w10 w13) := F12.out.trans (hb.mono F12.out.size)
          clear hb y0 y1 y2 y3 y4 y5
          cases sz
          case false =>
            go_wp2_with fail
            go_ret
            exact ⟨rfl, HBW.out _ (C9.out.trans (E13.out.mono C9.out.size))⟩
          have HJ2 : Hid (∀ n (h : n < (names3 d).length), n < j + 1 → a = (names3 d)[n] → a = zeroA) := fun n h hn e => (sameA_iff _ _).1 HSZ.out
          go_wp2_with fail
          go_roundw
          case rel => exact ⟨j + 1, by go_num, by omega, HJ2.out, F13.out⟩
          case measure => simp [intOf]; omega
        · have hje : j = 3 := by omega
          have qj1 : decide ((j : Int) < 3) = false := by rw [decide_eq_false_iff_not]; omega
          have qj2 : decide (j < 3) = false := by rw [decide_eq_false_iff_not]; omega
          have HI2 : Hid (∀ n (h : n < (names3 c).length), n < i + 1 → ∀ b ∈ names3 d, (names3 c)[n] = b → (names3 c)[n] = zeroA) := fun n h hn b hbm e => by
            rcases Nat.lt_or_ge n i with h1 | h1
            · exact hI.out n h h1 b hbm e
            · obtain rfl : n = i := by omega
              obtain ⟨q, hq, rfl⟩ := List.getElem_of_mem hbm
              have := hJ.out q hq (by rw [hje]; exact hq)
              have hae := HAE.out
              exact hae.trans (this (hae.symm.trans e))
          have G8 : Hid (Below w8.heap.size w8 wr) := hB.out.trans ((B9.out.trans (E9.out.mono B9.out.size)).mono hB.out.size)
          clear hje
          go_wp2_with fail
          go_roundw
          case rel => exact ⟨i + 1, by go_num, by omega, HI2.out, G8.out⟩
          case measure => simp [intOf]; omega
    · have hie : i = 3 := by omega
      have qi1 : decide ((i : Int) < 3) = false := by rw [decide_eq_false_iff_not]; omega
      have qi2 : decide (i < 3) = false := by rw [decide_eq_false_iff_not]; omega
      have HNC : Hid (¬ Clash c d) := fun ⟨a, h1, h2, h3⟩ => by
        obtain ⟨n, hn, rfl⟩ := List.getElem_of_mem h1
        exact h3 (hI.out n hn (by rw [hie]; exact hn) _ h2 rfl)
      have CR : Hid (Below w2.heap.size w2 wr) := C8.out.trans (hB.out.mono C8.out.size)
      clear hie hI
      have LC := cmd_load (HCB.out wr CR.out)
      have LD := cmd_load (HDB.out wr CR.out)
      obtain ⟨x0, x1, x2⟩ := sta_cells (HSB.out wr CR.out)
      obtain ⟨u21, hu21, U21, BU21⟩ := two_new (w := wr) k m c d
      have CU21 : Hid (Below w2.heap.size w2 u21) := CR.out.trans (BU21.out.mono CR.out.size)
      have HRN : Hid (Calls Tryz.prog 31 #[.agg #[.int .u64 s.serial, .string s.lin, .slice ra s.recs.length rc], .slice (some ⟨wr.heap.size, 0, none⟩) 2 2] u21 (RnPost s [c, d] u21)) := run_any s ra rc [c, d] (some ⟨wr.heap.size, 0, none⟩) 2 u21 (HR.out _ CU21.out) HG.out (two_at U21.out (HCM.out _ CU21.out) (HDM.out _ CU21.out)) (by simp) (by have := HN.out; omega) HSN.out (HT.out _ CU21.out)
      go_wp2_with (first | (refine wpList_load_run LC.out rfl _ rfl rfl ?_) | (refine wpList_load_run LD.out rfl _ rfl rfl ?_))
      refine (Calls.mono HRN.out ?_)
      rintro z w20 hz
      obtain ⟨a21, c21, s21, b21, d21, es21, rfl, CH21, HR21, HL21, IN21, hb⟩ := hz.to
      have C20 : Hid (Below w2.heap.size w2 w20) := CU21.out.trans (hb.out.mono CU21.out.size)
      have K20 : Hid (Below wr.heap.size wr w20) := BU21.out.trans (hb.out.mono BU21.out.size)
      have EL21 : Hid (es21.length = 2) := by
        obtain ⟨t, _, _, e⟩ := chain_two CH21.out
        show es21.length = 2
        rw [e]; rfl
      rw [EL21.out]
      clear hz hb HRN LC LD x0 x1 x2 hu21
      obtain ⟨z21, hz21, Vz21, Bz21, Zz21⟩ := zsta_new w20
      obtain ⟨w21, ht21⟩ : ∃ w21, (((z21.setCell ⟨w20.heap.size, 0, none⟩ (.int .u64 s21.serial)).setCell ⟨w20.heap.size, 1, none⟩ (.string s21.lin)).setCell ⟨w20.heap.size, 2, none⟩ (.slice a21 s21.recs.length c21)) = w21 := ⟨_, rfl⟩
      have Gt21 : Hid (z21.grownBy w21 (some w20.heap.size)) := by rw [← ht21]; exact (((gb_set _ _ _ _).trans (gb_set _ _ _ _)).trans (gb_set _ _ _ _))
      have V21 : Hid (w21.heap[w20.heap.size]? = some (.cells (staArr a21 c21 s21) 25 (0, 0))) := by rw [← ht21]; exact set3 (t := s21) Vz21.out
      have B21 : Hid (Below w20.heap.size w20 w21) := Bz21.out.grown Gt21.out Bz21.out.size (fun x hx => by injection hx with hx; omega)
      have fz210 := frozen_of Vz21.out 0
      have fz211 := frozen_of Vz21.out 1
      have fz212 := frozen_of Vz21.out 2
      obtain ⟨cz210, cz211, cz212⟩ := sta_cells Vz21.out
      have C21 : Hid (Below w2.heap.size w2 w21) := C20.out.trans (B21.out.mono C20.out.size)
      have LC := cmd_load (HCB.out w21 C21.out)
      have LD := cmd_load (HDB.out w21 C21.out)
      obtain ⟨x0, x1, x2⟩ := sta_cells (HSB.out w21 C21.out)
      obtain ⟨u23, hu23, U23, BU23⟩ := two_new (w := w21) m k d c
      have CU23 : Hid (Below w2.heap.size w2 u23) := C21.out.trans (BU23.out.mono C21.out.size)
      have HRN : Hid (Calls Tryz.prog 31 #[.agg #[.int .u64 s.serial, .string s.lin, .slice ra s.recs.length rc], .slice (some ⟨w21.heap.size, 0, none⟩) 2 2] u23 (RnPost s [d, c] u23)) := run_any s ra rc [d, c] (some ⟨w21.heap.size, 0, none⟩) 2 u23 (HR.out _ CU23.out) HG.out (two_at U23.out (HDM.out _ CU23.out) (HCM.out _ CU23.out)) (by simp) (by have := HN.out; omega) HSN.out (HT.out _ CU23.out)
      go_wp2_with (first | (refine wpList_load_run LC.out rfl _ rfl rfl ?_) | (refine wpList_load_run LD.out rfl _ rfl rfl ?_))
      refine (Calls.mono HRN.out ?_)
      rintro z w22 hz
      obtain ⟨a23, c23, s23, b23, d23, es23, rfl, CH23, HR23, HL23, IN23, hb⟩ := hz.to
      have C22 : Hid (Below w2.heap.size w2 w22) := CU23.out.trans (hb.out.mono CU23.out.size)
      have K22 : Hid (Below w21.heap.size w21 w22) := BU23.out.trans (hb.out.mono BU23.out.size)
      have EL23 : Hid (es23.length = 2) := by
        obtain ⟨t, _, _, e⟩ := chain_two CH23.out
        show es23.length = 2
        rw [e]; rfl
      rw [EL23.out]
      clear hz hb HRN LC LD x0 x1 x2 hu23
      obtain ⟨z23, hz23, Vz23, Bz23, Zz23⟩ := zsta_new w22
      obtain ⟨w23, ht23⟩ : ∃ w23, (((z23.setCell ⟨w22.heap.size, 0, none⟩ (.int .u64 s23.serial)).setCell ⟨w22.heap.size, 1, none⟩ (.string s23.lin)).setCell ⟨w22.heap.size, 2, none⟩ (.slice a23 s23.recs.length c23)) = w23 := ⟨_, rfl⟩
      have Gt23 : Hid (z23.grownBy w23 (some w22.heap.size)) := by rw [← ht23]; exact (((gb_set _ _ _ _).trans (gb_set _ _ _ _)).trans (gb_set _ _ _ _))
      have V23 : Hid (w23.heap[w22.heap.size]? = some (.cells (staArr a23 c23 s23) 25 (0, 0))) := by rw [← ht23]; exact set3 (t := s23) Vz23.out
      have B23 : Hid (Below w22.heap.size w22 w23) := Bz23.out.grown Gt23.out Bz23.out.size (fun x hx => by injection hx with hx; omega)
      have fz230 := frozen_of Vz23.out 0
      have fz231 := frozen_of Vz23.out 1
      have fz232 := frozen_of Vz23.out 2
      obtain ⟨cz230, cz231, cz232⟩ := sta_cells Vz23.out
      have C23 : Hid (Below w2.heap.size w2 w23) := C22.out.trans (B23.out.mono C22.out.size)
      obtain ⟨t1, D1, D2, f1⟩ := chain_two CH21.out
      obtain ⟨t2, D3, D4, f2⟩ := chain_two CH23.out
      obtain ⟨k1, k2, k3⟩ := commute HNC.out D1 D2 D3 D4 HSE.out
      obtain ⟨p, hp⟩ : ∃ p, errC s c = p := ⟨_, rfl⟩
      obtain ⟨q, hq⟩ : ∃ q, errC s d = q := ⟨_, rfl⟩
      rw [k1, hp, hq] at f1
      rw [k2, hp, hq] at f2
      subst f1 f2
      subst k3
      have HQ : Hid (∀ W, Below w23.heap.size w23 W → Below w20.heap.size w20 W) := fun W hb => ((B21.out.trans (K22.out.mono B21.out.size)).trans (B23.out.mono (Nat.le_trans B21.out.size K22.out.size))).trans (hb.mono (Nat.le_trans B21.out.size (Nat.le_trans K22.out.size B23.out.size)))
      have HQ2 : Hid (∀ W, Below w23.heap.size w23 W → Below w22.heap.size w22 W) := fun W hb => B23.out.trans (hb.mono B23.out.size)
      have HQ1 : Hid (∀ W, Below w23.heap.size w23 W → Below w21.heap.size w21 W) := fun W hb => (K22.out.trans (B23.out.mono K22.out.size)).trans (hb.mono (Nat.le_trans K22.out.size B23.out.size))
      obtain ⟨i1, o1, rfl, hb1, hc1⟩ := IN21.out.resolve_left (by simp)
      obtain ⟨i2, o2, rfl, hb2, hc2⟩ := IN23.out.resolve_left (by simp)
      have HP0 : Hid (∀ W, Below w23.heap.size w23 W → W.cell? ⟨i1, o1, none⟩ = some (.int .i64 p)) := fun W hb => by rw [cell_blk ((HQ.out W hb).block i1 hb1)]; exact hc1 0 (by simp)
      have HP1 : Hid (∀ W, Below w23.heap.size w23 W → W.cell? ⟨i1, o1 + 1, none⟩ = some (.int .i64 q)) := fun W hb => by rw [cell_blk ((HQ.out W hb).block i1 hb1)]; exact hc1 1 (by simp)
      have HK0 : Hid (∀ W, Below w23.heap.size w23 W → W.cell? ⟨i2, o2, none⟩ = some (.int .i64 q)) := fun W hb => by rw [cell_blk ((HQ2.out W hb).block i2 hb2)]; exact hc2 0 (by simp)
      have HK1 : Hid (∀ W, Below w23.heap.size w23 W → W.cell? ⟨i2, o2 + 1, none⟩ = some (.int .i64 p)) := fun W hb => by rw [cell_blk ((HQ2.out W hb).block i2 hb2)]; exact hc2 1 (by simp)
      have HXB : Hid (∀ W, Below w23.heap.size w23 W → W.heap[w20.heap.size]? = some (.cells (staArr a21 c21 s21) 25 (0, 0))) := fun W hb => ((HQ1.out W hb).block _ (heap_lt V21.out)).trans V21.out
      have HYB : Hid (∀ W, Below w23.heap.size w23 W → W.heap[w22.heap.size]? = some (.cells (staArr a23 c23 s21) 25 (0, 0))) := fun W hb => (hb.block _ (heap_lt V23.out)).trans V23.out
      have KSM : Hid (∀ W, Below w23.heap.size w23 W → Calls Tryz.prog 18 #[.agg #[.int .u64 s21.serial, .string s21.lin, .slice a21 s21.recs.length c21], .agg #[.int .u64 s21.serial, .string s21.lin, .slice a23 s21.recs.length c23]] W fun e w' => e = .returned (.bool true) ∧ Below W.heap.size W w') := fun W hb => (sm_ok s21 s21 a21 a23 c21 c23 W (HR21.out.stays (HQ.out W hb)) (HR23.out.stays (HQ2.out W hb)) true ((sameSta_iff _ _).2 rfl)).out
      clear hp hq hb1 hc1 hb2 hc2 k1 k2 D1 D2 D3 D4
      go_wp2_with fail
      refine wp_region_held_drew (S := fun W => Below w23.heap.size w23 W) (by kernel_rfl) ?_ (fun hHeld => ?_)
      · exact (Below.refl _ _).drew
      have HDW : Hid (Below w23.heap.size w23 w23.drew) := (Below.refl _ _).drew
      refine tk 0 ?_
      refine tk 1 ?_
      refine tk 2 ?_
      refine tk 3 ?_
      try simp only [nz]
      refine tk 4 ?_
      refine tk 5 ?_
      refine tk 6 ?_
      refine tk 7 ?_
      try simp only [nz]
      refine tk 8 ?_
      refine tk 9 ?_
      refine tk 10 ?_
      try simp only [nz]
      refine tv 11 (.int .i64 p) ?_ ?_
      · intro W hW; have ee := HP0.out W hW; clear hW; go_simp <;> with_reducible rfl
      try simp only [nz]
      refine tk 12 ?_
      refine tk 13 ?_
      try simp only [nz]
      refine tv 14 (.int .i64 p) ?_ ?_
      · intro W hW; have ee := HK1.out W hW; clear hW; go_simp <;> with_reducible rfl
      try simp only [nz]
      refine tk 15 ?_
      refine tk 16 ?_
      refine tk 17 ?_
      refine tk 18 ?_
      refine tk 19 ?_
      try simp only [nz]
      refine tv 20 (.int .i64 q) ?_ ?_
      · intro W hW; have ee := HP1.out W hW; clear hW; go_simp <;> with_reducible rfl
      try simp only [nz]
      refine tk 21 ?_
      refine tk 22 ?_
      try simp only [nz]
      refine tv 23 (.int .i64 q) ?_ ?_
      · intro W hW; have ee := HK0.out W hW; clear hW; go_simp <;> with_reducible rfl
      try simp only [nz]
      refine tk 24 ?_
      refine tk 25 ?_
      refine tk 26 ?_
      try simp only [nz]
      refine tv 27 (.agg #[.int .u64 s21.serial, .string s21.lin, .slice a21 s21.recs.length c21]) ?_ ?_
      · intro W hW; exact exec_load rfl rfl (sta_load (HXB.out W hW)).out
      try simp only [nz]
      refine tv 28 (.agg #[.int .u64 s21.serial, .string s21.lin, .slice a23 s21.recs.length c23]) ?_ ?_
      · intro W hW; exact exec_load rfl rfl (sta_load (HYB.out W hW)).out
      try simp only [nz]
      refine rd 29 (fun K hK => ?_)
      try simp only [nz]
      go_simp
      go_at_call 18; refine (Calls.mono (KSM.out w23.drew HDW.out) ?_); rintro z w24 ⟨rfl, hb⟩; have D24 : Hid (Below w23.heap.size w23 w24) := HDW.out.trans (hb.mono HDW.out.size); clear hb
      clear hHeld
      refine hK.out _ _ D24.out (fun hHeld => ?_)
      clear hK K
      try simp only [nz]
      refine tk 30 ?_
      refine tk 31 ?_
      try simp only [nz]
      refine wpAnyH_done (by kernel_rfl) ?_ _
      all_goals
        go_wp2_with fail
        go_ret
        exact ⟨by simp, HBW.out _ (C23.out.trans (D24.out.mono C23.out.size))⟩
theorem editApart_arg (v : Value) (s : Sta) (u : Value) (c : Cmd) (u2 : Value) (d : Cmd) (w : World) (h : StaArg w v s) (h' : CmdArg w u c) (h2 : CmdArg w u2 d) (T : TabsA w) :
    Calls Tryz.prog 9 #[v, u, u2] w fun e w' => e = .returned (.bool true) ∧ Below w.heap.size w w' := by
  obtain ⟨ra, rc, rfl, h1, h2', h3, _⟩ := h
  obtain ⟨k, rfl, h4⟩ := h'
  obtain ⟨m, rfl, h5⟩ := h2
  exact editApart_any s ra rc k m c d w T h1 h2' h4 h5 h3
end Go.Proofs.YtehghladpnpcoaaGreatDoor.State.Edit
