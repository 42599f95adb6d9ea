/- tabulariumlaw26.wakes. -/
import Derived.Test.YtehghladpnpcoaaGreatDoorVEdHa
import Derived.Test.YtehghladpnpcoaaGreatDoorVEdG
set_option linter.unusedVariables false
set_option linter.unusedSimpArgs false
set_option maxRecDepth 100000
set_option maxHeartbeats 16000000
namespace Go.Proofs.YtehghladpnpcoaaGreatDoor.State.Edit
open Go.RowKit Go.Shelf Go.Proofs.YtehghladpnpcoaaGreatDoor.Utf Go.Proofs.YtehghladpnpcoaaGreatDoor.Strs Go.Proofs.YtehghladpnpcoaaGreatDoor.Addr Go.Proofs.YtehghladpnpcoaaGreatDoor.State
open Go.Proofs.YtehghladpnpcoaaGreatDoor.Jdec (IsTexts Turn infoStr gb_set gb_below gb_refl)
theorem set6a {w : World} {b : Nat} {T : TypeId} (h : w.heap[b]? = some (.cells #[.slice none 0 0, .string ⟨#[]⟩, .string ⟨#[]⟩, .int .i64 0, .int .u64 0, .string ⟨#[]⟩] T (0, 0))) : ((((((w.setCell ⟨b, 0, none⟩ (.slice none 0 0)).setCell ⟨b, 1, none⟩ (.string ⟨#[120]⟩)).setCell ⟨b, 2, none⟩ (.string ⟨#[121]⟩)).setCell ⟨b, 3, none⟩ (.int .i64 0)).setCell ⟨b, 4, none⟩ (.int .u64 0)).setCell ⟨b, 5, none⟩ (.string ⟨#[]⟩)).heap[b]? = some (.cells #[.slice none 0 0, .string ⟨#[120]⟩, .string ⟨#[121]⟩, .int .i64 0, .int .u64 0, .string ⟨#[]⟩] T (0, 0)) := by
  have h0 := heap_set_same h (i := 0) (.slice none 0 0)
  have h1 := heap_set_same h0 (i := 1) (.string ⟨#[120]⟩)
  have h2 := heap_set_same h1 (i := 2) (.string ⟨#[121]⟩)
  have h3 := heap_set_same h2 (i := 3) (.int .i64 0)
  have h4 := heap_set_same h3 (i := 4) (.int .u64 0)
  have h5 := heap_set_same h4 (i := 5) (.string ⟨#[]⟩)
  rw [h5]
  simp
def wakeC : Cmd := ⟨1, wakeR.a, wakeR.a, Rec.zero⟩
def wakeK : CAt := ⟨none, 0, none, 0, At.zero⟩
theorem wake_at (w : World) : CmdAt w wakeK wakeC := ⟨⟨.inl rfl, by decide, (fun x h => by cases h), by decide, by decide, by decide, by decide⟩, ⟨.inl rfl, by decide, (fun x h => by cases h), by decide, by decide, by decide, by decide⟩, ⟨.inl rfl, .inl rfl⟩, zrec_small⟩
theorem wake_one : errC ⟨0, ⟨#[]⟩, [wakeR]⟩ wakeC = 11 := by kernel_rfl
theorem wake_none : errC ⟨0, ⟨#[]⟩, []⟩ wakeC = 12 := by kernel_rfl
theorem EdPost.to {s : Sta} {c : Cmd} {w w' : World} {e : Ending} (h : EdPost s c w e w') : ∃ a c' s', e = .returned (.tuple #[.agg #[.int .u64 s'.serial, .string s'.lin, .slice a s'.recs.length c'], .int .i64 (errC s c)]) ∧ Hid (Done s c s') ∧ Hid (RecsAt w' a s'.recs) ∧ Hid (s'.recs.length ≤ c' ∧ s'.recs.length ≤ s.recs.length + 1) ∧ Hid (Below w.heap.size w w') := h
theorem wakes26 (w : World) (T : TabsA w) : Hid (Calls Tryz.prog 21 #[] w fun e w' => e = .returned (.bool true) ∧ Below w.heap.size w w') := by
  show Calls _ _ _ _ _
  obtain ⟨z1, hz1, Vz1, Bz1⟩ : ∃ z1, w.alloc (.cells #[.slice none 0 0, .string ⟨#[]⟩, .string ⟨#[]⟩, .int .i64 0, .int .u64 0, .string ⟨#[]⟩] 35) = z1 ∧ Hid (z1.heap[w.heap.size]? = some (.cells #[.slice none 0 0, .string ⟨#[]⟩, .string ⟨#[]⟩, .int .i64 0, .int .u64 0, .string ⟨#[]⟩] 35 (0, 0))) ∧ Hid (Below w.heap.size w z1) := ⟨_, rfl, heap_alloc_new _ _, (Below.refl _ _).alloc (Nat.le_refl _) _⟩
  obtain ⟨w1, ht1⟩ : ∃ w1, ((((((z1.setCell ⟨w.heap.size, 0, none⟩ (.slice none 0 0)).setCell ⟨w.heap.size, 1, none⟩ (.string ⟨#[120]⟩)).setCell ⟨w.heap.size, 2, none⟩ (.string ⟨#[121]⟩)).setCell ⟨w.heap.size, 3, none⟩ (.int .i64 0)).setCell ⟨w.heap.size, 4, none⟩ (.int .u64 0)).setCell ⟨w.heap.size, 5, none⟩ (.string ⟨#[]⟩)) = w1 := ⟨_, rfl⟩
  have Gt1 : Hid (z1.grownBy w1 (some w.heap.size)) := by rw [← ht1]; exact gb6 _ _ _ _ _ _ _ _
  have V1 : Hid (w1.heap[w.heap.size]? = some (.cells #[.slice none 0 0, .string ⟨#[120]⟩, .string ⟨#[121]⟩, .int .i64 0, .int .u64 0, .string ⟨#[]⟩] 35 (0, 0))) := by rw [← ht1]; exact set6a Vz1.out
  have B1 : Hid (Below w.heap.size w w1) := Bz1.out.grown Gt1.out Bz1.out.size (fun x hx => by injection hx with hx; omega)
  have fz10 := frozen_of Vz1.out 0
  have cz10 : z1.cell? ⟨w.heap.size, 0, none⟩ = some (.slice none 0 0) := cell_of Vz1.out 0
  have fz11 := frozen_of Vz1.out 1
  have cz11 : z1.cell? ⟨w.heap.size, 1, none⟩ = some (.string ⟨#[]⟩) := cell_of Vz1.out 1
  have fz12 := frozen_of Vz1.out 2
  have cz12 : z1.cell? ⟨w.heap.size, 2, none⟩ = some (.string ⟨#[]⟩) := cell_of Vz1.out 2
  have fz13 := frozen_of Vz1.out 3
  have cz13 : z1.cell? ⟨w.heap.size, 3, none⟩ = some (.int .i64 0) := cell_of Vz1.out 3
  have fz14 := frozen_of Vz1.out 4
  have cz14 : z1.cell? ⟨w.heap.size, 4, none⟩ = some (.int .u64 0) := cell_of Vz1.out 4
  have fz15 := frozen_of Vz1.out 5
  have cz15 : z1.cell? ⟨w.heap.size, 5, none⟩ = some (.string ⟨#[]⟩) := cell_of Vz1.out 5
  obtain ⟨w2, hw2, V2, B2⟩ : ∃ z1, w1.alloc (.cells #[.slice none 0 0, .string ⟨#[120]⟩, .string ⟨#[121]⟩, .int .i64 0, .int .u64 0, .string ⟨#[]⟩, .string ⟨#[]⟩, .string ⟨#[]⟩, .slice none 0 0] 38) = z1 ∧ Hid (z1.heap[w1.heap.size]? = some (.cells (recArr At.zero wakeR) 38 (0, 0))) ∧ Hid (Below w1.heap.size w1 z1) := ⟨_, rfl, heap_alloc_new _ _, (Below.refl _ _).alloc (Nat.le_refl _) _⟩
  obtain ⟨z3, hz3, Vz3, Bz3, Zz3⟩ := zsta_new w2
  obtain ⟨w3, ht3⟩ : ∃ w3, (((z3.setCell ⟨w2.heap.size, 0, none⟩ (.int .u64 0)).setCell ⟨w2.heap.size, 1, none⟩ (.string ⟨#[]⟩)).setCell ⟨w2.heap.size, 2, none⟩ (.slice (some ⟨w1.heap.size, 0, none⟩) 1 1)) = w3 := ⟨_, rfl⟩
  have Gt3 : Hid (z3.grownBy w3 (some w2.heap.size)) := by rw [← ht3]; exact (((gb_set _ _ _ _).trans (gb_set _ _ _ _)).trans (gb_set _ _ _ _))
  have V3 : Hid (w3.heap[w2.heap.size]? = some (.cells (staArr (some ⟨w1.heap.size, 0, none⟩) 1 ⟨0, ⟨#[]⟩, [wakeR]⟩) 25 (0, 0))) := by rw [← ht3]; exact set3 (t := ⟨0, ⟨#[]⟩, [wakeR]⟩) Vz3.out
  have B3 : Hid (Below w2.heap.size w2 w3) := Bz3.out.grown Gt3.out Bz3.out.size (fun x hx => by injection hx with hx; omega)
  have fz30 := frozen_of Vz3.out 0
  have fz31 := frozen_of Vz3.out 1
  have fz32 := frozen_of Vz3.out 2
  obtain ⟨cz30, cz31, cz32⟩ := sta_cells Vz3.out
  have s1 := B1.out.size
  have s2 := B2.out.size
  have HB3 : Hid (Below w.heap.size w w3) := (B1.out.trans (B2.out.mono s1)).trans (B3.out.mono (by omega))
  have HRW : Hid (RecsAt w3 (some ⟨w1.heap.size, 0, none⟩) [wakeR]) := (one_rec V2.out ⟨.inl rfl, .inl rfl⟩ wakeR_small).stays B3.out
  have HT : Hid (∀ W, Below w.heap.size w W → TabsA W) := fun W hb => T.stays hb
  have HAB : Hid (∀ W, Below w3.heap.size w3 W → W.heap[w.heap.size]? = some (.cells #[.slice none 0 0, .string ⟨#[120]⟩, .string ⟨#[121]⟩, .int .i64 0, .int .u64 0, .string ⟨#[]⟩] 35 (0, 0))) := fun W hb => (hb.block _ (by have := heap_lt V1.out; have := B3.out.size; omega)).trans ((B3.out.block _ (by have := heap_lt V1.out; omega)).trans ((B2.out.block _ (heap_lt V1.out)).trans V1.out))
  have HD1 : Hid (Calls Tryz.prog 23 #[.agg #[.int .u64 0, .string ⟨#[]⟩, .slice (some ⟨w1.heap.size, 0, none⟩) 1 1], .agg #[.int .i64 1, .slice none 0 0, .string ⟨#[120]⟩, .string ⟨#[121]⟩, .int .i64 0, .int .u64 0, .string ⟨#[]⟩, .slice none 0 0, .string ⟨#[120]⟩, .string ⟨#[121]⟩, .int .i64 0, .int .u64 0, .string ⟨#[]⟩, .slice none 0 0, .string ⟨#[]⟩, .string ⟨#[]⟩, .int .i64 0, .int .u64 0, .string ⟨#[]⟩, .string ⟨#[]⟩, .string ⟨#[]⟩, .slice none 0 0]] w3 (EdPost ⟨0, ⟨#[]⟩, [wakeR]⟩ wakeC w3)) := edo_any ⟨0, ⟨#[]⟩, [wakeR]⟩ (some ⟨w1.heap.size, 0, none⟩) 1 wakeK wakeC w3 HRW.out wakeR_good (wake_at w3) (HT.out w3 HB3.out) (by decide) (by decide)
  have HD2 : Hid (∀ W, Below w.heap.size w W → Calls Tryz.prog 23 #[.agg #[.int .u64 0, .string ⟨#[]⟩, .slice none 0 0], .agg #[.int .i64 1, .slice none 0 0, .string ⟨#[120]⟩, .string ⟨#[121]⟩, .int .i64 0, .int .u64 0, .string ⟨#[]⟩, .slice none 0 0, .string ⟨#[120]⟩, .string ⟨#[121]⟩, .int .i64 0, .int .u64 0, .string ⟨#[]⟩, .slice none 0 0, .string ⟨#[]⟩, .string ⟨#[]⟩, .int .i64 0, .int .u64 0, .string ⟨#[]⟩, .string ⟨#[]⟩, .string ⟨#[]⟩, .slice none 0 0]] W (EdPost ⟨0, ⟨#[]⟩, []⟩ wakeC W)) := fun W hb => (edo_any ⟨0, ⟨#[]⟩, []⟩ none 0 wakeK wakeC W (RecsAt.nil _ _) Good.nil (wake_at W) (HT.out W hb) (by decide) (by decide)).out
  have ea0 : w1.cell? ⟨w.heap.size, 0, none⟩ = some (.slice none 0 0) := cell_of V1.out 0
  have ec0 : w3.cell? ⟨w.heap.size, 0, none⟩ = some (.slice none 0 0) := cell_of (HAB.out w3 (Below.refl _ _)) 0
  have ea1 : w1.cell? ⟨w.heap.size, 1, none⟩ = some (.string ⟨#[120]⟩) := cell_of V1.out 1
  have ec1 : w3.cell? ⟨w.heap.size, 1, none⟩ = some (.string ⟨#[120]⟩) := cell_of (HAB.out w3 (Below.refl _ _)) 1
  have ea2 : w1.cell? ⟨w.heap.size, 2, none⟩ = some (.string ⟨#[121]⟩) := cell_of V1.out 2
  have ec2 : w3.cell? ⟨w.heap.size, 2, none⟩ = some (.string ⟨#[121]⟩) := cell_of (HAB.out w3 (Below.refl _ _)) 2
  have ea3 : w1.cell? ⟨w.heap.size, 3, none⟩ = some (.int .i64 0) := cell_of V1.out 3
  have ec3 : w3.cell? ⟨w.heap.size, 3, none⟩ = some (.int .i64 0) := cell_of (HAB.out w3 (Below.refl _ _)) 3
  have ea4 : w1.cell? ⟨w.heap.size, 4, none⟩ = some (.int .u64 0) := cell_of V1.out 4
  have ec4 : w3.cell? ⟨w.heap.size, 4, none⟩ = some (.int .u64 0) := cell_of (HAB.out w3 (Below.refl _ _)) 4
  have ea5 : w1.cell? ⟨w.heap.size, 5, none⟩ = some (.string ⟨#[]⟩) := cell_of V1.out 5
  have ec5 : w3.cell? ⟨w.heap.size, 5, none⟩ = some (.string ⟨#[]⟩) := cell_of (HAB.out w3 (Below.refl _ _)) 5
  have eb0 : w3.cell? ⟨w2.heap.size, 0, none⟩ = some (.int .u64 0) := cell_of V3.out 0
  have eb1 : w3.cell? ⟨w2.heap.size, 1, none⟩ = some (.string ⟨#[]⟩) := cell_of V3.out 1
  have eb2 : w3.cell? ⟨w2.heap.size, 2, none⟩ = some (.slice (some ⟨w1.heap.size, 0, none⟩) 1 1) := cell_of V3.out 2
  clear T s1 s2
  go_enter Tryz.func21, Tryz.ntmps21
  go_wp2_with fail
  refine (Calls.mono HD1.out ?_)
  rintro z w4 hz
  obtain ⟨a1, c1, s1, rfl, _, _, _, hb4⟩ := hz.to
  rw [wake_one]
  have C4 : Hid (Below w3.heap.size w3 w4) := hb4.out
  clear ea0 ec0 ea1 ec1 ea2 ec2 ea3 ec3 ea4 ec4 ea5 ec5 eb0 eb1 eb2 hz hb4 hw2 hz1 ht1 hz3 ht3 HD1
  obtain ⟨z5, hz5, Vz5, Bz5, Zz5⟩ := zsta_new w4
  obtain ⟨w5, ht5⟩ : ∃ w5, (((z5.setCell ⟨w4.heap.size, 0, none⟩ (.int .u64 s1.serial)).setCell ⟨w4.heap.size, 1, none⟩ (.string s1.lin)).setCell ⟨w4.heap.size, 2, none⟩ (.slice a1 s1.recs.length c1)) = w5 := ⟨_, rfl⟩
  have Gt5 : Hid (z5.grownBy w5 (some w4.heap.size)) := by rw [← ht5]; exact (((gb_set _ _ _ _).trans (gb_set _ _ _ _)).trans (gb_set _ _ _ _))
  have V5 : Hid (w5.heap[w4.heap.size]? = some (.cells (staArr a1 c1 s1) 25 (0, 0))) := by rw [← ht5]; exact set3 (t := s1) Vz5.out
  have B5 : Hid (Below w4.heap.size w4 w5) := Bz5.out.grown Gt5.out Bz5.out.size (fun x hx => by injection hx with hx; omega)
  have fz50 := frozen_of Vz5.out 0
  have fz51 := frozen_of Vz5.out 1
  have fz52 := frozen_of Vz5.out 2
  obtain ⟨cz50, cz51, cz52⟩ := sta_cells Vz5.out
  have C5 : Hid (Below w3.heap.size w3 w5) := C4.out.trans (B5.out.mono C4.out.size)
  have C05 : Hid (Below w.heap.size w w5) := HB3.out.trans (C5.out.mono HB3.out.size)
  have e0 : w5.cell? ⟨w.heap.size, 0, none⟩ = some (.slice none 0 0) := cell_of (HAB.out w5 C5.out) 0
  have e1 : w5.cell? ⟨w.heap.size, 1, none⟩ = some (.string ⟨#[120]⟩) := cell_of (HAB.out w5 C5.out) 1
  have e2 : w5.cell? ⟨w.heap.size, 2, none⟩ = some (.string ⟨#[121]⟩) := cell_of (HAB.out w5 C5.out) 2
  have e3 : w5.cell? ⟨w.heap.size, 3, none⟩ = some (.int .i64 0) := cell_of (HAB.out w5 C5.out) 3
  have e4 : w5.cell? ⟨w.heap.size, 4, none⟩ = some (.int .u64 0) := cell_of (HAB.out w5 C5.out) 4
  have e5 : w5.cell? ⟨w.heap.size, 5, none⟩ = some (.string ⟨#[]⟩) := cell_of (HAB.out w5 C5.out) 5
  go_wp2_with fail
  refine (Calls.mono (HD2.out w5 C05.out) ?_)
  rintro z w6 hz
  obtain ⟨a2, c2, s2, rfl, _, _, _, hb6⟩ := hz.to
  rw [wake_none]
  have C06 : Hid (Below w.heap.size w w6) := C05.out.trans (hb6.out.mono C05.out.size)
  clear hz hb6 hz5 ht5 e0 e1 e2 e3 e4 e5
  obtain ⟨z7, hz7, Vz7, Bz7, Zz7⟩ := zsta_new w6
  obtain ⟨w7, ht7⟩ : ∃ w7, (((z7.setCell ⟨w6.heap.size, 0, none⟩ (.int .u64 s2.serial)).setCell ⟨w6.heap.size, 1, none⟩ (.string s2.lin)).setCell ⟨w6.heap.size, 2, none⟩ (.slice a2 s2.recs.length c2)) = w7 := ⟨_, rfl⟩
  have Gt7 : Hid (z7.grownBy w7 (some w6.heap.size)) := by rw [← ht7]; exact (((gb_set _ _ _ _).trans (gb_set _ _ _ _)).trans (gb_set _ _ _ _))
  have V7 : Hid (w7.heap[w6.heap.size]? = some (.cells (staArr a2 c2 s2) 25 (0, 0))) := by rw [← ht7]; exact set3 (t := s2) Vz7.out
  have B7 : Hid (Below w6.heap.size w6 w7) := Bz7.out.grown Gt7.out Bz7.out.size (fun x hx => by injection hx with hx; omega)
  have fz70 := frozen_of Vz7.out 0
  have fz71 := frozen_of Vz7.out 1
  have fz72 := frozen_of Vz7.out 2
  obtain ⟨cz70, cz71, cz72⟩ := sta_cells Vz7.out
  have C07 : Hid (Below w.heap.size w w7) := C06.out.trans (B7.out.mono C06.out.size)
  go_wp2_with fail
  go_ret
  exact ⟨rfl, C07.out⟩
end Go.Proofs.YtehghladpnpcoaaGreatDoor.State.Edit
set_option linter.unusedVariables false
set_option linter.unusedSimpArgs false
set_option maxRecDepth 100000
set_option maxHeartbeats 64000000
namespace Go.Proofs.YtehghladpnpcoaaGreatDoor.State.Edit
open Go.RowKit Go.Shelf Go.Proofs.YtehghladpnpcoaaGreatDoor.Utf Go.Proofs.YtehghladpnpcoaaGreatDoor.Strs Go.Proofs.YtehghladpnpcoaaGreatDoor.Addr Go.Proofs.YtehghladpnpcoaaGreatDoor.State
open Go.Proofs.YtehghladpnpcoaaGreatDoor.Jdec (IsTexts Turn infoStr gb_set gb_below gb_refl)
theorem exec_load {P : Program} {op : Oper} {ρ : Operand → Value} {w : World} {ty : TypeId} {x : Operand} (ho : op.op = .load ty x) {p V : Value} (hx : ρ x = p) (h : (Instr.loadAt ty p).run P w = .ok V w) : (execOp ρ op).run P w = .ok (.value V) w := by
  unfold execOp
  simp only [ho, hx, Sem.run_bind, h, Result.andThen_ok]
  rfl
theorem infoSta : (Tryz.prog.info? 25).map (·.size) = some 3 := by kernel_rfl
theorem sta_load {w : World} {b : Nat} {ra : Option Addr} {rc : Nat} {s : Sta} (h : w.heap[b]? = some (.cells (staArr ra rc s) 25 (0, 0))) : Hid ((Instr.loadAt 25 (.pointer (some ⟨b, 0, none⟩))).run Tryz.prog w = .ok (.agg #[.int .u64 s.serial, .string s.lin, .slice ra s.recs.length rc]) w) :=
  run_loadAt_mid (P := Tryz.prog) w b 0 25 (staArr ra rc s).toList _ (fun j v hv => by rw [Nat.zero_add, cell_of h j]; simpa using hv) Tryz.underlying25 rfl infoSta
theorem GcPost.to {l : List Cmd} {w w' : World} {e : Ending} (h : GcPost l w e w') : ∃ g : Bool, e = .returned (.bool g) ∧ Hid (g = false → l.length ≤ 20 ∧ ∀ c ∈ l, Fit c) ∧ Hid (Below w.heap.size w w') := h
theorem editDoes_any (s : Sta) (ra : Option Addr) (rc : Nat) (k : CAt) (c : Cmd) (w : World) (T : TabsA w) (h : StaIn w ra s) (hcp : s.recs.length ≤ rc) (hc : CmdIn w k c) (hsn : s.serial < 18446744073709551616) : Calls Tryz.prog 5 #[.agg #[.int .u64 s.serial, .string s.lin, .slice ra s.recs.length rc], .agg #[.int .i64 c.kind, .slice k.pf c.fr.path.length k.fc, .string c.fr.type, .string c.fr.name, .int .i64 c.fr.key, .int .u64 c.fr.place, .string c.fr.word, .slice k.pt c.ad.path.length k.tc, .string c.ad.type, .string c.ad.name, .int .i64 c.ad.key, .int .u64 c.ad.place, .string c.ad.word, .slice k.p.pa c.r.a.path.length k.p.pc, .string c.r.a.type, .string c.r.a.name, .int .i64 c.r.a.key, .int .u64 c.r.a.place, .string c.r.a.word, .string c.r.prov, .string c.r.id, .slice k.p.ta c.r.attrs.length k.p.tc]] w fun e w' => e = .returned (.bool true) ∧ Below w.heap.size w w' := by
  obtain ⟨w1, hw1, V1, B1⟩ := sta_new w ra rc s
  obtain ⟨w2, hw2, V2, B2⟩ := cmd_new w1 k c
  have hl1 := heap_lt V1.out
  have hl2 := heap_lt V2.out
  have B02 : Hid (Below w.heap.size w w2) := B1.out.trans (B2.out.mono (by omega))
  have HSB : Hid (∀ W, Below w2.heap.size w2 W → W.heap[w.heap.size]? = some (.cells (staArr ra rc s) 25 (0, 0))) := fun W hb => (hb.block _ (by omega)).trans ((B2.out.block _ hl1).trans V1.out)
  have HCB : Hid (∀ W, Below w2.heap.size w2 W → W.heap[w1.heap.size]? = some (.cells (cmdArr k c) 44 (0, 0))) := fun W hb => (hb.block _ hl2).trans V2.out
  have HBW : Hid (∀ W, Below w2.heap.size w2 W → Below w.heap.size w W) := fun W hb => B02.out.trans (hb.mono B02.out.size)
  have HT : Hid (∀ W, Below w2.heap.size w2 W → TabsA W) := fun W hb => T.stays (HBW.out W hb)
  have HS : Hid (∀ W, Below w2.heap.size w2 W → StaIn W ra s) := fun W hb => h.stays (HBW.out W hb)
  have HC : Hid (∀ W, Below w2.heap.size w2 W → CmdIn W k c) := fun W hb => hc.stays (HBW.out W hb)
  have HWK := wakes26 w2 (HT.out w2 (Below.refl _ _))
  have HSN := hdQ hsn
  have HCP := hdQ hcp
  clear T h hc hsn hcp hl1 hl2
  go_enter Tryz.func5, Tryz.ntmps5
  go_wp2_with fail
  refine (Calls.mono HWK.out ?_)
  rintro z w3 ⟨rfl, hb⟩
  have C3 : Hid (Below w2.heap.size w2 w3) := hb
  clear hb HWK hw1 hw2
  have HGS := gs_ok s ra rc w3 (HS.out w3 C3.out)
  obtain ⟨x0, x1, x2⟩ := sta_cells (HSB.out w3 C3.out)
  go_wp2_with fail
  refine (Calls.mono HGS.out ?_)
  rintro z w4 hz
  obtain ⟨g, rfl, hg, hb⟩ := hz.to
  have C4 : Hid (Below w2.heap.size w2 w4) := C3.out.trans (hb.out.mono C3.out.size)
  clear hz hb HGS x0 x1 x2
  cases g
  case true =>
    go_wp2_with fail
    go_ret
    exact ⟨rfl, HBW.out _ C4.out⟩
  have hsz := hg.out rfl
  have hn3 : s.recs.length ≤ 3000 := by omega
  have HN : Hid (s.recs.length ≤ 30) := hsz.1
  have hl6 : s.lin.size ≤ 6000 := by omega
  have HSM := hdQ hsz.2.2
  have HR : Hid (∀ W, Below w2.heap.size w2 W → RecsAt W ra s.recs) := fun W hb => ⟨(HS.out W hb).t, hn3, HSM.out⟩
  have HL6 := hdQ hl6
  obtain ⟨rs, hrs⟩ : ∃ b, rightS s = b := ⟨_, rfl⟩
  have HRR := rr_ok s ra rc w4 (HR.out w4 C4.out) hl6 rs hrs
  have HRS := hdQ hrs
  obtain ⟨x0, x1, x2⟩ := sta_cells (HSB.out w4 C4.out)
  clear hsz hg hrs hl6 hn3
  go_wp2_with fail
  refine (Calls.mono HRR.out ?_)
  rintro z w5 ⟨rfl, hb⟩
  have C5 : Hid (Below w2.heap.size w2 w5) := C4.out.trans (hb.mono C4.out.size)
  clear hb HRR x0 x1 x2
  cases rs
  case false =>
    go_wp2_with fail
    go_ret
    exact ⟨rfl, HBW.out _ C5.out⟩
  have HG : Hid (Good s.recs) := rightS_good HRS.out HSM.out
  have LD := cmd_load (HCB.out w5 C5.out)
  obtain ⟨w6, hw6, V6, B6⟩ := cmd_new w5 k c
  have C6 : Hid (Below w2.heap.size w2 w6) := C5.out.trans (B6.out.mono C5.out.size)
  have HGC := rgreat26_any [c] (some ⟨w5.heap.size, 0, none⟩) 1 w6 (cmd_one V6.out (HC.out w6 C6.out))
  go_wp2_with (refine wpList_load_run LD.out rfl _ rfl rfl ?_)
  refine (Calls.mono HGC.out ?_)
  rintro z w7 hz
  obtain ⟨g, rfl, hg, hb⟩ := hz.to
  have C7 : Hid (Below w2.heap.size w2 w7) := C6.out.trans (hb.out.mono C6.out.size)
  clear hz hb HGC hw6 LD
  cases g
  case true =>
    go_wp2_with fail
    go_ret
    exact ⟨rfl, HBW.out _ C7.out⟩
  have hft := (hg.out rfl).2 c (by simp)
  have HCM : Hid (∀ W, Below w2.heap.size w2 W → CmdAt W k c) := fun W hb => (HC.out W hb).at hft.f hft.t hft.r
  clear hg hft
  obtain ⟨ec, hec⟩ : ∃ ec, errC s c = ec := ⟨_, rfl⟩
  have LD := cmd_load (HCB.out w7 C7.out)
  obtain ⟨x0, x1, x2⟩ := sta_cells (HSB.out w7 C7.out)
  have HDO := edo_any s ra rc k c w7 (HR.out w7 C7.out) HG.out (HCM.out w7 C7.out) (HT.out w7 C7.out) (by have := HN.out; omega) HSN.out
  go_wp2_with (refine wpList_load_run LD.out rfl _ rfl rfl ?_)
  refine (Calls.mono HDO.out ?_)
  rintro z w8 hz
  obtain ⟨a9, c9, s9, rfl, HD9, HR9, HL9, hb⟩ := hz.to
  have C8 : Hid (Below w2.heap.size w2 w8) := C7.out.trans (hb.out.mono C7.out.size)
  have K8 : Hid (Below w7.heap.size w7 w8) := hb.out
  clear hz hb HDO LD x0 x1 x2
  obtain ⟨z9, hz9, Vz9, Bz9, Zz9⟩ := zsta_new w8
  obtain ⟨w9, ht9⟩ : ∃ w9, (((z9.setCell ⟨w8.heap.size, 0, none⟩ (.int .u64 s9.serial)).setCell ⟨w8.heap.size, 1, none⟩ (.string s9.lin)).setCell ⟨w8.heap.size, 2, none⟩ (.slice a9 s9.recs.length c9)) = w9 := ⟨_, rfl⟩
  have Gt9 : Hid (z9.grownBy w9 (some w8.heap.size)) := by rw [← ht9]; exact (((gb_set _ _ _ _).trans (gb_set _ _ _ _)).trans (gb_set _ _ _ _))
  have V9 : Hid (w9.heap[w8.heap.size]? = some (.cells (staArr a9 c9 s9) 25 (0, 0))) := by rw [← ht9]; exact set3 (t := s9) Vz9.out
  have B9 : Hid (Below w8.heap.size w8 w9) := Bz9.out.grown Gt9.out Bz9.out.size (fun x hx => by injection hx with hx; omega)
  have fz90 := frozen_of Vz9.out 0
  have fz91 := frozen_of Vz9.out 1
  have fz92 := frozen_of Vz9.out 2
  obtain ⟨cz90, cz91, cz92⟩ := sta_cells Vz9.out
  have C9 : Hid (Below w2.heap.size w2 w9) := C8.out.trans (B9.out.mono C8.out.size)
  have LD := cmd_load (HCB.out w9 C9.out)
  obtain ⟨x0, x1, x2⟩ := sta_cells (HSB.out w9 C9.out)
  have HDO := rdo_any s ra rc k c w9 (HR.out w9 C9.out) HCP.out HG.out (HCM.out w9 C9.out) (by have := HN.out; omega) HSN.out
  go_wp2_with (refine wpList_load_run LD.out rfl _ rfl rfl ?_)
  refine (Calls.mono HDO.out ?_)
  rintro z w10 hz
  obtain ⟨a11, c11, s11, rfl, HD11, HR11, HL11, hb⟩ := hz.to
  have C10 : Hid (Below w2.heap.size w2 w10) := C9.out.trans (hb.out.mono C9.out.size)
  have K10 : Hid (Below w9.heap.size w9 w10) := hb.out
  clear hz hb HDO LD x0 x1 x2
  obtain ⟨z11, hz11, Vz11, Bz11, Zz11⟩ := zsta_new w10
  obtain ⟨w11, ht11⟩ : ∃ w11, (((z11.setCell ⟨w10.heap.size, 0, none⟩ (.int .u64 s11.serial)).setCell ⟨w10.heap.size, 1, none⟩ (.string s11.lin)).setCell ⟨w10.heap.size, 2, none⟩ (.slice a11 s11.recs.length c11)) = w11 := ⟨_, rfl⟩
  have Gt11 : Hid (z11.grownBy w11 (some w10.heap.size)) := by rw [← ht11]; exact (((gb_set _ _ _ _).trans (gb_set _ _ _ _)).trans (gb_set _ _ _ _))
  have V11 : Hid (w11.heap[w10.heap.size]? = some (.cells (staArr a11 c11 s11) 25 (0, 0))) := by rw [← ht11]; exact set3 (t := s11) Vz11.out
  have B11 : Hid (Below w10.heap.size w10 w11) := Bz11.out.grown Gt11.out Bz11.out.size (fun x hx => by injection hx with hx; omega)
  have fz110 := frozen_of Vz11.out 0
  have fz111 := frozen_of Vz11.out 1
  have fz112 := frozen_of Vz11.out 2
  obtain ⟨cz110, cz111, cz112⟩ := sta_cells Vz11.out
  have C11 : Hid (Below w2.heap.size w2 w11) := C10.out.trans (B11.out.mono C10.out.size)
  obtain rfl : s9 = s11 := HD9.out.uniq HD11.out
  have B911 : Hid (Below w9.heap.size w9 w11) := K10.out.trans (B11.out.mono K10.out.size)
  have HW : Hid (∀ W, Below w11.heap.size w11 W → Below w2.heap.size w2 W) := fun W hb => C11.out.trans (hb.mono C11.out.size)
  have HXB : Hid (∀ W, Below w11.heap.size w11 W → W.heap[w8.heap.size]? = some (.cells (staArr a9 c9 s9) 25 (0, 0))) := fun W hb => (hb.block _ (Nat.lt_of_lt_of_le (heap_lt V9.out) B911.out.size)).trans ((B911.out.block _ (heap_lt V9.out)).trans V9.out)
  have HYB : Hid (∀ W, Below w11.heap.size w11 W → W.heap[w10.heap.size]? = some (.cells (staArr a11 c11 s9) 25 (0, 0))) := fun W hb => (hb.block _ (heap_lt V11.out)).trans V11.out
  have HXR : Hid (∀ W, Below w11.heap.size w11 W → RecsAt W a9 s9.recs) := fun W hb => ((HR9.out.stays B9.out).stays B911.out).stays hb
  have HYR : Hid (∀ W, Below w11.heap.size w11 W → RecsAt W a11 s9.recs) := fun W hb => (HR11.out.stays B11.out).stays hb
  obtain ⟨rr, hrr⟩ : ∃ b, rightC c = b := ⟨_, rfl⟩
  have KR1 : Hid (∀ W, Below w11.heap.size w11 W → Calls Tryz.prog 25 #[.agg #[.int .i64 c.kind, .slice k.pf c.fr.path.length k.fc, .string c.fr.type, .string c.fr.name, .int .i64 c.fr.key, .int .u64 c.fr.place, .string c.fr.word, .slice k.pt c.ad.path.length k.tc, .string c.ad.type, .string c.ad.name, .int .i64 c.ad.key, .int .u64 c.ad.place, .string c.ad.word, .slice k.p.pa c.r.a.path.length k.p.pc, .string c.r.a.type, .string c.r.a.name, .int .i64 c.r.a.key, .int .u64 c.r.a.place, .string c.r.a.word, .string c.r.prov, .string c.r.id, .slice k.p.ta c.r.attrs.length k.p.tc]] W fun e w' => e = .returned (.bool rr) ∧ Below W.heap.size W w') := fun W hb => by rw [← hrr]; exact eright_any k c W (HCM.out W (HW.out W hb)) (HT.out W (HW.out W hb))
  have KR2 : Hid (∀ W, Below w11.heap.size w11 W → Calls Tryz.prog 26 #[.agg #[.int .i64 c.kind, .slice k.pf c.fr.path.length k.fc, .string c.fr.type, .string c.fr.name, .int .i64 c.fr.key, .int .u64 c.fr.place, .string c.fr.word, .slice k.pt c.ad.path.length k.tc, .string c.ad.type, .string c.ad.name, .int .i64 c.ad.key, .int .u64 c.ad.place, .string c.ad.word, .slice k.p.pa c.r.a.path.length k.p.pc, .string c.r.a.type, .string c.r.a.name, .int .i64 c.r.a.key, .int .u64 c.r.a.place, .string c.r.a.word, .string c.r.prov, .string c.r.id, .slice k.p.ta c.r.attrs.length k.p.tc]] W fun e w' => e = .returned (.bool rr) ∧ Below W.heap.size W w') := fun W hb => by rw [← hrr]; exact rright26_any k c W (HCM.out W (HW.out W hb))
  have KSM : Hid (∀ W, Below w11.heap.size w11 W → Calls Tryz.prog 18 #[.agg #[.int .u64 s9.serial, .string s9.lin, .slice a9 s9.recs.length c9], .agg #[.int .u64 s9.serial, .string s9.lin, .slice a11 s9.recs.length c11]] W fun e w' => e = .returned (.bool true) ∧ Below W.heap.size W w') := fun W hb => (sm_ok s9 s9 a9 a11 c9 c11 W (HXR.out W hb) (HYR.out W hb) true ((sameSta_iff _ _).2 rfl)).out
  have KRX : Hid (∀ W, Below w11.heap.size w11 W → Calls Tryz.prog 17 #[.agg #[.int .u64 s9.serial, .string s9.lin, .slice a9 s9.recs.length c9]] W fun e w' => e = .returned (.bool true) ∧ Below W.heap.size W w') := fun W hb => (rr_ok s9 a9 c9 W (HXR.out W hb) (by rw [HD9.out.lin]; exact HL6.out) true (good_rightS HD9.out.good (by rw [HD9.out.lin]; exact rightS_lin HRS.out))).out
  clear hrr
  go_wp2_with fail
  refine wp_region_held_drew (S := fun W => Below w11.heap.size w11 W) (by kernel_rfl) ?_ (fun hHeld => ?_)
  · exact (Below.refl _ _).drew
  refine tv 0 (.agg #[.int .i64 c.kind, .slice k.pf c.fr.path.length k.fc, .string c.fr.type, .string c.fr.name, .int .i64 c.fr.key, .int .u64 c.fr.place, .string c.fr.word, .slice k.pt c.ad.path.length k.tc, .string c.ad.type, .string c.ad.name, .int .i64 c.ad.key, .int .u64 c.ad.place, .string c.ad.word, .slice k.p.pa c.r.a.path.length k.p.pc, .string c.r.a.type, .string c.r.a.name, .int .i64 c.r.a.key, .int .u64 c.r.a.place, .string c.r.a.word, .string c.r.prov, .string c.r.id, .slice k.p.ta c.r.attrs.length k.p.tc]) ?_ ?_
  · intro W hW; exact exec_load rfl rfl (cmd_load (HCB.out W (HW.out W hW))).out
  try simp only [nz]
  refine tv 2 (.agg #[.int .i64 c.kind, .slice k.pf c.fr.path.length k.fc, .string c.fr.type, .string c.fr.name, .int .i64 c.fr.key, .int .u64 c.fr.place, .string c.fr.word, .slice k.pt c.ad.path.length k.tc, .string c.ad.type, .string c.ad.name, .int .i64 c.ad.key, .int .u64 c.ad.place, .string c.ad.word, .slice k.p.pa c.r.a.path.length k.p.pc, .string c.r.a.type, .string c.r.a.name, .int .i64 c.r.a.key, .int .u64 c.r.a.place, .string c.r.a.word, .string c.r.prov, .string c.r.id, .slice k.p.ta c.r.attrs.length k.p.tc]) ?_ ?_
  · intro W hW; exact exec_load rfl rfl (cmd_load (HCB.out W (HW.out W hW))).out
  try simp only [nz]
  have HDW : Hid (Below w11.heap.size w11 w11.drew) := (Below.refl _ _).drew
  refine rd 1 (fun K hK => ?_)
  try simp only [nz]
  go_simp
  go_at_call 25; refine (Calls.mono (KR1.out w11.drew HDW.out) ?_); rintro z w12 ⟨rfl, hb⟩; have D12 : Hid (Below w11.heap.size w11 w12) := HDW.out.trans (hb.mono HDW.out.size); clear hb
  clear hHeld
  refine hK.out _ _ D12.out (fun hHeld => ?_)
  clear hK K
  try simp only [nz]
  refine rd 3 (fun K hK => ?_)
  try simp only [nz]
  go_simp
  go_at_call 26; refine (Calls.mono (KR2.out w12 D12.out) ?_); rintro z w13 ⟨rfl, hb⟩; have D13 : Hid (Below w11.heap.size w11 w13) := D12.out.trans (hb.mono D12.out.size); clear hb
  clear hHeld
  refine hK.out _ _ D13.out (fun hHeld => ?_)
  clear hK K
  try simp only [nz]
  refine tk 4 ?_
  refine tk 5 ?_
  try simp only [nz]
  refine tv 6 (.agg #[.int .u64 s9.serial, .string s9.lin, .slice a9 s9.recs.length c9]) ?_ ?_
  · intro W hW; exact exec_load rfl rfl (sta_load (HXB.out W hW)).out
  try simp only [nz]
  refine tv 7 (.agg #[.int .u64 s9.serial, .string s9.lin, .slice a11 s9.recs.length c11]) ?_ ?_
  · intro W hW; exact exec_load rfl rfl (sta_load (HYB.out W hW)).out
  try simp only [nz]
  refine rd 8 (fun K hK => ?_)
  try simp only [nz]
  go_simp
  go_at_call 18; refine (Calls.mono (KSM.out w13 D13.out) ?_); rintro z w14 ⟨rfl, hb⟩; have D14 : Hid (Below w11.heap.size w11 w14) := D13.out.trans (hb.mono D13.out.size); clear hb
  clear hHeld
  refine hK.out _ _ D14.out (fun hHeld => ?_)
  clear hK K
  try simp only [nz]
  refine tk 9 ?_
  refine tk 10 ?_
  refine tk 11 ?_
  refine tk 12 ?_
  refine tk 13 ?_
  refine tk 14 ?_
  refine tk 15 ?_
  try simp only [nz]
  refine tv 16 (.agg #[.int .u64 s9.serial, .string s9.lin, .slice a9 s9.recs.length c9]) ?_ ?_
  · intro W hW; exact exec_load rfl rfl (sta_load (HXB.out W hW)).out
  try simp only [nz]
  refine rd 17 (fun K hK => ?_)
  try simp only [nz]
  go_simp
  go_at_call 17; refine (Calls.mono (KRX.out w14 D14.out) ?_); rintro z w15 ⟨rfl, hb⟩; have D15 : Hid (Below w11.heap.size w11 w15) := D14.out.trans (hb.mono D14.out.size); clear hb
  clear hHeld
  refine hK.out _ _ D15.out (fun hHeld => ?_)
  clear hK K
  try simp only [nz]
  refine tk 18 ?_
  refine tk 19 ?_
  try simp only [nz]
  refine wpAnyH_done (by kernel_rfl) ?_ _
  all_goals
    go_wp2_with fail
    go_ret
    exact ⟨by simp, HBW.out _ (HW.out _ D15.out)⟩
theorem editDoes_arg (v : Value) (s : Sta) (u : Value) (c : Cmd) (w : World) (h : StaArg w v s) (h' : CmdArg w u c) (T : TabsA w) : Calls Tryz.prog 5 #[v, u] w fun e w' => e = .returned (.bool true) ∧ Below w.heap.size w w' := by
  obtain ⟨ra, rc, rfl, h1, h2, h3, _⟩ := h
  obtain ⟨k, rfl, h4⟩ := h'
  exact editDoes_any s ra rc k c w T h1 h2 h4 h3
end Go.Proofs.YtehghladpnpcoaaGreatDoor.State.Edit
