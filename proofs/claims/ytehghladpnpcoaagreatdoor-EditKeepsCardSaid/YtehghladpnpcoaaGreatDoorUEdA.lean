/- Commands in memory; edit.noAddress, noRecord, Right. -/
import Derived.Test.YtehghladpnpcoaaGreatDoorUEdP
import Derived.Test.YtehghladpnpcoaaGreatDoorUYc
import Derived.Deep.MidRow
set_option linter.unusedVariables false
set_option linter.unusedSimpArgs false
set_option maxRecDepth 100000
set_option maxHeartbeats 16000000
namespace Go.Proofs.YtehghladpnpcoaaGreatDoor.State.Edit
open Go.RowKit Go.Shelf Utf Strs Go.Proofs.YtehghladpnpcoaaGreatDoor.Addr Go.Proofs.YtehghladpnpcoaaGreatDoor.State
open Jdec (IsTexts Turn infoStr gb_set gb_below gb_refl)
structure CAt where
  pf : Option Addr
  fc : Nat
  pt : Option Addr
  tc : Nat
  p : At
def cmdArr (k : CAt) (c : Cmd) : Array Value := #[.int .i64 c.kind, .slice k.pf c.fr.path.length k.fc, .string c.fr.type, .string c.fr.name, .int .i64 c.fr.key, .int .u64 c.fr.place, .string c.fr.word, .slice k.pt c.ad.path.length k.tc, .string c.ad.type, .string c.ad.name, .int .i64 c.ad.key, .int .u64 c.ad.place, .string c.ad.word, .slice k.p.pa c.r.a.path.length k.p.pc, .string c.r.a.type, .string c.r.a.name, .int .i64 c.r.a.key, .int .u64 c.r.a.place, .string c.r.a.word, .string c.r.prov, .string c.r.id, .slice k.p.ta c.r.attrs.length k.p.tc]
theorem cmd_new (w : World) (k : CAt) (c : Cmd) : ∃ w1, w.alloc (.cells #[.int .i64 c.kind, .slice k.pf c.fr.path.length k.fc, .string c.fr.type, .string c.fr.name, .int .i64 c.fr.key, .int .u64 c.fr.place, .string c.fr.word, .slice k.pt c.ad.path.length k.tc, .string c.ad.type, .string c.ad.name, .int .i64 c.ad.key, .int .u64 c.ad.place, .string c.ad.word, .slice k.p.pa c.r.a.path.length k.p.pc, .string c.r.a.type, .string c.r.a.name, .int .i64 c.r.a.key, .int .u64 c.r.a.place, .string c.r.a.word, .string c.r.prov, .string c.r.id, .slice k.p.ta c.r.attrs.length k.p.tc] 44) = w1 /\ Hid (w1.heap[w.heap.size]? = some (.cells (cmdArr k c) 44 (0, 0))) /\ Hid (Below w.heap.size w w1) :=
  ⟨_, rfl, heap_alloc_new _ _, (Below.refl _ _).alloc (Nat.le_refl _) _⟩
theorem cmd_cells {w : World} {b : Nat} {k : CAt} {c : Cmd} (h : w.heap[b]? = some (.cells (cmdArr k c) 44 (0, 0))) : w.cell? ⟨b, 0, none⟩ = some (.int .i64 c.kind) /\ w.cell? ⟨b, 1, none⟩ = some (.slice k.pf c.fr.path.length k.fc) /\ w.cell? ⟨b, 2, none⟩ = some (.string c.fr.type) /\ w.cell? ⟨b, 3, none⟩ = some (.string c.fr.name) /\ w.cell? ⟨b, 4, none⟩ = some (.int .i64 c.fr.key) /\ w.cell? ⟨b, 5, none⟩ = some (.int .u64 c.fr.place) /\ w.cell? ⟨b, 6, none⟩ = some (.string c.fr.word) /\ w.cell? ⟨b, 7, none⟩ = some (.slice k.pt c.ad.path.length k.tc) /\ w.cell? ⟨b, 8, none⟩ = some (.string c.ad.type) /\ w.cell? ⟨b, 9, none⟩ = some (.string c.ad.name) /\ w.cell? ⟨b, 10, none⟩ = some (.int .i64 c.ad.key) /\ w.cell? ⟨b, 11, none⟩ = some (.int .u64 c.ad.place) /\ w.cell? ⟨b, 12, none⟩ = some (.string c.ad.word) /\ w.cell? ⟨b, 13, none⟩ = some (.slice k.p.pa c.r.a.path.length k.p.pc) /\ w.cell? ⟨b, 14, none⟩ = some (.string c.r.a.type) /\ w.cell? ⟨b, 15, none⟩ = some (.string c.r.a.name) /\ w.cell? ⟨b, 16, none⟩ = some (.int .i64 c.r.a.key) /\ w.cell? ⟨b, 17, none⟩ = some (.int .u64 c.r.a.place) /\ w.cell? ⟨b, 18, none⟩ = some (.string c.r.a.word) /\ w.cell? ⟨b, 19, none⟩ = some (.string c.r.prov) /\ w.cell? ⟨b, 20, none⟩ = some (.string c.r.id) /\ w.cell? ⟨b, 21, none⟩ = some (.slice k.p.ta c.r.attrs.length k.p.tc) :=
  ⟨cell_of h 0, cell_of h 1, cell_of h 2, cell_of h 3, cell_of h 4, cell_of h 5, cell_of h 6, cell_of h 7, cell_of h 8, cell_of h 9, cell_of h 10, cell_of h 11, cell_of h 12, cell_of h 13, cell_of h 14, cell_of h 15, cell_of h 16, cell_of h 17, cell_of h 18, cell_of h 19, cell_of h 20, cell_of h 21⟩
theorem infoCmd : (Tryz.prog.info? 44).map (·.size) = some 22 := by kernel_rfl
theorem cmd_load {w : World} {b : Nat} {k : CAt} {c : Cmd} (h : w.heap[b]? = some (.cells (cmdArr k c) 44 (0, 0))) : Hid ((Instr.loadAt 44 (.pointer (some ⟨b, 0, none⟩))).run Tryz.prog w = .ok (.agg #[.int .i64 c.kind, .slice k.pf c.fr.path.length k.fc, .string c.fr.type, .string c.fr.name, .int .i64 c.fr.key, .int .u64 c.fr.place, .string c.fr.word, .slice k.pt c.ad.path.length k.tc, .string c.ad.type, .string c.ad.name, .int .i64 c.ad.key, .int .u64 c.ad.place, .string c.ad.word, .slice k.p.pa c.r.a.path.length k.p.pc, .string c.r.a.type, .string c.r.a.name, .int .i64 c.r.a.key, .int .u64 c.r.a.place, .string c.r.a.word, .string c.r.prov, .string c.r.id, .slice k.p.ta c.r.attrs.length k.p.tc]) w) :=
  run_loadAt_mid (P := Tryz.prog) w b 0 44 (cmdArr k c).toList _ (fun j v hv => by rw [Nat.zero_add, cell_of h j]; simpa using hv) Tryz.underlying44 rfl infoCmd
theorem wpList_load_run {P : Program} {w : World} {ops : Array Oper} {rest : List Oper} {o : Oper} {a : Act} {Q : Exit -> Act -> World -> Prop} {t : TypeId} {p V : Value} (hr : (Instr.loadAt t p).run P w = .ok V w) (hw : Region.wanted o (yielded ops a.tmps) = true) (x : Operand)
    (ho : o.op = .load t x) (hx : a.eval x = p) (h : wpList P ops Q rest (a.put o.dst V) w) : wpList P ops Q (o :: rest) a w := by
  unfold wpList;rw [if_pos hw];refine .inl ?_;unfold Oper.wp execOp;simp only [ho, hx, Sem.run_bind, hr, Result.andThen_ok]
  exact h
structure CmdAt (w : World) (k : CAt) (c : Cmd) : Prop where
  f : AdrAt w k.pf c.fr
  t : AdrAt w k.pt c.ad
  r : IsRec w (fun _ => True) k.p c.r
  s : Small c.r
theorem CmdAt.stays {w w' : World} {k : CAt} {c : Cmd} (h : CmdAt w k c) (hb : Below w.heap.size w w') : CmdAt w' k c := ⟨h.f.stays hb, h.t.stays hb, h.r.turn (Turn.below hb), h.s⟩
theorem CmdAt.small {w : World} {k : CAt} {c : Cmd} (h : CmdAt w k c) : SmallC c := ⟨⟨h.f.l, h.f.s, h.f.ty, h.f.nm, h.f.wd, h.f.p, Nat.zero_le _, Nat.zero_le _, Nat.zero_le _, (fun x h => by cases h), (fun x h => by cases h)⟩, ⟨h.t.l, h.t.s, h.t.ty, h.t.nm, h.t.wd, h.t.p, Nat.zero_le _, Nat.zero_le _, Nat.zero_le _, (fun x h => by cases h), (fun x h => by cases h)⟩, h.s⟩
theorem noAddress_any (a : Adr) (pa : Option Addr) (pc : Nat) (w : World) (h : AdrAt w pa a) : Calls Tryz.prog 63 #[.agg #[.slice pa a.path.length pc, .string a.type, .string a.name, .int .i64 a.key, .int .u64 a.place, .string a.word]] w fun e w' => e = .returned (.bool (noA a)) /\ Below w.heap.size w w' := by
  obtain ⟨w1, hw1, V1, B1⟩ := adr_new w pa pc a;obtain ⟨x0, x1, x2, x3, x4, x5⟩ := adr_cells V1.out;have HSM : Hid (Calls Tryz.prog 95 #[.agg #[.slice pa a.path.length pc, .string a.type, .string a.name, .int .i64 a.key, .int .u64 a.place, .string a.word], .agg #[.slice none 0 0, .string ⟨#[]⟩, .string ⟨#[]⟩, .int .i64 0, .int .u64 0, .string ⟨#[]⟩]] w1 fun e w' => e = .returned (.bool (noA a)) /\ Below w1.heap.size w1 w') := same_any a zeroA pa none pc 0 (fun _ => True) (fun _ => True) w1 (h.stays B1.out).t (.inl rfl) (by have := h.l; omega) (by decide);obtain ⟨nb, hnb⟩ : ∃ b, noA a = b := ⟨_, rfl⟩;rw [hnb] at HSM ⊢;clear h hnb;go_enter Tryz.func63, Tryz.ntmps63
  go_wp2_with fail
  refine (Calls.mono HSM.out ?_);rintro z w2 ⟨rfl, hb2⟩;go_wp2_with fail
  go_ret
  exact ⟨rfl, B1.out.trans (hb2.mono B1.out.size)⟩
theorem noRecord_any (r : Rec) (p : At) (w : World) (h : IsRec w (fun _ => True) p r) (hs : Small r) : Calls Tryz.prog 62 #[.agg #[.slice p.pa r.a.path.length p.pc, .string r.a.type, .string r.a.name, .int .i64 r.a.key, .int .u64 r.a.place, .string r.a.word, .string r.prov, .string r.id, .slice p.ta r.attrs.length p.tc]] w fun e w' => e = .returned (.bool (noR r)) /\ Below w.heap.size w w' := by
  obtain ⟨w1, hw1, V1, B1⟩ := rec_new w p r;obtain ⟨x0, x1, x2, x3, x4, x5, x6, x7, x8⟩ := rec_cells V1.out;have HNA := hdQ (noAddress_any r.a p.pa p.pc w1 ((h.turn (Turn.below B1.out)).adr hs));have HV : Hid (∀ W, Below w1.heap.size w1 W -> W.heap[w.heap.size]? = some (.cells (recArr p r) 38 (0, 0))) := fun W hb => (hb.block _ (heap_lt V1.out)).trans V1.out;obtain ⟨b0, h0⟩ : ∃ b, noA r.a = b := ⟨_, rfl⟩;obtain ⟨b1, h1⟩ : ∃ b, r.prov.toList.isEmpty = b := ⟨_, rfl⟩;obtain ⟨b2, h2⟩ : ∃ b, r.id.toList.isEmpty = b := ⟨_, rfl⟩;obtain ⟨b3, h3⟩ : ∃ b, r.attrs.isEmpty = b := ⟨_, rfl⟩;have h4 : ((r.attrs.length : Int) == 0) = b3 := by rw [<-h3]; cases r.attrs <;> simp; omega
  have HNR : Hid (noR r = (b0 && (b1 && (b2 && b3)))) := by rw [Hid, noR, h0, h1, h2, h3]
  have hn := hs.n;rw [h0] at HNA;rw [HNR.out];clear h hs h0 h3;go_enter Tryz.func62, Tryz.ntmps62
  go_wp2_with fail
  refine (Calls.mono HNA.out ?_);rintro z w2 ⟨rfl, hb2⟩;have B2 : Hid (Below w.heap.size w w2) := B1.out.trans (hb2.mono B1.out.size);clear x0 x1 x2 x3 x4 x5 x6 x7 x8 hw1 HNA;obtain ⟨y0, y1, y2, y3, y4, y5, y6, y7, y8⟩ := rec_cells (HV.out w2 hb2);clear hb2;cases b0 <;> cases b1 <;> cases b2 <;> cases b3
  all_goals
    go_wp2_with fail
    go_ret
    exact ⟨rfl, B2.out⟩
theorem eright1 (k : CAt) (c : Cmd) (w : World) (h : CmdAt w k c) (T : TabsA w) (kk : c.kind = 1) (t1 : (c.kind == 1) = true) : Calls Tryz.prog 25 #[.agg #[.int .i64 c.kind, .slice k.pf c.fr.path.length k.fc, .string c.fr.type, .string c.fr.name, .int .i64 c.fr.key, .int .u64 c.fr.place, .string c.fr.word, .slice k.pt c.ad.path.length k.tc, .string c.ad.type, .string c.ad.name, .int .i64 c.ad.key, .int .u64 c.ad.place, .string c.ad.word, .slice k.p.pa c.r.a.path.length k.p.pc, .string c.r.a.type, .string c.r.a.name, .int .i64 c.r.a.key, .int .u64 c.r.a.place, .string c.r.a.word, .string c.r.prov, .string c.r.id, .slice k.p.ta c.r.attrs.length k.p.tc]] w fun e w' => e = .returned (.bool (rightC c)) /\ Below w.heap.size w w' := by
  obtain ⟨w1, hw1, V1, B1⟩ := cmd_new w k c;obtain ⟨x0, x1, x2, x3, x4, x5, x6, x7, x8, x9, x10, x11, x12, x13, x14, x15, x16, x17, x18, x19, x20, x21⟩ := cmd_cells V1.out;have HV : Hid (∀ W, Below w1.heap.size w1 W -> W.heap[w.heap.size]? = some (.cells (cmdArr k c) 44 (0, 0))) := fun W hb => (hb.block _ (heap_lt V1.out)).trans V1.out;have HC : Hid (∀ W, Below w1.heap.size w1 W -> CmdAt W k c) := fun W hb => (h.stays B1.out).stays hb;have HBW : Hid (∀ W, Below w1.heap.size w1 W -> Below w.heap.size w W) := fun W hb => B1.out.trans (hb.mono B1.out.size);have HT : Hid (∀ W, Below w1.heap.size w1 W -> TabsA W) := fun W hb => (T.stays B1.out).stays hb;obtain ⟨fr, hfr⟩ : ∃ b, rightA c.fr = b := ⟨_, rfl⟩;obtain ⟨tr, htr⟩ : ∃ b, rightA c.ad = b := ⟨_, rfl⟩;obtain ⟨rn, hrn⟩ : ∃ b, noR c.r = b := ⟨_, rfl⟩;have Kfr : Hid (∀ W, Below w1.heap.size w1 W -> Calls Tryz.prog 61 #[.agg #[.slice k.pf c.fr.path.length k.fc, .string c.fr.type, .string c.fr.name, .int .i64 c.fr.key, .int .u64 c.fr.place, .string c.fr.word]] W fun e w' => e = .returned (.bool fr) /\ Below W.heap.size W w') := fun W hb => by rw [<-hfr]; exact (HC.out W hb).f.right k.fc (HT.out W hb)
  have Ktr : Hid (∀ W, Below w1.heap.size w1 W -> Calls Tryz.prog 61 #[.agg #[.slice k.pt c.ad.path.length k.tc, .string c.ad.type, .string c.ad.name, .int .i64 c.ad.key, .int .u64 c.ad.place, .string c.ad.word]] W fun e w' => e = .returned (.bool tr) /\ Below W.heap.size W w') := fun W hb => by rw [<-htr]; exact (HC.out W hb).t.right k.tc (HT.out W hb)
  have Krn : Hid (∀ W, Below w1.heap.size w1 W -> Calls Tryz.prog 62 #[.agg #[.slice k.p.pa c.r.a.path.length k.p.pc, .string c.r.a.type, .string c.r.a.name, .int .i64 c.r.a.key, .int .u64 c.r.a.place, .string c.r.a.word, .string c.r.prov, .string c.r.id, .slice k.p.ta c.r.attrs.length k.p.tc]] W fun e w' => e = .returned (.bool rn) /\ Below W.heap.size W w') := fun W hb => by rw [<-hrn]; exact noRecord_any _ _ W (HC.out W hb).r (HC.out W hb).s
  have HRE : Hid (rightC c = (fr && (tr && rn))) := by unfold rightC Hid; simp [kk, hfr, htr, hrn]
  rw [HRE.out];clear h kk HRE T hfr htr hrn;go_enter Tryz.func25, Tryz.ntmps25
  go_wp2_with fail
  clear x0 x1 x2 x3 x4 x5 x6 x7 x8 x9 x10 x11 x12 x13 x14 x15 x16 x17 x18 x19 x20 x21 hw1;refine (Calls.mono (Kfr.out w1 (Below.refl _ _)) ?_);rintro z w2 ⟨rfl, hb⟩;have C2 : Hid (Below w1.heap.size w1 w2) := hb;clear hb;obtain ⟨y0_0, y0_1, y0_2, y0_3, y0_4, y0_5, y0_6, y0_7, y0_8, y0_9, y0_10, y0_11, y0_12, y0_13, y0_14, y0_15, y0_16, y0_17, y0_18, y0_19, y0_20, y0_21⟩ := cmd_cells (HV.out w2 C2.out);cases fr
  case false =>
    go_wp2_with fail
    go_ret
    exact ⟨by simp, HBW.out _ C2.out⟩
  go_wp2_with fail
  clear y0_0 y0_1 y0_2 y0_3 y0_4 y0_5 y0_6 y0_7 y0_8 y0_9 y0_10 y0_11 y0_12 y0_13 y0_14 y0_15 y0_16 y0_17 y0_18 y0_19 y0_20 y0_21;refine (Calls.mono (Ktr.out w2 C2.out) ?_);rintro z w3 ⟨rfl, hb⟩;have C3 : Hid (Below w1.heap.size w1 w3) := C2.out.trans (hb.mono C2.out.size);clear hb;obtain ⟨y1_0, y1_1, y1_2, y1_3, y1_4, y1_5, y1_6, y1_7, y1_8, y1_9, y1_10, y1_11, y1_12, y1_13, y1_14, y1_15, y1_16, y1_17, y1_18, y1_19, y1_20, y1_21⟩ := cmd_cells (HV.out w3 C3.out);cases tr
  case false =>
    go_wp2_with fail
    go_ret
    exact ⟨by simp, HBW.out _ C3.out⟩
  go_wp2_with fail
  clear y1_0 y1_1 y1_2 y1_3 y1_4 y1_5 y1_6 y1_7 y1_8 y1_9 y1_10 y1_11 y1_12 y1_13 y1_14 y1_15 y1_16 y1_17 y1_18 y1_19 y1_20 y1_21;refine (Calls.mono (Krn.out w3 C3.out) ?_);rintro z w4 ⟨rfl, hb⟩;have C4 : Hid (Below w1.heap.size w1 w4) := C3.out.trans (hb.mono C3.out.size);clear hb;obtain ⟨y2_0, y2_1, y2_2, y2_3, y2_4, y2_5, y2_6, y2_7, y2_8, y2_9, y2_10, y2_11, y2_12, y2_13, y2_14, y2_15, y2_16, y2_17, y2_18, y2_19, y2_20, y2_21⟩ := cmd_cells (HV.out w4 C4.out);go_wp2_with fail
  go_ret
  exact ⟨by simp, HBW.out _ C4.out⟩
theorem eright2 (k : CAt) (c : Cmd) (w : World) (h : CmdAt w k c) (T : TabsA w) (kk : c.kind = 2) (t1 : (c.kind == 1) = false) (t2 : (c.kind == 2) = true) : Calls Tryz.prog 25 #[.agg #[.int .i64 c.kind, .slice k.pf c.fr.path.length k.fc, .string c.fr.type, .string c.fr.name, .int .i64 c.fr.key, .int .u64 c.fr.place, .string c.fr.word, .slice k.pt c.ad.path.length k.tc, .string c.ad.type, .string c.ad.name, .int .i64 c.ad.key, .int .u64 c.ad.place, .string c.ad.word, .slice k.p.pa c.r.a.path.length k.p.pc, .string c.r.a.type, .string c.r.a.name, .int .i64 c.r.a.key, .int .u64 c.r.a.place, .string c.r.a.word, .string c.r.prov, .string c.r.id, .slice k.p.ta c.r.attrs.length k.p.tc]] w fun e w' => e = .returned (.bool (rightC c)) /\ Below w.heap.size w w' := by
  obtain ⟨w1, hw1, V1, B1⟩ := cmd_new w k c;obtain ⟨x0, x1, x2, x3, x4, x5, x6, x7, x8, x9, x10, x11, x12, x13, x14, x15, x16, x17, x18, x19, x20, x21⟩ := cmd_cells V1.out;have HV : Hid (∀ W, Below w1.heap.size w1 W -> W.heap[w.heap.size]? = some (.cells (cmdArr k c) 44 (0, 0))) := fun W hb => (hb.block _ (heap_lt V1.out)).trans V1.out;have HC : Hid (∀ W, Below w1.heap.size w1 W -> CmdAt W k c) := fun W hb => (h.stays B1.out).stays hb;have HBW : Hid (∀ W, Below w1.heap.size w1 W -> Below w.heap.size w W) := fun W hb => B1.out.trans (hb.mono B1.out.size);have HT : Hid (∀ W, Below w1.heap.size w1 W -> TabsA W) := fun W hb => (T.stays B1.out).stays hb;obtain ⟨fr, hfr⟩ : ∃ b, rightA c.fr = b := ⟨_, rfl⟩;obtain ⟨tn, htn⟩ : ∃ b, noA c.ad = b := ⟨_, rfl⟩;obtain ⟨rn, hrn⟩ : ∃ b, noR c.r = b := ⟨_, rfl⟩;have Kfr : Hid (∀ W, Below w1.heap.size w1 W -> Calls Tryz.prog 61 #[.agg #[.slice k.pf c.fr.path.length k.fc, .string c.fr.type, .string c.fr.name, .int .i64 c.fr.key, .int .u64 c.fr.place, .string c.fr.word]] W fun e w' => e = .returned (.bool fr) /\ Below W.heap.size W w') := fun W hb => by rw [<-hfr]; exact (HC.out W hb).f.right k.fc (HT.out W hb)
  have Ktn : Hid (∀ W, Below w1.heap.size w1 W -> Calls Tryz.prog 63 #[.agg #[.slice k.pt c.ad.path.length k.tc, .string c.ad.type, .string c.ad.name, .int .i64 c.ad.key, .int .u64 c.ad.place, .string c.ad.word]] W fun e w' => e = .returned (.bool tn) /\ Below W.heap.size W w') := fun W hb => by rw [<-htn]; exact noAddress_any _ _ _ W (HC.out W hb).t
  have Krn : Hid (∀ W, Below w1.heap.size w1 W -> Calls Tryz.prog 62 #[.agg #[.slice k.p.pa c.r.a.path.length k.p.pc, .string c.r.a.type, .string c.r.a.name, .int .i64 c.r.a.key, .int .u64 c.r.a.place, .string c.r.a.word, .string c.r.prov, .string c.r.id, .slice k.p.ta c.r.attrs.length k.p.tc]] W fun e w' => e = .returned (.bool rn) /\ Below W.heap.size W w') := fun W hb => by rw [<-hrn]; exact noRecord_any _ _ W (HC.out W hb).r (HC.out W hb).s
  have HRE : Hid (rightC c = (fr && (tn && rn))) := by unfold rightC Hid; simp [kk, hfr, htn, hrn]
  rw [HRE.out];clear h kk HRE T hfr htn hrn;go_enter Tryz.func25, Tryz.ntmps25
  go_wp2_with fail
  clear x0 x1 x2 x3 x4 x5 x6 x7 x8 x9 x10 x11 x12 x13 x14 x15 x16 x17 x18 x19 x20 x21 hw1;refine (Calls.mono (Kfr.out w1 (Below.refl _ _)) ?_);rintro z w2 ⟨rfl, hb⟩;have C2 : Hid (Below w1.heap.size w1 w2) := hb;clear hb;obtain ⟨y0_0, y0_1, y0_2, y0_3, y0_4, y0_5, y0_6, y0_7, y0_8, y0_9, y0_10, y0_11, y0_12, y0_13, y0_14, y0_15, y0_16, y0_17, y0_18, y0_19, y0_20, y0_21⟩ := cmd_cells (HV.out w2 C2.out);cases fr
  case false =>
    go_wp2_with fail
    go_ret
    exact ⟨by simp, HBW.out _ C2.out⟩
  go_wp2_with fail
  clear y0_0 y0_1 y0_2 y0_3 y0_4 y0_5 y0_6 y0_7 y0_8 y0_9 y0_10 y0_11 y0_12 y0_13 y0_14 y0_15 y0_16 y0_17 y0_18 y0_19 y0_20 y0_21;refine (Calls.mono (Ktn.out w2 C2.out) ?_);rintro z w3 ⟨rfl, hb⟩;have C3 : Hid (Below w1.heap.size w1 w3) := C2.out.trans (hb.mono C2.out.size);clear hb;obtain ⟨y1_0, y1_1, y1_2, y1_3, y1_4, y1_5, y1_6, y1_7, y1_8, y1_9, y1_10, y1_11, y1_12, y1_13, y1_14, y1_15, y1_16, y1_17, y1_18, y1_19, y1_20, y1_21⟩ := cmd_cells (HV.out w3 C3.out);cases tn
  case false =>
    go_wp2_with fail
    go_ret
    exact ⟨by simp, HBW.out _ C3.out⟩
  go_wp2_with fail
  clear y1_0 y1_1 y1_2 y1_3 y1_4 y1_5 y1_6 y1_7 y1_8 y1_9 y1_10 y1_11 y1_12 y1_13 y1_14 y1_15 y1_16 y1_17 y1_18 y1_19 y1_20 y1_21;refine (Calls.mono (Krn.out w3 C3.out) ?_);rintro z w4 ⟨rfl, hb⟩;have C4 : Hid (Below w1.heap.size w1 w4) := C3.out.trans (hb.mono C3.out.size);clear hb;obtain ⟨y2_0, y2_1, y2_2, y2_3, y2_4, y2_5, y2_6, y2_7, y2_8, y2_9, y2_10, y2_11, y2_12, y2_13, y2_14, y2_15, y2_16, y2_17, y2_18, y2_19, y2_20, y2_21⟩ := cmd_cells (HV.out w4 C4.out);go_wp2_with fail
  go_ret
  exact ⟨by simp, HBW.out _ C4.out⟩
theorem eright3 (k : CAt) (c : Cmd) (w : World) (h : CmdAt w k c) (T : TabsA w) (kk : c.kind = 3) (t1 : (c.kind == 1) = false) (t2 : (c.kind == 2) = false) (t3 : (c.kind == 3) = true) : Calls Tryz.prog 25 #[.agg #[.int .i64 c.kind, .slice k.pf c.fr.path.length k.fc, .string c.fr.type, .string c.fr.name, .int .i64 c.fr.key, .int .u64 c.fr.place, .string c.fr.word, .slice k.pt c.ad.path.length k.tc, .string c.ad.type, .string c.ad.name, .int .i64 c.ad.key, .int .u64 c.ad.place, .string c.ad.word, .slice k.p.pa c.r.a.path.length k.p.pc, .string c.r.a.type, .string c.r.a.name, .int .i64 c.r.a.key, .int .u64 c.r.a.place, .string c.r.a.word, .string c.r.prov, .string c.r.id, .slice k.p.ta c.r.attrs.length k.p.tc]] w fun e w' => e = .returned (.bool (rightC c)) /\ Below w.heap.size w w' := by
  obtain ⟨w1, hw1, V1, B1⟩ := cmd_new w k c;obtain ⟨x0, x1, x2, x3, x4, x5, x6, x7, x8, x9, x10, x11, x12, x13, x14, x15, x16, x17, x18, x19, x20, x21⟩ := cmd_cells V1.out;have HV : Hid (∀ W, Below w1.heap.size w1 W -> W.heap[w.heap.size]? = some (.cells (cmdArr k c) 44 (0, 0))) := fun W hb => (hb.block _ (heap_lt V1.out)).trans V1.out;have HC : Hid (∀ W, Below w1.heap.size w1 W -> CmdAt W k c) := fun W hb => (h.stays B1.out).stays hb;have HBW : Hid (∀ W, Below w1.heap.size w1 W -> Below w.heap.size w W) := fun W hb => B1.out.trans (hb.mono B1.out.size);have HT : Hid (∀ W, Below w1.heap.size w1 W -> TabsA W) := fun W hb => (T.stays B1.out).stays hb;obtain ⟨rr, hrr⟩ : ∃ b, recB c.r = b := ⟨_, rfl⟩;obtain ⟨fn, hfn⟩ : ∃ b, noA c.fr = b := ⟨_, rfl⟩;obtain ⟨tn, htn⟩ : ∃ b, noA c.ad = b := ⟨_, rfl⟩;have Krr : Hid (∀ W, Below w1.heap.size w1 W -> Calls Tryz.prog 14 #[.agg #[.slice k.p.pa c.r.a.path.length k.p.pc, .string c.r.a.type, .string c.r.a.name, .int .i64 c.r.a.key, .int .u64 c.r.a.place, .string c.r.a.word, .string c.r.prov, .string c.r.id, .slice k.p.ta c.r.attrs.length k.p.tc]] W fun e w' => e = .returned (.bool rr) /\ Below W.heap.size W w') := fun W hb => rec_ok c.r k.p W (HC.out W hb).r (HC.out W hb).s (HT.out W hb) rr hrr;have Kfn : Hid (∀ W, Below w1.heap.size w1 W -> Calls Tryz.prog 63 #[.agg #[.slice k.pf c.fr.path.length k.fc, .string c.fr.type, .string c.fr.name, .int .i64 c.fr.key, .int .u64 c.fr.place, .string c.fr.word]] W fun e w' => e = .returned (.bool fn) /\ Below W.heap.size W w') := fun W hb => by rw [<-hfn]; exact noAddress_any _ _ _ W (HC.out W hb).f
  have Ktn : Hid (∀ W, Below w1.heap.size w1 W -> Calls Tryz.prog 63 #[.agg #[.slice k.pt c.ad.path.length k.tc, .string c.ad.type, .string c.ad.name, .int .i64 c.ad.key, .int .u64 c.ad.place, .string c.ad.word]] W fun e w' => e = .returned (.bool tn) /\ Below W.heap.size W w') := fun W hb => by rw [<-htn]; exact noAddress_any _ _ _ W (HC.out W hb).t
  have HRE : Hid (rightC c = (rr && (fn && tn))) := by unfold rightC Hid; simp [kk, hrr, hfn, htn]
  rw [HRE.out];clear h kk HRE T hrr hfn htn;go_enter Tryz.func25, Tryz.ntmps25
  go_wp2_with fail
  clear x0 x1 x2 x3 x4 x5 x6 x7 x8 x9 x10 x11 x12 x13 x14 x15 x16 x17 x18 x19 x20 x21 hw1;refine (Calls.mono (Krr.out w1 (Below.refl _ _)) ?_);rintro z w2 ⟨rfl, hb⟩;have C2 : Hid (Below w1.heap.size w1 w2) := hb;clear hb;obtain ⟨y0_0, y0_1, y0_2, y0_3, y0_4, y0_5, y0_6, y0_7, y0_8, y0_9, y0_10, y0_11, y0_12, y0_13, y0_14, y0_15, y0_16, y0_17, y0_18, y0_19, y0_20, y0_21⟩ := cmd_cells (HV.out w2 C2.out);cases rr
  case false =>
    go_wp2_with fail
    go_ret
    exact ⟨by simp, HBW.out _ C2.out⟩
  go_wp2_with fail
  clear y0_0 y0_1 y0_2 y0_3 y0_4 y0_5 y0_6 y0_7 y0_8 y0_9 y0_10 y0_11 y0_12 y0_13 y0_14 y0_15 y0_16 y0_17 y0_18 y0_19 y0_20 y0_21;refine (Calls.mono (Kfn.out w2 C2.out) ?_);rintro z w3 ⟨rfl, hb⟩;have C3 : Hid (Below w1.heap.size w1 w3) := C2.out.trans (hb.mono C2.out.size);clear hb;obtain ⟨y1_0, y1_1, y1_2, y1_3, y1_4, y1_5, y1_6, y1_7, y1_8, y1_9, y1_10, y1_11, y1_12, y1_13, y1_14, y1_15, y1_16, y1_17, y1_18, y1_19, y1_20, y1_21⟩ := cmd_cells (HV.out w3 C3.out);cases fn
  case false =>
    go_wp2_with fail
    go_ret
    exact ⟨by simp, HBW.out _ C3.out⟩
  go_wp2_with fail
  clear y1_0 y1_1 y1_2 y1_3 y1_4 y1_5 y1_6 y1_7 y1_8 y1_9 y1_10 y1_11 y1_12 y1_13 y1_14 y1_15 y1_16 y1_17 y1_18 y1_19 y1_20 y1_21;refine (Calls.mono (Ktn.out w3 C3.out) ?_);rintro z w4 ⟨rfl, hb⟩;have C4 : Hid (Below w1.heap.size w1 w4) := C3.out.trans (hb.mono C3.out.size);clear hb;obtain ⟨y2_0, y2_1, y2_2, y2_3, y2_4, y2_5, y2_6, y2_7, y2_8, y2_9, y2_10, y2_11, y2_12, y2_13, y2_14, y2_15, y2_16, y2_17, y2_18, y2_19, y2_20, y2_21⟩ := cmd_cells (HV.out w4 C4.out);go_wp2_with fail
  go_ret
  exact ⟨by simp, HBW.out _ C4.out⟩
theorem eright0 (k : CAt) (c : Cmd) (w : World) (h : CmdAt w k c) (T : TabsA w) (kk : c.kind ≠ 1 /\ c.kind ≠ 2 /\ c.kind ≠ 3) (t1 : (c.kind == 1) = false) (t2 : (c.kind == 2) = false) (t3 : (c.kind == 3) = false) : Calls Tryz.prog 25 #[.agg #[.int .i64 c.kind, .slice k.pf c.fr.path.length k.fc, .string c.fr.type, .string c.fr.name, .int .i64 c.fr.key, .int .u64 c.fr.place, .string c.fr.word, .slice k.pt c.ad.path.length k.tc, .string c.ad.type, .string c.ad.name, .int .i64 c.ad.key, .int .u64 c.ad.place, .string c.ad.word, .slice k.p.pa c.r.a.path.length k.p.pc, .string c.r.a.type, .string c.r.a.name, .int .i64 c.r.a.key, .int .u64 c.r.a.place, .string c.r.a.word, .string c.r.prov, .string c.r.id, .slice k.p.ta c.r.attrs.length k.p.tc]] w fun e w' => e = .returned (.bool (rightC c)) /\ Below w.heap.size w w' := by
  obtain ⟨w1, hw1, V1, B1⟩ := cmd_new w k c;obtain ⟨x0, x1, x2, x3, x4, x5, x6, x7, x8, x9, x10, x11, x12, x13, x14, x15, x16, x17, x18, x19, x20, x21⟩ := cmd_cells V1.out;have HV : Hid (∀ W, Below w1.heap.size w1 W -> W.heap[w.heap.size]? = some (.cells (cmdArr k c) 44 (0, 0))) := fun W hb => (hb.block _ (heap_lt V1.out)).trans V1.out;have HC : Hid (∀ W, Below w1.heap.size w1 W -> CmdAt W k c) := fun W hb => (h.stays B1.out).stays hb;have HBW : Hid (∀ W, Below w1.heap.size w1 W -> Below w.heap.size w W) := fun W hb => B1.out.trans (hb.mono B1.out.size);have HT : Hid (∀ W, Below w1.heap.size w1 W -> TabsA W) := fun W hb => (T.stays B1.out).stays hb;have HRE : Hid (rightC c = (false)) := by unfold rightC Hid; simp [kk]
  rw [HRE.out];clear h kk HRE T;go_enter Tryz.func25, Tryz.ntmps25
  go_wp2_with fail
  go_ret
  exact ⟨rfl, B1.out⟩
theorem eright_any (k : CAt) (c : Cmd) (w : World) (h : CmdAt w k c) (T : TabsA w) : Calls Tryz.prog 25 #[.agg #[.int .i64 c.kind, .slice k.pf c.fr.path.length k.fc, .string c.fr.type, .string c.fr.name, .int .i64 c.fr.key, .int .u64 c.fr.place, .string c.fr.word, .slice k.pt c.ad.path.length k.tc, .string c.ad.type, .string c.ad.name, .int .i64 c.ad.key, .int .u64 c.ad.place, .string c.ad.word, .slice k.p.pa c.r.a.path.length k.p.pc, .string c.r.a.type, .string c.r.a.name, .int .i64 c.r.a.key, .int .u64 c.r.a.place, .string c.r.a.word, .string c.r.prov, .string c.r.id, .slice k.p.ta c.r.attrs.length k.p.tc]] w fun e w' => e = .returned (.bool (rightC c)) /\ Below w.heap.size w w' := by
  by_cases k1 : c.kind = 1
  · exact eright1 k c w h T k1 (beq_iff_eq.2 k1)
  · by_cases k2 : c.kind = 2
    · exact eright2 k c w h T k2 (beq_eq_false_iff_ne.2 k1) (beq_iff_eq.2 k2)
    · by_cases k3 : c.kind = 3
      · exact eright3 k c w h T k3 (beq_eq_false_iff_ne.2 k1) (beq_eq_false_iff_ne.2 k2) (beq_iff_eq.2 k3)
      · exact eright0 k c w h T ⟨k1, k2, k3⟩ (beq_eq_false_iff_ne.2 k1) (beq_eq_false_iff_ne.2 k2) (beq_eq_false_iff_ne.2 k3)
end Go.Proofs.YtehghladpnpcoaaGreatDoor.State.Edit
set_option linter.unusedVariables false
set_option linter.unusedSimpArgs false
set_option maxRecDepth 100000
set_option maxHeartbeats 16000000
namespace Go.Proofs.YtehghladpnpcoaaGreatDoor.State.Edit
open Go.RowKit Go.Shelf Utf Strs Go.Proofs.YtehghladpnpcoaaGreatDoor.Addr Go.Proofs.YtehghladpnpcoaaGreatDoor.State
open Jdec (IsTexts Turn infoStr gb_set gb_below gb_refl)
theorem noR_same (r : Rec) : noR r = sameRec r Rec.zero := by
  have e : ∀ x : ByteArray, x.toList.isEmpty = (x.toList == (⟨#[]⟩ : ByteArray).toList) := fun x => by
    have : (⟨#[]⟩ : ByteArray).toList = [] := by kernel_rfl
    rw [this]; cases x.toList <;> rfl
  have e2 : r.attrs.isEmpty = decide (r.attrs = []) := by cases r.attrs <;> simp
  rw [noR, sameRec, e r.prov, e r.id, e2]
  rfl
theorem rnone_any (a : Adr) (pa : Option Addr) (pc : Nat) (w : World) (h : AdrAt w pa a) : Calls Tryz.prog 65 #[.agg #[.slice pa a.path.length pc, .string a.type, .string a.name, .int .i64 a.key, .int .u64 a.place, .string a.word]] w fun e w' => e = .returned (.bool (noA a)) /\ Below w.heap.size w w' := by
  obtain ⟨w1, hw1, V1, B1⟩ := adr_new w pa pc a;obtain ⟨x0, x1, x2, x3, x4, x5⟩ := adr_cells V1.out;have HSM : Hid (Calls Tryz.prog 27 #[.agg #[.slice pa a.path.length pc, .string a.type, .string a.name, .int .i64 a.key, .int .u64 a.place, .string a.word], .agg #[.slice none 0 0, .string ⟨#[]⟩, .string ⟨#[]⟩, .int .i64 0, .int .u64 0, .string ⟨#[]⟩]] w1 fun e w' => e = .returned (.bool (noA a)) /\ Below w1.heap.size w1 w') := rsame_any a zeroA pa none pc 0 (fun _ => True) (fun _ => True) w1 (h.stays B1.out).t (.inl rfl) (by have := h.l; omega) (by decide);obtain ⟨nb, hnb⟩ : ∃ b, noA a = b := ⟨_, rfl⟩;rw [hnb] at HSM ⊢;clear h hnb;go_enter Tryz.func65, Tryz.ntmps65
  go_wp2_with fail
  refine (Calls.mono HSM.out ?_);rintro z w2 ⟨rfl, hb2⟩;go_wp2_with fail
  go_ret
  exact ⟨rfl, B1.out.trans (hb2.mono B1.out.size)⟩
theorem rright1 (k : CAt) (c : Cmd) (w : World) (h : CmdAt w k c) (kk : c.kind = 1) (t1 : (c.kind == 1) = true) : Calls Tryz.prog 26 #[.agg #[.int .i64 c.kind, .slice k.pf c.fr.path.length k.fc, .string c.fr.type, .string c.fr.name, .int .i64 c.fr.key, .int .u64 c.fr.place, .string c.fr.word, .slice k.pt c.ad.path.length k.tc, .string c.ad.type, .string c.ad.name, .int .i64 c.ad.key, .int .u64 c.ad.place, .string c.ad.word, .slice k.p.pa c.r.a.path.length k.p.pc, .string c.r.a.type, .string c.r.a.name, .int .i64 c.r.a.key, .int .u64 c.r.a.place, .string c.r.a.word, .string c.r.prov, .string c.r.id, .slice k.p.ta c.r.attrs.length k.p.tc]] w fun e w' => e = .returned (.bool (rightC c)) /\ Below w.heap.size w w' := by
  obtain ⟨w1, hw1, V1, B1⟩ := cmd_new w k c;obtain ⟨x0, x1, x2, x3, x4, x5, x6, x7, x8, x9, x10, x11, x12, x13, x14, x15, x16, x17, x18, x19, x20, x21⟩ := cmd_cells V1.out;have HV : Hid (∀ W, Below w1.heap.size w1 W -> W.heap[w.heap.size]? = some (.cells (cmdArr k c) 44 (0, 0))) := fun W hb => (hb.block _ (heap_lt V1.out)).trans V1.out;have HC : Hid (∀ W, Below w1.heap.size w1 W -> CmdAt W k c) := fun W hb => (h.stays B1.out).stays hb;have HBW : Hid (∀ W, Below w1.heap.size w1 W -> Below w.heap.size w W) := fun W hb => B1.out.trans (hb.mono B1.out.size);obtain ⟨rn, hrn⟩ : ∃ b, noR c.r = b := ⟨_, rfl⟩;obtain ⟨fr, hfr⟩ : ∃ b, rightA c.fr = b := ⟨_, rfl⟩;obtain ⟨tr, htr⟩ : ∃ b, rightA c.ad = b := ⟨_, rfl⟩;have Krn : Hid (∀ W, Below w1.heap.size w1 W -> Calls Tryz.prog 30 #[.agg #[.slice k.p.pa c.r.a.path.length k.p.pc, .string c.r.a.type, .string c.r.a.name, .int .i64 c.r.a.key, .int .u64 c.r.a.place, .string c.r.a.word, .string c.r.prov, .string c.r.id, .slice k.p.ta c.r.attrs.length k.p.tc], .agg #[.slice none 0 0, .string ⟨#[]⟩, .string ⟨#[]⟩, .int .i64 0, .int .u64 0, .string ⟨#[]⟩, .string ⟨#[]⟩, .string ⟨#[]⟩, .slice none 0 0]] W fun e w' => e = .returned (.bool rn) /\ Below W.heap.size W w') := fun W hb => by rw [<-hrn, noR_same]; exact sr_ok c.r Rec.zero k.p At.zero W (HC.out W hb).r ⟨.inl rfl, .inl rfl⟩ (HC.out W hb).s zrec_small
  have Kfr : Hid (∀ W, Below w1.heap.size w1 W -> Calls Tryz.prog 64 #[.agg #[.slice k.pf c.fr.path.length k.fc, .string c.fr.type, .string c.fr.name, .int .i64 c.fr.key, .int .u64 c.fr.place, .string c.fr.word]] W fun e w' => e = .returned (.bool fr) /\ Below W.heap.size W w') := fun W hb => by rw [<-hfr]; exact (HC.out W hb).f.rright k.fc
  have Ktr : Hid (∀ W, Below w1.heap.size w1 W -> Calls Tryz.prog 64 #[.agg #[.slice k.pt c.ad.path.length k.tc, .string c.ad.type, .string c.ad.name, .int .i64 c.ad.key, .int .u64 c.ad.place, .string c.ad.word]] W fun e w' => e = .returned (.bool tr) /\ Below W.heap.size W w') := fun W hb => by rw [<-htr]; exact (HC.out W hb).t.rright k.tc
  have HRE : Hid (rightC c = (fr && (tr && rn))) := by unfold rightC Hid; simp [kk, hrn, hfr, htr]
  rw [HRE.out];clear h kk HRE hrn hfr htr;go_enter Tryz.func26, Tryz.ntmps26
  go_wp2_with fail
  clear x0 x1 x2 x3 x4 x5 x6 x7 x8 x9 x10 x11 x12 x13 x14 x15 x16 x17 x18 x19 x20 x21 hw1;refine (Calls.mono (Krn.out w1 (Below.refl _ _)) ?_);rintro z w2 ⟨rfl, hb⟩;have C2 : Hid (Below w1.heap.size w1 w2) := hb;clear hb;obtain ⟨y0_0, y0_1, y0_2, y0_3, y0_4, y0_5, y0_6, y0_7, y0_8, y0_9, y0_10, y0_11, y0_12, y0_13, y0_14, y0_15, y0_16, y0_17, y0_18, y0_19, y0_20, y0_21⟩ := cmd_cells (HV.out w2 C2.out);go_wp2_with fail
  clear y0_0 y0_1 y0_2 y0_3 y0_4 y0_5 y0_6 y0_7 y0_8 y0_9 y0_10 y0_11 y0_12 y0_13 y0_14 y0_15 y0_16 y0_17 y0_18 y0_19 y0_20 y0_21;refine (Calls.mono (Kfr.out w2 C2.out) ?_);rintro z w3 ⟨rfl, hb⟩;have C3 : Hid (Below w1.heap.size w1 w3) := C2.out.trans (hb.mono C2.out.size);clear hb;obtain ⟨y1_0, y1_1, y1_2, y1_3, y1_4, y1_5, y1_6, y1_7, y1_8, y1_9, y1_10, y1_11, y1_12, y1_13, y1_14, y1_15, y1_16, y1_17, y1_18, y1_19, y1_20, y1_21⟩ := cmd_cells (HV.out w3 C3.out);cases fr
  case false =>
    go_wp2_with fail
    go_ret
    exact ⟨by simp, HBW.out _ C3.out⟩
  go_wp2_with fail
  clear y1_0 y1_1 y1_2 y1_3 y1_4 y1_5 y1_6 y1_7 y1_8 y1_9 y1_10 y1_11 y1_12 y1_13 y1_14 y1_15 y1_16 y1_17 y1_18 y1_19 y1_20 y1_21;refine (Calls.mono (Ktr.out w3 C3.out) ?_);rintro z w4 ⟨rfl, hb⟩;have C4 : Hid (Below w1.heap.size w1 w4) := C3.out.trans (hb.mono C3.out.size);clear hb;obtain ⟨y2_0, y2_1, y2_2, y2_3, y2_4, y2_5, y2_6, y2_7, y2_8, y2_9, y2_10, y2_11, y2_12, y2_13, y2_14, y2_15, y2_16, y2_17, y2_18, y2_19, y2_20, y2_21⟩ := cmd_cells (HV.out w4 C4.out);cases tr
  all_goals
    go_wp2_with fail
    go_ret
    exact ⟨by first | (simp; done) | simp_all, HBW.out _ C4.out⟩
theorem rright2 (k : CAt) (c : Cmd) (w : World) (h : CmdAt w k c) (kk : c.kind = 2) (t1 : (c.kind == 1) = false) (t2 : (c.kind == 2) = true) : Calls Tryz.prog 26 #[.agg #[.int .i64 c.kind, .slice k.pf c.fr.path.length k.fc, .string c.fr.type, .string c.fr.name, .int .i64 c.fr.key, .int .u64 c.fr.place, .string c.fr.word, .slice k.pt c.ad.path.length k.tc, .string c.ad.type, .string c.ad.name, .int .i64 c.ad.key, .int .u64 c.ad.place, .string c.ad.word, .slice k.p.pa c.r.a.path.length k.p.pc, .string c.r.a.type, .string c.r.a.name, .int .i64 c.r.a.key, .int .u64 c.r.a.place, .string c.r.a.word, .string c.r.prov, .string c.r.id, .slice k.p.ta c.r.attrs.length k.p.tc]] w fun e w' => e = .returned (.bool (rightC c)) /\ Below w.heap.size w w' := by
  obtain ⟨w1, hw1, V1, B1⟩ := cmd_new w k c;obtain ⟨x0, x1, x2, x3, x4, x5, x6, x7, x8, x9, x10, x11, x12, x13, x14, x15, x16, x17, x18, x19, x20, x21⟩ := cmd_cells V1.out;have HV : Hid (∀ W, Below w1.heap.size w1 W -> W.heap[w.heap.size]? = some (.cells (cmdArr k c) 44 (0, 0))) := fun W hb => (hb.block _ (heap_lt V1.out)).trans V1.out;have HC : Hid (∀ W, Below w1.heap.size w1 W -> CmdAt W k c) := fun W hb => (h.stays B1.out).stays hb;have HBW : Hid (∀ W, Below w1.heap.size w1 W -> Below w.heap.size w W) := fun W hb => B1.out.trans (hb.mono B1.out.size);obtain ⟨rn, hrn⟩ : ∃ b, noR c.r = b := ⟨_, rfl⟩;obtain ⟨fr, hfr⟩ : ∃ b, rightA c.fr = b := ⟨_, rfl⟩;obtain ⟨tn, htn⟩ : ∃ b, noA c.ad = b := ⟨_, rfl⟩;have Krn : Hid (∀ W, Below w1.heap.size w1 W -> Calls Tryz.prog 30 #[.agg #[.slice k.p.pa c.r.a.path.length k.p.pc, .string c.r.a.type, .string c.r.a.name, .int .i64 c.r.a.key, .int .u64 c.r.a.place, .string c.r.a.word, .string c.r.prov, .string c.r.id, .slice k.p.ta c.r.attrs.length k.p.tc], .agg #[.slice none 0 0, .string ⟨#[]⟩, .string ⟨#[]⟩, .int .i64 0, .int .u64 0, .string ⟨#[]⟩, .string ⟨#[]⟩, .string ⟨#[]⟩, .slice none 0 0]] W fun e w' => e = .returned (.bool rn) /\ Below W.heap.size W w') := fun W hb => by rw [<-hrn, noR_same]; exact sr_ok c.r Rec.zero k.p At.zero W (HC.out W hb).r ⟨.inl rfl, .inl rfl⟩ (HC.out W hb).s zrec_small
  have Kfr : Hid (∀ W, Below w1.heap.size w1 W -> Calls Tryz.prog 64 #[.agg #[.slice k.pf c.fr.path.length k.fc, .string c.fr.type, .string c.fr.name, .int .i64 c.fr.key, .int .u64 c.fr.place, .string c.fr.word]] W fun e w' => e = .returned (.bool fr) /\ Below W.heap.size W w') := fun W hb => by rw [<-hfr]; exact (HC.out W hb).f.rright k.fc
  have Ktn : Hid (∀ W, Below w1.heap.size w1 W -> Calls Tryz.prog 65 #[.agg #[.slice k.pt c.ad.path.length k.tc, .string c.ad.type, .string c.ad.name, .int .i64 c.ad.key, .int .u64 c.ad.place, .string c.ad.word]] W fun e w' => e = .returned (.bool tn) /\ Below W.heap.size W w') := fun W hb => by rw [<-htn]; exact rnone_any _ _ _ W (HC.out W hb).t
  have HRE : Hid (rightC c = (fr && (tn && rn))) := by unfold rightC Hid; simp [kk, hrn, hfr, htn]
  rw [HRE.out];clear h kk HRE hrn hfr htn;go_enter Tryz.func26, Tryz.ntmps26
  go_wp2_with fail
  clear x0 x1 x2 x3 x4 x5 x6 x7 x8 x9 x10 x11 x12 x13 x14 x15 x16 x17 x18 x19 x20 x21 hw1;refine (Calls.mono (Krn.out w1 (Below.refl _ _)) ?_);rintro z w2 ⟨rfl, hb⟩;have C2 : Hid (Below w1.heap.size w1 w2) := hb;clear hb;obtain ⟨y0_0, y0_1, y0_2, y0_3, y0_4, y0_5, y0_6, y0_7, y0_8, y0_9, y0_10, y0_11, y0_12, y0_13, y0_14, y0_15, y0_16, y0_17, y0_18, y0_19, y0_20, y0_21⟩ := cmd_cells (HV.out w2 C2.out);go_wp2_with fail
  clear y0_0 y0_1 y0_2 y0_3 y0_4 y0_5 y0_6 y0_7 y0_8 y0_9 y0_10 y0_11 y0_12 y0_13 y0_14 y0_15 y0_16 y0_17 y0_18 y0_19 y0_20 y0_21;refine (Calls.mono (Kfr.out w2 C2.out) ?_);rintro z w3 ⟨rfl, hb⟩;have C3 : Hid (Below w1.heap.size w1 w3) := C2.out.trans (hb.mono C2.out.size);clear hb;obtain ⟨y1_0, y1_1, y1_2, y1_3, y1_4, y1_5, y1_6, y1_7, y1_8, y1_9, y1_10, y1_11, y1_12, y1_13, y1_14, y1_15, y1_16, y1_17, y1_18, y1_19, y1_20, y1_21⟩ := cmd_cells (HV.out w3 C3.out);cases fr
  case false =>
    go_wp2_with fail
    go_ret
    exact ⟨by simp, HBW.out _ C3.out⟩
  go_wp2_with fail
  clear y1_0 y1_1 y1_2 y1_3 y1_4 y1_5 y1_6 y1_7 y1_8 y1_9 y1_10 y1_11 y1_12 y1_13 y1_14 y1_15 y1_16 y1_17 y1_18 y1_19 y1_20 y1_21;refine (Calls.mono (Ktn.out w3 C3.out) ?_);rintro z w4 ⟨rfl, hb⟩;have C4 : Hid (Below w1.heap.size w1 w4) := C3.out.trans (hb.mono C3.out.size);clear hb;obtain ⟨y2_0, y2_1, y2_2, y2_3, y2_4, y2_5, y2_6, y2_7, y2_8, y2_9, y2_10, y2_11, y2_12, y2_13, y2_14, y2_15, y2_16, y2_17, y2_18, y2_19, y2_20, y2_21⟩ := cmd_cells (HV.out w4 C4.out);cases tn
  all_goals
    go_wp2_with fail
    go_ret
    exact ⟨by first | (simp; done) | simp_all, HBW.out _ C4.out⟩
theorem rright3 (k : CAt) (c : Cmd) (w : World) (h : CmdAt w k c) (kk : c.kind = 3) (t1 : (c.kind == 1) = false) (t2 : (c.kind == 2) = false) (t3 : (c.kind == 3) = true) : Calls Tryz.prog 26 #[.agg #[.int .i64 c.kind, .slice k.pf c.fr.path.length k.fc, .string c.fr.type, .string c.fr.name, .int .i64 c.fr.key, .int .u64 c.fr.place, .string c.fr.word, .slice k.pt c.ad.path.length k.tc, .string c.ad.type, .string c.ad.name, .int .i64 c.ad.key, .int .u64 c.ad.place, .string c.ad.word, .slice k.p.pa c.r.a.path.length k.p.pc, .string c.r.a.type, .string c.r.a.name, .int .i64 c.r.a.key, .int .u64 c.r.a.place, .string c.r.a.word, .string c.r.prov, .string c.r.id, .slice k.p.ta c.r.attrs.length k.p.tc]] w fun e w' => e = .returned (.bool (rightC c)) /\ Below w.heap.size w w' := by
  obtain ⟨w1, hw1, V1, B1⟩ := cmd_new w k c;obtain ⟨x0, x1, x2, x3, x4, x5, x6, x7, x8, x9, x10, x11, x12, x13, x14, x15, x16, x17, x18, x19, x20, x21⟩ := cmd_cells V1.out;have HV : Hid (∀ W, Below w1.heap.size w1 W -> W.heap[w.heap.size]? = some (.cells (cmdArr k c) 44 (0, 0))) := fun W hb => (hb.block _ (heap_lt V1.out)).trans V1.out;have HC : Hid (∀ W, Below w1.heap.size w1 W -> CmdAt W k c) := fun W hb => (h.stays B1.out).stays hb;have HBW : Hid (∀ W, Below w1.heap.size w1 W -> Below w.heap.size w W) := fun W hb => B1.out.trans (hb.mono B1.out.size);obtain ⟨rn, hrn⟩ : ∃ b, noR c.r = b := ⟨_, rfl⟩;obtain ⟨rr, hrr⟩ : ∃ b, recB c.r = b := ⟨_, rfl⟩;obtain ⟨fn, hfn⟩ : ∃ b, noA c.fr = b := ⟨_, rfl⟩;obtain ⟨tn, htn⟩ : ∃ b, noA c.ad = b := ⟨_, rfl⟩;have Krn : Hid (∀ W, Below w1.heap.size w1 W -> Calls Tryz.prog 30 #[.agg #[.slice k.p.pa c.r.a.path.length k.p.pc, .string c.r.a.type, .string c.r.a.name, .int .i64 c.r.a.key, .int .u64 c.r.a.place, .string c.r.a.word, .string c.r.prov, .string c.r.id, .slice k.p.ta c.r.attrs.length k.p.tc], .agg #[.slice none 0 0, .string ⟨#[]⟩, .string ⟨#[]⟩, .int .i64 0, .int .u64 0, .string ⟨#[]⟩, .string ⟨#[]⟩, .string ⟨#[]⟩, .slice none 0 0]] W fun e w' => e = .returned (.bool rn) /\ Below W.heap.size W w') := fun W hb => by rw [<-hrn, noR_same]; exact sr_ok c.r Rec.zero k.p At.zero W (HC.out W hb).r ⟨.inl rfl, .inl rfl⟩ (HC.out W hb).s zrec_small
  have Krr : Hid (∀ W, Below w1.heap.size w1 W -> Calls Tryz.prog 15 #[.agg #[.slice k.p.pa c.r.a.path.length k.p.pc, .string c.r.a.type, .string c.r.a.name, .int .i64 c.r.a.key, .int .u64 c.r.a.place, .string c.r.a.word, .string c.r.prov, .string c.r.id, .slice k.p.ta c.r.attrs.length k.p.tc]] W fun e w' => e = .returned (.bool rr) /\ Below W.heap.size W w') := fun W hb => rrec_ok c.r k.p W (HC.out W hb).r (HC.out W hb).s rr hrr;have Kfn : Hid (∀ W, Below w1.heap.size w1 W -> Calls Tryz.prog 65 #[.agg #[.slice k.pf c.fr.path.length k.fc, .string c.fr.type, .string c.fr.name, .int .i64 c.fr.key, .int .u64 c.fr.place, .string c.fr.word]] W fun e w' => e = .returned (.bool fn) /\ Below W.heap.size W w') := fun W hb => by rw [<-hfn]; exact rnone_any _ _ _ W (HC.out W hb).f
  have Ktn : Hid (∀ W, Below w1.heap.size w1 W -> Calls Tryz.prog 65 #[.agg #[.slice k.pt c.ad.path.length k.tc, .string c.ad.type, .string c.ad.name, .int .i64 c.ad.key, .int .u64 c.ad.place, .string c.ad.word]] W fun e w' => e = .returned (.bool tn) /\ Below W.heap.size W w') := fun W hb => by rw [<-htn]; exact rnone_any _ _ _ W (HC.out W hb).t
  have HRE : Hid (rightC c = (rr && (fn && tn))) := by unfold rightC Hid; simp [kk, hrn, hrr, hfn, htn]
  rw [HRE.out];clear h kk HRE hrn hrr hfn htn;go_enter Tryz.func26, Tryz.ntmps26
  go_wp2_with fail
  clear x0 x1 x2 x3 x4 x5 x6 x7 x8 x9 x10 x11 x12 x13 x14 x15 x16 x17 x18 x19 x20 x21 hw1;refine (Calls.mono (Krn.out w1 (Below.refl _ _)) ?_);rintro z w2 ⟨rfl, hb⟩;have C2 : Hid (Below w1.heap.size w1 w2) := hb;clear hb;obtain ⟨y0_0, y0_1, y0_2, y0_3, y0_4, y0_5, y0_6, y0_7, y0_8, y0_9, y0_10, y0_11, y0_12, y0_13, y0_14, y0_15, y0_16, y0_17, y0_18, y0_19, y0_20, y0_21⟩ := cmd_cells (HV.out w2 C2.out);go_wp2_with fail
  clear y0_0 y0_1 y0_2 y0_3 y0_4 y0_5 y0_6 y0_7 y0_8 y0_9 y0_10 y0_11 y0_12 y0_13 y0_14 y0_15 y0_16 y0_17 y0_18 y0_19 y0_20 y0_21;refine (Calls.mono (Krr.out w2 C2.out) ?_);rintro z w3 ⟨rfl, hb⟩;have C3 : Hid (Below w1.heap.size w1 w3) := C2.out.trans (hb.mono C2.out.size);clear hb;obtain ⟨y1_0, y1_1, y1_2, y1_3, y1_4, y1_5, y1_6, y1_7, y1_8, y1_9, y1_10, y1_11, y1_12, y1_13, y1_14, y1_15, y1_16, y1_17, y1_18, y1_19, y1_20, y1_21⟩ := cmd_cells (HV.out w3 C3.out);cases rr
  case false =>
    go_wp2_with fail
    go_ret
    exact ⟨by simp, HBW.out _ C3.out⟩
  go_wp2_with fail
  clear y1_0 y1_1 y1_2 y1_3 y1_4 y1_5 y1_6 y1_7 y1_8 y1_9 y1_10 y1_11 y1_12 y1_13 y1_14 y1_15 y1_16 y1_17 y1_18 y1_19 y1_20 y1_21;refine (Calls.mono (Kfn.out w3 C3.out) ?_);rintro z w4 ⟨rfl, hb⟩;have C4 : Hid (Below w1.heap.size w1 w4) := C3.out.trans (hb.mono C3.out.size);clear hb;obtain ⟨y2_0, y2_1, y2_2, y2_3, y2_4, y2_5, y2_6, y2_7, y2_8, y2_9, y2_10, y2_11, y2_12, y2_13, y2_14, y2_15, y2_16, y2_17, y2_18, y2_19, y2_20, y2_21⟩ := cmd_cells (HV.out w4 C4.out);cases fn
  case false =>
    go_wp2_with fail
    go_ret
    exact ⟨by simp, HBW.out _ C4.out⟩
  go_wp2_with fail
  clear y2_0 y2_1 y2_2 y2_3 y2_4 y2_5 y2_6 y2_7 y2_8 y2_9 y2_10 y2_11 y2_12 y2_13 y2_14 y2_15 y2_16 y2_17 y2_18 y2_19 y2_20 y2_21;refine (Calls.mono (Ktn.out w4 C4.out) ?_);rintro z w5 ⟨rfl, hb⟩;have C5 : Hid (Below w1.heap.size w1 w5) := C4.out.trans (hb.mono C4.out.size);clear hb;obtain ⟨y3_0, y3_1, y3_2, y3_3, y3_4, y3_5, y3_6, y3_7, y3_8, y3_9, y3_10, y3_11, y3_12, y3_13, y3_14, y3_15, y3_16, y3_17, y3_18, y3_19, y3_20, y3_21⟩ := cmd_cells (HV.out w5 C5.out);cases tn
  all_goals
    go_wp2_with fail
    go_ret
    exact ⟨by first | (simp; done) | simp_all, HBW.out _ C5.out⟩
theorem rright0 (k : CAt) (c : Cmd) (w : World) (h : CmdAt w k c) (kk : c.kind ≠ 1 /\ c.kind ≠ 2 /\ c.kind ≠ 3) (t1 : (c.kind == 1) = false) (t2 : (c.kind == 2) = false) (t3 : (c.kind == 3) = false) : Calls Tryz.prog 26 #[.agg #[.int .i64 c.kind, .slice k.pf c.fr.path.length k.fc, .string c.fr.type, .string c.fr.name, .int .i64 c.fr.key, .int .u64 c.fr.place, .string c.fr.word, .slice k.pt c.ad.path.length k.tc, .string c.ad.type, .string c.ad.name, .int .i64 c.ad.key, .int .u64 c.ad.place, .string c.ad.word, .slice k.p.pa c.r.a.path.length k.p.pc, .string c.r.a.type, .string c.r.a.name, .int .i64 c.r.a.key, .int .u64 c.r.a.place, .string c.r.a.word, .string c.r.prov, .string c.r.id, .slice k.p.ta c.r.attrs.length k.p.tc]] w fun e w' => e = .returned (.bool (rightC c)) /\ Below w.heap.size w w' := by
  obtain ⟨w1, hw1, V1, B1⟩ := cmd_new w k c;obtain ⟨x0, x1, x2, x3, x4, x5, x6, x7, x8, x9, x10, x11, x12, x13, x14, x15, x16, x17, x18, x19, x20, x21⟩ := cmd_cells V1.out;have HV : Hid (∀ W, Below w1.heap.size w1 W -> W.heap[w.heap.size]? = some (.cells (cmdArr k c) 44 (0, 0))) := fun W hb => (hb.block _ (heap_lt V1.out)).trans V1.out;have HC : Hid (∀ W, Below w1.heap.size w1 W -> CmdAt W k c) := fun W hb => (h.stays B1.out).stays hb;have HBW : Hid (∀ W, Below w1.heap.size w1 W -> Below w.heap.size w W) := fun W hb => B1.out.trans (hb.mono B1.out.size);obtain ⟨rn, hrn⟩ : ∃ b, noR c.r = b := ⟨_, rfl⟩;have Krn : Hid (∀ W, Below w1.heap.size w1 W -> Calls Tryz.prog 30 #[.agg #[.slice k.p.pa c.r.a.path.length k.p.pc, .string c.r.a.type, .string c.r.a.name, .int .i64 c.r.a.key, .int .u64 c.r.a.place, .string c.r.a.word, .string c.r.prov, .string c.r.id, .slice k.p.ta c.r.attrs.length k.p.tc], .agg #[.slice none 0 0, .string ⟨#[]⟩, .string ⟨#[]⟩, .int .i64 0, .int .u64 0, .string ⟨#[]⟩, .string ⟨#[]⟩, .string ⟨#[]⟩, .slice none 0 0]] W fun e w' => e = .returned (.bool rn) /\ Below W.heap.size W w') := fun W hb => by rw [<-hrn, noR_same]; exact sr_ok c.r Rec.zero k.p At.zero W (HC.out W hb).r ⟨.inl rfl, .inl rfl⟩ (HC.out W hb).s zrec_small
  have HRE : Hid (rightC c = (false)) := by unfold rightC Hid; simp [kk, hrn]
  rw [HRE.out];clear h kk HRE hrn;go_enter Tryz.func26, Tryz.ntmps26
  go_wp2_with fail
  clear x0 x1 x2 x3 x4 x5 x6 x7 x8 x9 x10 x11 x12 x13 x14 x15 x16 x17 x18 x19 x20 x21 hw1;refine (Calls.mono (Krn.out w1 (Below.refl _ _)) ?_);rintro z w2 ⟨rfl, hb⟩;have C2 : Hid (Below w1.heap.size w1 w2) := hb;clear hb;obtain ⟨y0_0, y0_1, y0_2, y0_3, y0_4, y0_5, y0_6, y0_7, y0_8, y0_9, y0_10, y0_11, y0_12, y0_13, y0_14, y0_15, y0_16, y0_17, y0_18, y0_19, y0_20, y0_21⟩ := cmd_cells (HV.out w2 C2.out);go_wp2_with fail
  go_ret
  exact ⟨by simp, HBW.out _ C2.out⟩
theorem rright26_any (k : CAt) (c : Cmd) (w : World) (h : CmdAt w k c) : Calls Tryz.prog 26 #[.agg #[.int .i64 c.kind, .slice k.pf c.fr.path.length k.fc, .string c.fr.type, .string c.fr.name, .int .i64 c.fr.key, .int .u64 c.fr.place, .string c.fr.word, .slice k.pt c.ad.path.length k.tc, .string c.ad.type, .string c.ad.name, .int .i64 c.ad.key, .int .u64 c.ad.place, .string c.ad.word, .slice k.p.pa c.r.a.path.length k.p.pc, .string c.r.a.type, .string c.r.a.name, .int .i64 c.r.a.key, .int .u64 c.r.a.place, .string c.r.a.word, .string c.r.prov, .string c.r.id, .slice k.p.ta c.r.attrs.length k.p.tc]] w fun e w' => e = .returned (.bool (rightC c)) /\ Below w.heap.size w w' := by
  by_cases k1 : c.kind = 1
  · exact rright1 k c w h k1 (beq_iff_eq.2 k1)
  · by_cases k2 : c.kind = 2
    · exact rright2 k c w h k2 (beq_eq_false_iff_ne.2 k1) (beq_iff_eq.2 k2)
    · by_cases k3 : c.kind = 3
      · exact rright3 k c w h k3 (beq_eq_false_iff_ne.2 k1) (beq_eq_false_iff_ne.2 k2) (beq_iff_eq.2 k3)
      · exact rright0 k c w h ⟨k1, k2, k3⟩ (beq_eq_false_iff_ne.2 k1) (beq_eq_false_iff_ne.2 k2) (beq_eq_false_iff_ne.2 k3)
end Go.Proofs.YtehghladpnpcoaaGreatDoor.State.Edit
