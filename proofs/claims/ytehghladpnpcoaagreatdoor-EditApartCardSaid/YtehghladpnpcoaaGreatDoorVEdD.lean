/- edit.do. -/
import Derived.Test.YtehghladpnpcoaaGreatDoorVEdC
set_option linter.unusedVariables false
set_option linter.unusedSimpArgs false
set_option maxRecDepth 100000
set_option maxHeartbeats 64000000
namespace Go.Proofs.YtehghladpnpcoaaGreatDoor.State.Edit
open Go.RowKit Go.Shelf Go.Proofs.YtehghladpnpcoaaGreatDoor.Utf Go.Proofs.YtehghladpnpcoaaGreatDoor.Strs Go.Proofs.YtehghladpnpcoaaGreatDoor.Addr Go.Proofs.YtehghladpnpcoaaGreatDoor.State
open Go.Proofs.YtehghladpnpcoaaGreatDoor.Jdec (IsTexts Turn infoStr gb_set gb_below gb_refl)
structure Kept (b bm : Nat) (w w' : World) : Prop where
  size : w.heap.size ≤ w'.heap.size
  block : ∀ x, x < w.heap.size → x ≠ b → x ≠ bm → w'.heap[x]? = w.heap[x]?
theorem Kept.of_below {b bm : Nat} {w w' : World} (h : Below w.heap.size w w') : Kept b bm w w' := ⟨h.size, fun x hx _ _ => h.block x hx⟩
theorem Kept.trans {b bm : Nat} {w w' w2 : World} (h : Kept b bm w w') (h' : Kept b bm w' w2) : Kept b bm w w2 := ⟨Nat.le_trans h.size h'.size, fun x hx h1 h2 => (h'.block x (Nat.lt_of_lt_of_le hx h.size) h1 h2).trans (h.block x hx h1 h2)⟩
theorem Kept.of_b {b bm : Nat} {w w' : World} (h : w.grownBy w' (some b)) : Kept b bm w w' := ⟨h.size, fun x hx h1 _ => h.block x hx (fun e => h1 (by injection e with e))⟩
theorem Kept.of_bm {b bm : Nat} {w w' : World} (h : w.grownBy w' (some bm)) : Kept b bm w w' := ⟨h.size, fun x hx _ h2 => h.block x hx (fun e => h2 (by injection e with e))⟩
def ticked (s : Sta) : Sta := ⟨s.serial + 1, s.lin, s.recs⟩
theorem BkAt.tick {w0 w : World} {b bm n : Nat} {s : Sta} (h : BkAt w0 w b bm n s) : Hid (BkAt w0 (w.setCell ⟨b, 0, none⟩ (.int .u64 ((s.serial + 1 : Nat) : Int))) b bm n (ticked s)) ∧ Hid (Kept b bm w (w.setCell ⟨b, 0, none⟩ (.int .u64 ((s.serial + 1 : Nat) : Int)))) := by
  have hgs := gb_set w b 0 (.int .u64 ((s.serial + 1 : Nat) : Int))
  refine ⟨⟨h.up.grown hgs h.up.size (fun k hk => by injection hk with hk; have := h.lo; omega), ?_, h.lo, h.ne, h.map.kept hgs (fun e => h.ne (by injection e with e; exact e.symm))⟩, Kept.of_b hgs⟩
  rw [heap_set_same h.blk]
  simp [bookArr, ticked]
def DoPost (w0 : World) (b bm n : Nat) (s : Sta) (c : Cmd) (w : World) (e : Ending) (w' : World) : Prop := e = .returned (.int .i64 (errC s c)) ∧ ∃ s', Done s c s' ∧ s'.recs.length ≤ s.recs.length + 1 ∧ BkAt w0 w' b bm (n + 1) s' ∧ Kept b bm w w'
theorem do_bad {w0 w w' : World} {b bm n : Nat} {s : Sta} {c : Cmd} (h : BkAt w0 w b bm n s) (hg : Good s.recs) (hb : Below w.heap.size w w') (he : errC s c ≠ 0) {x : Int} (hx : errC s c = x) : DoPost w0 b bm n s c w (.returned (.int .i64 x)) w' :=
  ⟨by rw [hx], s, ⟨fun _ => rfl, fun h => absurd h he, rfl, fun h => absurd h he, hg⟩, Nat.le_succ _, (h.below hb).more (Nat.le_succ _), Kept.of_below hb⟩
theorem step_delete_run {P : Program} {o : Oper} {a : Act} {w w' : World} {K : Act → World → Prop} {Q : Exit → Act → World → Prop} {E : Prop} {yl : Nat → Option Bool} {inst : Decidable (Region.wanted o yl = true)} {v' : Value} (v1 v2 : Value) (t t2 : TypeId) (hr : (Builtin.delete_ #[t, t2] o.type #[v1, v2]).run P w = .ok v' w') (hgd : o.guard = none) (s x : Operand)
    (ho : o.op = .call { callee := .builtin .delete, args := #[s, x], argTypes := #[t, t2] }) (hs : a.eval s = v1) (hx : a.eval x = v2) (h : K (a.put o.dst v') w') : @ite _ (Region.wanted o yl = true) inst (Oper.wp P o a w K Q) E := by
  have hw : Region.wanted o yl = true := by simp [Region.wanted, hgd]
  rw [if_pos hw]
  unfold Oper.wp
  simp [execOp, ho, resolve, invoke, builtin, hs, hx, hr, Result.andThen]
  exact h
theorem tick_wrap {n : Nat} (h : n < 18446744073709551615) {q : Int} (hq : ((n + 1 : Nat) : Int) = q) : IntKind.u64.wrap ((n : Int) + 1) = q := by
  subst hq
  have e : IntKind.u64.wrap (((n + 1 : Nat)) : Int) = ((n + 1 : Nat) : Int) := by
    rw [IntKind.wrap_u64]
    omega
  exact_mod_cast e
@[go_sem] theorem meth_drop (f : ByteArray) (w : World) : Sem.run Tryz.prog (method 418 142 (.agg #[.string f]) "tabularium/edit.refused") w = .ok (286, .agg #[.string f]) w := by kernel_rfl
@[go_sem] theorem meth_move (f t : ByteArray) (k : CAt) (c : Cmd) (w : World) : Sem.run Tryz.prog (method 418 140 (.agg #[.string f, .string t, .slice k.pt c.ad.path.length k.tc, .string c.ad.type, .string c.ad.name, .int .i64 c.ad.key, .int .u64 c.ad.place, .string c.ad.word]) "tabularium/edit.refused") w = .ok (285, .agg #[.string f, .string t, .slice k.pt c.ad.path.length k.tc, .string c.ad.type, .string c.ad.name, .int .i64 c.ad.key, .int .u64 c.ad.place, .string c.ad.word]) w := by kernel_rfl
@[go_sem] theorem meth_gain (g : ByteArray) (k : CAt) (c : Cmd) (w : World) : Sem.run Tryz.prog (method 418 144 (.agg #[.string g, .slice k.p.pa c.r.a.path.length k.p.pc, .string c.r.a.type, .string c.r.a.name, .int .i64 c.r.a.key, .int .u64 c.r.a.place, .string c.r.a.word, .string c.r.prov, .string c.r.id, .slice k.p.ta c.r.attrs.length k.p.tc]) "tabularium/edit.refused") w = .ok (287, .agg #[.string g, .slice k.p.pa c.r.a.path.length k.p.pc, .string c.r.a.type, .string c.r.a.name, .int .i64 c.r.a.key, .int .u64 c.r.a.place, .string c.r.a.word, .string c.r.prov, .string c.r.id, .slice k.p.ta c.r.attrs.length k.p.tc]) w := by kernel_rfl
@[go_sem] theorem is_move (v : Value) (w : World) : (Instr.typeAssert (.iface 140 v) 136 140 true).run Tryz.prog w = .ok (.tuple #[v, .bool true]) w := by kernel_rfl
@[go_sem] theorem is_drop (v : Value) (w : World) : (Instr.typeAssert (.iface 142 v) 136 142 true).run Tryz.prog w = .ok (.tuple #[v, .bool true]) w := by kernel_rfl
@[go_sem] theorem is_gain (v : Value) (w : World) : (Instr.typeAssert (.iface 144 v) 136 144 true).run Tryz.prog w = .ok (.tuple #[v, .bool true]) w := by kernel_rfl
@[go_sem] theorem no_dm (v : Value) (w : World) : (Instr.typeAssert (.iface 142 v) 136 140 true).run Tryz.prog w = .ok (.tuple #[.agg #[.string ⟨#[]⟩, .string ⟨#[]⟩, .slice none 0 0, .string ⟨#[]⟩, .string ⟨#[]⟩, .int .i64 0, .int .u64 0, .string ⟨#[]⟩], .bool false]) w := by kernel_rfl
@[go_sem] theorem no_gm (v : Value) (w : World) : (Instr.typeAssert (.iface 144 v) 136 140 true).run Tryz.prog w = .ok (.tuple #[.agg #[.string ⟨#[]⟩, .string ⟨#[]⟩, .slice none 0 0, .string ⟨#[]⟩, .string ⟨#[]⟩, .int .i64 0, .int .u64 0, .string ⟨#[]⟩], .bool false]) w := by kernel_rfl
@[go_sem] theorem no_gd (v : Value) (w : World) : (Instr.typeAssert (.iface 144 v) 136 142 true).run Tryz.prog w = .ok (.tuple #[.agg #[.string ⟨#[]⟩], .bool false]) w := by kernel_rfl
theorem do0 {w0 w : World} {b bm n : Nat} {s : Sta} {k : CAt} {c : Cmd} (h : BkAt w0 w b bm n s) (hg : Good s.recs) (hc : CmdAt w0 k c) (T : TabsA w0) (hn : n ≤ 90000) (hsn : s.serial < 18446744073709551616) (hrc : rightC c = false) : Calls Tryz.prog 57 #[.pointer (some ⟨b, 0, none⟩), .agg #[.int .i64 c.kind, .slice k.pf c.fr.path.length k.fc, .string c.fr.type, .string c.fr.name, .int .i64 c.fr.key, .int .u64 c.fr.place, .string c.fr.word, .slice k.pt c.ad.path.length k.tc, .string c.ad.type, .string c.ad.name, .int .i64 c.ad.key, .int .u64 c.ad.place, .string c.ad.word, .slice k.p.pa c.r.a.path.length k.p.pc, .string c.r.a.type, .string c.r.a.name, .int .i64 c.r.a.key, .int .u64 c.r.a.place, .string c.r.a.word, .string c.r.prov, .string c.r.id, .slice k.p.ta c.r.attrs.length k.p.tc]] w (DoPost w0 b bm n s c w) := by
  obtain ⟨w1, hw1, V1, B1⟩ := cmd_new w k c
  obtain ⟨x0, x1, x2, x3, x4, x5, x6, x7, x8, x9, x10, x11, x12, x13, x14, x15, x16, x17, x18, x19, x20, x21⟩ := cmd_cells V1.out
  have HV : Hid (∀ W, Below w1.heap.size w1 W → W.heap[w.heap.size]? = some (.cells (cmdArr k c) 44 (0, 0))) := fun W hb => (hb.block _ (heap_lt V1.out)).trans V1.out
  have HB : Hid (∀ W, Below w1.heap.size w1 W → BkAt w0 W b bm n s) := fun W hb => (h.below B1.out).below hb
  have HC : Hid (∀ W, Below w1.heap.size w1 W → CmdAt W k c) := fun W hb => hc.stays ((HB.out W hb).up)
  have HT : Hid (∀ W, Below w1.heap.size w1 W → TabsA W) := fun W hb => T.stays ((HB.out W hb).up)
  have HBW : Hid (∀ W, Below w1.heap.size w1 W → Below w.heap.size w W) := fun W hb => B1.out.trans (hb.mono B1.out.size)
  have KR : Hid (Calls Tryz.prog 25 #[.agg #[.int .i64 c.kind, .slice k.pf c.fr.path.length k.fc, .string c.fr.type, .string c.fr.name, .int .i64 c.fr.key, .int .u64 c.fr.place, .string c.fr.word, .slice k.pt c.ad.path.length k.tc, .string c.ad.type, .string c.ad.name, .int .i64 c.ad.key, .int .u64 c.ad.place, .string c.ad.word, .slice k.p.pa c.r.a.path.length k.p.pc, .string c.r.a.type, .string c.r.a.name, .int .i64 c.r.a.key, .int .u64 c.r.a.place, .string c.r.a.word, .string c.r.prov, .string c.r.id, .slice k.p.ta c.r.attrs.length k.p.tc]] w1 fun e w' => e = .returned (.bool false) ∧ Below w1.heap.size w1 w') := by have := eright_any k c w1 (HC.out _ (Below.refl _ _)) (HT.out _ (Below.refl _ _)); rw [hrc] at this; exact this
  have HG := hdQ hg
  have HH := hdQ h
  have HNN := hdQ hn
  have HSN := hdQ hsn
  have HE : Hid (errC s c = 1) := by rw [Hid, errC, if_pos hrc]
  clear h hg hc T hrc hn hsn x0 x1 x2 x3 x4 x5 x6 x7 x8 x9 x10 x11 x12 x13 x14 x15 x16 x17 x18 x19 x20 x21
  have LD := cmd_load V1.out
  go_enter Tryz.func57, Tryz.ntmps57
  go_wp2_with (refine wpList_load_run LD.out rfl _ rfl rfl ?_)
  refine (Calls.mono KR.out ?_)
  rintro z w2 ⟨rfl, hb⟩
  have C2 : Hid (Below w1.heap.size w1 w2) := hb
  clear hb KR hw1 LD
  go_wp2_with fail
  go_ret
  exact do_bad HH.out HG.out (HBW.out _ C2.out) (by rw [HE.out]; simp) HE.out
theorem do2 {w0 w : World} {b bm n : Nat} {s : Sta} {k : CAt} {c : Cmd} (h : BkAt w0 w b bm n s) (hg : Good s.recs) (hc : CmdAt w0 k c) (T : TabsA w0) (hn : n ≤ 90000) (hsn : s.serial < 18446744073709551616) (kk : c.kind = 2) (hrc : rightC c = true) : Calls Tryz.prog 57 #[.pointer (some ⟨b, 0, none⟩), .agg #[.int .i64 c.kind, .slice k.pf c.fr.path.length k.fc, .string c.fr.type, .string c.fr.name, .int .i64 c.fr.key, .int .u64 c.fr.place, .string c.fr.word, .slice k.pt c.ad.path.length k.tc, .string c.ad.type, .string c.ad.name, .int .i64 c.ad.key, .int .u64 c.ad.place, .string c.ad.word, .slice k.p.pa c.r.a.path.length k.p.pc, .string c.r.a.type, .string c.r.a.name, .int .i64 c.r.a.key, .int .u64 c.r.a.place, .string c.r.a.word, .string c.r.prov, .string c.r.id, .slice k.p.ta c.r.attrs.length k.p.tc]] w (DoPost w0 b bm n s c w) := by
  obtain ⟨w1, hw1, V1, B1⟩ := cmd_new w k c
  obtain ⟨x0, x1, x2, x3, x4, x5, x6, x7, x8, x9, x10, x11, x12, x13, x14, x15, x16, x17, x18, x19, x20, x21⟩ := cmd_cells V1.out
  have HV : Hid (∀ W, Below w1.heap.size w1 W → W.heap[w.heap.size]? = some (.cells (cmdArr k c) 44 (0, 0))) := fun W hb => (hb.block _ (heap_lt V1.out)).trans V1.out
  have HB : Hid (∀ W, Below w1.heap.size w1 W → BkAt w0 W b bm n s) := fun W hb => (h.below B1.out).below hb
  have HC : Hid (∀ W, Below w1.heap.size w1 W → CmdAt W k c) := fun W hb => hc.stays ((HB.out W hb).up)
  have HT : Hid (∀ W, Below w1.heap.size w1 W → TabsA W) := fun W hb => T.stays ((HB.out W hb).up)
  have HBW : Hid (∀ W, Below w1.heap.size w1 W → Below w.heap.size w W) := fun W hb => B1.out.trans (hb.mono B1.out.size)
  have KR : Hid (Calls Tryz.prog 25 #[.agg #[.int .i64 c.kind, .slice k.pf c.fr.path.length k.fc, .string c.fr.type, .string c.fr.name, .int .i64 c.fr.key, .int .u64 c.fr.place, .string c.fr.word, .slice k.pt c.ad.path.length k.tc, .string c.ad.type, .string c.ad.name, .int .i64 c.ad.key, .int .u64 c.ad.place, .string c.ad.word, .slice k.p.pa c.r.a.path.length k.p.pc, .string c.r.a.type, .string c.r.a.name, .int .i64 c.r.a.key, .int .u64 c.r.a.place, .string c.r.a.word, .string c.r.prov, .string c.r.id, .slice k.p.ta c.r.attrs.length k.p.tc]] w1 fun e w' => e = .returned (.bool true) ∧ Below w1.heap.size w1 w') := by have := eright_any k c w1 (HC.out _ (Below.refl _ _)) (HT.out _ (Below.refl _ _)); rw [hrc] at this; exact this
  have HG := hdQ hg
  have HH := hdQ h
  have HNN := hdQ hn
  have HSN := hdQ hsn
  obtain ⟨f, hf⟩ : ∃ f, (⟨(printA c.fr).toArray⟩ : ByteArray) = f := ⟨_, rfl⟩
  have KF : Hid (Key c.fr f) := key_of hc.small.f hf
  obtain ⟨x, hx⟩ : ∃ x, hasB s.recs c.fr = x := ⟨_, rfl⟩
  have HM : Hid (∀ W, Below w1.heap.size w1 W → Calls Tryz.prog 89 #[.agg #[.int .i64 c.kind, .slice k.pf c.fr.path.length k.fc, .string c.fr.type, .string c.fr.name, .int .i64 c.fr.key, .int .u64 c.fr.place, .string c.fr.word, .slice k.pt c.ad.path.length k.tc, .string c.ad.type, .string c.ad.name, .int .i64 c.ad.key, .int .u64 c.ad.place, .string c.ad.word, .slice k.p.pa c.r.a.path.length k.p.pc, .string c.r.a.type, .string c.r.a.name, .int .i64 c.r.a.key, .int .u64 c.r.a.place, .string c.r.a.word, .string c.r.prov, .string c.r.id, .slice k.p.ta c.r.attrs.length k.p.tc]] W fun e w' => e = .returned (.iface 142 (.agg #[.string f])) ∧ Below W.heap.size W w') := fun W hb => (made2 k c W (HC.out W hb) (HT.out W hb) kk f hf).out
  have HR : Hid (∀ W, Below w1.heap.size w1 W → Calls Tryz.prog 286 #[.agg #[.string f], .pointer (some ⟨b, 0, none⟩)] W fun e w' => e = .returned (.int .i64 (if x then 0 else 12)) ∧ Below W.heap.size W w') := fun W hb => (drop_refused (HB.out W hb) HG.out KF.out x hx).out
  have HE : Hid (errC s c = if x then (if s.serial = 18446744073709551615 then 13 else 0) else 12) := by
    rw [Hid, errC, hrc, hx, thereC, kk]; cases x <;> simp
  have HD : Hid (errC s c = 0 → ∀ l, Good l → (∀ x, x ∈ l ↔ x ∈ s.recs ∧ x.a ≠ c.fr) → Done s c ⟨s.serial + 1, s.lin, l⟩) := fun e l hl hm => ⟨fun h => absurd e h, fun _ => rfl, rfl, fun _ x => by rw [memC, if_neg (by rw [kk]; decide), if_pos kk]; exact hm x, hl⟩
  clear kk hf hx
  clear h hg hc T hrc hn hsn x0 x1 x2 x3 x4 x5 x6 x7 x8 x9 x10 x11 x12 x13 x14 x15 x16 x17 x18 x19 x20 x21
  have LD := cmd_load V1.out
  go_enter Tryz.func57, Tryz.ntmps57
  go_wp2_with (refine wpList_load_run LD.out rfl _ rfl rfl ?_)
  refine (Calls.mono KR.out ?_)
  rintro z w2 ⟨rfl, hb⟩
  have C2 : Hid (Below w1.heap.size w1 w2) := hb
  clear hb KR hw1 LD
  have LD := cmd_load (HV.out w2 C2.out)
  go_wp2_with (refine wpList_load_run LD.out rfl _ rfl rfl ?_)
  refine (Calls.mono (HM.out w2 C2.out) ?_)
  rintro z w3 ⟨rfl, hb⟩
  have C3 : Hid (Below w1.heap.size w1 w3) := C2.out.trans (hb.mono C2.out.size)
  clear hb LD
  go_wp2_with fail
  refine (Calls.mono (HR.out w3 C3.out) ?_)
  rintro z w4 ⟨rfl, hb⟩
  have C4 : Hid (Below w1.heap.size w1 w4) := C3.out.trans (hb.mono C3.out.size)
  have H4 : Hid (BkAt w0 w4 b bm n s) := HB.out _ C4.out
  clear hb
  obtain ⟨z0, z1, z2⟩ := book_cells H4.out.blk
  have f0 := frozen_of H4.out.blk 0
  cases x
  case false =>
    go_wp2_with fail
    go_ret
    exact do_bad HH.out HG.out (HBW.out _ C4.out) (by rw [HE.out]; simp) HE.out
  rcases Nat.eq_or_lt_of_le (Nat.le_of_lt_succ HSN.out) with hmx | hmx
  case inl =>
    have hmx2 : ((s.serial : Int) == 18446744073709551615) = true := by rw [hmx]; rfl
    have HE13 : Hid (errC s c = 13) := by rw [Hid, HE.out]; simp [hmx]
    clear hmx
    go_wp2_with fail
    go_ret
    exact do_bad HH.out HG.out (HBW.out _ C4.out) (by rw [HE13.out]; decide) HE13.out
  have hmx2 : ((s.serial : Int) == 18446744073709551615) = false := by rw [bnQ]; omega
  have HE0 : Hid (errC s c = 0) := by rw [Hid, HE.out]; simp; omega
  obtain ⟨q, hq⟩ : ∃ q : Int, ((s.serial + 1 : Nat) : Int) = q := ⟨_, rfl⟩
  have hwr := tick_wrap hmx hq
  obtain ⟨H5, K5⟩ := H4.out.tick
  rw [hq] at H5 K5
  obtain ⟨w5, hw5⟩ : ∃ w5, w4.setCell ⟨b, 0, none⟩ (.int .u64 q) = w5 := ⟨_, rfl⟩
  rw [hw5] at H5 K5
  clear hmx hq
  obtain ⟨w6, hw6, V6, B6⟩ : ∃ w6, w5.alloc (.cells #[.string f] 142) = w6 ∧ Hid (w6.heap[w5.heap.size]? = some (.cells #[.string f] 142 (0, 0))) ∧ Hid (Below w5.heap.size w5 w6) := ⟨_, rfl, heap_alloc_new _ _, (Below.refl _ _).alloc (Nat.le_refl _) _⟩
  have hdr : Below w6.heap.size w6 w6.drew := (Below.refl _ _).drew
  have H6 : Hid (BkAt w0 w6 b bm n (ticked s)) := H5.out.below B6.out
  have H6d : Hid (BkAt w0 w6.drew b bm n (ticked s)) := H6.out.below hdr
  obtain ⟨w7, hdel, M7, G7⟩ := H6d.out.map.drop (l' := dropA s.recs c.fr) KF.out.p KF.out.s 0 (fun x => by
    rw [mem_dropA]
    exact ⟨fun ⟨h1, h2⟩ => ⟨h1, fun e => h2 (adr_eq (HG.out.r _ h1) (HG.out.s _ h1) KF.out.a e)⟩, fun ⟨h1, h2⟩ => ⟨h1, fun e => h2 (by rw [e])⟩⟩)
  have HDEL := hdQ hdel
  have H7 : Hid (BkAt w0 w7 b bm n ⟨s.serial + 1, s.lin, dropA s.recs c.fr⟩) := H6d.out.turn G7 M7
  have K7 : Hid (Kept b bm w w7) := ((((Kept.of_below (HBW.out _ C4.out)).trans K5.out).trans (Kept.of_below B6.out)).trans (Kept.of_below hdr)).trans (Kept.of_bm G7)
  have a0 := cell_of V6.out 0
  obtain ⟨u0, u1, u2⟩ := book_cells H6.out.blk
  obtain ⟨v0, v1, v2⟩ := book_cells H6d.out.blk
  have a0d : w6.drew.cell? ⟨w5.heap.size, 0, none⟩ = some (.string f) := cell_of ((hdr.block _ (heap_lt V6.out)).trans V6.out) 0
  clear hdr hdel M7 G7
  go_wp2_with fail
  go_region_law (refine step_delete_run _ _ 132 9 HDEL.out (by rfl) _ _ (by rfl) (by rfl) (by rfl) ?_)
  all_goals
    go_wp2_with fail
    go_ret
    exact ⟨by rw [HE0.out] <;> rfl, _, HD.out HE0.out _ (good_dropA HG.out _) (mem_dropA _ _), Nat.le_trans (dropA_len _ _) (Nat.le_succ _), H7.out.more (Nat.le_succ _), K7.out⟩
theorem do3 {w0 w : World} {b bm n : Nat} {s : Sta} {k : CAt} {c : Cmd} (h : BkAt w0 w b bm n s) (hg : Good s.recs) (hc : CmdAt w0 k c) (T : TabsA w0) (hn : n ≤ 90000) (hsn : s.serial < 18446744073709551616) (kk : c.kind = 3) (hrc : rightC c = true) : Calls Tryz.prog 57 #[.pointer (some ⟨b, 0, none⟩), .agg #[.int .i64 c.kind, .slice k.pf c.fr.path.length k.fc, .string c.fr.type, .string c.fr.name, .int .i64 c.fr.key, .int .u64 c.fr.place, .string c.fr.word, .slice k.pt c.ad.path.length k.tc, .string c.ad.type, .string c.ad.name, .int .i64 c.ad.key, .int .u64 c.ad.place, .string c.ad.word, .slice k.p.pa c.r.a.path.length k.p.pc, .string c.r.a.type, .string c.r.a.name, .int .i64 c.r.a.key, .int .u64 c.r.a.place, .string c.r.a.word, .string c.r.prov, .string c.r.id, .slice k.p.ta c.r.attrs.length k.p.tc]] w (DoPost w0 b bm n s c w) := by
  obtain ⟨w1, hw1, V1, B1⟩ := cmd_new w k c
  obtain ⟨x0, x1, x2, x3, x4, x5, x6, x7, x8, x9, x10, x11, x12, x13, x14, x15, x16, x17, x18, x19, x20, x21⟩ := cmd_cells V1.out
  have HV : Hid (∀ W, Below w1.heap.size w1 W → W.heap[w.heap.size]? = some (.cells (cmdArr k c) 44 (0, 0))) := fun W hb => (hb.block _ (heap_lt V1.out)).trans V1.out
  have HB : Hid (∀ W, Below w1.heap.size w1 W → BkAt w0 W b bm n s) := fun W hb => (h.below B1.out).below hb
  have HC : Hid (∀ W, Below w1.heap.size w1 W → CmdAt W k c) := fun W hb => hc.stays ((HB.out W hb).up)
  have HT : Hid (∀ W, Below w1.heap.size w1 W → TabsA W) := fun W hb => T.stays ((HB.out W hb).up)
  have HBW : Hid (∀ W, Below w1.heap.size w1 W → Below w.heap.size w W) := fun W hb => B1.out.trans (hb.mono B1.out.size)
  have KR : Hid (Calls Tryz.prog 25 #[.agg #[.int .i64 c.kind, .slice k.pf c.fr.path.length k.fc, .string c.fr.type, .string c.fr.name, .int .i64 c.fr.key, .int .u64 c.fr.place, .string c.fr.word, .slice k.pt c.ad.path.length k.tc, .string c.ad.type, .string c.ad.name, .int .i64 c.ad.key, .int .u64 c.ad.place, .string c.ad.word, .slice k.p.pa c.r.a.path.length k.p.pc, .string c.r.a.type, .string c.r.a.name, .int .i64 c.r.a.key, .int .u64 c.r.a.place, .string c.r.a.word, .string c.r.prov, .string c.r.id, .slice k.p.ta c.r.attrs.length k.p.tc]] w1 fun e w' => e = .returned (.bool true) ∧ Below w1.heap.size w1 w') := by have := eright_any k c w1 (HC.out _ (Below.refl _ _)) (HT.out _ (Below.refl _ _)); rw [hrc] at this; exact this
  have HG := hdQ hg
  have HH := hdQ h
  have HNN := hdQ hn
  have HSN := hdQ hsn
  obtain ⟨g, hf⟩ : ∃ f, (⟨(printA c.r.a).toArray⟩ : ByteArray) = f := ⟨_, rfl⟩
  have KF : Hid (Key c.r.a g) := key_of (small_adr hc.s) hf
  obtain ⟨x, hx⟩ : ∃ x, hasB s.recs c.r.a = x := ⟨_, rfl⟩
  have HM : Hid (∀ W, Below w1.heap.size w1 W → Calls Tryz.prog 89 #[.agg #[.int .i64 c.kind, .slice k.pf c.fr.path.length k.fc, .string c.fr.type, .string c.fr.name, .int .i64 c.fr.key, .int .u64 c.fr.place, .string c.fr.word, .slice k.pt c.ad.path.length k.tc, .string c.ad.type, .string c.ad.name, .int .i64 c.ad.key, .int .u64 c.ad.place, .string c.ad.word, .slice k.p.pa c.r.a.path.length k.p.pc, .string c.r.a.type, .string c.r.a.name, .int .i64 c.r.a.key, .int .u64 c.r.a.place, .string c.r.a.word, .string c.r.prov, .string c.r.id, .slice k.p.ta c.r.attrs.length k.p.tc]] W fun e w' => e = .returned (.iface 144 (.agg #[.string g, .slice k.p.pa c.r.a.path.length k.p.pc, .string c.r.a.type, .string c.r.a.name, .int .i64 c.r.a.key, .int .u64 c.r.a.place, .string c.r.a.word, .string c.r.prov, .string c.r.id, .slice k.p.ta c.r.attrs.length k.p.tc])) ∧ Below W.heap.size W w') := fun W hb => (made3 k c W (HC.out W hb) (HT.out W hb) kk g hf).out
  have HR : Hid (∀ W, Below w1.heap.size w1 W → Calls Tryz.prog 287 #[.agg #[.string g, .slice k.p.pa c.r.a.path.length k.p.pc, .string c.r.a.type, .string c.r.a.name, .int .i64 c.r.a.key, .int .u64 c.r.a.place, .string c.r.a.word, .string c.r.prov, .string c.r.id, .slice k.p.ta c.r.attrs.length k.p.tc], .pointer (some ⟨b, 0, none⟩)] W fun e w' => e = .returned (.int .i64 (if x then 11 else 0)) ∧ Below W.heap.size W w') := fun W hb => (gain_refused (HB.out W hb) HG.out KF.out x hx).out
  have HE : Hid (errC s c = if x then 11 else if s.serial = 18446744073709551615 then 13 else 0) := by
    rw [Hid, errC, hrc, thereC, kk, hx]; cases x <;> simp
  have HRB : Hid (recB c.r = true) := by rcases rightC_cases hrc with h | h | h <;> first | (exact absurd (h.1.symm.trans kk) (by decide)) | exact h.2.1
  have HD : Hid (errC s c = 0 → ∀ l, Good l → (∀ x, x ∈ l ↔ x = c.r ∨ x ∈ s.recs ∧ x.a ≠ c.r.a) → Done s c ⟨s.serial + 1, s.lin, l⟩) := fun e l hl hm => ⟨fun h => absurd e h, fun _ => rfl, rfl, fun _ x => by
    rw [memC, if_neg (by rw [kk]; decide), if_neg (by rw [kk]; decide)]
    refine (hm x).trans ⟨fun h => h.elim .inr (fun h => .inl h.1), fun h => h.elim (fun h => .inr ⟨h, (err_okay.1 e).g kk x h⟩) .inl⟩, hl⟩
  have HCI : Hid (IsRec w0 (fun _ => True) k.p c.r) := hc.r
  obtain ⟨l', GL, ML, NL⟩ := put_ex HG.out HRB.out hc.s
  have HGL : Hid (Good l' ∧ (∀ x, x ∈ l' ↔ x = c.r ∨ x ∈ s.recs ∧ x.a ≠ c.r.a) ∧ l'.length ≤ s.recs.length + 1) := ⟨GL, ML, NL⟩
  clear kk hf hx GL ML NL
  clear h hg hc T hrc hn hsn x0 x1 x2 x3 x4 x5 x6 x7 x8 x9 x10 x11 x12 x13 x14 x15 x16 x17 x18 x19 x20 x21
  have LD := cmd_load V1.out
  go_enter Tryz.func57, Tryz.ntmps57
  go_wp2_with (refine wpList_load_run LD.out rfl _ rfl rfl ?_)
  refine (Calls.mono KR.out ?_)
  rintro z w2 ⟨rfl, hb⟩
  have C2 : Hid (Below w1.heap.size w1 w2) := hb
  clear hb KR hw1 LD
  have LD := cmd_load (HV.out w2 C2.out)
  go_wp2_with (refine wpList_load_run LD.out rfl _ rfl rfl ?_)
  refine (Calls.mono (HM.out w2 C2.out) ?_)
  rintro z w3 ⟨rfl, hb⟩
  have C3 : Hid (Below w1.heap.size w1 w3) := C2.out.trans (hb.mono C2.out.size)
  clear hb LD
  go_wp2_with fail
  refine (Calls.mono (HR.out w3 C3.out) ?_)
  rintro z w4 ⟨rfl, hb⟩
  have C4 : Hid (Below w1.heap.size w1 w4) := C3.out.trans (hb.mono C3.out.size)
  have H4 : Hid (BkAt w0 w4 b bm n s) := HB.out _ C4.out
  clear hb
  obtain ⟨z0, z1, z2⟩ := book_cells H4.out.blk
  have f0 := frozen_of H4.out.blk 0
  cases x
  case true =>
    go_wp2_with fail
    go_ret
    exact do_bad HH.out HG.out (HBW.out _ C4.out) (by rw [HE.out]; simp) HE.out
  rcases Nat.eq_or_lt_of_le (Nat.le_of_lt_succ HSN.out) with hmx | hmx
  case inl =>
    have hmx2 : ((s.serial : Int) == 18446744073709551615) = true := by rw [hmx]; rfl
    have HE13 : Hid (errC s c = 13) := by rw [Hid, HE.out]; simp [hmx]
    clear hmx
    go_wp2_with fail
    go_ret
    exact do_bad HH.out HG.out (HBW.out _ C4.out) (by rw [HE13.out]; decide) HE13.out
  have hmx2 : ((s.serial : Int) == 18446744073709551615) = false := by rw [bnQ]; omega
  have HE0 : Hid (errC s c = 0) := by rw [Hid, HE.out]; simp; omega
  obtain ⟨q, hq⟩ : ∃ q : Int, ((s.serial + 1 : Nat) : Int) = q := ⟨_, rfl⟩
  have hwr := tick_wrap hmx hq
  obtain ⟨H5, K5⟩ := H4.out.tick
  rw [hq] at H5 K5
  obtain ⟨w5, hw5⟩ : ∃ w5, w4.setCell ⟨b, 0, none⟩ (.int .u64 q) = w5 := ⟨_, rfl⟩
  rw [hw5] at H5 K5
  clear hmx hq
  obtain ⟨w6, hw6, V6, B6⟩ : ∃ w6, w5.alloc (.cells #[.string g, .slice k.p.pa c.r.a.path.length k.p.pc, .string c.r.a.type, .string c.r.a.name, .int .i64 c.r.a.key, .int .u64 c.r.a.place, .string c.r.a.word, .string c.r.prov, .string c.r.id, .slice k.p.ta c.r.attrs.length k.p.tc] 144) = w6 ∧ Hid (w6.heap[w5.heap.size]? = some (.cells #[.string g, .slice k.p.pa c.r.a.path.length k.p.pc, .string c.r.a.type, .string c.r.a.name, .int .i64 c.r.a.key, .int .u64 c.r.a.place, .string c.r.a.word, .string c.r.prov, .string c.r.id, .slice k.p.ta c.r.attrs.length k.p.tc] 144 (0, 0))) ∧ Hid (Below w5.heap.size w5 w6) := ⟨_, rfl, heap_alloc_new _ _, (Below.refl _ _).alloc (Nat.le_refl _) _⟩
  have hdr : Below w6.heap.size w6 w6.drew := (Below.refl _ _).drew
  have H6 : Hid (BkAt w0 w6 b bm n (ticked s)) := H5.out.below B6.out
  have H6d : Hid (BkAt w0 w6.drew b bm n (ticked s)) := H6.out.below hdr
  obtain ⟨w7, hup, M7, G7⟩ := H6d.out.map.store (l' := l') HCI.out KF.out.p KF.out.s (by have := HNN.out; omega) (fun x => by
    rw [HGL.out.2.1 x]
    refine or_congr_right ⟨fun ⟨h1, h2⟩ => ⟨h1, fun e => h2 (adr_eq (HG.out.r _ h1) (HG.out.s _ h1) KF.out.a e)⟩, fun ⟨h1, h2⟩ => ⟨h1, fun e => h2 (by rw [e])⟩⟩)
  have hup2 : (Instr.mapUpdate 132 (.map (some bm)) (.string g) (.agg #[.slice k.p.pa c.r.a.path.length k.p.pc, .string c.r.a.type, .string c.r.a.name, .int .i64 c.r.a.key, .int .u64 c.r.a.place, .string c.r.a.word, .string c.r.prov, .string c.r.id, .slice k.p.ta c.r.attrs.length k.p.tc])).run Tryz.prog w6.drew = .ok () w7 := hup
  have H7 : Hid (BkAt w0 w7 b bm (n + 1) ⟨s.serial + 1, s.lin, l'⟩) := H6d.out.turn G7 M7
  have K7 : Hid (Kept b bm w w7) := ((((Kept.of_below (HBW.out _ C4.out)).trans K5.out).trans (Kept.of_below B6.out)).trans (Kept.of_below hdr)).trans (Kept.of_bm G7)
  obtain ⟨u0, u1, u2⟩ := book_cells H6.out.blk
  obtain ⟨v0, v1, v2⟩ := book_cells H6d.out.blk
  have V6d : Hid (w6.drew.heap[w5.heap.size]? = some (.cells #[.string g, .slice k.p.pa c.r.a.path.length k.p.pc, .string c.r.a.type, .string c.r.a.name, .int .i64 c.r.a.key, .int .u64 c.r.a.place, .string c.r.a.word, .string c.r.prov, .string c.r.id, .slice k.p.ta c.r.attrs.length k.p.tc] 144 (0, 0))) := (hdr.block _ (heap_lt V6.out)).trans V6.out
  have a0 := cell_of V6.out 0
  have a1 := cell_of V6.out 1
  have a2 := cell_of V6.out 2
  have a3 := cell_of V6.out 3
  have a4 := cell_of V6.out 4
  have a5 := cell_of V6.out 5
  have a6 := cell_of V6.out 6
  have a7 := cell_of V6.out 7
  have a8 := cell_of V6.out 8
  have a9 := cell_of V6.out 9
  have d0 := cell_of V6d.out 0
  have d1 := cell_of V6d.out 1
  have d2 := cell_of V6d.out 2
  have d3 := cell_of V6d.out 3
  have d4 := cell_of V6d.out 4
  have d5 := cell_of V6d.out 5
  have d6 := cell_of V6d.out 6
  have d7 := cell_of V6d.out 7
  have d8 := cell_of V6d.out 8
  have d9 := cell_of V6d.out 9
  clear hdr hup M7 G7
  go_wp2_with fail
  go_region
  all_goals
    go_wp2_with fail
    go_ret
    exact ⟨by rw [HE0.out] <;> rfl, _, HD.out HE0.out _ HGL.out.1 HGL.out.2.1, HGL.out.2.2, H7.out, K7.out⟩
theorem set6 {w : World} {b : Nat} {p : At} {r : Rec} {T : TypeId} (h : w.heap[b]? = some (.cells (recArr p r) T (0, 0))) (pa : Option Addr) (pc : Nat) (a : Adr) : ((((((w.setCell ⟨b, 0, none⟩ (.slice pa a.path.length pc)).setCell ⟨b, 1, none⟩ (.string a.type)).setCell ⟨b, 2, none⟩ (.string a.name)).setCell ⟨b, 3, none⟩ (.int .i64 a.key)).setCell ⟨b, 4, none⟩ (.int .u64 a.place)).setCell ⟨b, 5, none⟩ (.string a.word)).heap[b]? = some (.cells (recArr ⟨pa, pc, p.ta, p.tc⟩ (moved r a)) T (0, 0)) := by
  have h0 := heap_set_same h (i := 0) (.slice pa a.path.length pc)
  have h1 := heap_set_same h0 (i := 1) (.string a.type)
  have h2 := heap_set_same h1 (i := 2) (.string a.name)
  have h3 := heap_set_same h2 (i := 3) (.int .i64 a.key)
  have h4 := heap_set_same h3 (i := 4) (.int .u64 a.place)
  have h5 := heap_set_same h4 (i := 5) (.string a.word)
  rw [h5]
  simp [recArr, moved]
theorem gb6 (w : World) (b : Nat) (x0 x1 x2 x3 x4 x5 : Value) : w.grownBy ((((((w.setCell ⟨b, 0, none⟩ (x0)).setCell ⟨b, 1, none⟩ (x1)).setCell ⟨b, 2, none⟩ (x2)).setCell ⟨b, 3, none⟩ (x3)).setCell ⟨b, 4, none⟩ (x4)).setCell ⟨b, 5, none⟩ (x5)) (some b) :=
  (((((gb_set _ _ _ _).trans (gb_set _ _ _ _)).trans (gb_set _ _ _ _)).trans (gb_set _ _ _ _)).trans (gb_set _ _ _ _)).trans (gb_set _ _ _ _)
theorem do1 {w0 w : World} {b bm n : Nat} {s : Sta} {k : CAt} {c : Cmd} (h : BkAt w0 w b bm n s) (hg : Good s.recs) (hc : CmdAt w0 k c) (T : TabsA w0) (hn : n ≤ 90000) (hsn : s.serial < 18446744073709551616) (kk : c.kind = 1) (hrc : rightC c = true) : Calls Tryz.prog 57 #[.pointer (some ⟨b, 0, none⟩), .agg #[.int .i64 c.kind, .slice k.pf c.fr.path.length k.fc, .string c.fr.type, .string c.fr.name, .int .i64 c.fr.key, .int .u64 c.fr.place, .string c.fr.word, .slice k.pt c.ad.path.length k.tc, .string c.ad.type, .string c.ad.name, .int .i64 c.ad.key, .int .u64 c.ad.place, .string c.ad.word, .slice k.p.pa c.r.a.path.length k.p.pc, .string c.r.a.type, .string c.r.a.name, .int .i64 c.r.a.key, .int .u64 c.r.a.place, .string c.r.a.word, .string c.r.prov, .string c.r.id, .slice k.p.ta c.r.attrs.length k.p.tc]] w (DoPost w0 b bm n s c w) := by
  obtain ⟨w1, hw1, V1, B1⟩ := cmd_new w k c
  obtain ⟨x0, x1, x2, x3, x4, x5, x6, x7, x8, x9, x10, x11, x12, x13, x14, x15, x16, x17, x18, x19, x20, x21⟩ := cmd_cells V1.out
  have HV : Hid (∀ W, Below w1.heap.size w1 W → W.heap[w.heap.size]? = some (.cells (cmdArr k c) 44 (0, 0))) := fun W hb => (hb.block _ (heap_lt V1.out)).trans V1.out
  have HB : Hid (∀ W, Below w1.heap.size w1 W → BkAt w0 W b bm n s) := fun W hb => (h.below B1.out).below hb
  have HC : Hid (∀ W, Below w1.heap.size w1 W → CmdAt W k c) := fun W hb => hc.stays ((HB.out W hb).up)
  have HT : Hid (∀ W, Below w1.heap.size w1 W → TabsA W) := fun W hb => T.stays ((HB.out W hb).up)
  have HBW : Hid (∀ W, Below w1.heap.size w1 W → Below w.heap.size w W) := fun W hb => B1.out.trans (hb.mono B1.out.size)
  have KR : Hid (Calls Tryz.prog 25 #[.agg #[.int .i64 c.kind, .slice k.pf c.fr.path.length k.fc, .string c.fr.type, .string c.fr.name, .int .i64 c.fr.key, .int .u64 c.fr.place, .string c.fr.word, .slice k.pt c.ad.path.length k.tc, .string c.ad.type, .string c.ad.name, .int .i64 c.ad.key, .int .u64 c.ad.place, .string c.ad.word, .slice k.p.pa c.r.a.path.length k.p.pc, .string c.r.a.type, .string c.r.a.name, .int .i64 c.r.a.key, .int .u64 c.r.a.place, .string c.r.a.word, .string c.r.prov, .string c.r.id, .slice k.p.ta c.r.attrs.length k.p.tc]] w1 fun e w' => e = .returned (.bool true) ∧ Below w1.heap.size w1 w') := by have := eright_any k c w1 (HC.out _ (Below.refl _ _)) (HT.out _ (Below.refl _ _)); rw [hrc] at this; exact this
  have HG := hdQ hg
  have HH := hdQ h
  have HNN := hdQ hn
  have HSN := hdQ hsn
  obtain ⟨f, hf⟩ : ∃ f, (⟨(printA c.fr).toArray⟩ : ByteArray) = f := ⟨_, rfl⟩
  obtain ⟨t, ht⟩ : ∃ f, (⟨(printA c.ad).toArray⟩ : ByteArray) = f := ⟨_, rfl⟩
  have KF : Hid (Key c.fr f) := key_of hc.small.f hf
  have KT : Hid (Key c.ad t) := key_of hc.small.t ht
  obtain ⟨x, hx⟩ : ∃ x, hasB s.recs c.fr = x := ⟨_, rfl⟩
  obtain ⟨y, hy⟩ : ∃ x, hasB s.recs c.ad = x := ⟨_, rfl⟩
  have HM : Hid (∀ W, Below w1.heap.size w1 W → Calls Tryz.prog 89 #[.agg #[.int .i64 c.kind, .slice k.pf c.fr.path.length k.fc, .string c.fr.type, .string c.fr.name, .int .i64 c.fr.key, .int .u64 c.fr.place, .string c.fr.word, .slice k.pt c.ad.path.length k.tc, .string c.ad.type, .string c.ad.name, .int .i64 c.ad.key, .int .u64 c.ad.place, .string c.ad.word, .slice k.p.pa c.r.a.path.length k.p.pc, .string c.r.a.type, .string c.r.a.name, .int .i64 c.r.a.key, .int .u64 c.r.a.place, .string c.r.a.word, .string c.r.prov, .string c.r.id, .slice k.p.ta c.r.attrs.length k.p.tc]] W fun e w' => e = .returned (.iface 140 (.agg #[.string f, .string t, .slice k.pt c.ad.path.length k.tc, .string c.ad.type, .string c.ad.name, .int .i64 c.ad.key, .int .u64 c.ad.place, .string c.ad.word])) ∧ Below W.heap.size W w') := fun W hb => (made1 k c W (HC.out W hb) (HT.out W hb) kk f t hf ht).out
  have HR : Hid (∀ W, Below w1.heap.size w1 W → Calls Tryz.prog 285 #[.agg #[.string f, .string t, .slice k.pt c.ad.path.length k.tc, .string c.ad.type, .string c.ad.name, .int .i64 c.ad.key, .int .u64 c.ad.place, .string c.ad.word], .pointer (some ⟨b, 0, none⟩)] W fun e w' => e = .returned (.int .i64 (if x then (if y then 11 else 0) else 12)) ∧ Below W.heap.size W w') := fun W hb => (move_refused (HB.out W hb) HG.out KF.out KT.out x y hx hy).out
  have HE : Hid (errC s c = if x then (if y then 11 else if s.serial = 18446744073709551615 then 13 else 0) else 12) := by
    rw [Hid, errC, hrc, hx, thereC, kk, hy]; cases x <;> cases y <;> simp
  have HRA : Hid (rightA c.ad = true) := by rcases rightC_cases hrc with h | h | h <;> first | (exact absurd (h.1.symm.trans kk) (by decide)) | exact h.2.2.1
  have HRF : Hid (x = true → ∃ r ∈ s.recs, r.a = c.fr) := fun e => (hasB_iff _ _).1 (hx.trans e)
  have HD : Hid (errC s c = 0 → ∀ l, Good l → ∀ r ∈ s.recs, r.a = c.fr → (∀ x, x ∈ l ↔ x = moved r c.ad ∨ x ∈ dropA s.recs c.fr ∧ x.a ≠ c.ad) → Done s c ⟨s.serial + 1, s.lin, l⟩) := fun e l hl r hr hra hm => ⟨fun h => absurd e h, fun _ => rfl, rfl, fun _ x => by
    rw [memC, if_pos kk]
    refine (hm x).trans ⟨fun h => h.elim (fun h => .inr ⟨r, hr, hra, h⟩) (fun h => .inl ((mem_dropA _ _ _).1 h.1)), fun h => h.elim (fun h => .inr ⟨(mem_dropA _ _ _).2 h, (err_okay.1 e).t kk x h.1⟩) (fun ⟨r2, hr2, e2, e3⟩ => .inl (by rw [e3, HG.out.inj hr2 hr (e2.trans hra.symm)]))⟩, hl⟩
  have HPT : Hid (IsTexts w0 (fun _ => True) k.pt c.ad.path) := hc.t.t
  have HSA : Hid (Small (recOf c.ad)) := hc.small.t
  clear kk hf hx ht hy
  clear h hg hc T hrc hn hsn x0 x1 x2 x3 x4 x5 x6 x7 x8 x9 x10 x11 x12 x13 x14 x15 x16 x17 x18 x19 x20 x21
  have LD := cmd_load V1.out
  go_enter Tryz.func57, Tryz.ntmps57
  go_wp2_with (refine wpList_load_run LD.out rfl _ rfl rfl ?_)
  refine (Calls.mono KR.out ?_)
  rintro z w2 ⟨rfl, hb⟩
  have C2 : Hid (Below w1.heap.size w1 w2) := hb
  clear hb KR hw1 LD
  have LD := cmd_load (HV.out w2 C2.out)
  go_wp2_with (refine wpList_load_run LD.out rfl _ rfl rfl ?_)
  refine (Calls.mono (HM.out w2 C2.out) ?_)
  rintro z w3 ⟨rfl, hb⟩
  have C3 : Hid (Below w1.heap.size w1 w3) := C2.out.trans (hb.mono C2.out.size)
  clear hb LD
  go_wp2_with fail
  refine (Calls.mono (HR.out w3 C3.out) ?_)
  rintro z w4 ⟨rfl, hb⟩
  have C4 : Hid (Below w1.heap.size w1 w4) := C3.out.trans (hb.mono C3.out.size)
  have H4 : Hid (BkAt w0 w4 b bm n s) := HB.out _ C4.out
  clear hb
  obtain ⟨z0, z1, z2⟩ := book_cells H4.out.blk
  have f0 := frozen_of H4.out.blk 0
  cases x
  case false =>
    go_wp2_with fail
    go_ret
    exact do_bad HH.out HG.out (HBW.out _ C4.out) (by rw [HE.out]; simp) HE.out
  cases y
  case true =>
    go_wp2_with fail
    go_ret
    exact do_bad HH.out HG.out (HBW.out _ C4.out) (by rw [HE.out]; simp) HE.out
  rcases Nat.eq_or_lt_of_le (Nat.le_of_lt_succ HSN.out) with hmx | hmx
  case inl =>
    have hmx2 : ((s.serial : Int) == 18446744073709551615) = true := by rw [hmx]; rfl
    have HE13 : Hid (errC s c = 13) := by rw [Hid, HE.out]; simp [hmx]
    clear hmx
    go_wp2_with fail
    go_ret
    exact do_bad HH.out HG.out (HBW.out _ C4.out) (by rw [HE13.out]; decide) HE13.out
  have hmx2 : ((s.serial : Int) == 18446744073709551615) = false := by rw [bnQ]; omega
  have HE0 : Hid (errC s c = 0) := by rw [Hid, HE.out]; simp; omega
  obtain ⟨q, hq⟩ : ∃ q : Int, ((s.serial + 1 : Nat) : Int) = q := ⟨_, rfl⟩
  have hwr := tick_wrap hmx hq
  obtain ⟨H5, K5⟩ := H4.out.tick
  rw [hq] at H5 K5
  obtain ⟨w5, hw5⟩ : ∃ w5, w4.setCell ⟨b, 0, none⟩ (.int .u64 q) = w5 := ⟨_, rfl⟩
  rw [hw5] at H5 K5
  clear hmx hq
  obtain ⟨w6, hw6, V6, B6⟩ : ∃ w6, w5.alloc (.cells #[.string f, .string t, .slice k.pt c.ad.path.length k.tc, .string c.ad.type, .string c.ad.name, .int .i64 c.ad.key, .int .u64 c.ad.place, .string c.ad.word] 140) = w6 ∧ Hid (w6.heap[w5.heap.size]? = some (.cells #[.string f, .string t, .slice k.pt c.ad.path.length k.tc, .string c.ad.type, .string c.ad.name, .int .i64 c.ad.key, .int .u64 c.ad.place, .string c.ad.word] 140 (0, 0))) ∧ Hid (Below w5.heap.size w5 w6) := ⟨_, rfl, heap_alloc_new _ _, (Below.refl _ _).alloc (Nat.le_refl _) _⟩
  have hdr : Below w6.heap.size w6 w6.drew := (Below.refl _ _).drew
  have H6 : Hid (BkAt w0 w6 b bm n (ticked s)) := H5.out.below B6.out
  have H6d : Hid (BkAt w0 w6.drew b bm n (ticked s)) := H6.out.below hdr
  obtain ⟨r, hr, hra⟩ := HRF.out rfl
  have HRR : Hid (r ∈ s.recs ∧ r.a = c.fr) := ⟨hr, hra⟩
  obtain ⟨p, hi, hlk⟩ := H6d.out.map.look_in HG.out hr (KF.out.p.trans (by rw [hra])) KF.out.s
  have HI := hdQ hi
  have hlk2 : (Instr.lookup 132 (.map (some bm)) (.string f) false).run Tryz.prog w6.drew = .ok (.agg #[.slice p.pa r.a.path.length p.pc, .string r.a.type, .string r.a.name, .int .i64 r.a.key, .int .u64 r.a.place, .string r.a.word, .string r.prov, .string r.id, .slice p.ta r.attrs.length p.tc]) w6.drew := hlk _ (Below.refl _ _)
  obtain ⟨u0, u1, u2⟩ := book_cells H6.out.blk
  obtain ⟨v0, v1, v2⟩ := book_cells H6d.out.blk
  have V6d : Hid (w6.drew.heap[w5.heap.size]? = some (.cells #[.string f, .string t, .slice k.pt c.ad.path.length k.tc, .string c.ad.type, .string c.ad.name, .int .i64 c.ad.key, .int .u64 c.ad.place, .string c.ad.word] 140 (0, 0))) := (hdr.block _ (heap_lt V6.out)).trans V6.out
  have hds : w6.drew.heap.size = w6.heap.size := rfl
  have a0 := cell_of V6.out 0
  have a1 := cell_of V6.out 1
  have a2 := cell_of V6.out 2
  have a3 := cell_of V6.out 3
  have a4 := cell_of V6.out 4
  have a5 := cell_of V6.out 5
  have a6 := cell_of V6.out 6
  have a7 := cell_of V6.out 7
  have d0 := cell_of V6d.out 0
  have d1 := cell_of V6d.out 1
  have d2 := cell_of V6d.out 2
  have d3 := cell_of V6d.out 3
  have d4 := cell_of V6d.out 4
  have d5 := cell_of V6d.out 5
  have d6 := cell_of V6d.out 6
  have d7 := cell_of V6d.out 7
  obtain ⟨z7, hz7, Vz7, Bz7, Zz7⟩ := zrec_new w6.drew
  have Vz7 : Hid (z7.heap[w6.heap.size]? = some (.cells (recArr At.zero Rec.zero) 38 (0, 0))) := Vz7
  have Hz7 : Hid (BkAt w0 z7 b bm n (ticked s)) := H6d.out.below Bz7.out
  obtain ⟨q0, q1, q2⟩ := book_cells Hz7.out.blk
  have Vz6 : Hid (z7.heap[w5.heap.size]? = some (.cells #[.string f, .string t, .slice k.pt c.ad.path.length k.tc, .string c.ad.type, .string c.ad.name, .int .i64 c.ad.key, .int .u64 c.ad.place, .string c.ad.word] 140 (0, 0))) := (Bz7.out.block _ (heap_lt V6d.out)).trans V6d.out
  have c0 := cell_of Vz6.out 0
  have c1 := cell_of Vz6.out 1
  have c2 := cell_of Vz6.out 2
  have c3 := cell_of Vz6.out 3
  have c4 := cell_of Vz6.out 4
  have c5 := cell_of Vz6.out 5
  have c6 := cell_of Vz6.out 6
  have c7 := cell_of Vz6.out 7
  have hlk3 : (Instr.lookup 132 (.map (some bm)) (.string f) false).run Tryz.prog z7 = .ok (.agg #[.slice p.pa r.a.path.length p.pc, .string r.a.type, .string r.a.name, .int .i64 r.a.key, .int .u64 r.a.place, .string r.a.word, .string r.prov, .string r.id, .slice p.ta r.attrs.length p.tc]) z7 := hlk _ Bz7.out
  obtain ⟨w7, ht7⟩ : ∃ w7, (((((((((z7.setCell ⟨w6.heap.size, 0, none⟩ (.slice p.pa r.a.path.length p.pc)).setCell ⟨w6.heap.size, 1, none⟩ (.string r.a.type)).setCell ⟨w6.heap.size, 2, none⟩ (.string r.a.name)).setCell ⟨w6.heap.size, 3, none⟩ (.int .i64 r.a.key)).setCell ⟨w6.heap.size, 4, none⟩ (.int .u64 r.a.place)).setCell ⟨w6.heap.size, 5, none⟩ (.string r.a.word)).setCell ⟨w6.heap.size, 6, none⟩ (.string r.prov)).setCell ⟨w6.heap.size, 7, none⟩ (.string r.id)).setCell ⟨w6.heap.size, 8, none⟩ (.slice p.ta r.attrs.length p.tc)) = w7 := ⟨_, rfl⟩
  have Gt7 : Hid (z7.grownBy w7 (some w6.heap.size)) := by rw [← ht7]; exact (((((((((gb_set _ _ _ _).trans (gb_set _ _ _ _)).trans (gb_set _ _ _ _)).trans (gb_set _ _ _ _)).trans (gb_set _ _ _ _)).trans (gb_set _ _ _ _)).trans (gb_set _ _ _ _)).trans (gb_set _ _ _ _)).trans (gb_set _ _ _ _))
  have V7 : Hid (w7.heap[w6.heap.size]? = some (.cells (recArr p r) 38 (0, 0))) := by rw [← ht7]; exact set9 Vz7.out p r
  have B7 : Hid (Below w6.heap.size w6.drew w7) := Bz7.out.grown Gt7.out Bz7.out.size (fun x hx => by injection hx with hx; omega)
  obtain ⟨fz70, fz71, fz72, fz73, fz74, fz75, fz76, fz77, fz78⟩ := rec_frozen Vz7.out
  obtain ⟨cz70, cz71, cz72, cz73, cz74, cz75, cz76, cz77, cz78⟩ := rec_cells Vz7.out
  have HDR := hdQ hdr
  clear hdr hlk hr hra hi
  go_wp2_with fail
  go_region
  all_goals
    have H7 : Hid (BkAt w0 w7 b bm n (ticked s)) := H6d.out.below B7.out
    have V67 : Hid (w7.heap[w5.heap.size]? = some (.cells #[.string f, .string t, .slice k.pt c.ad.path.length k.tc, .string c.ad.type, .string c.ad.name, .int .i64 c.ad.key, .int .u64 c.ad.place, .string c.ad.word] 140 (0, 0))) := (B7.out.block _ (heap_lt V6d.out)).trans V6d.out
    have hdr : Below w7.heap.size w7 w7.drew := (Below.refl _ _).drew
    have H7d : Hid (BkAt w0 w7.drew b bm n (ticked s)) := H7.out.below hdr
    have V67d : Hid (w7.drew.heap[w5.heap.size]? = some (.cells #[.string f, .string t, .slice k.pt c.ad.path.length k.tc, .string c.ad.type, .string c.ad.name, .int .i64 c.ad.key, .int .u64 c.ad.place, .string c.ad.word] 140 (0, 0))) := (hdr.block _ (heap_lt V67.out)).trans V67.out
    obtain ⟨w8, hdel, M8, G8⟩ := H7d.out.map.drop (l' := dropA s.recs c.fr) KF.out.p KF.out.s 0 (fun x => by
      rw [mem_dropA]
      exact ⟨fun ⟨h1, h2⟩ => ⟨h1, fun e => h2 (adr_eq (HG.out.r _ h1) (HG.out.s _ h1) KF.out.a e)⟩, fun ⟨h1, h2⟩ => ⟨h1, fun e => h2 (by rw [e])⟩⟩)
    have HDEL := hdQ hdel
    have a0 := cell_of V67.out 0
    have d0 := cell_of V67d.out 0
    obtain ⟨u0, u1, u2⟩ := book_cells H7.out.blk
    obtain ⟨v0, v1, v2⟩ := book_cells H7d.out.blk
    have H8 : Hid (BkAt w0 w8 b bm n ⟨s.serial + 1, s.lin, dropA s.recs c.fr⟩) := H7d.out.turn G8 M8
    have hbm : bm < w5.heap.size := H5.out.map.lt
    have hs6 : w5.heap.size < w6.heap.size := heap_lt V6.out
    have V68 : Hid (w8.heap[w5.heap.size]? = some (.cells #[.string f, .string t, .slice k.pt c.ad.path.length k.tc, .string c.ad.type, .string c.ad.name, .int .i64 c.ad.key, .int .u64 c.ad.place, .string c.ad.word] 140 (0, 0))) := (G8.block _ (heap_lt V67d.out) (fun e => by injection e with e; omega)).trans V67d.out
    have V7d : Hid (w7.drew.heap[w6.heap.size]? = some (.cells (recArr p r) 38 (0, 0))) := (hdr.block _ (heap_lt V7.out)).trans V7.out
    have V78 : Hid (w8.heap[w6.heap.size]? = some (.cells (recArr p r) 38 (0, 0))) := (G8.block _ (heap_lt V7d.out) (fun e => by injection e with e; omega)).trans V7d.out
    have K8 : Hid (Kept b bm w6.drew w8) := ((Kept.of_below B7.out).trans (Kept.of_below hdr)).trans (Kept.of_bm G8)
    clear hdr hdel M8 G8
    go_wp2_with fail
    go_region_law (refine step_delete_run _ _ 132 9 HDEL.out (by rfl) _ _ (by rfl) (by rfl) (by rfl) ?_)
    all_goals
      have e2 := cell_of V68.out 2
      have e3 := cell_of V68.out 3
      have e4 := cell_of V68.out 4
      have e5 := cell_of V68.out 5
      have e6 := cell_of V68.out 6
      have e7 := cell_of V68.out 7
      obtain ⟨g0, g1, g2, g3, g4, g5, g6, g7, g8⟩ := rec_frozen V78.out
      obtain ⟨m0, m1, m2, m3, m4, m5, m6, m7, m8⟩ := rec_cells V78.out
      obtain ⟨w9, hw9⟩ : ∃ w9, ((((((w8.setCell ⟨w6.heap.size, 0, none⟩ (.slice k.pt c.ad.path.length k.tc)).setCell ⟨w6.heap.size, 1, none⟩ (.string c.ad.type)).setCell ⟨w6.heap.size, 2, none⟩ (.string c.ad.name)).setCell ⟨w6.heap.size, 3, none⟩ (.int .i64 c.ad.key)).setCell ⟨w6.heap.size, 4, none⟩ (.int .u64 c.ad.place)).setCell ⟨w6.heap.size, 5, none⟩ (.string c.ad.word)) = w9 := ⟨_, rfl⟩
      have V9 : Hid (w9.heap[w6.heap.size]? = some (.cells (recArr ⟨k.pt, k.tc, p.ta, p.tc⟩ (moved r c.ad)) 38 (0, 0))) := by rw [← hw9]; exact set6 V78.out k.pt k.tc c.ad
      have G9 : Hid (w8.grownBy w9 (some w6.heap.size)) := by rw [← hw9]; exact gb6 _ _ _ _ _ _ _ _
      have V69 : Hid (w9.heap[w5.heap.size]? = some (.cells #[.string f, .string t, .slice k.pt c.ad.path.length k.tc, .string c.ad.type, .string c.ad.name, .int .i64 c.ad.key, .int .u64 c.ad.place, .string c.ad.word] 140 (0, 0))) := (G9.out.block _ (heap_lt V68.out) (fun e => by injection e with e; omega)).trans V68.out
      have H9 : Hid (BkAt w0 w9 b bm n ⟨s.serial + 1, s.lin, dropA s.recs c.fr⟩) := ⟨H8.out.up.grown G9.out H8.out.up.size (fun k hk => by injection hk with hk; have := H6d.out.up.size; omega), (G9.out.block _ (heap_lt H8.out.blk) (fun e => by injection e with e; have := heap_lt H6d.out.blk; omega)).trans H8.out.blk, H8.out.lo, H8.out.ne, H8.out.map.kept G9.out (fun e => by injection e with e; have := H6d.out.map.lt; omega)⟩
      have hdr : Below w9.heap.size w9 w9.drew := (Below.refl _ _).drew
      have H9d : Hid (BkAt w0 w9.drew b bm n ⟨s.serial + 1, s.lin, dropA s.recs c.fr⟩) := H9.out.below hdr
      obtain ⟨l', GL, ML, NL⟩ := put_ex (good_dropA HG.out c.fr) (moved_right (HG.out.r _ HRR.out.1) HRA.out) (moved_small (HG.out.s _ HRR.out.1) HSA.out)
      have HIM : Hid (IsRec w0 (fun _ => True) ⟨k.pt, k.tc, p.ta, p.tc⟩ (moved r c.ad)) := ⟨HPT.out, HI.out.attrs⟩
      obtain ⟨w10, hup, M10, G10⟩ := H9d.out.map.store (l' := l') HIM.out KT.out.p KT.out.s (by have := HNN.out; omega) (fun x => by
        rw [ML x]
        refine or_congr_right ⟨fun ⟨h1, h2⟩ => ⟨h1, fun e => h2 (adr_eq ((good_dropA HG.out c.fr).r _ h1) ((good_dropA HG.out c.fr).s _ h1) KT.out.a e)⟩, fun ⟨h1, h2⟩ => ⟨h1, fun e => h2 (by rw [e])⟩⟩)
      have hup2 : (Instr.mapUpdate 132 (.map (some bm)) (.string t) (.agg #[.slice k.pt (moved r c.ad).a.path.length k.tc, .string (moved r c.ad).a.type, .string (moved r c.ad).a.name, .int .i64 (moved r c.ad).a.key, .int .u64 (moved r c.ad).a.place, .string (moved r c.ad).a.word, .string (moved r c.ad).prov, .string (moved r c.ad).id, .slice p.ta (moved r c.ad).attrs.length p.tc])).run Tryz.prog w9.drew = .ok () w10 := hup
      have H10 : Hid (BkAt w0 w10 b bm (n + 1) ⟨s.serial + 1, s.lin, l'⟩) := H9d.out.turn G10 M10
      have HGL : Hid (Done s c ⟨s.serial + 1, s.lin, l'⟩ ∧ l'.length ≤ s.recs.length + 1) := ⟨HD.out HE0.out _ GL r HRR.out.1 HRR.out.2 ML, Nat.le_trans NL (by have := dropA_len s.recs c.fr; omega)⟩
      have K10 : Hid (Kept b bm w w10) := by
        have k9 : Kept b bm w w6.drew := ((((Kept.of_below (HBW.out _ C4.out)).trans K5.out).trans (Kept.of_below B6.out)).trans (Kept.of_below HDR.out))
        refine ⟨Nat.le_trans k9.size (Nat.le_trans K8.out.size (Nat.le_trans G9.out.size (Nat.le_trans hdr.size G10.size))), fun x hx h1 h2 => ?_⟩
        have hx6 := Nat.lt_of_lt_of_le hx k9.size
        have hx8 := Nat.lt_of_lt_of_le hx6 K8.out.size
        have hx9 := Nat.lt_of_lt_of_le hx8 G9.out.size
        rw [G10.block x (Nat.lt_of_lt_of_le hx9 hdr.size) (fun e => h2 (by injection e with e)), hdr.block x hx9, G9.out.block x hx8 (fun e => by injection e with e; omega), K8.out.block x hx6 h1 h2, k9.block x hx h1 h2]
      obtain ⟨u0, u1, u2⟩ := book_cells H9.out.blk
      obtain ⟨v0, v1, v2⟩ := book_cells H9d.out.blk
      have a1 := cell_of V69.out 1
      have d1 := cell_of ((hdr.block _ (heap_lt V69.out)).trans V69.out) 1
      obtain ⟨q0, q1, q2, q3, q4, q5, q6, q7, q8⟩ := rec_cells V9.out
      obtain ⟨r0, r1, r2, r3, r4, r5, r6, r7, r8⟩ := rec_cells ((hdr.block _ (heap_lt V9.out)).trans V9.out)
      clear hdr hup M10 G10 GL ML NL
      go_wp2_with fail
      go_region
      all_goals
        go_wp2_with fail
        go_ret
        exact ⟨by rw [HE0.out] <;> rfl, _, HGL.out.1, HGL.out.2, H10.out, K10.out⟩
theorem do_any {w0 w : World} {b bm n : Nat} {s : Sta} {k : CAt} {c : Cmd} (h : BkAt w0 w b bm n s) (hg : Good s.recs) (hc : CmdAt w0 k c) (T : TabsA w0) (hn : n ≤ 90000) (hsn : s.serial < 18446744073709551616) : Calls Tryz.prog 57 #[.pointer (some ⟨b, 0, none⟩), .agg #[.int .i64 c.kind, .slice k.pf c.fr.path.length k.fc, .string c.fr.type, .string c.fr.name, .int .i64 c.fr.key, .int .u64 c.fr.place, .string c.fr.word, .slice k.pt c.ad.path.length k.tc, .string c.ad.type, .string c.ad.name, .int .i64 c.ad.key, .int .u64 c.ad.place, .string c.ad.word, .slice k.p.pa c.r.a.path.length k.p.pc, .string c.r.a.type, .string c.r.a.name, .int .i64 c.r.a.key, .int .u64 c.r.a.place, .string c.r.a.word, .string c.r.prov, .string c.r.id, .slice k.p.ta c.r.attrs.length k.p.tc]] w (DoPost w0 b bm n s c w) := by
  cases hr : rightC c
  · exact do0 h hg hc T hn hsn hr
  · rcases rightC_cases hr with h1 | h1 | h1
    · exact do1 h hg hc T hn hsn h1.1 hr
    · exact do2 h hg hc T hn hsn h1.1 hr
    · exact do3 h hg hc T hn hsn h1.1 hr
end Go.Proofs.YtehghladpnpcoaaGreatDoor.State.Edit
