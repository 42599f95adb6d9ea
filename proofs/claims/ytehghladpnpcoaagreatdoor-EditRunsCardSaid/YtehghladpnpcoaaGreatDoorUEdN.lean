/- There and back, in plain; a command stored. -/
import Derived.Test.YtehghladpnpcoaaGreatDoorUEdO
import Derived.Test.YtehghladpnpcoaaGreatDoorUEdG
set_option linter.unusedVariables false
set_option linter.unusedSimpArgs false
set_option maxRecDepth 100000
namespace Go.Proofs.YtehghladpnpcoaaGreatDoor.State.Edit
open Go.RowKit Go.Shelf Utf Strs Go.Proofs.YtehghladpnpcoaaGreatDoor.Addr Go.Proofs.YtehghladpnpcoaaGreatDoor.State
open Jdec (IsTexts Turn infoStr gb_set gb_below gb_refl)
/-! ## A command stored -/
theorem cells_set (b : Nat) : ∀ (vs : List Value) (o : Nat) (w : World) (cs : Array Value) (T : TypeId) (fr : Nat × Nat), w.heap[b]? = some (.cells cs T fr) -> ∃ cs', (w.setCells b o vs).heap[b]? = some (.cells cs' T fr) /\ cs'.size = cs.size
  | [], o, w, cs, T, fr, h => ⟨cs, h, rfl⟩
  | v :: vs, o, w, cs, T, fr, h => by
    obtain ⟨cs', h1, h2⟩ := cells_set b vs (o + 1) (w.setCell ⟨b, o, none⟩ v) _ T fr (heap_set_same h (i := o) v);exact ⟨cs', h1, by rw [h2]; simp⟩
theorem gb_cells (b : Nat) : ∀ (vs : List Value) (o : Nat) (w : World), w.grownBy (w.setCells b o vs) (some b)
  | [], o, w => gb_refl _ _
  | v :: vs, o, w => (gb_set w b o v).trans (gb_cells b vs (o + 1) (w.setCell ⟨b, o, none⟩ v))
theorem cmd_store {w : World} {b : Nat} {cs0 : Array Value} (h : w.heap[b]? = some (.cells cs0 44 (0, 0))) (hs : cs0.size = 22) (k : CAt) (c : Cmd) : ∃ w', Hid ((Instr.storeAt 44 (.pointer (some ⟨b, 0, none⟩)) (.agg #[.int .i64 c.kind, .slice k.pf c.fr.path.length k.fc, .string c.fr.type, .string c.fr.name, .int .i64 c.fr.key, .int .u64 c.fr.place, .string c.fr.word, .slice k.pt c.ad.path.length k.tc, .string c.ad.type, .string c.ad.name, .int .i64 c.ad.key, .int .u64 c.ad.place, .string c.ad.word, .slice k.p.pa c.r.a.path.length k.p.pc, .string c.r.a.type, .string c.r.a.name, .int .i64 c.r.a.key, .int .u64 c.r.a.place, .string c.r.a.word, .string c.r.prov, .string c.r.id, .slice k.p.ta c.r.attrs.length k.p.tc])).run Tryz.prog w = .ok () w') /\ Hid (∃ cs, w'.heap[b]? = some (.cells cs 44 (0, 0)) /\ cs.size = 22) /\ Hid (w'.rangeAt b 0 (cmdArr k c).toList) /\ Hid (w.grownBy w' (some b)) := by
  have ht : w.there b 0 (cmdArr k c).size := fun j hj => by
    have hj2 : j < cs0.size := by rw [hs]; exact hj
    rw [Nat.zero_add];exact ⟨by rw [cell_of h j, Array.getElem?_eq_getElem hj2]; rfl, frozen_of h j⟩
  have hr := run_storeAt_mid (P := Tryz.prog) w b 0 44 (cmdArr k c) ht infoCmd (by simp [cmdArr, Value.oneCell']);obtain ⟨cs, h1, h2⟩ := cells_set b (cmdArr k c).toList 0 w cs0 _ _ h;exact ⟨_, hr, ⟨cs, h1, h2.trans hs⟩, World.rangeAt_setCells_same w b 0 (cmdArr k c).toList ht, gb_cells b _ 0 w⟩
theorem cmd_load2 {w : World} {b : Nat} {k : CAt} {c : Cmd} (h : w.rangeAt b 0 (cmdArr k c).toList) : Hid ((Instr.loadAt 44 (.pointer (some ⟨b, 0, none⟩))).run Tryz.prog w = .ok (.agg #[.int .i64 c.kind, .slice k.pf c.fr.path.length k.fc, .string c.fr.type, .string c.fr.name, .int .i64 c.fr.key, .int .u64 c.fr.place, .string c.fr.word, .slice k.pt c.ad.path.length k.tc, .string c.ad.type, .string c.ad.name, .int .i64 c.ad.key, .int .u64 c.ad.place, .string c.ad.word, .slice k.p.pa c.r.a.path.length k.p.pc, .string c.r.a.type, .string c.r.a.name, .int .i64 c.r.a.key, .int .u64 c.r.a.place, .string c.r.a.word, .string c.r.prov, .string c.r.id, .slice k.p.ta c.r.attrs.length k.p.tc]) w) :=
  run_loadAt_mid (P := Tryz.prog) w b 0 44 (cmdArr k c).toList _ h Tryz.underlying44 rfl infoCmd
theorem wpList_store_run {P : Program} {w w' : World} {ops : Array Oper} {rest : List Oper} {o : Oper} {a : Act} {Q : Exit -> Act -> World -> Prop} {t : TypeId} {p V : Value} (hr : (Instr.storeAt t p V).run P w = .ok () w') (hw : Region.wanted o (yielded ops a.tmps) = true) (x y : Operand)
    (ho : o.op = .store t x y) (hx : a.eval x = p) (hy : a.eval y = V) (h : wpList P ops Q rest (a.put o.dst undef) w') : wpList P ops Q (o :: rest) a w := by
  unfold wpList;rw [if_pos hw];refine .inl ?_;unfold Oper.wp execOp;simp only [ho, hx, hy, Sem.run_bind, hr, Result.andThen_ok]
  exact h
def ChainR (s : Sta) : List Cmd -> Sta -> List Int -> Prop
  | [], s', es => s' = s /\ es = []
  | c :: l, s', es => ∃ s1 es1, ChainR s l s1 es1 /\ Done s1 c s' /\ es = es1 ++ [errC s1 c]
theorem ChainR.uniq {s : Sta} : ∀ (l : List Cmd) {s1 s2 : Sta} {e1 e2 : List Int}, ChainR s l s1 e1 -> ChainR s l s2 e2 -> s1 = s2 /\ e1 = e2
  | [], _, _, _, _, ⟨h1, h2⟩, ⟨h3, h4⟩ => ⟨h1.trans h3.symm, h2.trans h4.symm⟩
  | c :: l, _, _, _, _, ⟨t1, f1, h1, d1, q1⟩, ⟨t2, f2, h2, d2, q2⟩ => by
    obtain ⟨rfl, rfl⟩ := ChainR.uniq l h1 h2;exact ⟨d1.uniq d2, q1.trans q2.symm⟩
theorem Done.ser_lt {s s' : Sta} {c : Cmd} (h : Done s c s') (hs : s.serial < 18446744073709551616) : s'.serial < 18446744073709551616 := by
  by_cases e : errC s c = 0
  · have := (err_okay.1 e).n;rw [h.ser e]; omega
  · rw [h.bad e]; exact hs
def oks : List Int -> Nat
  | [] => 0
  | e :: l => (if e = 0 then 1 else 0) + oks l
theorem oks_append : ∀ a b, oks (a ++ b) = oks a + oks b
  | [], b => by simp [oks]
  | e :: a, b => by rw [List.cons_append, oks, oks, oks_append a b]; omega
theorem Chain.facts {s : Sta} (hg : Good s.recs) (hs : s.serial < 18446744073709551616) : ∀ (l : List Cmd) {s1 : Sta} {es : List Int}, ChainR s l s1 es -> Good s1.recs /\ s1.serial < 18446744073709551616 /\ s1.lin = s.lin /\ es.length = l.length /\ s1.serial = s.serial + oks es
  | [], _, _, ⟨h1, h2⟩ => by subst h1 h2; exact ⟨hg, hs, rfl, rfl, rfl⟩
  | c :: l, s1, es, ⟨t, f, h, d, q⟩ => by
    obtain ⟨h1, h2, h3, h4, h5⟩ := Chain.facts hg hs l h;subst q;refine ⟨d.good, d.ser_lt h2, d.lin.trans h3, by rw [List.length_append, h4]; rfl, ?_⟩;rw [oks_append];by_cases e : errC t c = 0
    · rw [d.ser e, h5, e]; simp [oks]; omega
    · rw [d.bad e, h5]; simp [oks, e]
def IsInts (w : World) (a : Option Addr) (l : List Int) : Prop := l = [] ∨ ∃ b o, a = some ⟨b, o, none⟩ /\ b < w.heap.size /\ ∀ i (h : i < l.length), w.cell? ⟨b, o + i, none⟩ = some (.int .i64 l[i])
theorem IsInts.stays {w w' : World} {a : Option Addr} {l : List Int} (h : IsInts w a l) (hb : Below w.heap.size w w') : IsInts w' a l := by
  rcases h with h | ⟨b, o, ha, hbl, hc⟩
  · exact .inl h
  · exact .inr ⟨b, o, ha, Nat.lt_of_lt_of_le hbl hb.size, fun i hi => by rw [cell_blk (hb.block b hbl)]; exact hc i hi⟩
def IntRow (T : TypeId) (w : World) (B : Nat) (v : Value) (l : List Int) : Prop := w.ownsRow B T 1 v l.length (l.map (Value.int .i64))
theorem IntRow.moves {T : TypeId} {w w' : World} {B : Nat} {v : Value} {l : List Int} (h : IntRow T w B v l) (hk : ∀ g, v.ownBlock = some g -> w'.heap[g]? = w.heap[g]?) : IntRow T w' B v l := by
  obtain ⟨h1, h2⟩ := h;refine ⟨h1, ?_⟩;rcases h2 with h2 | ⟨g, cap, cur, rfl, h3, h4, h5⟩
  · exact .inl h2
  · exact .inr ⟨g, cap, cur, rfl, h3, (hk g rfl).trans h4, h5⟩
theorem IntRow.form {T : TypeId} {w : World} {B : Nat} {v : Value} {l : List Int} (h : IntRow T w B v l) : ∃ a c, v = .slice a l.length c /\ IsInts w a l /\ (∀ k, v.ownBlock = some k -> B <= k /\ k < w.heap.size) := by
  have hl := fun k hk => World.ownsRow.lt h k hk;have h0 := h;obtain ⟨h1, h2⟩ := h;rcases h2 with ⟨rfl, e⟩ | ⟨g, cap, cur, rfl, h3, h4, h5⟩
  · exact ⟨none, 0, by rw [e], .inl (List.length_eq_zero_iff.1 e), fun k hk => hl k hk⟩
  · refine ⟨some ⟨g, 0, none⟩, cap, rfl, .inr ⟨g, 0, rfl, (hl g rfl).2, fun i hi => ?_⟩, fun k hk => hl k hk⟩;have := World.ownsRow.cellAt h0 i (by omega);rw [Nat.zero_add, this];simp [hi]
theorem infoErr : (Tryz.prog.info? 28).map (fun i => (i.zero, i.size, i.bytes)) = some (some (.int .i64 0), 1, 8) := by kernel_rfl
theorem infoInt : (Tryz.prog.info? 3).map (fun i => (i.zero, i.size, i.bytes)) = some (some (.int .i64 0), 1, 8) := by kernel_rfl
theorem app_int {t T : TypeId} (ht : Tryz.prog.underlying t = some (.slice T)) (hiT : (Tryz.prog.info? T).map (fun i => (i.zero, i.size, i.bytes)) = some (some (.int .i64 0), 1, 8)) (ty : TypeId) (w : World) (B : Nat) (v : Value) (l : List Int) (e : Int) (h : IntRow T w B v l) (hl : l.length <= 3000) (hB : B <= w.heap.size) : ∃ v' w', (Builtin.append_ #[t, t] ty #[v, .slice (some ⟨w.heap.size, 0, none⟩) 1 1]).run Tryz.prog (w.alloc (.cells #[.int .i64 e] T)) = .ok v' w' /\ Hid (IntRow T w' B v' (l ++ [e])) /\ Hid ((w.alloc (.cells #[.int .i64 e] T)).grownBy w' v.ownBlock) := by
  obtain ⟨i0, hi, hz0, hz1, hz2⟩ := info_parts hiT;have V1 := heap_alloc_new w (.cells #[.int .i64 e] T (0, 0));have h1 : IntRow T (w.alloc (.cells #[.int .i64 e] T)) B v l := h.moves (fun g hg => ((Below.refl _ w).alloc (Nat.le_refl _) _).block g (World.ownsRow.lt h g hg).2);obtain ⟨v', w', hr, hn, hg, _⟩ := run_append_own (P := Tryz.prog) (w.alloc (.cells #[.int .i64 e] T)) B t ty T i0 _ 1 8 ht hi hz0 hz1 hz2 rfl (by decide) v l.length (l.map (Value.int .i64)) h1 ⟨w.heap.size, 0, none⟩ 1 1 [.int .i64 e] rfl (fun j u hu => by
    have hj : j = 0 := by have := (List.getElem?_eq_some_iff.1 hu).1; simpa using this
    subst hj;have e2 : (⟨w.heap.size, 0, none⟩ : Addr).add 0 = ⟨w.heap.size, 0, none⟩ := by unfold Addr.add; split <;> simp_all
    rw [e2, cell_of V1 0];exact hu) (fun u hu => by rw [List.mem_singleton.1 hu]; rfl) (by unfold maxLen; omega) (by omega) (by simp; omega)
  refine ⟨v', w', hr, ?_, hg⟩;show w'.ownsRow B T 1 v' (l ++ [e]).length ((l ++ [e]).map (Value.int .i64));rw [List.length_append, List.map_append];exact hn
set_option maxHeartbeats 32000000
def CmdsAt (w : World) (a : Option Addr) (l : List Cmd) : Prop := l = [] ∨ ∃ b o, a = some ⟨b, o, none⟩ /\ b < w.heap.size /\ ∃ f : Nat -> CAt, ∀ i (h : i < l.length), (∀ j u, (cmdArr (f i) l[i])[j]? = some u -> w.cell? ⟨b, o + i * 22 + j, none⟩ = some u) /\ CmdAt w (f i) l[i]
theorem CmdsAt.stays {w w' : World} {a : Option Addr} {l : List Cmd} (h : CmdsAt w a l) (hb : Below w.heap.size w w') : CmdsAt w' a l := by
  rcases h with h | ⟨b, o, ha, hbl, f, hc⟩
  · exact .inl h
  · exact .inr ⟨b, o, ha, Nat.lt_of_lt_of_le hbl hb.size, f, fun i hi => ⟨fun j u hu => by rw [cell_blk (hb.block b hbl)]; exact (hc i hi).1 j u hu, (hc i hi).2.stays hb⟩⟩
theorem IsCmds.at {w : World} {a : Option Addr} {l : List Cmd} (h : IsCmds w a l) (hf : ∀ c ∈ l, Fit c) : CmdsAt w a l := by
  rcases h with h | ⟨b, o, ha, hbl, f, hc⟩
  · exact .inl h
  · exact .inr ⟨b, o, ha, hbl, f, fun i hi => ⟨(hc i hi).1, (hc i hi).2.at (hf _ (List.getElem_mem hi)).f (hf _ (List.getElem_mem hi)).t (hf _ (List.getElem_mem hi)).r⟩⟩
theorem cmd_load3 {w : World} {b o : Nat} {k : CAt} {c : Cmd} (h : ∀ j u, (cmdArr k c)[j]? = some u -> w.cell? ⟨b, o + j, none⟩ = some u) : Hid ((Instr.loadAt 44 (.pointer (some ⟨b, o, none⟩))).run Tryz.prog w = .ok (.agg #[.int .i64 c.kind, .slice k.pf c.fr.path.length k.fc, .string c.fr.type, .string c.fr.name, .int .i64 c.fr.key, .int .u64 c.fr.place, .string c.fr.word, .slice k.pt c.ad.path.length k.tc, .string c.ad.type, .string c.ad.name, .int .i64 c.ad.key, .int .u64 c.ad.place, .string c.ad.word, .slice k.p.pa c.r.a.path.length k.p.pc, .string c.r.a.type, .string c.r.a.name, .int .i64 c.r.a.key, .int .u64 c.r.a.place, .string c.r.a.word, .string c.r.prov, .string c.r.id, .slice k.p.ta c.r.attrs.length k.p.tc]) w) :=
  run_loadAt_mid (P := Tryz.prog) w b o 44 (cmdArr k c).toList _ (fun j v hv => h j v (by simpa using hv)) Tryz.underlying44 rfl infoCmd
theorem BkAt.grow {w0 w w' : World} {b bm n : Nat} {s : Sta} {r : Option Nat} {m : Nat} (h : BkAt w0 w b bm n s) (hg : w.grownBy w' r) (hr : ∀ k, r = some k -> m <= k) (h1 : b < m) (h2 : bm < m) (h3 : w0.heap.size <= m) : BkAt w0 w' b bm n s :=
  ⟨h.up.grown hg h.up.size (fun k hk => Nat.le_trans h3 (hr k hk)), (hg.block b (heap_lt h.blk) (fun e => by have := hr b e.symm; omega)).trans h.blk, h.lo, h.ne, h.map.kept hg (fun e => by have := hr bm e.symm; omega)⟩
theorem run_ret (s : Sta) (u : Value) (w' : World) (tm : Array Value) (b : Nat) (a : Option Addr) (c : Nat) (Q : Ending -> World -> Prop) (hb : w'.heap[b]? = some (.cells (staArr a c s) 25 (0, 0))) (h2 : tm[4]? = some (.pointer (some ⟨b, 0, none⟩))) (h3 : tm[5]? = some u) (hq : Q (.returned (.tuple #[staV a c s, u])) w') : bodyPost Tryz.prog Tryz.f31 Q Exit.ret { tmps := tm, defers := [] } w' := by
  obtain ⟨c0, c1, c2⟩ := sta_cells hb;refine bodyPost_ret (v := .tuple #[staV a c s, u]) ?_ rfl hq;simp [results, Tryz.results31, go_sem, h2, h3, c0, c1, c2, staV]
structure RI (w2 w3 wr : World) (b bm : Nat) (s : Sta) (l : List Cmd) (i : Nat) (s1 : Sta) (es : List Int) (a : Option Addr) (c : Nat) : Prop where
  bk : BkAt w2 wr b bm (s.recs.length + i) s1
  ch : ChainR s (l.take i).reverse s1 es
  n : s1.recs.length <= s.recs.length + i
  row : IntRow 28 wr w3.heap.size (.slice a es.length c) es
  z : w3.heap.size <= wr.heap.size
def RnPost (s : Sta) (l : List Cmd) (w : World) (e : Ending) (w' : World) : Prop := ∃ a1 c1 s1 a2 c2, ∃ es : List Int, e = .returned (.tuple #[.agg #[.int .u64 s1.serial, .string s1.lin, .slice a1 s1.recs.length c1], .slice a2 es.length c2]) /\ Hid (ChainR s l.reverse s1 es) /\ Hid (RecsAt w' a1 s1.recs) /\ Hid (s1.recs.length <= c1 /\ s1.recs.length <= s.recs.length + l.length) /\ Hid (IsInts w' a2 es) /\ Hid (Below w.heap.size w w')
theorem run_any (s : Sta) (ra : Option Addr) (rc : Nat) (l : List Cmd) (la : Option Addr) (lc : Nat) (w : World) (h : RecsAt w ra s.recs) (hg : Good s.recs) (hcm : CmdsAt w la l) (hl : l.length <= 20) (hn : s.recs.length <= 2000) (hsn : s.serial < 18446744073709551616) (T : TabsA w) : Hid (Calls Tryz.prog 31 #[.agg #[.int .u64 s.serial, .string s.lin, .slice ra s.recs.length rc], .slice la l.length lc] w (RnPost s l w)) := by
  show Calls _ _ _ _ _;obtain ⟨w1, hw1, V1, B1⟩ := sta_new w ra rc s;obtain ⟨w2, hw2, V2, B2, Z2⟩ := zsta_new w1;have hl1 := heap_lt V1.out;have hs1 := B1.out.size;have hs2 : w2.heap.size = w1.heap.size + 1 := Z2.out;have B02 : Hid (Below w.heap.size w w2) := B1.out.trans (B2.out.mono hs1);have V12 : Hid (w2.heap[w.heap.size]? = some (.cells (staArr ra rc s) 25 (0, 0))) := (B2.out.block _ hl1).trans V1.out;have KO : Hid (Calls Tryz.prog 56 #[.agg #[.int .u64 s.serial, .string s.lin, .slice ra s.recs.length rc]] w2 fun e w' => ∃ b bm, e = .returned (.pointer (some ⟨b, 0, none⟩)) /\ Hid (BkAt w2 w' b bm s.recs.length s)) := open_any s ra rc w2 (h.stays B02.out) hg (T.stays B02.out);have HCM := hdQ (hcm.stays B02.out);have HT := hdQ (T.stays B02.out);have HG := hdQ hg;have HSN := hdQ hsn;have HN := hdQ hn;have HZ := hdQ hs2;have HS1 := hdQ hl1;obtain ⟨x0, x1, x2⟩ := sta_cells V12.out;clear h hg hcm hn hsn T hl1 hs1 hs2;go_enter Tryz.func31, Tryz.ntmps31
  go_wp2_with fail
  refine (Calls.mono KO.out ?_);rintro z w3 ⟨b, bm, rfl, H3⟩;have HB3 : Hid (b < w3.heap.size /\ bm < w3.heap.size /\ w2.heap.size <= w3.heap.size) := ⟨heap_lt H3.out.blk, H3.out.map.lt, H3.out.up.size⟩;clear x0 x1 x2 hw1 hw2 KO;go_wp2_with fail
  go_loopw [7, 14] (fun p7 p14 wr => ∃ (i : Nat) (s1 : Sta) (es : List Int) (a : Option Addr) (c : Nat), p7 = .slice a es.length c /\ p14 = .int .i64 i /\ i <= l.length /\ Hid (RI w2 w3 wr b bm s l i s1 es a c)) (fun _ p14 _ => l.length - (intOf p14).toNat)
  case atStart => exact ⟨0, s, [], none, 0, rfl, rfl, Nat.zero_le _, ⟨H3.out, ⟨rfl, rfl⟩, Nat.le_refl _, World.ownsRow_nil _ _ _ _, Nat.le_refl _⟩⟩
  case round =>
    obtain ⟨i, s1, es, a, c, rfl, rfl, hi, hI⟩ := hrel;by_cases hlt : i < l.length
    · obtain ⟨lb, lo, hla, hlb, f, hf⟩ := HCM.out.resolve_left (by intro e; rw [e] at hlt; simp at hlt);obtain ⟨hf1, hf2⟩ := hf i hlt;have htk : (l.take (i + 1)).reverse = l[i] :: (l.take i).reverse := by
        rw [List.take_add_one, List.getElem?_eq_getElem hlt, List.reverse_append]; rfl
      obtain ⟨cm, hcm⟩ : ∃ cm, l[i] = cm := ⟨_, rfl⟩;obtain ⟨k, hk⟩ : ∃ k, f i = k := ⟨_, rfl⟩;rw [hcm] at hf1 hf2 htk;rw [hk] at hf1 hf2;have HTK := hdQ htk;have HCK := hdQ hf2;have LD := cmd_load3 (w := wr) (b := lb) (o := lo + i * 22) (k := k) (c := cm) (fun j u hu => by rw [cell_blk (hI.out.bk.up.block lb hlb)]; exact hf1 j u hu);have HCF := Chain.facts HG.out HSN.out _ hI.out.ch;have HGS : Hid (Good s1.recs /\ s1.serial < 18446744073709551616 /\ es.length <= 20) := ⟨HCF.1, HCF.2.1, by rw [HCF.2.2.2.1, List.length_reverse, List.length_take]; omega⟩;obtain ⟨z4, hz4, Vz4, Bz4⟩ : ∃ z, wr.alloc (.cells #[.int .i64 0, .slice none 0 0, .string ⟨#[]⟩, .string ⟨#[]⟩, .int .i64 0, .int .u64 0, .string ⟨#[]⟩, .slice none 0 0, .string ⟨#[]⟩, .string ⟨#[]⟩, .int .i64 0, .int .u64 0, .string ⟨#[]⟩, .slice none 0 0, .string ⟨#[]⟩, .string ⟨#[]⟩, .int .i64 0, .int .u64 0, .string ⟨#[]⟩, .string ⟨#[]⟩, .string ⟨#[]⟩, .slice none 0 0] 44) = z /\ Hid (z.heap[wr.heap.size]? = some (.cells #[.int .i64 0, .slice none 0 0, .string ⟨#[]⟩, .string ⟨#[]⟩, .int .i64 0, .int .u64 0, .string ⟨#[]⟩, .slice none 0 0, .string ⟨#[]⟩, .string ⟨#[]⟩, .int .i64 0, .int .u64 0, .string ⟨#[]⟩, .slice none 0 0, .string ⟨#[]⟩, .string ⟨#[]⟩, .int .i64 0, .int .u64 0, .string ⟨#[]⟩, .string ⟨#[]⟩, .string ⟨#[]⟩, .slice none 0 0] 44 (0, 0))) /\ Hid (Below wr.heap.size wr z) := ⟨_, rfl, heap_alloc_new _ _, (Below.refl _ _).alloc (Nat.le_refl _) _⟩;obtain ⟨w5, HST, HV5, HR5, HG5⟩ := cmd_store Vz4.out rfl k cm;have C5 : Hid (Below wr.heap.size wr w5) := Bz4.out.grown HG5.out Bz4.out.size (fun x hx => by injection hx with hx; omega);have LD5 : Hid ((Instr.loadAt 44 (.pointer (some ⟨wr.heap.size, 0, none⟩))).run Tryz.prog w5 = .ok (.agg #[.int .i64 cm.kind, .slice k.pf cm.fr.path.length k.fc, .string cm.fr.type, .string cm.fr.name, .int .i64 cm.fr.key, .int .u64 cm.fr.place, .string cm.fr.word, .slice k.pt cm.ad.path.length k.tc, .string cm.ad.type, .string cm.ad.name, .int .i64 cm.ad.key, .int .u64 cm.ad.place, .string cm.ad.word, .slice k.p.pa cm.r.a.path.length k.p.pc, .string cm.r.a.type, .string cm.r.a.name, .int .i64 cm.r.a.key, .int .u64 cm.r.a.place, .string cm.r.a.word, .string cm.r.prov, .string cm.r.id, .slice k.p.ta cm.r.attrs.length k.p.tc]) w5) := cmd_load2 HR5.out;have H5 : Hid (BkAt w2 w5 b bm (s.recs.length + i) s1) := hI.out.bk.below C5.out;have KD : Hid (Calls Tryz.prog 57 #[.pointer (some ⟨b, 0, none⟩), .agg #[.int .i64 cm.kind, .slice k.pf cm.fr.path.length k.fc, .string cm.fr.type, .string cm.fr.name, .int .i64 cm.fr.key, .int .u64 cm.fr.place, .string cm.fr.word, .slice k.pt cm.ad.path.length k.tc, .string cm.ad.type, .string cm.ad.name, .int .i64 cm.ad.key, .int .u64 cm.ad.place, .string cm.ad.word, .slice k.p.pa cm.r.a.path.length k.p.pc, .string cm.r.a.type, .string cm.r.a.name, .int .i64 cm.r.a.key, .int .u64 cm.r.a.place, .string cm.r.a.word, .string cm.r.prov, .string cm.r.id, .slice k.p.ta cm.r.attrs.length k.p.tc]] w5 (DoPost w2 b bm (s.recs.length + i) s1 cm w5)) := do_any H5.out HGS.out.1 HCK.out HT.out (by have := HN.out; omega) HGS.out.2.1;subst hla;clear hf hf1 hf2 htk hcm hk HCF hlb;go_wp2_with (first | (refine wpList_store_run HST.out rfl _ _ rfl rfl rfl ?_) | (refine wpList_load_run LD.out rfl _ rfl rfl ?_) | (refine wpList_load_run LD5.out rfl _ rfl rfl ?_))
      refine (Calls.mono KD.out ?_);rintro z w6 ⟨rfl, s2, hD, hL, H6, K6⟩;obtain ⟨e, he⟩ : ∃ e, errC s1 cm = e := ⟨_, rfl⟩;have HD := hdQ hD;have HL2 : Hid (s2.recs.length <= s.recs.length + (i + 1)) := by have := hI.out.n; show _ <= _; omega
      have HK6 := hdQ K6;have HH6 := hdQ H6;have hrow6 : IntRow 28 w6 w3.heap.size (.slice a es.length c) es := hI.out.row.moves (fun g hg => by
        obtain ⟨h1, h2⟩ := World.ownsRow.lt hI.out.row g hg;have := HB3.out;rw [HK6.out.block g (Nat.lt_of_lt_of_le h2 C5.out.size) (by omega) (by omega), C5.out.block g h2])
      have hs36 : w3.heap.size <= w6.heap.size := Nat.le_trans hI.out.z (Nat.le_trans C5.out.size HK6.out.size);obtain ⟨v', w8, hap, hrow, hgr⟩ := app_int Tryz.underlying55 infoErr 55 w6 w3.heap.size (.slice a es.length c) es e hrow6 (by have := HGS.out.2.2; omega) hs36;obtain ⟨w7, hw7, B7⟩ : ∃ w7, w6.alloc (.cells #[.int .i64 e] 28) = w7 /\ Hid (Below w6.heap.size w6 w7) := ⟨_, rfl, (Below.refl _ _).alloc (Nat.le_refl _) _⟩;rw [hw7] at hap hgr;have HAP := hdQ hap;have HE := hdQ he;have hown : ∀ k, (Value.slice a es.length c).ownBlock = some k -> w3.heap.size <= k := fun k hk => (World.ownsRow.lt hI.out.row k hk).1;obtain ⟨a', c', rfl, _, _⟩ := hrow.out.form;have HR : Hid (RI w2 w3 w8 b bm s l (i + 1) s2 (es ++ [e]) a' c') := ⟨(HH6.out.below B7.out).grow hgr.out hown HB3.out.1 HB3.out.2.1 HB3.out.2.2, by rw [HTK.out]; exact ⟨s1, es, hI.out.ch, HD.out, by rw [HE.out]⟩, HL2.out, hrow.out, Nat.le_trans hs36 (Nat.le_trans B7.out.size hgr.out.size)⟩;clear hD hL H6 K6 hap hown hrow6 hs36 hrow hz4;go_wp2_with (at_builtin; refine wpList_append_run (.slice a es.length c) (.slice (some ⟨w6.heap.size, 0, none⟩) 1 1) 55 HAP.out rfl _ _ rfl rfl rfl ?_)
      go_roundw
      case rel => exact ⟨i + 1, s2, es ++ [e], a', c', by rw [List.length_append]; rfl, by go_num, by omega, HR.out⟩
      case measure => simp [intOf]; omega
    · have hie : i = l.length := by omega
      have HI : Hid (RI w2 w3 wr b bm s l l.length s1 es a c) := by rw [<-hie]; exact hI.out
      have HCF := hdQ (Chain.facts HG.out HSN.out _ HI.out.ch);have KS : Hid (Calls Tryz.prog 58 #[.pointer (some ⟨b, 0, none⟩)] wr (JnPost s1 s1.recs wr)) := bstate_any HI.out.bk HCF.out.1 (by have := HI.out.n; have := HN.out; omega) (by have := HN.out; omega);clear hie hI;go_wp2_with fail
      refine (Calls.mono KS.out ?_);rintro z w6 ⟨a1, c1, rfl, hII, hc1, hb6⟩;have V2r : Hid (w6.heap[w1.heap.size]? = some (.cells (staArr none 0 ⟨0, ⟨#[]⟩, []⟩) 25 (0, 0))) := (hb6.block _ (Nat.lt_of_lt_of_le (heap_lt V2.out) HI.out.bk.up.size)).trans ((HI.out.bk.up.block _ (heap_lt V2.out)).trans V2.out);have f0 := frozen_of V2r.out 0;have f1 := frozen_of V2r.out 1;have f2 := frozen_of V2r.out 2;obtain ⟨r0, r1, r2⟩ := sta_cells V2r.out;have HII := hdQ hII;have HC1 := hdQ hc1;have HB6 := hdQ hb6;clear hII hc1 hb6;unfold staV;go_wp2_with fail
      have hg6 : w6.grownBy (((w6.setCell ⟨w1.heap.size, 0, none⟩ (.int .u64 s1.serial)).setCell ⟨w1.heap.size, 1, none⟩ (.string s1.lin)).setCell ⟨w1.heap.size, 2, none⟩ (.slice a1 s1.recs.length c1)) (some w1.heap.size) := ((gb_set _ _ _ _).trans (gb_set _ _ _ _)).trans (gb_set _ _ _ _);have hB : Below w.heap.size w w6 := (B02.out.trans (HI.out.bk.up.mono B02.out.size)).trans (HB6.out.mono (Nat.le_trans B02.out.size HI.out.bk.up.size));have hz1 := HZ.out;have hz3 := HB3.out;have hz4 := HI.out.z;have hz5 := HS1.out;refine run_ret s1 (.slice a es.length c) _ _ w1.heap.size a1 c1 _ (set3 (t := s1) V2r.out) rfl rfl ⟨a1, c1, s1, a, c, es, rfl, by have := HI.out.ch; rw [List.take_length] at this; exact this, ⟨?_, by have := HI.out.n; have := HN.out; omega, HCF.out.1.s⟩, ⟨HC1.out, HI.out.n⟩, ?_, hB.grown hg6 hB.size (fun x hx => by injection hx with hx; omega)⟩
      · have ht : Turn w6 (((w6.setCell ⟨w1.heap.size, 0, none⟩ (.int .u64 s1.serial)).setCell ⟨w1.heap.size, 1, none⟩ (.string s1.lin)).setCell ⟨w1.heap.size, 2, none⟩ (.slice a1 s1.recs.length c1)) (fun x => wr.heap.size <= x) (fun _ => True) := ⟨hg6.size, fun x hx hl => ⟨hg6.block x hl (fun e => by injection e with e; omega), trivial⟩⟩;exact IsRecs.turn HII.out ht
      · have hm := HI.out.row.moves (w' := (((w6.setCell ⟨w1.heap.size, 0, none⟩ (.int .u64 s1.serial)).setCell ⟨w1.heap.size, 1, none⟩ (.string s1.lin)).setCell ⟨w1.heap.size, 2, none⟩ (.slice a1 s1.recs.length c1))) (fun g hg => by
          obtain ⟨h1, h2⟩ := World.ownsRow.lt HI.out.row g hg;rw [hg6.block g (Nat.lt_of_lt_of_le h2 HB6.out.size) (fun e => by injection e with e; omega), HB6.out.block g h2])
        obtain ⟨a3, c3, e3, h3, _⟩ := hm.form;injection e3 with e3 _ _
        rw [e3]; exact h3
end Go.Proofs.YtehghladpnpcoaaGreatDoor.State.Edit
