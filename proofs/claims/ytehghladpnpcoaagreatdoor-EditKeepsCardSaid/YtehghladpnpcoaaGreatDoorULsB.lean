/- Rows of elements of several cells, grown by append. -/
import Derived.Test.YtehghladpnpcoaaGreatDoorUStQ
set_option linter.unusedVariables false
set_option linter.unusedSimpArgs false
set_option maxRecDepth 100000
set_option maxHeartbeats 8000000
namespace Go.Proofs.YtehghladpnpcoaaGreatDoor.State
open Go.RowKit Go.Shelf Utf Strs Go.Proofs.YtehghladpnpcoaaGreatDoor.Addr
open Jdec (IsTexts Turn infoStr gb_set gb_below gb_refl)
theorem flatten_len {sz : Nat} : ∀ {L : List (List Value)}, (∀ x ∈ L, x.length = sz) -> L.flatten.length = L.length * sz := by
 intro L
 induction L with
 | nil => intro _; simp
 | cons x t ih =>
  intro h
  rw [List.flatten_cons, List.length_append, h x (by simp), ih (fun y hy => h y (List.mem_cons_of_mem _ hy)), List.length_cons, Nat.add_mul];omega
theorem flatten_get {sz : Nat} : ∀ {L : List (List Value)}, (∀ x ∈ L, x.length = sz) -> ∀ (i : Nat) (h : i < L.length) (j : Nat), j < sz -> L.flatten[i * sz + j]? = L[i][j]? := by
 intro L
 induction L with
 | nil => intro _ i h; cases h
 | cons x t ih =>
  intro hs i h j hj
  have hx := hs x (by simp);rw [List.flatten_cons]
  cases i with
  | zero => rw [List.getElem?_append_left (by omega)]; simp
  | succ i =>
   rw [List.getElem?_append_right (by rw [hx, Nat.add_mul]; omega), hx, show (i + 1) * sz + j - sz = i * sz + j by rw [Nat.add_mul]; omega];exact ih (fun y hy => hs y (List.mem_cons_of_mem _ hy)) i (by simpa using h) j hj
structure Flat (sz : Nat) (L : List (List Value)) : Prop where
 s : ∀ x ∈ L, x.length = sz
 o : ∀ x ∈ L, ∀ u ∈ x, u.oneCell' = true
theorem Flat.nil (sz : Nat) : Flat sz [] := ⟨(fun x h => by cases h), (fun x h => by cases h)⟩
theorem Flat.append {sz : Nat} {L M : List (List Value)} (h : Flat sz L) (h' : Flat sz M) : Flat sz (L ++ M) :=
 ⟨fun x hx => (List.mem_append.1 hx).elim (h.s x) (h'.s x), fun x hx => (List.mem_append.1 hx).elim (h.o x) (h'.o x)⟩
structure RowG (w : World) (B : Nat) (T : TypeId) (sz : Nat) (v : Value) (L : List (List Value)) : Prop where
 o : w.ownsRow B T sz v L.length L.flatten
 f : Flat sz L
theorem RowG.nil (w : World) (B : Nat) (T : TypeId) (sz : Nat) : RowG w B T sz (.slice none 0 0) [] := ⟨World.ownsRow_nil _ _ _ _, Flat.nil sz⟩
def CellsAt (w : World) (ra : Option Addr) (L : List (List Value)) : Prop := L = [] ∨ ∃ b o, ra = some ⟨b, o, none⟩ /\ b < w.heap.size /\ ∀ j u, L.flatten[j]? = some u -> w.cell? ⟨b, o + j, none⟩ = some u
theorem addr_add (b o j : Nat) : (⟨b, o, none⟩ : Addr).add j = ⟨b, o + j, none⟩ := by unfold Addr.add; split <;> simp_all
theorem RowG.form {w : World} {B : Nat} {T : TypeId} {sz : Nat} {v : Value} {L : List (List Value)} (h : RowG w B T sz v L) : ∃ a c, v = .slice a L.length c /\ L.length <= c /\ CellsAt w a L /\ (∀ b o, a = some ⟨b, o, none⟩ -> B <= b) /\ (∀ k, v.ownBlock = some k -> B <= k) := by
 have hlt := World.ownsRow.lt h.o;rcases h.o.2 with ⟨rfl, e0⟩ | ⟨g, cap, cur, rfl, hB, hg, hc, _⟩
 ·refine ⟨none, 0, by rw [e0], by omega, .inl (List.length_eq_zero_iff.1 e0), fun b o e => (by cases e), fun k hk => (hlt k hk).1⟩
 ·refine ⟨_, cap, rfl, hc, .inr ⟨g, 0, rfl, heap_lt hg, fun j u hu => ?_⟩, fun b o e => ?_, fun k hk => (hlt k hk).1⟩
  ·have hj := (List.getElem?_eq_some_iff.1 hu).1;rw [flatten_len h.f.s] at hj;rw [Nat.zero_add, World.ownsRow.cellAt h.o j hj];exact hu
  ·injection e with e; injection e with e; rw [<-e]; exact hB
theorem RowG.kept {w w' : World} {B : Nat} {T : TypeId} {sz : Nat} {v : Value} {L : List (List Value)} {r : Option Nat} (h : RowG w B T sz v L) (hg : w.grownBy w' r) (hr : ∀ b, r = some b -> v.ownBlock ≠ some b) : RowG w' B T sz v L :=
 ⟨World.ownsRow.kept h.o hg (by
  cases hv : v.ownBlock with
  | none => exact .inl rfl
  | some k => exact .inr (fun e => hr k e.symm hv)), h.f⟩
theorem CellsAt.stays {w w' : World} {ra : Option Addr} {L : List (List Value)} (h : CellsAt w ra L) (hb : Below w.heap.size w w') : CellsAt w' ra L := by
 rcases h with h | ⟨b, o, ha, hl, hc⟩
 ·exact .inl h
 ·exact .inr ⟨b, o, ha, Nat.lt_of_lt_of_le hl hb.size, fun j u hu => by rw [cell_blk (hb.block b hl)]; exact hc j u hu⟩
theorem CellsAt.take {w : World} {ra : Option Addr} {L : List (List Value)} (h : CellsAt w ra L) (k : Nat) : CellsAt w ra (L.take k) := by
 rcases h with rfl | ⟨b, o, ha, hl, hc⟩
 ·left; simp
 ·refine .inr ⟨b, o, ha, hl, fun j u hu => hc j u ?_⟩;have e : L.flatten = (L.take k).flatten ++ (L.drop k).flatten := by rw [<-List.flatten_append, List.take_append_drop]
  rw [e, List.getElem?_append_left (List.getElem?_eq_some_iff.1 hu).1];exact hu
theorem CellsAt.drop {w : World} {sz b o : Nat} {L : List (List Value)} (h : CellsAt w (some ⟨b, o, none⟩) L) (hf : Flat sz L) (k : Nat) (hk : k <= L.length) : CellsAt w (some ⟨b, o + k * sz, none⟩) (L.drop k) := by
 rcases h with rfl | ⟨b', o', ha, hl, hc⟩
 ·left; simp
 ·injection ha with ha; injection ha with h1 h2
  subst h1 h2;refine .inr ⟨b, o + k * sz, rfl, hl, fun j u hu => ?_⟩;have e : L.flatten = (L.take k).flatten ++ (L.drop k).flatten := by rw [<-List.flatten_append, List.take_append_drop]
  have hlen : (L.take k).flatten.length = k * sz := by
   rw [flatten_len (sz := sz) (fun x hx => hf.s x (List.mem_of_mem_take hx)), List.length_take, Nat.min_eq_left hk]
  rw [Nat.add_assoc];refine hc (k * sz + j) u ?_;rw [e, List.getElem?_append_right (by omega), hlen, Nat.add_sub_cancel_left];exact hu
theorem CellsAt.rest {w : World} {sz : Nat} {ra : Option Addr} {rc : Nat} {L : List (List Value)} (h : CellsAt w ra L) (hf : Flat sz L) (hc : L.length <= rc) (k : Nat) : CellsAt w (if rc = k then ra else Option.map (fun x => x.add (k * sz)) ra) (L.drop k) := by
 by_cases hk : L.length <= k
 ·rw [List.drop_of_length_le hk]; exact .inl rfl
 ·rw [if_neg (by omega)];rcases h with rfl | ⟨b, o, rfl, hl, hc2⟩
  ·simp at hk
  ·rw [Option.map_some, addr_add];exact CellsAt.drop (.inr ⟨b, o, rfl, hl, hc2⟩) hf k (by omega)
theorem append_none (w : World) (t ty T : TypeId) (i0 : TypeInfo) (ht : Tryz.prog.underlying t = some (.slice T)) (hi : Tryz.prog.info? T = some i0) (a : Option Addr) (n c : Nat) (hc : n <= c) (ra : Option Addr) (rc : Nat) : (Builtin.append_ #[t, t] ty #[.slice a n c, .slice ra 0 rc]).run Tryz.prog w = .ok (.slice a n c) w := by
 cases ra <;> cases a <;> simp [Builtin.append_, run_underlying ht, sizeOf, typeInfo, hi, Builtin.lenOf, Builtin.firstCells, loadCells, loadCellsFrom, hc, storeCells]
theorem append_rows (w : World) (B : Nat) (t ty T : TypeId) (i0 : TypeInfo) (z : Value) (sz by_ : Nat) (ht : Tryz.prog.underlying t = some (.slice T)) (hi : Tryz.prog.info? T = some i0) (hz0 : i0.zero = some z) (hz1 : i0.size = sz) (hz2 : i0.bytes = by_) (hzs : z.cells.size = sz) (hsz : 0 < sz)
  (v : Value) (L M : List (List Value)) (ra : Option Addr) (c : Nat) (h : RowG w B T sz v L) (hM : CellsAt w ra M) (hf : Flat sz M) (hn : (L.length + M.length) * by_ <= 140737488355328) (hn2 : L.length + M.length <= 3000000) (hB : B <= w.heap.size) :
  ∃ v' w', (Builtin.append_ #[t, t] ty #[v, .slice ra M.length c]).run Tryz.prog w = .ok v' w' /\ RowG w' B T sz v' (L ++ M) /\ w.grownBy w' v.ownBlock := by
 by_cases h0 : M = []
 ·subst h0;obtain ⟨a, cc, rfl, hc, _⟩ := h.form;exact ⟨_, w, append_none w t ty T i0 ht hi a _ cc hc ra c, by rw [List.append_nil]; exact h, gb_refl _ _⟩
 ·obtain ⟨b, o, rfl, hb, hc⟩ := hM.resolve_left h0;obtain ⟨v', w', hr, hn, hg, _⟩ := run_append_own (P := Tryz.prog) w B t ty T i0 z sz by_ ht hi hz0 hz1 hz2 hzs hsz v L.length L.flatten h.o ⟨b, o, none⟩ M.length c M.flatten (flatten_len hf.s) (fun j u hu => by rw [addr_add]; exact hc j u hu) (fun u hu => by obtain ⟨x, hx, hux⟩ := List.mem_flatten.1 hu; exact hf.o x hx u hux) (by unfold maxLen; omega) hn hB;refine ⟨v', w', hr, ⟨?_, h.f.append hf⟩, hg⟩;rw [List.length_append, List.flatten_append];exact hn
theorem recL_len (x : At × Rec) : (recL x).length = 9 := by simp [recL, recArr]
theorem flat_recs (ps : List (At × Rec)) : Flat 9 (ps.map recL) :=
 ⟨fun x hx => by obtain ⟨y, _, rfl⟩ := List.mem_map.1 hx; exact recL_len y, fun x hx u hu => by
  obtain ⟨y, _, rfl⟩ := List.mem_map.1 hx;exact recs_one [y] u (by simpa using hu)⟩
structure Recs (w : World) (A : Nat -> Prop) (ps : List (At × Rec)) (l : List Rec) : Prop where
 e : ps.map (·.2) = l
 i : ∀ x ∈ ps, IsRec w A x.1 x.2
theorem recs_of {w : World} {A : Nat -> Prop} {ra : Option Addr} {l : List Rec} (h : IsRecs w A ra l) : ∃ ps, Recs w A ps l /\ CellsAt w ra (ps.map recL) := by
 rcases h with rfl | ⟨b, o, ha, _, hb, f, hc⟩
 ·exact ⟨[], ⟨rfl, fun x hx => by cases hx⟩, .inl rfl⟩
 ·have hlen : (l.mapIdx fun i r => (f i, r)).length = l.length := by simp
  refine ⟨l.mapIdx fun i r => (f i, r), ⟨?_, fun x hx => ?_⟩, .inr ⟨b, o, ha, hb, fun j u hu => ?_⟩⟩
  ·apply List.ext_getElem (by simp)
   intro i h1 h2
   simp
  ·obtain ⟨i, hi, rfl⟩ := List.getElem_of_mem hx;rw [List.getElem_mapIdx];exact (hc i (by simpa using hi)).2
  ·have hj := (List.getElem?_eq_some_iff.1 hu).1;rw [flatten_len (flat_recs _).s, List.length_map, hlen] at hj;have hq : j / 9 < l.length := by omega
   have hm : j % 9 < 9 := Nat.mod_lt _ (by omega);have e : j / 9 * 9 + j % 9 = j := by omega
   have h3 := flatten_get (flat_recs (l.mapIdx fun i r => (f i, r))).s (j / 9) (by rw [List.length_map, hlen]; exact hq) (j % 9) hm;rw [e, hu, List.getElem_map, List.getElem_mapIdx] at h3;have := (hc (j / 9) hq).1 (j % 9) u (by rw [h3]; simp [recL]);rw [<-e, <-Nat.add_assoc];exact this
theorem Recs.turn {w w' : World} {A A' : Nat -> Prop} {ps : List (At × Rec)} {l : List Rec} (h : Recs w A ps l) (t : Turn w w' A A') : Recs w' A' ps l := ⟨h.e, fun x hx => (h.i x hx).turn t⟩
theorem Recs.len {w : World} {A : Nat -> Prop} {ps : List (At × Rec)} {l : List Rec} (h : Recs w A ps l) : ps.length = l.length := by rw [<-h.e, List.length_map]
theorem Recs.append {w : World} {A : Nat -> Prop} {ps qs : List (At × Rec)} {l m : List Rec} (h : Recs w A ps l) (h' : Recs w A qs m) : Recs w A (ps ++ qs) (l ++ m) :=
 ⟨by rw [List.map_append, h.e, h'.e], fun x hx => (List.mem_append.1 hx).elim (h.i x) (h'.i x)⟩
theorem Recs.take {w : World} {A : Nat -> Prop} {ps : List (At × Rec)} {l : List Rec} (h : Recs w A ps l) (k : Nat) : Recs w A (ps.take k) (l.take k) :=
 ⟨by rw [List.map_take, h.e], fun x hx => h.i x (List.mem_of_mem_take hx)⟩
theorem Recs.drop {w : World} {A : Nat -> Prop} {ps : List (At × Rec)} {l : List Rec} (h : Recs w A ps l) (k : Nat) : Recs w A (ps.drop k) (l.drop k) :=
 ⟨by rw [List.map_drop, h.e], fun x hx => h.i x (List.mem_of_mem_drop hx)⟩
theorem recs_in {w : World} {A : Nat -> Prop} {ra : Option Addr} {ps : List (At × Rec)} {l : List Rec} (h : CellsAt w ra (ps.map recL)) (hr : Recs w A ps l) (hA : ∀ b o, ra = some ⟨b, o, none⟩ -> A b) : IsRecs w A ra l := by
 obtain ⟨he, hi⟩ := hr;subst he;rcases h with h | ⟨b, o, ha, hb, hc⟩
 ·left; rw [List.map_eq_nil_iff.1 h]; rfl
 ·refine .inr ⟨b, o, ha, hA b o ha, hb, fun i => (ps.getD i (At.zero, Rec.zero)).1, fun i hi2 => ?_⟩;have hip : i < ps.length := by simpa using hi2
  have hgd : ps.getD i (At.zero, Rec.zero) = ps[i] := by simp [List.getD_eq_getElem?_getD, hip]
  show (∀ j u, (recArr (ps.getD i (At.zero, Rec.zero)).1 (ps.map (·.2))[i])[j]? = some u -> w.cell? ⟨b, o + i * 9 + j, none⟩ = some u) /\ IsRec w A (ps.getD i (At.zero, Rec.zero)).1 (ps.map (·.2))[i];rw [hgd, List.getElem_map];refine ⟨fun j u hu => ?_, hi _ (List.getElem_mem hip)⟩;have hj : j < 9 := by
   have := (Array.getElem?_eq_some_iff.1 hu).1
   simpa [recArr] using this
  rw [Nat.add_assoc];refine hc _ u ?_;rw [flatten_get (flat_recs ps).s i (by rw [List.length_map]; exact hip) j hj, List.getElem_map]
  simpa [recL] using hu
def RowR (w : World) (B : Nat) (A : Nat -> Prop) (v : Value) (l : List Rec) : Prop := ∃ ps, Recs w A ps l /\ RowG w B 38 9 v (ps.map recL)
theorem RowR.nil (w : World) (B : Nat) (A : Nat -> Prop) : RowR w B A (.slice none 0 0) [] := ⟨[], ⟨rfl, fun x h => by cases h⟩, RowG.nil _ _ _ _⟩
theorem RowR.form {w : World} {B : Nat} {A : Nat -> Prop} {v : Value} {l : List Rec} (h : RowR w B A v l) : ∃ a c, v = .slice a l.length c /\ l.length <= c /\ IsRecs w (fun b => A b ∨ B <= b) a l /\ (∀ k, v.ownBlock = some k -> B <= k) := by
 obtain ⟨ps, hr, hg⟩ := h;obtain ⟨a, c, hv, hc, ha, hab, hb⟩ := hg.form;rw [List.length_map, hr.len] at hv hc;exact ⟨a, c, hv, hc, recs_in ha (hr.turn (Turn.mono _ (fun _ h _ => .inl h))) (fun b o e => .inr (hab b o e)), hb⟩
theorem RowR.kept {w w' : World} {B : Nat} {A : Nat -> Prop} {v : Value} {l : List Rec} {r : Option Nat} (h : RowR w B A v l) (hg : w.grownBy w' r) (hr : ∀ b, r = some b -> ¬ A b /\ v.ownBlock ≠ some b) : RowR w' B A v l := by
 obtain ⟨ps, hp, ho⟩ := h;exact ⟨ps, hp.turn ⟨hg.size, fun b hb hl => ⟨hg.block b hl (fun e => (hr b e.symm).1 hb), hb⟩⟩, ho.kept hg (fun b e => (hr b e).2)⟩
theorem RowR.below {w w' : World} {B : Nat} {A : Nat -> Prop} {v : Value} {l : List Rec} (h : RowR w B A v l) (hb : Below w.heap.size w w') : RowR w' B A v l := h.kept (gb_below hb none) (fun b e => by cases e)
theorem append_recs (w : World) (B : Nat) (A : Nat -> Prop) (hA : ∀ b, A b -> b < B) (v : Value) (l m : List Rec) (ps : List (At × Rec)) (ra : Option Addr) (k n q c : Nat) (h : RowR w B A v l) (hp : Recs w A ps m) (hM : CellsAt w ra (ps.map recL)) (hk : l.length = k) (hnm : m.length = n) (hq : k + n = q) (hn : q <= 3000000) (hB : B <= w.heap.size) : ∃ a' c' w', (Builtin.append_ #[23, 23] 23 #[v, .slice ra n c]).run Tryz.prog w = .ok (.slice a' q c') w' /\ Hid (RowR w' B A (.slice a' q c') (l ++ m)) /\ Hid (w.grownBy w' v.ownBlock) /\ Hid (∀ x, v.ownBlock = some x -> B <= x) := by
 subst hk;subst hnm;subst hq;obtain ⟨qs, hq, hg⟩ := h;obtain ⟨i0, hi0, hz0, hz1, hz2⟩ := info_parts infoRec;have e1 : (ps.map recL).length = m.length := by rw [List.length_map, hp.len]
 have e2 : (qs.map recL).length = l.length := by rw [List.length_map, hq.len]
 obtain ⟨v', w', hr, hn, hgr⟩ := append_rows w B 23 23 38 i0 _ 9 144 Tryz.underlying23 hi0 hz0 hz1 hz2 rfl (by decide) v (qs.map recL) (ps.map recL) ra c hg hM (flat_recs ps) (by rw [e1, e2]; omega) (by rw [e1, e2]; exact hn) hB;rw [e1] at hr;obtain ⟨a', c', rfl, _, _, _, hb⟩ := hn.form;have hlen : (qs.map recL ++ ps.map recL).length = l.length + m.length := by rw [List.length_append, e1, e2]
 rw [hlen] at hr hn;have hown : ∀ k, v.ownBlock = some k -> B <= k := by obtain ⟨_, _, _, _, _, _, h⟩ := hg.form; exact h
 have ht : Turn w w' A A := ⟨hgr.size, fun b hb hl => ⟨hgr.block b hl (fun e => by have := hown b e.symm; have := hA b hb; omega), hb⟩⟩;refine ⟨a', c', w', hr, ⟨qs ++ ps, (hq.append hp).turn ht, ?_⟩, hgr, hown⟩;rw [List.map_append];exact hn
def RpPost (A : Nat -> Prop) (l : List Rec) (r : Rec) (w : World) (e : Ending) (w' : World) : Prop := Below w.heap.size w w' /\ ∃ k, Behind l (printA r.a) k ∧
 ∃ a' c', e = .returned (.slice a' (l.length + 1) c') /\ IsRecs w' (fun b => A b ∨ w.heap.size <= b) a' (putR l r k k) /\ l.length + 1 <= c'
theorem rec_cellsAt {w : World} {b : Nat} {p : At} {r : Rec} (h : w.heap[b]? = some (.cells (recArr p r) 38 (0, 0))) : CellsAt w (some ⟨b, 0, none⟩) ([(p, r)].map recL) := by
 refine .inr ⟨b, 0, rfl, heap_lt h, fun j u hu => ?_⟩;rw [Nat.zero_add, cell_of h j]
 simpa [recL] using hu
theorem le_cases {c1 c2 : Bool} (h : false = !(c1 || c2)) : c1 = true ∨ (c1 = false /\ c2 = true) := by cases c1 <;> cases c2 <;> first | (exact .inl rfl) | (exact .inr ⟨rfl, rfl⟩) | (cases h)
theorem le_none {c1 c2 : Bool} (h : true = !(c1 || c2)) : c1 = false /\ c2 = false := by cases c1 <;> cases c2 <;> first | (exact ⟨rfl, rfl⟩) | (cases h)
theorem put_tail (A : Nat -> Prop) (W : World) (hA : ∀ b, A b -> b < W.heap.size) (l : List Rec) (ra : Option Addr) (rc : Nat) (r : Rec) (p : At) (k xb : Nat) (h : RecsAt W ra l) (hc : l.length <= rc) (hL : IsRecs W A ra l) (hi : IsRec W A p r) (hk : k <= l.length) (hx : W.heap[xb]? = some (.cells (recArr p r) 38 (0, 0))) :
  ∃ a1 c1 wA, (Builtin.append_ #[23, 23] 23 #[.slice none 0 0, .slice ra k rc]).run Tryz.prog W = .ok (.slice a1 k c1) wA /\ Hid (wA.heap[xb]? = some (.cells (recArr p r) 38 (0, 0))) ∧
  ∃ wB, wA.alloc (.cells #[.slice p.pa r.a.path.length p.pc, .string r.a.type, .string r.a.name, .int .i64 r.a.key, .int .u64 r.a.place, .string r.a.word, .string r.prov, .string r.id, .slice p.ta r.attrs.length p.tc] 38) = wB ∧
  ∃ a2 c2 wC, (Builtin.append_ #[23, 23] 23 #[.slice a1 k c1, .slice (some ⟨wA.heap.size, 0, none⟩) 1 1]).run Tryz.prog wB = .ok (.slice a2 (k + 1) c2) wC ∧
  ∃ a4, (if rc = k then ra else Option.map (fun x => x.add (k * 9)) ra) = a4 ∧
  ∃ a3 c3 wD, (Builtin.append_ #[23, 23] 23 #[.slice a2 (k + 1) c2, .slice a4 (l.length - k) (rc - k)]).run Tryz.prog wC = .ok (.slice a3 (l.length + 1) c3) wD ∧
  Hid (IsRecs wD (fun b => A b ∨ W.heap.size <= b) a3 (putR l r k k)) /\ Hid (l.length + 1 <= c3) /\ Hid (Below W.heap.size W wD) := by
 have hn := h.n;obtain ⟨ps, hps, hcs⟩ := recs_of hL;have hlen := hps.len;have e1 : (l.take k).length = k := by rw [List.length_take]; omega
 have e2 : (l.drop k).length = l.length - k := List.length_drop;have k1 := hcs.take k;rw [<-List.map_take] at k1;obtain ⟨a1, c1, wA, r1, R1, G1, O1⟩ := append_recs W W.heap.size A hA (.slice none 0 0) [] (l.take k) (ps.take k) ra 0 k k rc (RowR.nil _ _ _) (hps.take k) k1 rfl e1 (by omega) (by omega) (Nat.le_refl _);rw [List.nil_append] at R1;have BA : Below W.heap.size W wA := (Below.refl _ _).grown G1.out (Nat.le_refl _) (fun x hx => by cases hx);obtain ⟨wB, hwB, VB, BB⟩ := rec_new wA p r;have BWB : Below W.heap.size W wB := BA.trans (BB.out.mono BA.size);have hxA : wA.heap[xb]? = some (.cells (recArr p r) 38 (0, 0)) := (BA.block _ (heap_lt hx)).trans hx;have hpr : Recs wB A [(p, r)] [r] := ⟨rfl, fun x hx => by
  rw [List.mem_singleton.1 hx];exact hi.turn ⟨BWB.size, fun b hb hl => ⟨BWB.block b hl, hb⟩⟩⟩
 obtain ⟨a2, c2, wC, r2, R2, G2, O2⟩ := append_recs wB W.heap.size A hA (.slice a1 k c1) (l.take k) [r] [(p, r)] (some ⟨wA.heap.size, 0, none⟩) k 1 (k + 1) 1 (R1.out.below BB.out) hpr (rec_cellsAt VB.out) e1 rfl rfl (by omega) BWB.size;have BC : Below W.heap.size W wC := BWB.grown G2.out BWB.size (fun x hx => O2.out x hx);have k2 := (hcs.stays BC).rest (flat_recs ps) (rc := rc) (by rw [List.length_map, hlen]; exact hc) k;rw [<-List.map_drop] at k2;obtain ⟨a4, ha4⟩ : ∃ q : Option Addr, (if rc = k then ra else Option.map (fun x => x.add (k * 9)) ra) = q := ⟨_, rfl⟩;rw [ha4] at k2;have hpd : Recs wC A (ps.drop k) (l.drop k) := (hps.drop k).turn ⟨BC.size, fun b hb hl => ⟨BC.block b hl, hb⟩⟩;obtain ⟨a3, c3, wD, r3, R3, G3, O3⟩ := append_recs wC W.heap.size A hA (.slice a2 (k + 1) c2) (l.take k ++ [r]) (l.drop k) (ps.drop k) a4 (k + 1) (l.length - k) (l.length + 1) (rc - k) R2.out hpd k2 (by rw [List.length_append, e1]; rfl) e2 (by omega) (by omega) BC.size;have hpt : (l.take k ++ [r]) ++ l.drop k = putR l r k k := by rw [putR, List.append_assoc]; rfl
 have hpl : (putR l r k k).length = l.length + 1 := by rw [<-hpt, List.length_append, List.length_append, e1, e2]; simp; omega
 rw [hpt] at R3;obtain ⟨a, c, hv, hcc, hI, _⟩ := R3.out.form;rw [hpl] at hv hcc;injection hv with h1 _ h2
 subst h1 h2;exact ⟨a1, c1, wA, r1, hxA, wB, hwB, a2, c2, wC, r2, a4, ha4, a3, c3, wD, r3, hI, hcc, BC.grown G3.out BC.size (fun x hx => O3.out x hx)⟩
theorem rput18_any (A : Nat -> Prop) (l : List Rec) (ra : Option Addr) (rc : Nat) (r : Rec) (p : At) (w : World) (h : RecsAt w ra l) (hc : l.length <= rc) (hL : IsRecs w A ra l) (hI : IsRec w A p r) (hs : Small r) : Calls Tryz.prog 51 #[.slice ra l.length rc, recV p r] w (RpPost A l r w) := by
 obtain ⟨w1, hw1, V1, B1⟩ := rec_new w p r;have hl1 := heap_lt V1.out;obtain ⟨q, hq⟩ : ∃ q : ByteArray, (⟨(printA r.a).toArray⟩ : ByteArray) = q := ⟨_, rfl⟩;have HPR := rpr_ok r p w1 ((hI.any).turn (Turn.below B1.out)) hs q hq;have HQ : Hid (printA r.a = q.data.toList) := by rw [Hid, <-hq]
 have HR : Hid (∀ W, Below w1.heap.size w1 W -> RecsAt W ra l) := fun W hb => (h.stays B1.out).stays hb;have HBW : Hid (∀ W, Below w1.heap.size w1 W -> Below w.heap.size w W) := fun W hb => B1.out.trans (hb.mono (by omega));have hL2 : IsRecs w (fun b => A b /\ b < w.heap.size) ra l := hL.turn (Turn.mono _ (fun b h hb => ⟨h, hb⟩));have hI2 : IsRec w (fun b => A b /\ b < w.heap.size) p r := hI.turn (Turn.mono _ (fun b h hb => ⟨h, hb⟩));have HL : Hid (∀ W, Below w1.heap.size w1 W -> IsRecs W (fun b => A b /\ b < w.heap.size) ra l) := fun W hb => hL2.turn ⟨(HBW.out W hb).size, fun b hb2 hl => ⟨(HBW.out W hb).block b hl, hb2⟩⟩;have HI : Hid (∀ W, Below w1.heap.size w1 W -> IsRec W (fun b => A b /\ b < w.heap.size) p r) := fun W hb => hI2.turn ⟨(HBW.out W hb).size, fun b hb2 hl => ⟨(HBW.out W hb).block b hl, hb2⟩⟩;have HLT : Hid (∀ W, Below w1.heap.size w1 W -> ∀ b, A b /\ b < w.heap.size -> b < W.heap.size) := fun W hb b h => by have := (HBW.out W hb).size; omega
 have HKA : Hid (∀ W, Below w1.heap.size w1 W -> W.heap[w.heap.size]? = some (.cells (recArr p r) 38 (0, 0))) := fun W hb => (hb.block _ hl1).trans V1.out;have hn := h.n;obtain ⟨x0, x1, x2, x3, x4, x5, x6, x7, x8⟩ := rec_cells V1.out;unfold recV;clear hq h hI hs hL hL2 hI2;go_enter Tryz.func51, Tryz.ntmps51
 go_wp2_with fail
 refine (Calls.mono HPR.out ?_);rintro z w2 ⟨rfl, hb2⟩;have B2 : Hid (Below w1.heap.size w1 w2) := hb2;clear hb2 HPR hw1;clear x0 x1 x2 x3 x4 x5 x6 x7 x8;go_wp2_with fail
 go_loopw [6] (fun p6 wr => ∃ k : Nat, p6 = .int .i64 k /\ k <= l.length /\ Hid (∀ m (h : m < l.length), m < k -> Op.bytesLess (printA r.a) (printA l[m].a) = false) /\ Hid (Below w1.heap.size w1 wr)) (fun p6 _ => l.length - (intOf p6).toNat)
 case atStart => exact ⟨0, rfl, Nat.zero_le _, fun m _ h => by omega, B2.out⟩
 case round =>
  obtain ⟨k, rfl, hk, hL, hB⟩ := hrel;by_cases hgo : ∃ hk : k < l.length, Op.bytesLess (printA r.a) (printA l[k].a) = false
  ·obtain ⟨hkl, hles⟩ := hgo;obtain ⟨b, o, p2, hra, hb, hcr, hir⟩ := (HR.out wr hB.out).get hkl;have hsm := (HR.out wr hB.out).s _ (List.getElem_mem hkl);have HN : Hid (∀ m (h : m < l.length), m < k + 1 -> Op.bytesLess (printA r.a) (printA l[m].a) = false) := fun m hm hmk => by
    by_cases e : m = k
    ·subst e; exact hles
    ·exact hL.out m hm (by omega)
   obtain ⟨r2, hr2⟩ : ∃ r, l[k] = r := ⟨_, rfl⟩;rw [hr2] at hcr hir hsm hles;obtain ⟨z0, z1, z2, z3, z4, z5, z6, z7, z8⟩ := recs_nine hcr;obtain ⟨q2, hq2⟩ : ∃ q : ByteArray, (⟨(printA r2.a).toArray⟩ : ByteArray) = q := ⟨_, rfl⟩;have HP2 := rpr_ok r2 p2 wr hir hsm q2 hq2;have hsw := less_swap q2.toList q.toList;have he : Op.bytesLess q.toList q2.toList = false := by rw [<-hles, HQ.out, <-hq2, ByteArray.toList_eq, ByteArray.toList_eq]
   rw [he] at hsw;obtain ⟨c1, h1⟩ : ∃ c, Op.bytesLess q2.toList q.toList = c := ⟨_, rfl⟩;obtain ⟨c2, h2⟩ : ∃ c, (q2.toList == q.toList) = c := ⟨_, rfl⟩;rw [h1, h2] at hsw;have t1 : decide ((k : Int) < (l.length : Int)) = true := by rw [dtQ]; omega
   have t2 : decide (k < l.length) = true := by rw [dtQ]; omega
   have hcc := le_cases hsw;rw [hra];clear hcr hir hsm hr2 hq2 he hsw hra hles;have B4 : Hid (Below w1.heap.size w1 wr) := hB.out;rcases hcc with rfl | ⟨rfl, rfl⟩
   all_goals
    go_wp2_with fail
    refine (Calls.mono HP2.out ?_);rintro z w4 ⟨rfl, hb4⟩;have B14 : Hid (Below w1.heap.size w1 w4) := hB.out.trans (hb4.mono hB.out.size);clear hb4 z0 z1 z2 z3 z4 z5 z6 z7 z8;go_wp2_with fail
    go_roundw
    case rel => exact ⟨k + 1, by go_num, by omega, HN.out, B14.out⟩
    case measure => simp [intOf]; omega
  ·have HBE : Hid (Behind l (printA r.a) k) := ⟨hk, hL.out, fun hkl => by
    cases e : Op.bytesLess (printA r.a) (printA l[k].a)
    ·exact absurd ⟨hkl, e⟩ hgo
    ·rfl⟩
   have hcs : (decide ((k : Int) < (l.length : Int)) = false /\ decide (k < l.length) = false) ∨ k < l.length := by
    by_cases e : k < l.length
    ·exact .inr e
    ·exact .inl ⟨by rw [dfQ]; omega, by rw [dfQ]; omega⟩
   clear hgo;rcases hcs with ⟨t1, t2⟩ | hkl
   ·obtain ⟨a1, c1, wA, r1, VA, wB, hwB, a2, c2, wC, r2, a4, ha4, a3, c3, wD, r3, hI, hcc, hBD⟩ := put_tail _ wr (HLT.out wr hB.out) l ra rc r p k w.heap.size (HR.out wr hB.out) hc (HL.out wr hB.out) (HI.out wr hB.out) hk (HKA.out wr hB.out);have HSZ : Hid (w.heap.size <= wr.heap.size) := (HBW.out wr hB.out).size;have HR1 := hdQ r1;have HR2 := hdQ r2;have HR3 := hdQ r3;obtain ⟨x0, x1, x2, x3, x4, x5, x6, x7, x8⟩ := rec_cells VA.out;have hkrc : k <= rc := by omega
    clear r1 r2 r3;go_wp2_with (first
     | (at_builtin; refine wpList_append_run (.slice none 0 0) (.slice ra k rc) 23 HR1.out rfl _ _ rfl rfl rfl ?_)
     | (at_builtin; refine wpList_append_run (.slice a1 k c1) (.slice (some ⟨wA.heap.size, 0, none⟩) 1 1) 23 HR2.out rfl _ _ rfl rfl rfl ?_)
     | (at_builtin; refine wpList_append_run (.slice a2 (k + 1) c2) (.slice a4 (l.length - k) (rc - k)) 23 HR3.out rfl _ _ rfl rfl rfl ?_))
    go_ret
    exact ⟨HBW.out wD (hB.out.trans (hBD.out.mono hB.out.size)), k, HBE.out, a3, c3, rfl, hI.out.turn (Turn.mono _ (fun b h _ => h.elim (fun h => .inl h.1) (fun h => .inr (by have := HSZ.out; omega)))), hcc.out⟩
   ·obtain ⟨b, o, p2, hra, hb, hcr, hir⟩ := (HR.out wr hB.out).get hkl;have hsm := (HR.out wr hB.out).s _ (List.getElem_mem hkl);have hles := HBE.out.hi hkl;obtain ⟨r2, hr2⟩ : ∃ r, l[k] = r := ⟨_, rfl⟩;rw [hr2] at hcr hir hsm hles;obtain ⟨z0, z1, z2, z3, z4, z5, z6, z7, z8⟩ := recs_nine hcr;obtain ⟨q2, hq2⟩ : ∃ q : ByteArray, (⟨(printA r2.a).toArray⟩ : ByteArray) = q := ⟨_, rfl⟩;have HP2 := rpr_ok r2 p2 wr hir hsm q2 hq2;have hsw := less_swap q2.toList q.toList;have he : Op.bytesLess q.toList q2.toList = true := by rw [<-hles, HQ.out, <-hq2, ByteArray.toList_eq, ByteArray.toList_eq]
    rw [he] at hsw;obtain ⟨cc1, h1⟩ : ∃ c, Op.bytesLess q2.toList q.toList = c := ⟨_, rfl⟩;obtain ⟨cc2, h2⟩ : ∃ c, (q2.toList == q.toList) = c := ⟨_, rfl⟩;rw [h1, h2] at hsw;have t1 : decide ((k : Int) < (l.length : Int)) = true := by rw [dtQ]; omega
    have t2 : decide (k < l.length) = true := by rw [dtQ]; omega
    obtain ⟨rfl, rfl⟩ := le_none hsw;have HRA := hdQ hra;subst hra;clear hcr hir hsm hr2 hq2 he hsw hles;go_wp2_with fail
    refine (Calls.mono HP2.out ?_);rintro z w4 ⟨rfl, hb4⟩;have B14 : Hid (Below w1.heap.size w1 w4) := hB.out.trans (hb4.mono hB.out.size);clear hb4 z0 z1 z2 z3 z4 z5 z6 z7 z8;obtain ⟨a1, c1, wA, r1, VA, wB, hwB, a2, c2, wC, rr2, a4, ha4, a3, c3, wD, r3, hI, hcc, hBD⟩ := put_tail _ w4 (HLT.out w4 B14.out) l _ rc r p k w.heap.size (HR.out w4 B14.out) hc (HL.out w4 B14.out) (HI.out w4 B14.out) hk (HKA.out w4 B14.out);have HSZ : Hid (w.heap.size <= w4.heap.size) := (HBW.out w4 B14.out).size;have HR1 := hdQ r1;have HR2 := hdQ rr2;have HR3 := hdQ r3;obtain ⟨x0, x1, x2, x3, x4, x5, x6, x7, x8⟩ := rec_cells VA.out;have hkrc : k <= rc := by omega
    rw [if_neg (by omega), Option.map_some, addr_add] at ha4;subst ha4;clear r1 rr2 r3;go_wp2_with (first
     | (at_builtin; refine wpList_append_run (.slice none 0 0) (.slice (some ⟨b, o, none⟩) k rc) 23 HR1.out rfl _ _ rfl rfl rfl ?_)
     | (at_builtin; refine wpList_append_run (.slice a1 k c1) (.slice (some ⟨wA.heap.size, 0, none⟩) 1 1) 23 HR2.out rfl _ _ rfl rfl rfl ?_)
     | (at_builtin; refine wpList_append_run (.slice a2 (k + 1) c2) (.slice (some ⟨b, o + k * 9, none⟩) (l.length - k) (rc - k)) 23 HR3.out rfl _ _ rfl rfl rfl ?_))
    go_ret
    exact ⟨HBW.out wD (B14.out.trans (hBD.out.mono B14.out.size)), k, HBE.out, a3, c3, rfl, hI.out.turn (Turn.mono _ (fun b h _ => h.elim (fun h => .inl h.1) (fun h => .inr (by have := HSZ.out; omega)))), hcc.out⟩
end Go.Proofs.YtehghladpnpcoaaGreatDoor.State
set_option maxHeartbeats 4000000
namespace Go.Proofs.YtehghladpnpcoaaGreatDoor.State
open Go.RowKit Go.Shelf Utf Strs Go.Proofs.YtehghladpnpcoaaGreatDoor.Addr
open Jdec (IsTexts Turn infoStr gb_set gb_below gb_refl)
def wakeR : Rec := ⟨⟨[], ⟨#[120]⟩, ⟨#[121]⟩, 0, 0, ⟨#[]⟩⟩, ⟨#[]⟩, ⟨#[]⟩, []⟩
theorem wakeR_right : recB wakeR = true := by kernel_rfl
theorem wakeR_small : Small wakeR := ⟨by decide, (fun x h => by cases h), by decide, by decide, by decide, by decide, by decide, by decide, by decide, (fun x h => by cases h), (fun x h => by cases h)⟩
theorem wakeR_good : Good [wakeR] := ⟨fun x h => by rw [List.mem_singleton.1 h]; exact wakeR_right, by simp, fun x h => by rw [List.mem_singleton.1 h]; exact wakeR_small⟩
def GsPost (s : Sta) (w : World) (e : Ending) (w' : World) : Prop := ∃ g : Bool, e = .returned (.bool g) /\ (g = false -> s.recs.length <= 30 /\ s.lin.size <= 1000 /\ ∀ r ∈ s.recs, Small r) /\ Below w.heap.size w w'
theorem GsPost.to {s : Sta} {w w' : World} {e : Ending} (h : GsPost s w e w') : ∃ g : Bool, e = .returned (.bool g) /\ Hid (g = false -> s.recs.length <= 30 /\ s.lin.size <= 1000 /\ ∀ r ∈ s.recs, Small r) /\ Hid (Below w.heap.size w w') := h
theorem gs_ok (s : Sta) (ra : Option Addr) (rc : Nat) (w : World) (h : StaIn w ra s) : Hid (Calls Tryz.prog 11 #[.agg #[.int .u64 s.serial, .string s.lin, .slice ra s.recs.length rc]] w (GsPost s w)) := great18_any s ra rc w h
theorem rr_ok (s : Sta) (ra : Option Addr) (rc : Nat) (w : World) (h : RecsAt w ra s.recs) (hl : s.lin.size <= 6000) (b : Bool) (hb : rightS s = b) : Hid (Calls Tryz.prog 17 #[.agg #[.int .u64 s.serial, .string s.lin, .slice ra s.recs.length rc]] w fun e w' => e = .returned (.bool b) /\ Below w.heap.size w w') := by
 rw [<-hb]; exact rright18_any s ra rc w h hl
theorem sm_ok (s t : Sta) (ra rb : Option Addr) (rc rd : Nat) (w : World) (h : RecsAt w ra s.recs) (h' : RecsAt w rb t.recs) (b : Bool) (hb : sameSta s t = b) : Hid (Calls Tryz.prog 18 #[.agg #[.int .u64 s.serial, .string s.lin, .slice ra s.recs.length rc], .agg #[.int .u64 t.serial, .string t.lin, .slice rb t.recs.length rd]] w fun e w' => e = .returned (.bool b) /\ Below w.heap.size w w') := by
 rw [<-hb]; exact same18_any s t ra rb rc rd w h h'
end Go.Proofs.YtehghladpnpcoaaGreatDoor.State
