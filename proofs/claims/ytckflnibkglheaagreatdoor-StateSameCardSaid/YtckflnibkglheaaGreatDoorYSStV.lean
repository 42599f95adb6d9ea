/- Rows of elements of several cells, grown by append. -/
import Derived.Test.YtckflnibkglheaaGreatDoorYSStJ
import Derived.Test.YtckflnibkglheaaGreatDoorYSStQ
namespace Go.Proofs.YtckflnibkglheaaGreatDoor.State
open Go.RowKit Go.Shelf Go.Proofs.YtckflnibkglheaaGreatDoor.Utf Go.Proofs.YtckflnibkglheaaGreatDoor.Strs Go.Proofs.YtckflnibkglheaaGreatDoor.Addr
open Go.Proofs.YtckflnibkglheaaGreatDoor.Jdec (IsTexts Turn infoStr gb_set gb_below gb_refl)
set_option linter.unusedVariables false
set_option linter.unusedSimpArgs false
set_option maxRecDepth 100000

theorem flatten_len {sz : Nat} : ∀ {L : List (List Value)}, (∀ x ∈ L, x.length = sz) → L.flatten.length = L.length * sz := by
 intro L
 induction L with
 | nil => intro _; simp
 | cons x t ih =>
  intro h
  rw [List.flatten_cons, List.length_append, h x (by simp), ih (fun y hy => h y (List.mem_cons_of_mem _ hy)), List.length_cons, Nat.add_mul]
  omega
theorem flatten_get {sz : Nat} : ∀ {L : List (List Value)}, (∀ x ∈ L, x.length = sz) → ∀ (i : Nat) (h : i < L.length) (j : Nat), j < sz → L.flatten[i * sz + j]? = L[i][j]? := by
 intro L
 induction L with
 | nil => intro _ i h; cases h
 | cons x t ih =>
  intro hs i h j hj
  have hx := hs x (by simp)
  rw [List.flatten_cons]
  cases i with
  | zero => rw [List.getElem?_append_left (by omega)]; simp
  | succ i =>
   rw [List.getElem?_append_right (by rw [hx, Nat.add_mul]; omega), hx, show (i + 1) * sz + j - sz = i * sz + j by rw [Nat.add_mul]; omega]
   exact ih (fun y hy => hs y (List.mem_cons_of_mem _ hy)) i (by simpa using h) j hj
/-- Elements of so many cells each. -/
structure Flat (sz : Nat) (L : List (List Value)) : Prop where
 s : ∀ x ∈ L, x.length = sz
 o : ∀ x ∈ L, ∀ u ∈ x, u.oneCell' = true
theorem Flat.nil (sz : Nat) : Flat sz [] := ⟨(fun x h => by cases h), (fun x h => by cases h)⟩
theorem Flat.append {sz : Nat} {L M : List (List Value)} (h : Flat sz L) (h' : Flat sz M) : Flat sz (L ++ M) :=
 ⟨fun x hx => (List.mem_append.1 hx).elim (h.s x) (h'.s x), fun x hx => (List.mem_append.1 hx).elim (h.o x) (h'.o x)⟩
theorem Flat.sub {sz : Nat} {L M : List (List Value)} (h : Flat sz L) (hs : ∀ x ∈ M, x ∈ L) : Flat sz M := ⟨fun x hx => h.s x (hs x hx), fun x hx => h.o x (hs x hx)⟩
/-- A row of one's own. -/
structure RowG (w : World) (B : Nat) (T : TypeId) (sz : Nat) (v : Value) (L : List (List Value)) : Prop where
 o : w.ownsRow B T sz v L.length L.flatten
 f : Flat sz L
theorem RowG.nil (w : World) (B : Nat) (T : TypeId) (sz : Nat) : RowG w B T sz (.slice none 0 0) [] := ⟨World.ownsRow_nil _ _ _ _, Flat.nil sz⟩
/-- Elements in a block. -/
def CellsAt (w : World) (ra : Option Addr) (L : List (List Value)) : Prop := L = [] ∨ ∃ b o, ra = some ⟨b, o, none⟩ ∧ b < w.heap.size ∧ ∀ j u, L.flatten[j]? = some u → w.cell? ⟨b, o + j, none⟩ = some u
theorem addr_add (b o j : Nat) : (⟨b, o, none⟩ : Addr).add j = ⟨b, o + j, none⟩ := by unfold Addr.add; split <;> simp_all
theorem RowG.form {w : World} {B : Nat} {T : TypeId} {sz : Nat} {v : Value} {L : List (List Value)} (h : RowG w B T sz v L) : ∃ a c, v = .slice a L.length c ∧ L.length ≤ c ∧ CellsAt w a L ∧ (∀ b o, a = some ⟨b, o, none⟩ → B ≤ b) ∧ (∀ k, v.ownBlock = some k → B ≤ k) := by
 have hlt := World.ownsRow.lt h.o
 rcases h.o.2 with ⟨rfl, e0⟩ | ⟨g, cap, cur, rfl, hB, hg, hc, _⟩
 ·refine ⟨none, 0, by rw [e0], by omega, .inl (List.length_eq_zero_iff.1 e0), fun b o e => (by cases e), fun k hk => (hlt k hk).1⟩
 ·refine ⟨_, cap, rfl, hc, .inr ⟨g, 0, rfl, heap_lt hg, fun j u hu => ?_⟩, fun b o e => ?_, fun k hk => (hlt k hk).1⟩
  ·have hj := (List.getElem?_eq_some_iff.1 hu).1
   rw [flatten_len h.f.s] at hj
   rw [Nat.zero_add, World.ownsRow.cellAt h.o j hj]
   exact hu
  ·injection e with e; injection e with e; rw [← e]; exact hB
theorem RowG.kept {w w' : World} {B : Nat} {T : TypeId} {sz : Nat} {v : Value} {L : List (List Value)} {r : Option Nat} (h : RowG w B T sz v L) (hg : w.grownBy w' r) (hr : ∀ b, r = some b → v.ownBlock ≠ some b) : RowG w' B T sz v L :=
 ⟨World.ownsRow.kept h.o hg (by
  cases hv : v.ownBlock with
  | none => exact .inl rfl
  | some k => exact .inr (fun e => hr k e.symm hv)), h.f⟩
theorem RowG.below {w w' : World} {B : Nat} {T : TypeId} {sz : Nat} {v : Value} {L : List (List Value)} (h : RowG w B T sz v L) (hb : Below w.heap.size w w') : RowG w' B T sz v L := h.kept (gb_below hb none) (fun b e => by cases e)
theorem CellsAt.stays {w w' : World} {ra : Option Addr} {L : List (List Value)} (h : CellsAt w ra L) (hb : Below w.heap.size w w') : CellsAt w' ra L := by
 rcases h with h | ⟨b, o, ha, hl, hc⟩
 ·exact .inl h
 ·exact .inr ⟨b, o, ha, Nat.lt_of_lt_of_le hl hb.size, fun j u hu => by rw [cell_blk (hb.block b hl)]; exact hc j u hu⟩
theorem CellsAt.take {w : World} {ra : Option Addr} {L : List (List Value)} (h : CellsAt w ra L) (k : Nat) : CellsAt w ra (L.take k) := by
 rcases h with rfl | ⟨b, o, ha, hl, hc⟩
 ·left; simp
 ·refine .inr ⟨b, o, ha, hl, fun j u hu => hc j u ?_⟩
  have e : L.flatten = (L.take k).flatten ++ (L.drop k).flatten := by rw [← List.flatten_append, List.take_append_drop]
  rw [e, List.getElem?_append_left (List.getElem?_eq_some_iff.1 hu).1]
  exact hu
theorem CellsAt.drop {w : World} {sz b o : Nat} {L : List (List Value)} (h : CellsAt w (some ⟨b, o, none⟩) L) (hf : Flat sz L) (k : Nat) (hk : k ≤ L.length) : CellsAt w (some ⟨b, o + k * sz, none⟩) (L.drop k) := by
 rcases h with rfl | ⟨b', o', ha, hl, hc⟩
 ·left; simp
 ·injection ha with ha; injection ha with h1 h2
  subst h1 h2
  refine .inr ⟨b, o + k * sz, rfl, hl, fun j u hu => ?_⟩
  have e : L.flatten = (L.take k).flatten ++ (L.drop k).flatten := by rw [← List.flatten_append, List.take_append_drop]
  have hlen : (L.take k).flatten.length = k * sz := by
   rw [flatten_len (sz := sz) (fun x hx => hf.s x (List.mem_of_mem_take hx)), List.length_take, Nat.min_eq_left hk]
  rw [Nat.add_assoc]
  refine hc (k * sz + j) u ?_
  rw [e, List.getElem?_append_right (by omega), hlen, Nat.add_sub_cancel_left]
  exact hu
/-- A slice from k on. -/
theorem CellsAt.rest {w : World} {sz : Nat} {ra : Option Addr} {rc : Nat} {L : List (List Value)} (h : CellsAt w ra L) (hf : Flat sz L) (hc : L.length ≤ rc) (k : Nat) : CellsAt w (if rc = k then ra else Option.map (fun x => x.add (k * sz)) ra) (L.drop k) := by
 by_cases hk : L.length ≤ k
 ·rw [List.drop_of_length_le hk]; exact .inl rfl
 ·rw [if_neg (by omega)]
  rcases h with rfl | ⟨b, o, rfl, hl, hc2⟩
  ·simp at hk
  ·rw [Option.map_some, addr_add]
   exact CellsAt.drop (.inr ⟨b, o, rfl, hl, hc2⟩) hf k (by omega)
theorem append_none (w : World) (t ty T : TypeId) (i0 : TypeInfo) (ht : Tryz.prog.underlying t = some (.slice T)) (hi : Tryz.prog.info? T = some i0) (a : Option Addr) (n c : Nat) (hc : n ≤ c) (ra : Option Addr) (rc : Nat) :
  (Builtin.append_ #[t, t] ty #[.slice a n c, .slice ra 0 rc]).run Tryz.prog w = .ok (.slice a n c) w := by
 cases ra <;> cases a <;> simp [Builtin.append_, run_underlying ht, sizeOf, typeInfo, hi, Builtin.lenOf, Builtin.firstCells, loadCells, loadCellsFrom, hc, storeCells]
/-- append, of several at once. -/
theorem append_rows (w : World) (B : Nat) (t ty T : TypeId) (i0 : TypeInfo) (z : Value) (sz by_ : Nat) (ht : Tryz.prog.underlying t = some (.slice T)) (hi : Tryz.prog.info? T = some i0) (hz0 : i0.zero = some z) (hz1 : i0.size = sz) (hz2 : i0.bytes = by_) (hzs : z.cells.size = sz) (hsz : 0 < sz)
  (v : Value) (L M : List (List Value)) (ra : Option Addr) (c : Nat) (h : RowG w B T sz v L) (hM : CellsAt w ra M) (hf : Flat sz M) (hn : (L.length + M.length) * by_ ≤ 140737488355328) (hn2 : L.length + M.length ≤ 3000000) (hB : B ≤ w.heap.size) :
  ∃ v' w', (Builtin.append_ #[t, t] ty #[v, .slice ra M.length c]).run Tryz.prog w = .ok v' w' ∧ RowG w' B T sz v' (L ++ M) ∧ w.grownBy w' v.ownBlock := by
 by_cases h0 : M = []
 ·subst h0
  obtain ⟨a, cc, rfl, hc, _⟩ := h.form
  exact ⟨_, w, append_none w t ty T i0 ht hi a _ cc hc ra c, by rw [List.append_nil]; exact h, gb_refl _ _⟩
 ·obtain ⟨b, o, rfl, hb, hc⟩ := hM.resolve_left h0
  obtain ⟨v', w', hr, hn, hg, _⟩ := run_append_own (P := Tryz.prog) w B t ty T i0 z sz by_ ht hi hz0 hz1 hz2 hzs hsz v L.length L.flatten h.o ⟨b, o, none⟩ M.length c M.flatten (flatten_len hf.s) (fun j u hu => by rw [addr_add]; exact hc j u hu) (fun u hu => by obtain ⟨x, hx, hux⟩ := List.mem_flatten.1 hu; exact hf.o x hx u hux) (by unfold maxLen; omega) hn hB
  refine ⟨v', w', hr, ⟨?_, h.f.append hf⟩, hg⟩
  rw [List.length_append, List.flatten_append]
  exact hn

/-! ## Records -/
theorem recL_len (x : At × Rec) : (recL x).length = 9 := by simp [recL, recArr]
theorem flat_recs (ps : List (At × Rec)) : Flat 9 (ps.map recL) :=
 ⟨fun x hx => by obtain ⟨y, _, rfl⟩ := List.mem_map.1 hx; exact recL_len y, fun x hx u hu => by
  obtain ⟨y, _, rfl⟩ := List.mem_map.1 hx
  exact recs_one [y] u (by simpa using hu)⟩
/-- Records, with where their lists lie; these in blocks of A. -/
structure Recs (w : World) (A : Nat → Prop) (ps : List (At × Rec)) (l : List Rec) : Prop where
 e : ps.map (·.2) = l
 i : ∀ x ∈ ps, IsRec w A x.1 x.2
theorem Recs.turn {w w' : World} {A A' : Nat → Prop} {ps : List (At × Rec)} {l : List Rec} (h : Recs w A ps l) (t : Turn w w' A A') : Recs w' A' ps l := ⟨h.e, fun x hx => (h.i x hx).turn t⟩
theorem Recs.len {w : World} {A : Nat → Prop} {ps : List (At × Rec)} {l : List Rec} (h : Recs w A ps l) : ps.length = l.length := by rw [← h.e, List.length_map]
theorem Recs.append {w : World} {A : Nat → Prop} {ps qs : List (At × Rec)} {l m : List Rec} (h : Recs w A ps l) (h' : Recs w A qs m) : Recs w A (ps ++ qs) (l ++ m) :=
 ⟨by rw [List.map_append, h.e, h'.e], fun x hx => (List.mem_append.1 hx).elim (h.i x) (h'.i x)⟩
theorem Recs.take {w : World} {A : Nat → Prop} {ps : List (At × Rec)} {l : List Rec} (h : Recs w A ps l) (k : Nat) : Recs w A (ps.take k) (l.take k) :=
 ⟨by rw [List.map_take, h.e], fun x hx => h.i x (List.mem_of_mem_take hx)⟩
theorem Recs.drop {w : World} {A : Nat → Prop} {ps : List (At × Rec)} {l : List Rec} (h : Recs w A ps l) (k : Nat) : Recs w A (ps.drop k) (l.drop k) :=
 ⟨by rw [List.map_drop, h.e], fun x hx => h.i x (List.mem_of_mem_drop hx)⟩
theorem recs_in {w : World} {A : Nat → Prop} {ra : Option Addr} {ps : List (At × Rec)} {l : List Rec} (h : CellsAt w ra (ps.map recL)) (hr : Recs w A ps l) (hA : ∀ b o, ra = some ⟨b, o, none⟩ → A b) : IsRecs w A ra l := by
 obtain ⟨he, hi⟩ := hr
 subst he
 rcases h with h | ⟨b, o, ha, hb, hc⟩
 ·left; rw [List.map_eq_nil_iff.1 h]; rfl
 ·refine .inr ⟨b, o, ha, hA b o ha, hb, fun i => (ps.getD i (At.zero, Rec.zero)).1, fun i hi2 => ?_⟩
  have hip : i < ps.length := by simpa using hi2
  have hgd : ps.getD i (At.zero, Rec.zero) = ps[i] := by simp [List.getD_eq_getElem?_getD, hip]
  show (∀ j u, (recArr (ps.getD i (At.zero, Rec.zero)).1 (ps.map (·.2))[i])[j]? = some u → w.cell? ⟨b, o + i * 9 + j, none⟩ = some u) ∧ IsRec w A (ps.getD i (At.zero, Rec.zero)).1 (ps.map (·.2))[i]
  rw [hgd, List.getElem_map]
  refine ⟨fun j u hu => ?_, hi _ (List.getElem_mem hip)⟩
  have hj : j < 9 := by
   have := (Array.getElem?_eq_some_iff.1 hu).1
   simpa [recArr] using this
  rw [Nat.add_assoc]
  refine hc _ u ?_
  rw [flatten_get (flat_recs ps).s i (by rw [List.length_map]; exact hip) j hj, List.getElem_map]
  simpa [recL] using hu
/-- Records in a row of one's own, their lists in blocks of A. -/
def RowR (w : World) (B : Nat) (A : Nat → Prop) (v : Value) (l : List Rec) : Prop := ∃ ps, Recs w A ps l ∧ RowG w B 32 9 v (ps.map recL)
theorem RowR.nil (w : World) (B : Nat) (A : Nat → Prop) : RowR w B A (.slice none 0 0) [] := ⟨[], ⟨rfl, fun x h => by cases h⟩, RowG.nil _ _ _ _⟩
theorem RowR.form {w : World} {B : Nat} {A : Nat → Prop} {v : Value} {l : List Rec} (h : RowR w B A v l) : ∃ a c, v = .slice a l.length c ∧ l.length ≤ c ∧ IsRecs w (fun b => A b ∨ B ≤ b) a l ∧ (∀ k, v.ownBlock = some k → B ≤ k) := by
 obtain ⟨ps, hr, hg⟩ := h
 obtain ⟨a, c, hv, hc, ha, hab, hb⟩ := hg.form
 rw [List.length_map, hr.len] at hv hc
 exact ⟨a, c, hv, hc, recs_in ha (hr.turn (Turn.mono _ (fun _ h _ => .inl h))) (fun b o e => .inr (hab b o e)), hb⟩
theorem RowR.kept {w w' : World} {B : Nat} {A : Nat → Prop} {v : Value} {l : List Rec} {r : Option Nat} (h : RowR w B A v l) (hg : w.grownBy w' r) (hr : ∀ b, r = some b → ¬ A b ∧ v.ownBlock ≠ some b) : RowR w' B A v l := by
 obtain ⟨ps, hp, ho⟩ := h
 exact ⟨ps, hp.turn ⟨hg.size, fun b hb hl => ⟨hg.block b hl (fun e => (hr b e.symm).1 hb), hb⟩⟩, ho.kept hg (fun b e => (hr b e).2)⟩
theorem RowR.below {w w' : World} {B : Nat} {A : Nat → Prop} {v : Value} {l : List Rec} (h : RowR w B A v l) (hb : Below w.heap.size w w') : RowR w' B A v l := h.kept (gb_below hb none) (fun b e => by cases e)
theorem append_recs (w : World) (B : Nat) (A : Nat → Prop) (hA : ∀ b, A b → b < B) (v : Value) (l m : List Rec) (ps : List (At × Rec)) (ra : Option Addr) (k n q c : Nat) (h : RowR w B A v l) (hp : Recs w A ps m) (hM : CellsAt w ra (ps.map recL)) (hk : l.length = k) (hnm : m.length = n) (hq : k + n = q) (hn : q ≤ 3000000) (hB : B ≤ w.heap.size) :
  ∃ a' c' w', (Builtin.append_ #[22, 22] 22 #[v, .slice ra n c]).run Tryz.prog w = .ok (.slice a' q c') w' ∧ Hid (RowR w' B A (.slice a' q c') (l ++ m)) ∧ Hid (w.grownBy w' v.ownBlock) ∧ Hid (∀ x, v.ownBlock = some x → B ≤ x) := by
 subst hk
 subst hnm
 subst hq
 obtain ⟨qs, hq, hg⟩ := h
 obtain ⟨i0, hi0, hz0, hz1, hz2⟩ := info_parts infoRec
 have e1 : (ps.map recL).length = m.length := by rw [List.length_map, hp.len]
 have e2 : (qs.map recL).length = l.length := by rw [List.length_map, hq.len]
 obtain ⟨v', w', hr, hn, hgr⟩ := append_rows w B 22 22 32 i0 _ 9 144 Tryz.underlying22 hi0 hz0 hz1 hz2 rfl (by decide) v (qs.map recL) (ps.map recL) ra c hg hM (flat_recs ps) (by rw [e1, e2]; omega) (by rw [e1, e2]; exact hn) hB
 rw [e1] at hr
 obtain ⟨a', c', rfl, _, _, _, hb⟩ := hn.form
 have hlen : (qs.map recL ++ ps.map recL).length = l.length + m.length := by rw [List.length_append, e1, e2]
 rw [hlen] at hr hn
 have hown : ∀ k, v.ownBlock = some k → B ≤ k := by obtain ⟨_, _, _, _, _, _, h⟩ := hg.form; exact h
 have ht : Turn w w' A A := ⟨hgr.size, fun b hb hl => ⟨hgr.block b hl (fun e => by have := hown b e.symm; have := hA b hb; omega), hb⟩⟩
 refine ⟨a', c', w', hr, ⟨qs ++ ps, (hq.append hp).turn ht, ?_⟩, hgr, hown⟩
 rw [List.map_append]
 exact hn
end Go.Proofs.YtckflnibkglheaaGreatDoor.State
/- tabulariumref18.Drop. -/
namespace Go.Proofs.YtckflnibkglheaaGreatDoor.State
open Go.RowKit Go.Shelf Go.Proofs.YtckflnibkglheaaGreatDoor.Utf Go.Proofs.YtckflnibkglheaaGreatDoor.Strs Go.Proofs.YtckflnibkglheaaGreatDoor.Addr
open Go.Proofs.YtckflnibkglheaaGreatDoor.Jdec (IsTexts Turn infoStr gb_set gb_below gb_refl)
set_option linter.unusedVariables false
set_option linter.unusedSimpArgs false
set_option maxRecDepth 100000

/-- What the document's Drop tells of a record that is there. -/
def RdPost (A : Nat → Prop) (s : Sta) (a : Adr) (w : World) (e : Ending) (w' : World) : Prop := Below w.heap.size w w' ∧ ∃ i : Nat, ∃ h : i < s.recs.length, s.recs[i].a = a ∧
 ∃ a' c', e = .returned (staV a' c' { s with recs := dropR s.recs i }) ∧ IsRecs w' (fun b => A b ∨ w.heap.size ≤ b) a' (dropR s.recs i) ∧ (dropR s.recs i).length ≤ c'
/-- A state in the making at block ob: its records lie in a row of their own. -/
structure DI (A : Nat → Prop) (ob : Nat) (w0 W : World) (s : Sta) (l : List Rec) (a : Option Addr) (c : Nat) : Prop where
 K : W.heap[ob]? = some (.cells (staArr a c { s with recs := l }) 26 (0, 0))
 R : RowR W w0.heap.size A (.slice a l.length c) l
 b : Below w0.heap.size w0 W
 o : w0.heap.size ≤ ob
 h : ∀ b, A b → b < w0.heap.size
theorem DI.stays {A : Nat → Prop} {ob : Nat} {w0 W W' : World} {s : Sta} {l : List Rec} {a : Option Addr} {c : Nat} (h : DI A ob w0 W s l a c) (hb : Below W.heap.size W W') : DI A ob w0 W' s l a c :=
 ⟨(hb.block _ (heap_lt h.K)).trans h.K, h.R.below hb, h.b.trans (hb.mono h.b.size), h.o, h.h⟩
theorem DI.cells {A : Nat → Prop} {ob : Nat} {w0 W : World} {s : Sta} {l : List Rec} {a : Option Addr} {c k : Nat} (h : DI A ob w0 W s l a c) (hk : l.length = k) :
  W.cell? ⟨ob, 0, none⟩ = some (.int .u64 s.serial) ∧ W.cell? ⟨ob, 1, none⟩ = some (.string s.lin) ∧ W.cell? ⟨ob, 2, none⟩ = some (.slice a k c) ∧ W.frozen? ⟨ob, 2, none⟩ = false :=
 ⟨cell_of h.K 0, cell_of h.K 1, by subst hk; exact cell_of h.K 2, frozen_of h.K 2⟩
theorem DI.append {A : Nat → Prop} {ob : Nat} {w0 W : World} {s : Sta} {l : List Rec} {a : Option Addr} {c k : Nat} (h : DI A ob w0 W s l a c) (hk : l.length = k) {m : List Rec} {ps : List (At × Rec)} {ra : Option Addr} {n q : Nat} (rc : Nat)
  (hp : Recs w0 A ps m) (hM : CellsAt w0 ra (ps.map recL)) (hn : m.length = n) (hq : k + n = q) (hq2 : q ≤ 3000000) :
  ∃ a' c' w', (Builtin.append_ #[22, 22] 22 #[.slice a k c, .slice ra n rc]).run Tryz.prog W.drew = .ok (.slice a' q c') w' ∧ Hid (DI A ob w0 (w'.setCell ⟨ob, 2, none⟩ (.slice a' q c')) s (l ++ m) a' c') ∧ Hid (Below w0.heap.size w0 w') ∧
   w'.cell? ⟨ob, 2, none⟩ = some (.slice a k c) ∧ w'.frozen? ⟨ob, 2, none⟩ = false := by
 have hdr : Below W.heap.size W W.drew := (Below.refl _ _).drew
 have hD := h.stays hdr
 have hR := hD.R
 rw [hk] at hR
 have hp2 : Recs W.drew A ps m := hp.turn ⟨hD.b.size, fun b hb hl => ⟨hD.b.block b hl, hb⟩⟩
 obtain ⟨a', c', w', hr, hR', hG, hO⟩ := append_recs W.drew w0.heap.size A h.h (.slice a k c) l m ps ra k n q rc hR hp2 (hM.stays hD.b) hk hn hq hq2 hD.b.size
 have hne : ∀ x, (Value.slice a k c).ownBlock = some x → x ≠ ob := fun x hx e => by
  subst e
  obtain ⟨qs, hq2, hg⟩ := hR
  rcases hg.o.2 with ⟨hv, _⟩ | ⟨g, cap, cur, hv, _, hgb, _⟩
  ·rw [hv] at hx; cases hx
  ·rw [hv] at hx
   simp [Value.ownBlock] at hx
   subst hx
   rw [hD.K] at hgb
   injection hgb with hgb
   injection hgb with _ e2 _
   exact absurd e2 (by decide)
 have hA : w'.heap[ob]? = some (.cells (staArr a c { s with recs := l }) 26 (0, 0)) := (hG.out.block _ (heap_lt hD.K) (fun e => hne ob e.symm rfl)).trans hD.K
 have hlen : (l ++ m).length = q := by rw [List.length_append, hk, hn, hq]
 have hb : Below w0.heap.size w0 w' := hD.b.grown hG.out hD.b.size hO.out
 have hgs := gb_set w' ob 2 (.slice a' q c')
 refine ⟨a', c', w', hr, ⟨?_, ?_, hb.grown hgs hb.size (fun x hx => by injection hx with hx; rw [← hx]; exact h.o), h.o, h.h⟩, hb, ?_, frozen_of hA 2⟩
 ·rw [heap_set_same hA]
  simp [staArr, hlen]
 ·rw [hlen]
  refine hR'.out.kept hgs (fun b e => ?_)
  injection e with e
  subst e
  refine ⟨fun e => by have := h.h _ e; have := h.o; omega, fun e => ?_⟩
  obtain ⟨qs, hq2, hg⟩ := hR'.out
  rcases hg.o.2 with ⟨hv, _⟩ | ⟨g, cap, cur, hv, _, hgb, _⟩
  ·rw [hv] at e; cases e
  ·rw [hv] at e
   simp [Value.ownBlock] at e
   subst e
   rw [hA] at hgb
   injection hgb with hgb
   injection hgb with _ e2 _
   exact absurd e2 (by decide)
 ·rw [cell_of hA 2]
  simp [staArr, hk]
end Go.Proofs.YtckflnibkglheaaGreatDoor.State
/- tabulariumref18.Put. -/
namespace Go.Proofs.YtckflnibkglheaaGreatDoor.State
open Go.RowKit Go.Shelf Go.Proofs.YtckflnibkglheaaGreatDoor.Utf Go.Proofs.YtckflnibkglheaaGreatDoor.Strs Go.Proofs.YtckflnibkglheaaGreatDoor.Addr
open Go.Proofs.YtckflnibkglheaaGreatDoor.Jdec (IsTexts Turn infoStr gb_set gb_below gb_refl)
set_option linter.unusedVariables false
set_option linter.unusedSimpArgs false
set_option maxRecDepth 100000

theorem RdPost.to {A : Nat → Prop} {s : Sta} {a : Adr} {w w' : World} {e : Ending} (h : RdPost A s a w e w') : ∃ (i : Nat) (hi : i < s.recs.length) (l' : List Rec) (a' : Option Addr) (c' : Nat), e = .returned (.agg #[.int .u64 s.serial, .string s.lin, .slice a' l'.length c']) ∧ Hid (s.recs[i].a = a) ∧ Hid (l' = dropR s.recs i) ∧ Hid (IsRecs w' (fun b => A b ∨ w.heap.size ≤ b) a' l') ∧ Hid (l'.length ≤ c') ∧ Hid (Below w.heap.size w w') := by
 obtain ⟨hb, i, hi, e1, a', c', e2, h1, h2⟩ := h
 exact ⟨i, hi, dropR s.recs i, a', c', e2, e1, rfl, h1, h2, hb⟩
theorem rp_ret (s : Sta) (w' : World) (tm : Array Value) (b : Nat) (a : Option Addr) (c : Nat) (Q : Ending → World → Prop) (hb : w'.heap[b]? = some (.cells (staArr a c s) 26 (0, 0))) (h2 : tm[4]? = some (.pointer (some ⟨b, 0, none⟩))) (hq : Q (.returned (staV a c s)) w') :
  bodyPost Tryz.prog Tryz.f24 Q Exit.ret { tmps := tm, defers := [] } w' := by
 obtain ⟨c0, c1, c2⟩ := sta_cells hb
 refine bodyPost_ret (v := staV a c s) ?_ rfl hq
 simp [results, Tryz.results24, go_sem, h2, c0, c1, c2, staV]
end Go.Proofs.YtckflnibkglheaaGreatDoor.State
