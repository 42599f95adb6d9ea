/- Rows of elements of several cells, grown by append. -/
import Derived.Test.YtckflnibkglheaaGreatDoorYPStJ
import Derived.Test.YtckflnibkglheaaGreatDoorYPStQ
namespace Go.Proofs.YtckflnibkglheaaGreatDoor.State
open Go.RowKit Go.Shelf Go.Proofs.YtckflnibkglheaaGreatDoor.Utf Go.Proofs.YtckflnibkglheaaGreatDoor.Strs Go.Proofs.YtckflnibkglheaaGreatDoor.Addr
open Go.Proofs.YtckflnibkglheaaGreatDoor.Jdec (IsTexts Turn infoStr gb_set gb_below gb_refl)
set_option linter.unusedVariables false
set_option linter.unusedSimpArgs false
set_option maxRecDepth 100000

theorem flatten_len {sz : Nat} : ∀ {L : List (List Value)}, (∀ x ∈ L, x.length = sz) → L.flatten.length = L.length * sz := by
 intro L
 induction L with
 | nil => intro _; simp
 | cons x t ih =>
  intro h
  rw [List.flatten_cons, List.length_append, h x (by simp), ih (fun y hy => h y (List.mem_cons_of_mem _ hy)), List.length_cons, Nat.add_mul]
  omega
theorem flatten_get {sz : Nat} : ∀ {L : List (List Value)}, (∀ x ∈ L, x.length = sz) → ∀ (i : Nat) (h : i < L.length) (j : Nat), j < sz → L.flatten[i * sz + j]? = L[i][j]? := by
 intro L
 induction L with
 | nil => intro _ i h; cases h
 | cons x t ih =>
  intro hs i h j hj
  have hx := hs x (by simp)
  rw [List.flatten_cons]
  cases i with
  | zero => rw [List.getElem?_append_left (by omega)]; simp
  | succ i =>
   rw [List.getElem?_append_right (by rw [hx, Nat.add_mul]; omega), hx, show (i + 1) * sz + j - sz = i * sz + j by rw [Nat.add_mul]; omega]
   exact ih (fun y hy => hs y (List.mem_cons_of_mem _ hy)) i (by simpa using h) j hj
/-- Elements of so many cells each. -/
structure Flat (sz : Nat) (L : List (List Value)) : Prop where
 s : ∀ x ∈ L, x.length = sz
 o : ∀ x ∈ L, ∀ u ∈ x, u.oneCell' = true
theorem Flat.nil (sz : Nat) : Flat sz [] := ⟨(fun x h => by cases h), (fun x h => by cases h)⟩
theorem Flat.append {sz : Nat} {L M : List (List Value)} (h : Flat sz L) (h' : Flat sz M) : Flat sz (L ++ M) :=
 ⟨fun x hx => (List.mem_append.1 hx).elim (h.s x) (h'.s x), fun x hx => (List.mem_append.1 hx).elim (h.o x) (h'.o x)⟩
theorem Flat.sub {sz : Nat} {L M : List (List Value)} (h : Flat sz L) (hs : ∀ x ∈ M, x ∈ L) : Flat sz M := ⟨fun x hx => h.s x (hs x hx), fun x hx => h.o x (hs x hx)⟩
/-- A row of one's own. -/
structure RowG (w : World) (B : Nat) (T : TypeId) (sz : Nat) (v : Value) (L : List (List Value)) : Prop where
 o : w.ownsRow B T sz v L.length L.flatten
 f : Flat sz L
theorem RowG.nil (w : World) (B : Nat) (T : TypeId) (sz : Nat) : RowG w B T sz (.slice none 0 0) [] := ⟨World.ownsRow_nil _ _ _ _, Flat.nil sz⟩
/-- Elements in a block. -/
def CellsAt (w : World) (ra : Option Addr) (L : List (List Value)) : Prop := L = [] ∨ ∃ b o, ra = some ⟨b, o, none⟩ ∧ b < w.heap.size ∧ ∀ j u, L.flatten[j]? = some u → w.cell? ⟨b, o + j, none⟩ = some u
theorem addr_add (b o j : Nat) : (⟨b, o, none⟩ : Addr).add j = ⟨b, o + j, none⟩ := by unfold Addr.add; split <;> simp_all
theorem RowG.form {w : World} {B : Nat} {T : TypeId} {sz : Nat} {v : Value} {L : List (List Value)} (h : RowG w B T sz v L) : ∃ a c, v = .slice a L.length c ∧ L.length ≤ c ∧ CellsAt w a L ∧ (∀ b o, a = some ⟨b, o, none⟩ → B ≤ b) ∧ (∀ k, v.ownBlock = some k → B ≤ k) := by
 have hlt := World.ownsRow.lt h.o
 rcases h.o.2 with ⟨rfl, e0⟩ | ⟨g, cap, cur, rfl, hB, hg, hc, _⟩
 ·refine ⟨none, 0, by rw [e0], by omega, .inl (List.length_eq_zero_iff.1 e0), fun b o e => (by cases e), fun k hk => (hlt k hk).1⟩
 ·refine ⟨_, cap, rfl, hc, .inr ⟨g, 0, rfl, heap_lt hg, fun j u hu => ?_⟩, fun b o e => ?_, fun k hk => (hlt k hk).1⟩
  ·have hj := (List.getElem?_eq_some_iff.1 hu).1
   rw [flatten_len h.f.s] at hj
   rw [Nat.zero_add, World.ownsRow.cellAt h.o j hj]
   exact hu
  ·injection e with e; injection e with e; rw [← e]; exact hB
theorem RowG.kept {w w' : World} {B : Nat} {T : TypeId} {sz : Nat} {v : Value} {L : List (List Value)} {r : Option Nat} (h : RowG w B T sz v L) (hg : w.grownBy w' r) (hr : ∀ b, r = some b → v.ownBlock ≠ some b) : RowG w' B T sz v L :=
 ⟨World.ownsRow.kept h.o hg (by
  cases hv : v.ownBlock with
  | none => exact .inl rfl
  | some k => exact .inr (fun e => hr k e.symm hv)), h.f⟩
theorem RowG.below {w w' : World} {B : Nat} {T : TypeId} {sz : Nat} {v : Value} {L : List (List Value)} (h : RowG w B T sz v L) (hb : Below w.heap.size w w') : RowG w' B T sz v L := h.kept (gb_below hb none) (fun b e => by cases e)
theorem CellsAt.stays {w w' : World} {ra : Option Addr} {L : List (List Value)} (h : CellsAt w ra L) (hb : Below w.heap.size w w') : CellsAt w' ra L := by
 rcases h with h | ⟨b, o, ha, hl, hc⟩
 ·exact .inl h
 ·exact .inr ⟨b, o, ha, Nat.lt_of_lt_of_le hl hb.size, fun j u hu => by rw [cell_blk (hb.block b hl)]; exact hc j u hu⟩
theorem CellsAt.take {w : World} {ra : Option Addr} {L : List (List Value)} (h : CellsAt w ra L) (k : Nat) : CellsAt w ra (L.take k) := by
 rcases h with rfl | ⟨b, o, ha, hl, hc⟩
 ·left; simp
 ·refine .inr ⟨b, o, ha, hl, fun j u hu => hc j u ?_⟩
  have e : L.flatten = (L.take k).flatten ++ (L.drop k).flatten := by rw [← List.flatten_append, List.take_append_drop]
  rw [e, List.getElem?_append_left (List.getElem?_eq_some_iff.1 hu).1]
  exact hu
theorem CellsAt.drop {w : World} {sz b o : Nat} {L : List (List Value)} (h : CellsAt w (some ⟨b, o, none⟩) L) (hf : Flat sz L) (k : Nat) (hk : k ≤ L.length) : CellsAt w (some ⟨b, o + k * sz, none⟩) (L.drop k) := by
 rcases h with rfl | ⟨b', o', ha, hl, hc⟩
 ·left; simp
 ·injection ha with ha; injection ha with h1 h2
  subst h1 h2
  refine .inr ⟨b, o + k * sz, rfl, hl, fun j u hu => ?_⟩
  have e : L.flatten = (L.take k).flatten ++ (L.drop k).flatten := by rw [← List.flatten_append, List.take_append_drop]
  have hlen : (L.take k).flatten.length = k * sz := by
   rw [flatten_len (sz := sz) (fun x hx => hf.s x (List.mem_of_mem_take hx)), List.length_take, Nat.min_eq_left hk]
  rw [Nat.add_assoc]
  refine hc (k * sz + j) u ?_
  rw [e, List.getElem?_append_right (by omega), hlen, Nat.add_sub_cancel_left]
  exact hu
/-- A slice from k on. -/
theorem CellsAt.rest {w : World} {sz : Nat} {ra : Option Addr} {rc : Nat} {L : List (List Value)} (h : CellsAt w ra L) (hf : Flat sz L) (hc : L.length ≤ rc) (k : Nat) : CellsAt w (if rc = k then ra else Option.map (fun x => x.add (k * sz)) ra) (L.drop k) := by
 by_cases hk : L.length ≤ k
 ·rw [List.drop_of_length_le hk]; exact .inl rfl
 ·rw [if_neg (by omega)]
  rcases h with rfl | ⟨b, o, rfl, hl, hc2⟩
  ·simp at hk
  ·rw [Option.map_some, addr_add]
   exact CellsAt.drop (.inr ⟨b, o, rfl, hl, hc2⟩) hf k (by omega)
theorem append_none (w : World) (t ty T : TypeId) (i0 : TypeInfo) (ht : Tryz.prog.underlying t = some (.slice T)) (hi : Tryz.prog.info? T = some i0) (a : Option Addr) (n c : Nat) (hc : n ≤ c) (ra : Option Addr) (rc : Nat) :
  (Builtin.append_ #[t, t] ty #[.slice a n c, .slice ra 0 rc]).run Tryz.prog w = .ok (.slice a n c) w := by
 cases ra <;> cases a <;> simp [Builtin.append_, run_underlying ht, sizeOf, typeInfo, hi, Builtin.lenOf, Builtin.firstCells, loadCells, loadCellsFrom, hc, storeCells]
/-- append, of several at once. -/
theorem append_rows (w : World) (B : Nat) (t ty T : TypeId) (i0 : TypeInfo) (z : Value) (sz by_ : Nat) (ht : Tryz.prog.underlying t = some (.slice T)) (hi : Tryz.prog.info? T = some i0) (hz0 : i0.zero = some z) (hz1 : i0.size = sz) (hz2 : i0.bytes = by_) (hzs : z.cells.size = sz) (hsz : 0 < sz)
  (v : Value) (L M : List (List Value)) (ra : Option Addr) (c : Nat) (h : RowG w B T sz v L) (hM : CellsAt w ra M) (hf : Flat sz M) (hn : (L.length + M.length) * by_ ≤ 140737488355328) (hn2 : L.length + M.length ≤ 3000000) (hB : B ≤ w.heap.size) :
  ∃ v' w', (Builtin.append_ #[t, t] ty #[v, .slice ra M.length c]).run Tryz.prog w = .ok v' w' ∧ RowG w' B T sz v' (L ++ M) ∧ w.grownBy w' v.ownBlock := by
 by_cases h0 : M = []
 ·subst h0
  obtain ⟨a, cc, rfl, hc, _⟩ := h.form
  exact ⟨_, w, append_none w t ty T i0 ht hi a _ cc hc ra c, by rw [List.append_nil]; exact h, gb_refl _ _⟩
 ·obtain ⟨b, o, rfl, hb, hc⟩ := hM.resolve_left h0
  obtain ⟨v', w', hr, hn, hg, _⟩ := run_append_own (P := Tryz.prog) w B t ty T i0 z sz by_ ht hi hz0 hz1 hz2 hzs hsz v L.length L.flatten h.o ⟨b, o, none⟩ M.length c M.flatten (flatten_len hf.s) (fun j u hu => by rw [addr_add]; exact hc j u hu) (fun u hu => by obtain ⟨x, hx, hux⟩ := List.mem_flatten.1 hu; exact hf.o x hx u hux) (by unfold maxLen; omega) hn hB
  refine ⟨v', w', hr, ⟨?_, h.f.append hf⟩, hg⟩
  rw [List.length_append, List.flatten_append]
  exact hn

/-! ## Records -/
theorem recL_len (x : At × Rec) : (recL x).length = 9 := by simp [recL, recArr]
theorem flat_recs (ps : List (At × Rec)) : Flat 9 (ps.map recL) :=
 ⟨fun x hx => by obtain ⟨y, _, rfl⟩ := List.mem_map.1 hx; exact recL_len y, fun x hx u hu => by
  obtain ⟨y, _, rfl⟩ := List.mem_map.1 hx
  exact recs_one [y] u (by simpa using hu)⟩
/-- Records, with where their lists lie; these in blocks of A. -/
structure Recs (w : World) (A : Nat → Prop) (ps : List (At × Rec)) (l : List Rec) : Prop where
 e : ps.map (·.2) = l
 i : ∀ x ∈ ps, IsRec w A x.1 x.2
theorem recs_of {w : World} {A : Nat → Prop} {ra : Option Addr} {l : List Rec} (h : IsRecs w A ra l) : ∃ ps, Recs w A ps l ∧ CellsAt w ra (ps.map recL) := by
 rcases h with rfl | ⟨b, o, ha, _, hb, f, hc⟩
 ·exact ⟨[], ⟨rfl, fun x hx => by cases hx⟩, .inl rfl⟩
 ·have hlen : (l.mapIdx fun i r => (f i, r)).length = l.length := by simp
  refine ⟨l.mapIdx fun i r => (f i, r), ⟨?_, fun x hx => ?_⟩, .inr ⟨b, o, ha, hb, fun j u hu => ?_⟩⟩
  ·apply List.ext_getElem (by simp)
   intro i h1 h2
   simp
  ·obtain ⟨i, hi, rfl⟩ := List.getElem_of_mem hx
   rw [List.getElem_mapIdx]
   exact (hc i (by simpa using hi)).2
  ·have hj := (List.getElem?_eq_some_iff.1 hu).1
   rw [flatten_len (flat_recs _).s, List.length_map, hlen] at hj
   have hq : j / 9 < l.length := by omega
   have hm : j % 9 < 9 := Nat.mod_lt _ (by omega)
   have e : j / 9 * 9 + j % 9 = j := by omega
   have h3 := flatten_get (flat_recs (l.mapIdx fun i r => (f i, r))).s (j / 9) (by rw [List.length_map, hlen]; exact hq) (j % 9) hm
   rw [e, hu, List.getElem_map, List.getElem_mapIdx] at h3
   have := (hc (j / 9) hq).1 (j % 9) u (by rw [h3]; simp [recL])
   rw [← e, ← Nat.add_assoc]
   exact this
theorem Recs.turn {w w' : World} {A A' : Nat → Prop} {ps : List (At × Rec)} {l : List Rec} (h : Recs w A ps l) (t : Turn w w' A A') : Recs w' A' ps l := ⟨h.e, fun x hx => (h.i x hx).turn t⟩
theorem Recs.len {w : World} {A : Nat → Prop} {ps : List (At × Rec)} {l : List Rec} (h : Recs w A ps l) : ps.length = l.length := by rw [← h.e, List.length_map]
theorem Recs.append {w : World} {A : Nat → Prop} {ps qs : List (At × Rec)} {l m : List Rec} (h : Recs w A ps l) (h' : Recs w A qs m) : Recs w A (ps ++ qs) (l ++ m) :=
 ⟨by rw [List.map_append, h.e, h'.e], fun x hx => (List.mem_append.1 hx).elim (h.i x) (h'.i x)⟩
theorem Recs.take {w : World} {A : Nat → Prop} {ps : List (At × Rec)} {l : List Rec} (h : Recs w A ps l) (k : Nat) : Recs w A (ps.take k) (l.take k) :=
 ⟨by rw [List.map_take, h.e], fun x hx => h.i x (List.mem_of_mem_take hx)⟩
theorem Recs.drop {w : World} {A : Nat → Prop} {ps : List (At × Rec)} {l : List Rec} (h : Recs w A ps l) (k : Nat) : Recs w A (ps.drop k) (l.drop k) :=
 ⟨by rw [List.map_drop, h.e], fun x hx => h.i x (List.mem_of_mem_drop hx)⟩
theorem recs_in {w : World} {A : Nat → Prop} {ra : Option Addr} {ps : List (At × Rec)} {l : List Rec} (h : CellsAt w ra (ps.map recL)) (hr : Recs w A ps l) (hA : ∀ b o, ra = some ⟨b, o, none⟩ → A b) : IsRecs w A ra l := by
 obtain ⟨he, hi⟩ := hr
 subst he
 rcases h with h | ⟨b, o, ha, hb, hc⟩
 ·left; rw [List.map_eq_nil_iff.1 h]; rfl
 ·refine .inr ⟨b, o, ha, hA b o ha, hb, fun i => (ps.getD i (At.zero, Rec.zero)).1, fun i hi2 => ?_⟩
  have hip : i < ps.length := by simpa using hi2
  have hgd : ps.getD i (At.zero, Rec.zero) = ps[i] := by simp [List.getD_eq_getElem?_getD, hip]
  show (∀ j u, (recArr (ps.getD i (At.zero, Rec.zero)).1 (ps.map (·.2))[i])[j]? = some u → w.cell? ⟨b, o + i * 9 + j, none⟩ = some u) ∧ IsRec w A (ps.getD i (At.zero, Rec.zero)).1 (ps.map (·.2))[i]
  rw [hgd, List.getElem_map]
  refine ⟨fun j u hu => ?_, hi _ (List.getElem_mem hip)⟩
  have hj : j < 9 := by
   have := (Array.getElem?_eq_some_iff.1 hu).1
   simpa [recArr] using this
  rw [Nat.add_assoc]
  refine hc _ u ?_
  rw [flatten_get (flat_recs ps).s i (by rw [List.length_map]; exact hip) j hj, List.getElem_map]
  simpa [recL] using hu
/-- Records in a row of one's own, their lists in blocks of A. -/
def RowR (w : World) (B : Nat) (A : Nat → Prop) (v : Value) (l : List Rec) : Prop := ∃ ps, Recs w A ps l ∧ RowG w B 32 9 v (ps.map recL)
theorem RowR.nil (w : World) (B : Nat) (A : Nat → Prop) : RowR w B A (.slice none 0 0) [] := ⟨[], ⟨rfl, fun x h => by cases h⟩, RowG.nil _ _ _ _⟩
theorem RowR.form {w : World} {B : Nat} {A : Nat → Prop} {v : Value} {l : List Rec} (h : RowR w B A v l) : ∃ a c, v = .slice a l.length c ∧ l.length ≤ c ∧ IsRecs w (fun b => A b ∨ B ≤ b) a l ∧ (∀ k, v.ownBlock = some k → B ≤ k) := by
 obtain ⟨ps, hr, hg⟩ := h
 obtain ⟨a, c, hv, hc, ha, hab, hb⟩ := hg.form
 rw [List.length_map, hr.len] at hv hc
 exact ⟨a, c, hv, hc, recs_in ha (hr.turn (Turn.mono _ (fun _ h _ => .inl h))) (fun b o e => .inr (hab b o e)), hb⟩
theorem RowR.kept {w w' : World} {B : Nat} {A : Nat → Prop} {v : Value} {l : List Rec} {r : Option Nat} (h : RowR w B A v l) (hg : w.grownBy w' r) (hr : ∀ b, r = some b → ¬ A b ∧ v.ownBlock ≠ some b) : RowR w' B A v l := by
 obtain ⟨ps, hp, ho⟩ := h
 exact ⟨ps, hp.turn ⟨hg.size, fun b hb hl => ⟨hg.block b hl (fun e => (hr b e.symm).1 hb), hb⟩⟩, ho.kept hg (fun b e => (hr b e).2)⟩
theorem RowR.below {w w' : World} {B : Nat} {A : Nat → Prop} {v : Value} {l : List Rec} (h : RowR w B A v l) (hb : Below w.heap.size w w') : RowR w' B A v l := h.kept (gb_below hb none) (fun b e => by cases e)
theorem append_recs (w : World) (B : Nat) (A : Nat → Prop) (hA : ∀ b, A b → b < B) (v : Value) (l m : List Rec) (ps : List (At × Rec)) (ra : Option Addr) (k n q c : Nat) (h : RowR w B A v l) (hp : Recs w A ps m) (hM : CellsAt w ra (ps.map recL)) (hk : l.length = k) (hnm : m.length = n) (hq : k + n = q) (hn : q ≤ 3000000) (hB : B ≤ w.heap.size) :
  ∃ a' c' w', (Builtin.append_ #[22, 22] 22 #[v, .slice ra n c]).run Tryz.prog w = .ok (.slice a' q c') w' ∧ Hid (RowR w' B A (.slice a' q c') (l ++ m)) ∧ Hid (w.grownBy w' v.ownBlock) ∧ Hid (∀ x, v.ownBlock = some x → B ≤ x) := by
 subst hk
 subst hnm
 subst hq
 obtain ⟨qs, hq, hg⟩ := h
 obtain ⟨i0, hi0, hz0, hz1, hz2⟩ := info_parts infoRec
 have e1 : (ps.map recL).length = m.length := by rw [List.length_map, hp.len]
 have e2 : (qs.map recL).length = l.length := by rw [List.length_map, hq.len]
 obtain ⟨v', w', hr, hn, hgr⟩ := append_rows w B 22 22 32 i0 _ 9 144 Tryz.underlying22 hi0 hz0 hz1 hz2 rfl (by decide) v (qs.map recL) (ps.map recL) ra c hg hM (flat_recs ps) (by rw [e1, e2]; omega) (by rw [e1, e2]; exact hn) hB
 rw [e1] at hr
 obtain ⟨a', c', rfl, _, _, _, hb⟩ := hn.form
 have hlen : (qs.map recL ++ ps.map recL).length = l.length + m.length := by rw [List.length_append, e1, e2]
 rw [hlen] at hr hn
 have hown : ∀ k, v.ownBlock = some k → B ≤ k := by obtain ⟨_, _, _, _, _, _, h⟩ := hg.form; exact h
 have ht : Turn w w' A A := ⟨hgr.size, fun b hb hl => ⟨hgr.block b hl (fun e => by have := hown b e.symm; have := hA b hb; omega), hb⟩⟩
 refine ⟨a', c', w', hr, ⟨qs ++ ps, (hq.append hp).turn ht, ?_⟩, hgr, hown⟩
 rw [List.map_append]
 exact hn
end Go.Proofs.YtckflnibkglheaaGreatDoor.State
/- tabulariumref18.Find. -/
namespace Go.Proofs.YtckflnibkglheaaGreatDoor.State
open Go.RowKit Go.Shelf Go.Proofs.YtckflnibkglheaaGreatDoor.Utf Go.Proofs.YtckflnibkglheaaGreatDoor.Strs Go.Proofs.YtckflnibkglheaaGreatDoor.Addr
open Go.Proofs.YtckflnibkglheaaGreatDoor.Jdec (IsTexts Turn infoStr gb_set gb_below gb_refl)
set_option linter.unusedVariables false
set_option linter.unusedSimpArgs false
set_option maxRecDepth 100000

/-- What the document's Find tells. -/
def RfPost (l : List Rec) (a : Adr) (w : World) (e : Ending) (w' : World) : Prop := Below w.heap.size w w' ∧
 ((∃ i : Nat, ∃ h : i < l.length, e = .returned (.int .i64 i) ∧ l[i].a = a) ∨ (e = .returned (.int .i64 (-1)) ∧ ∀ x ∈ l, x.a ≠ a))
theorem rsa_ok (r : Rec) (p : At) (a : Adr) (pa : Option Addr) (pc : Nat) (w : World) (h : IsRec w (fun _ => True) p r) (hs : Small r) (ha : AdrAt w pa a) (b : Bool) (hb : sameA r.a a = b) :
  Hid (Calls Tryz.prog 18 #[.agg #[.slice p.pa r.a.path.length p.pc, .string r.a.type, .string r.a.name, .int .i64 r.a.key, .int .u64 r.a.place, .string r.a.word], .agg #[.slice pa a.path.length pc, .string a.type, .string a.name, .int .i64 a.key, .int .u64 a.place, .string a.word]] w fun e w' => e = .returned (.bool b) ∧ Below w.heap.size w w') := by
 rw [← hb]
 exact rsame_any r.a a p.pa pa p.pc pc _ _ w h.path ha.t (Nat.le_trans hs.l (by omega)) (Nat.le_trans ha.l (by omega))
set_option maxHeartbeats 8000000 in
theorem rfind_any (s : Sta) (ra : Option Addr) (rc : Nat) (a : Adr) (pa : Option Addr) (pc : Nat) (w : World) (h : RecsAt w ra s.recs) (ha : AdrAt w pa a) :
  Calls Tryz.prog 29 #[staV ra rc s, wordsA pa pc a] w (RfPost s.recs a w) := by
 obtain ⟨w1, hw1, V1, B1⟩ := sta_new w ra rc s
 obtain ⟨w2, hw2, V2, B2⟩ := adr_new w1 pa pc a
 have hl1 := heap_lt V1.out
 have hl2 := heap_lt V2.out
 have B02 : Hid (Below w.heap.size w w2) := B1.out.trans (B2.out.mono (by omega))
 have V12 : Hid (w2.heap[w.heap.size]? = some (.cells (staArr ra rc s) 26 (0, 0))) := (B2.out.block _ hl1).trans V1.out
 have HR : Hid (∀ W, Below w2.heap.size w2 W → RecsAt W ra s.recs) := fun W hb => (h.stays B02.out).stays hb
 have HA : Hid (∀ W, Below w2.heap.size w2 W → AdrAt W pa a) := fun W hb => (ha.stays B02.out).stays hb
 have HKA : Hid (∀ W, Below w2.heap.size w2 W → W.heap[w.heap.size]? = some (.cells (staArr ra rc s) 26 (0, 0))) := fun W hb => (hb.block _ (by omega)).trans V12.out
 have HKB : Hid (∀ W, Below w2.heap.size w2 W → W.heap[w1.heap.size]? = some (.cells (arrA pa pc a) 29 (0, 0))) := fun W hb => (hb.block _ (by omega)).trans V2.out
 have HBW : Hid (∀ W, Below w2.heap.size w2 W → Below w.heap.size w W) := fun W hb => B02.out.trans (hb.mono B02.out.size)
 have hn := h.n
 obtain ⟨x0, x1, x2⟩ := sta_cells V12.out
 obtain ⟨y0, y1, y2, y3, y4, y5⟩ := adr_cells V2.out
 unfold staV wordsA
 clear h ha
 go_enter Tryz.func29, Tryz.ntmps29
 go_wp2_with fail
 clear hw1 hw2 x0 x1 x2 y0 y1 y2 y3 y4 y5
 go_loopw [5] (fun p5 wr => ∃ i : Nat, p5 = .int .i64 i ∧ i ≤ s.recs.length ∧ Hid (∀ j (h : j < s.recs.length), j < i → s.recs[j].a ≠ a) ∧ Hid (Below w2.heap.size w2 wr)) (fun p5 _ => s.recs.length - (intOf p5).toNat)
 case atStart => exact ⟨0, rfl, Nat.zero_le _, fun j _ h => by omega, Below.refl _ _⟩
 case round =>
  obtain ⟨i, rfl, hi, hI, hB⟩ := hrel
  obtain ⟨x0, x1, x2⟩ := sta_cells (HKA.out wr hB.out)
  by_cases hlt : i < s.recs.length
  ·obtain ⟨b, o, p, hra, hb, hcr, hir⟩ := (HR.out wr hB.out).get hlt
   have hsm := (HR.out wr hB.out).s _ (List.getElem_mem hlt)
   obtain ⟨r, hr⟩ : ∃ r, s.recs[i] = r := ⟨_, rfl⟩
   rw [hr] at hcr hir hsm
   obtain ⟨z0, z1, z2, z3, z4, z5, z6, z7, z8⟩ := recs_nine hcr
   obtain ⟨y0, y1, y2, y3, y4, y5⟩ := adr_cells (HKB.out wr hB.out)
   have HRA := Hid.out (p := Hid _) hra
   have HCR : Hid (∀ W, Below wr.heap.size wr W → ∀ j u, (recArr p r)[j]? = some u → W.cell? ⟨b, o + i * 9 + j, none⟩ = some u) := fun W hW j u hu => by rw [cell_blk (hW.block b hb)]; exact hcr j u hu
   have hdr : Below wr.heap.size wr wr.drew := (Below.refl _ _).drew
   have HDR : Hid (Below wr.heap.size wr wr.drew) := hdr
   have HW : Hid (∀ W, Below wr.heap.size wr W → Below w2.heap.size w2 W) := fun W hW => hB.out.trans (hW.mono hB.out.size)
   obtain ⟨e, he⟩ : ∃ e, sameA r.a a = e := ⟨_, rfl⟩
   have HSM := rsa_ok r p a pa pc wr.drew (hir.turn (Turn.below hdr)) hsm (HA.out _ (HW.out _ hdr)) e he
   have HE : Hid (e = true ↔ s.recs[i].a = a) := by rw [Hid, hr, ← he, sameA_iff]
   rw [hra] at x2
   clear hcr hir hsm hr hra hdr he
   go_wp2_with fail
   go_region_held3 (fun w' => w'.cell? ⟨w.heap.size, 2, none⟩ = some (.slice (some ⟨b, o, none⟩) s.recs.length rc) ∧ w'.cell? ⟨b, o + i * 9, none⟩ = some (.slice p.pa r.a.path.length p.pc) ∧ w'.cell? ⟨b, o + i * 9 + 1, none⟩ = some (.string r.a.type) ∧ w'.cell? ⟨b, o + i * 9 + 2, none⟩ = some (.string r.a.name) ∧ w'.cell? ⟨b, o + i * 9 + 3, none⟩ = some (.int .i64 r.a.key) ∧ w'.cell? ⟨b, o + i * 9 + 4, none⟩ = some (.int .u64 r.a.place) ∧ w'.cell? ⟨b, o + i * 9 + 5, none⟩ = some (.string r.a.word) ∧ w'.cell? ⟨w1.heap.size, 0, none⟩ = some (.slice pa a.path.length pc) ∧ w'.cell? ⟨w1.heap.size, 1, none⟩ = some (.string a.type) ∧ w'.cell? ⟨w1.heap.size, 2, none⟩ = some (.string a.name) ∧ w'.cell? ⟨w1.heap.size, 3, none⟩ = some (.int .i64 a.key) ∧ w'.cell? ⟨w1.heap.size, 4, none⟩ = some (.int .u64 a.place) ∧ w'.cell? ⟨w1.heap.size, 5, none⟩ = some (.string a.word)) (go_keep)
    (first
     | (go_at_call 18; refine (Calls.mono HSM.out ?_); rintro z w4 ⟨rfl, hb4⟩; have B4 : Hid (Below wr.heap.size wr w4) := HDR.out.trans hb4; clear hb4; obtain ⟨as0, as1, as2⟩ := sta_cells (HKA.out w4 (HW.out _ B4.out)); rw [HRA.out] at as2; obtain ⟨az0, az1, az2, az3, az4, az5, az6, az7, az8⟩ := recs_nine (HCR.out w4 B4.out); obtain ⟨ay0, ay1, ay2, ay3, ay4, ay5⟩ := adr_cells (HKB.out w4 (HW.out _ B4.out))))
   all_goals
    cases e
    case true =>
     have HT : Hid (s.recs[i].a = a) := HE.out.1 rfl
     go_wp2_with fail
     go_ret
     exact ⟨HBW.out w4 (HW.out _ B4.out), .inl ⟨i, hlt, rfl, HT.out⟩⟩
    case false =>
     have HN : Hid (∀ j (h : j < s.recs.length), j < i + 1 → s.recs[j].a ≠ a) := fun j hj hji e => by
      by_cases h : j = i
      ·subst h; have := HE.out.2 e; cases this
      ·exact hI.out j hj (by omega) e
     go_wp2_with fail
     go_roundw
     case rel => exact ⟨i + 1, by go_num, by omega, HN.out, HW.out _ B4.out⟩
     case measure => simp [intOf]; omega
  ·have HN : Hid (∀ x ∈ s.recs, x.a ≠ a) := fun x hx => by
    obtain ⟨j, hj, rfl⟩ := List.getElem_of_mem hx
    exact hI.out j hj (by omega)
   go_wp2_with fail
   go_ret
   exact ⟨HBW.out wr hB.out, .inr ⟨rfl, HN.out⟩⟩
end Go.Proofs.YtckflnibkglheaaGreatDoor.State
/- tabulariumref18.Drop. -/
namespace Go.Proofs.YtckflnibkglheaaGreatDoor.State
open Go.RowKit Go.Shelf Go.Proofs.YtckflnibkglheaaGreatDoor.Utf Go.Proofs.YtckflnibkglheaaGreatDoor.Strs Go.Proofs.YtckflnibkglheaaGreatDoor.Addr
open Go.Proofs.YtckflnibkglheaaGreatDoor.Jdec (IsTexts Turn infoStr gb_set gb_below gb_refl)
set_option linter.unusedVariables false
set_option linter.unusedSimpArgs false
set_option maxRecDepth 100000

/-- What the document's Drop tells of a record that is there. -/
def RdPost (A : Nat → Prop) (s : Sta) (a : Adr) (w : World) (e : Ending) (w' : World) : Prop := Below w.heap.size w w' ∧ ∃ i : Nat, ∃ h : i < s.recs.length, s.recs[i].a = a ∧
 ∃ a' c', e = .returned (staV a' c' { s with recs := dropR s.recs i }) ∧ IsRecs w' (fun b => A b ∨ w.heap.size ≤ b) a' (dropR s.recs i) ∧ (dropR s.recs i).length ≤ c'
theorem rf_ok (s : Sta) (ra : Option Addr) (rc : Nat) (a : Adr) (pa : Option Addr) (pc : Nat) (w : World) (h : RecsAt w ra s.recs) (ha : AdrAt w pa a) :
  Hid (Calls Tryz.prog 29 #[.agg #[.int .u64 s.serial, .string s.lin, .slice ra s.recs.length rc], .agg #[.slice pa a.path.length pc, .string a.type, .string a.name, .int .i64 a.key, .int .u64 a.place, .string a.word]] w (RfPost s.recs a w)) := rfind_any s ra rc a pa pc w h ha
theorem rd_ret (s : Sta) (w' : World) (tm : Array Value) (b : Nat) (a : Option Addr) (c : Nat) (Q : Ending → World → Prop) (hb : w'.heap[b]? = some (.cells (staArr a c s) 26 (0, 0))) (h2 : tm[4]? = some (.pointer (some ⟨b, 0, none⟩))) (hq : Q (.returned (staV a c s)) w') :
  bodyPost Tryz.prog Tryz.f30 Q Exit.ret { tmps := tm, defers := [] } w' := by
 obtain ⟨c0, c1, c2⟩ := sta_cells hb
 refine bodyPost_ret (v := staV a c s) ?_ rfl hq
 simp [results, Tryz.results30, go_sem, h2, c0, c1, c2, staV]
/-- A state in the making at block ob: its records lie in a row of their own. -/
structure DI (A : Nat → Prop) (ob : Nat) (w0 W : World) (s : Sta) (l : List Rec) (a : Option Addr) (c : Nat) : Prop where
 K : W.heap[ob]? = some (.cells (staArr a c { s with recs := l }) 26 (0, 0))
 R : RowR W w0.heap.size A (.slice a l.length c) l
 b : Below w0.heap.size w0 W
 o : w0.heap.size ≤ ob
 h : ∀ b, A b → b < w0.heap.size
theorem DI.stays {A : Nat → Prop} {ob : Nat} {w0 W W' : World} {s : Sta} {l : List Rec} {a : Option Addr} {c : Nat} (h : DI A ob w0 W s l a c) (hb : Below W.heap.size W W') : DI A ob w0 W' s l a c :=
 ⟨(hb.block _ (heap_lt h.K)).trans h.K, h.R.below hb, h.b.trans (hb.mono h.b.size), h.o, h.h⟩
theorem DI.cells {A : Nat → Prop} {ob : Nat} {w0 W : World} {s : Sta} {l : List Rec} {a : Option Addr} {c k : Nat} (h : DI A ob w0 W s l a c) (hk : l.length = k) :
  W.cell? ⟨ob, 0, none⟩ = some (.int .u64 s.serial) ∧ W.cell? ⟨ob, 1, none⟩ = some (.string s.lin) ∧ W.cell? ⟨ob, 2, none⟩ = some (.slice a k c) ∧ W.frozen? ⟨ob, 2, none⟩ = false :=
 ⟨cell_of h.K 0, cell_of h.K 1, by subst hk; exact cell_of h.K 2, frozen_of h.K 2⟩
theorem DI.append {A : Nat → Prop} {ob : Nat} {w0 W : World} {s : Sta} {l : List Rec} {a : Option Addr} {c k : Nat} (h : DI A ob w0 W s l a c) (hk : l.length = k) {m : List Rec} {ps : List (At × Rec)} {ra : Option Addr} {n q : Nat} (rc : Nat)
  (hp : Recs w0 A ps m) (hM : CellsAt w0 ra (ps.map recL)) (hn : m.length = n) (hq : k + n = q) (hq2 : q ≤ 3000000) :
  ∃ a' c' w', (Builtin.append_ #[22, 22] 22 #[.slice a k c, .slice ra n rc]).run Tryz.prog W.drew = .ok (.slice a' q c') w' ∧ Hid (DI A ob w0 (w'.setCell ⟨ob, 2, none⟩ (.slice a' q c')) s (l ++ m) a' c') ∧ Hid (Below w0.heap.size w0 w') ∧
   w'.cell? ⟨ob, 2, none⟩ = some (.slice a k c) ∧ w'.frozen? ⟨ob, 2, none⟩ = false := by
 have hdr : Below W.heap.size W W.drew := (Below.refl _ _).drew
 have hD := h.stays hdr
 have hR := hD.R
 rw [hk] at hR
 have hp2 : Recs W.drew A ps m := hp.turn ⟨hD.b.size, fun b hb hl => ⟨hD.b.block b hl, hb⟩⟩
 obtain ⟨a', c', w', hr, hR', hG, hO⟩ := append_recs W.drew w0.heap.size A h.h (.slice a k c) l m ps ra k n q rc hR hp2 (hM.stays hD.b) hk hn hq hq2 hD.b.size
 have hne : ∀ x, (Value.slice a k c).ownBlock = some x → x ≠ ob := fun x hx e => by
  subst e
  obtain ⟨qs, hq2, hg⟩ := hR
  rcases hg.o.2 with ⟨hv, _⟩ | ⟨g, cap, cur, hv, _, hgb, _⟩
  ·rw [hv] at hx; cases hx
  ·rw [hv] at hx
   simp [Value.ownBlock] at hx
   subst hx
   rw [hD.K] at hgb
   injection hgb with hgb
   injection hgb with _ e2 _
   exact absurd e2 (by decide)
 have hA : w'.heap[ob]? = some (.cells (staArr a c { s with recs := l }) 26 (0, 0)) := (hG.out.block _ (heap_lt hD.K) (fun e => hne ob e.symm rfl)).trans hD.K
 have hlen : (l ++ m).length = q := by rw [List.length_append, hk, hn, hq]
 have hb : Below w0.heap.size w0 w' := hD.b.grown hG.out hD.b.size hO.out
 have hgs := gb_set w' ob 2 (.slice a' q c')
 refine ⟨a', c', w', hr, ⟨?_, ?_, hb.grown hgs hb.size (fun x hx => by injection hx with hx; rw [← hx]; exact h.o), h.o, h.h⟩, hb, ?_, frozen_of hA 2⟩
 ·rw [heap_set_same hA]
  simp [staArr, hlen]
 ·rw [hlen]
  refine hR'.out.kept hgs (fun b e => ?_)
  injection e with e
  subst e
  refine ⟨fun e => by have := h.h _ e; have := h.o; omega, fun e => ?_⟩
  obtain ⟨qs, hq2, hg⟩ := hR'.out
  rcases hg.o.2 with ⟨hv, _⟩ | ⟨g, cap, cur, hv, _, hgb, _⟩
  ·rw [hv] at e; cases e
  ·rw [hv] at e
   simp [Value.ownBlock] at e
   subst e
   rw [hA] at hgb
   injection hgb with hgb
   injection hgb with _ e2 _
   exact absurd e2 (by decide)
 ·rw [cell_of hA 2]
  simp [staArr, hk]
set_option maxHeartbeats 8000000 in
theorem rdrop_any (A : Nat → Prop) (s : Sta) (ra : Option Addr) (rc : Nat) (a : Adr) (pa : Option Addr) (pc : Nat) (w : World) (h : RecsAt w ra s.recs) (hc : s.recs.length ≤ rc) (hA : IsRecs w A ra s.recs) (ha : AdrAt w pa a) (hin : ∃ x ∈ s.recs, x.a = a) :
  Calls Tryz.prog 30 #[staV ra rc s, wordsA pa pc a] w (RdPost A s a w) := by
 obtain ⟨w1, hw1, V1, B1⟩ := sta_new w ra rc s
 obtain ⟨w2, hw2, V2, B2⟩ := adr_new w1 pa pc a
 obtain ⟨w3, hw3, V3, B3, Z3⟩ := zsta_new w2
 have hl1 := heap_lt V1.out
 have hl2 := heap_lt V2.out
 have hl3 := heap_lt V3.out
 have B02 : Hid (Below w.heap.size w w2) := B1.out.trans (B2.out.mono (by omega))
 have B03 : Hid (Below w.heap.size w w3) := B02.out.trans (B3.out.mono (by omega))
 have V13 : Hid (w3.heap[w.heap.size]? = some (.cells (staArr ra rc s) 26 (0, 0))) := (B3.out.block _ (by omega)).trans ((B2.out.block _ hl1).trans V1.out)
 have V23 : Hid (w3.heap[w1.heap.size]? = some (.cells (arrA pa pc a) 29 (0, 0))) := (B3.out.block _ hl2).trans V2.out
 have HFI := rf_ok s ra rc a pa pc w3 (h.stays B03.out) (ha.stays B03.out)
 have HH : Hid (∀ W, Below w.heap.size w W → RecsAt W ra s.recs) := fun W hb => h.stays hb
 have HR0 : Hid (IsRecs w (fun b => A b ∧ b < w.heap.size) ra s.recs) := hA.turn (Turn.mono _ (fun b h hb => ⟨h, hb⟩))
 have HIN := Hid.out (p := Hid _) hin
 have hn := h.n
 have HS1 := Hid.out (p := Hid _) B1.out.size
 have HS2 := Hid.out (p := Hid _) B2.out.size
 have HS3 := Hid.out (p := Hid _) B3.out.size
 obtain ⟨x0, x1, x2⟩ := sta_cells V13.out
 obtain ⟨y0, y1, y2, y3, y4, y5⟩ := adr_cells V23.out
 unfold staV wordsA
 clear h ha hin hA
 go_enter Tryz.func30, Tryz.ntmps30
 go_wp2_with fail
 refine (Calls.mono HFI.out ?_)
 rintro z w4 hz
 obtain ⟨hb4, hz⟩ := hz
 rcases hz with ⟨i, hi, rfl, hia⟩ | ⟨_, hno⟩
 case inr => obtain ⟨x, hx, e⟩ := HIN.out; exact absurd e (hno x hx)
 have HIA := Hid.out (p := Hid _) hia
 have B04 : Hid (Below w.heap.size w w4) := B03.out.trans (hb4.mono B03.out.size)
 have V14 : Hid (w4.heap[w.heap.size]? = some (.cells (staArr ra rc s) 26 (0, 0))) := (hb4.block _ (by omega)).trans V13.out
 have V34 : Hid (w4.heap[w2.heap.size]? = some (.cells (staArr none 0 ⟨0, ⟨#[]⟩, []⟩) 26 (0, 0))) := (hb4.block _ hl3).trans V3.out
 clear hb4 hia x0 x1 x2 y0 y1 y2 y3 y4 y5 HFI hw1 hw2 hw3
 obtain ⟨w5, hw5, V5, B5, Z5⟩ := zsta_new w4
 have hl4 := heap_lt V14.out
 have hl34 := heap_lt V34.out
 have hl5 := heap_lt V5.out
 have f50 := frozen_of V5.out 0
 have f51 := frozen_of V5.out 1
 have f52 := frozen_of V5.out 2
 obtain ⟨u0, u1, u2⟩ := sta_cells V5.out
 obtain ⟨w6, hw6⟩ : ∃ w6, (((w5.setCell ⟨w4.heap.size, 0, none⟩ (.int .u64 s.serial)).setCell ⟨w4.heap.size, 1, none⟩ (.string s.lin)).setCell ⟨w4.heap.size, 2, none⟩ (.slice none 0 0)) = w6 := ⟨_, rfl⟩
 have V6 : Hid (w6.heap[w4.heap.size]? = some (.cells (staArr none 0 { s with recs := [] }) 26 (0, 0))) := by rw [← hw6]; exact set3 (t := { s with recs := [] }) V5.out
 have G6 : Hid (w5.grownBy w6 (some w4.heap.size)) := by rw [← hw6]; exact ((gb_set _ _ _ _).trans (gb_set _ _ _ _)).trans (gb_set _ _ _ _)
 have B45 : Hid (Below w4.heap.size w4 w6) := B5.out.grown G6.out B5.out.size (fun k hk => by injection hk with hk; omega)
 have D6 : Hid (DI (fun b => A b ∧ b < w.heap.size) w4.heap.size w4 w6 s [] none 0) := ⟨V6.out, RowR.nil _ _ _, B45.out, Nat.le_refl _, fun b hb => by have := hb.2; have := B04.out.size; omega⟩
 have HR4 : IsRecs w4 (fun b => A b ∧ b < w.heap.size) ra s.recs := HR0.out.turn ⟨B04.out.size, fun b hb hl => ⟨B04.out.block b hl, hb⟩⟩
 obtain ⟨ps, hps, hcs⟩ := recs_of HR4
 have hlen := hps.len
 have c1 := hcs.take i
 rw [← List.map_take] at c1
 have c2 := hcs.rest (flat_recs ps) (rc := rc) (by rw [List.length_map, hlen]; exact hc) (i + 1)
 rw [← List.map_drop] at c2
 have e1 : (s.recs.take i).length = i := by rw [List.length_take]; omega
 have e2 : (s.recs.drop (i + 1)).length = s.recs.length - (i + 1) := List.length_drop
 obtain ⟨q2, hq2⟩ : ∃ q2, i + (s.recs.length - (i + 1)) = q2 := ⟨_, rfl⟩
 obtain ⟨a2, ha2⟩ : ∃ q : Option Addr, (if rc = i + 1 then ra else Option.map (fun x => x.add ((i + 1) * 9)) ra) = q := ⟨_, rfl⟩
 rw [ha2] at c2
 obtain ⟨a3, q3, w7, hap1, D8, B7, y72, f72⟩ := D6.out.append rfl (q := i) rc (hps.take i) c1 e1 (by simp) (by omega)
 rw [List.nil_append] at D8
 simp only [List.length_nil] at y72 hap1
 obtain ⟨w8, hw8⟩ : ∃ w8, w7.setCell ⟨w4.heap.size, 2, none⟩ (.slice a3 i q3) = w8 := ⟨_, rfl⟩
 rw [hw8] at D8
 obtain ⟨a4, q4, w9, hap2, D10, B9, y92, f92⟩ := D8.out.append e1 (rc - (i + 1)) (hps.drop (i + 1)) c2 e2 hq2 (by omega)
 obtain ⟨w10, hw10⟩ : ∃ w10, w9.setCell ⟨w4.heap.size, 2, none⟩ (.slice a4 q2 q4) = w10 := ⟨_, rfl⟩
 rw [hw10] at D10
 have hel : (dropR s.recs i).length = q2 := by rw [dropR, List.length_append, e1, e2, hq2]
 obtain ⟨v0, v1, v2, g2⟩ := D6.out.cells (k := 0) rfl
 have hdr6 : Below w6.heap.size w6 w6.drew := (Below.refl _ _).drew
 have hdr8 : Below w8.heap.size w8 w8.drew := (Below.refl _ _).drew
 obtain ⟨v0d, v1d, v2d, g2d⟩ := (D6.out.stays hdr6).cells (k := 0) rfl
 obtain ⟨v80, v81, v82, g82⟩ := D8.out.cells e1
 obtain ⟨v80d, v81d, v82d, g82d⟩ := (D8.out.stays hdr8).cells e1
 obtain ⟨v100, v101, v102, _⟩ := D10.out.cells hel
 have HAP1 := Hid.out (p := Hid _) hap1
 have HAP2 := Hid.out (p := Hid _) hap2
 obtain ⟨t60, t61, t62⟩ := sta_cells ((D6.out.b.block _ hl4).trans V14.out)
 obtain ⟨t60d, t61d, t62d⟩ := sta_cells (((D6.out.stays hdr6).b.block _ hl4).trans V14.out)
 obtain ⟨t80, t81, t82⟩ := sta_cells ((D8.out.b.block _ hl4).trans V14.out)
 obtain ⟨t80d, t81d, t82d⟩ := sta_cells (((D8.out.stays hdr8).b.block _ hl4).trans V14.out)
 have V310 : Hid (w10.heap[w2.heap.size]? = some (.cells (staArr none 0 ⟨0, ⟨#[]⟩, []⟩) 26 (0, 0))) := (D10.out.b.block _ hl34).trans V34.out
 have f0 := frozen_of V310.out 0
 have f1 := frozen_of V310.out 1
 have f2 := frozen_of V310.out 2
 obtain ⟨k0, k1, k2⟩ := sta_cells V310.out
 obtain ⟨t0, t1, t2⟩ := sta_cells V14.out
 have hirc : i ≤ rc := by omega
 have wi1 : IntKind.i64.wrap ((i : Int) + 1) = ((i + 1 : Nat) : Int) := by rw [IntWalk.i64_in _ (by omega)]; omega
 have hb0 : (0 : Int) ≤ (i : Int) + 1 := by omega
 have hb1 : (i : Int) + 1 ≤ (s.recs.length : Int) := by omega
 have hi1 : i + 1 ≤ s.recs.length := hi
 have hrc1 : i + 1 ≤ rc := by omega
 have HEL := Hid.out (p := Hid _) hel
 have HI := Hid.out (p := Hid _) hi
 have HL34 := Hid.out (p := Hid _) hl34
 clear hap1 hap2 c1 c2 e1 e2 hq2 hel hps hcs HR4 hlen hdr6 hdr8
 go_wp2_with fail
 go_region_law (refine step_append_run _ _ 22 HAP1.out (by rfl) _ _ (by rfl) (by rfl) (by rfl) ?_)
 all_goals
  go_wp2_with fail
  go_region_law (refine step_append_run _ _ 22 HAP2.out (by rfl) _ _ (by rfl) (by rfl) (by rfl) ?_)
  all_goals
   go_wp2_with fail
   have hg : w10.grownBy (((w10.setCell ⟨w2.heap.size, 0, none⟩ (.int .u64 s.serial)).setCell ⟨w2.heap.size, 1, none⟩ (.string s.lin)).setCell ⟨w2.heap.size, 2, none⟩ (.slice a4 q2 q4)) (some w2.heap.size) := ((gb_set _ _ _ _).trans (gb_set _ _ _ _)).trans (gb_set _ _ _ _)
   have hset : (((w10.setCell ⟨w2.heap.size, 0, none⟩ (.int .u64 s.serial)).setCell ⟨w2.heap.size, 1, none⟩ (.string s.lin)).setCell ⟨w2.heap.size, 2, none⟩ (.slice a4 q2 q4)).heap[w2.heap.size]? = some (.cells (staArr a4 q4 { s with recs := dropR s.recs i }) 26 (0, 0)) := by
    have h := set3 (t := { s with recs := dropR s.recs i }) (a' := a4) (c' := q4) V310.out
    rw [show ({ s with recs := dropR s.recs i } : Sta).recs.length = q2 from HEL.out] at h
    exact h
   have B010 : Below w.heap.size w w10 := B04.out.trans (D10.out.b.mono B04.out.size)
   have hsz := B02.out.size
   have hl34 := HL34.out
   have hR10 := D10.out.R
   rw [show (List.take i s.recs ++ List.drop (i + 1) s.recs).length = q2 from HEL.out] at hR10
   obtain ⟨af, cf, hv, hcc, hI, _⟩ := hR10.form
   rw [show (List.take i s.recs ++ List.drop (i + 1) s.recs).length = q2 from HEL.out] at hv
   injection hv with h1 _ h2
   subst h1 h2
   have hI2 := hI.turn (w' := (((w10.setCell ⟨w2.heap.size, 0, none⟩ (.int .u64 s.serial)).setCell ⟨w2.heap.size, 1, none⟩ (.string s.lin)).setCell ⟨w2.heap.size, 2, none⟩ (.slice a4 q2 q4))) (A' := fun b => A b ∨ w.heap.size ≤ b) ⟨hg.size, fun b hb hl => ⟨hg.block b hl (fun e => by injection e with e; rcases hb with hb | hb <;> omega), hb.elim (fun h => .inl h.1) (fun h => .inr (by have := B04.out.size; omega))⟩⟩
   exact rd_ret { s with recs := dropR s.recs i } _ _ w2.heap.size a4 q4 (RdPost A s a w) hset (by rfl) ⟨B010.grown hg B010.size (fun x hx => by injection hx with hx; omega), i, HI.out, HIA.out, a4, q4, rfl, hI2, hcc⟩
end Go.Proofs.YtckflnibkglheaaGreatDoor.State
/- tabulariumref18.put. -/
namespace Go.Proofs.YtckflnibkglheaaGreatDoor.State
open Go.RowKit Go.Shelf Go.Proofs.YtckflnibkglheaaGreatDoor.Utf Go.Proofs.YtckflnibkglheaaGreatDoor.Strs Go.Proofs.YtckflnibkglheaaGreatDoor.Addr
open Go.Proofs.YtckflnibkglheaaGreatDoor.Jdec (IsTexts Turn infoStr gb_set gb_below gb_refl)
set_option linter.unusedVariables false
set_option linter.unusedSimpArgs false
set_option maxRecDepth 100000

/-- What the document's put tells. -/
def RpPost (A : Nat → Prop) (l : List Rec) (r : Rec) (w : World) (e : Ending) (w' : World) : Prop := Below w.heap.size w w' ∧ ∃ k, Behind l (printA r.a) k ∧
 ∃ a' c', e = .returned (.slice a' (l.length + 1) c') ∧ IsRecs w' (fun b => A b ∨ w.heap.size ≤ b) a' (putR l r k k) ∧ l.length + 1 ≤ c'
theorem rec_cellsAt {w : World} {b : Nat} {p : At} {r : Rec} (h : w.heap[b]? = some (.cells (recArr p r) 32 (0, 0))) : CellsAt w (some ⟨b, 0, none⟩) ([(p, r)].map recL) := by
 refine .inr ⟨b, 0, rfl, heap_lt h, fun j u hu => ?_⟩
 rw [Nat.zero_add, cell_of h j]
 simpa [recL] using hu
theorem le_cases {c1 c2 : Bool} (h : false = !(c1 || c2)) : c1 = true ∨ (c1 = false ∧ c2 = true) := by cases c1 <;> cases c2 <;> first | (exact .inl rfl) | (exact .inr ⟨rfl, rfl⟩) | (cases h)
theorem le_none {c1 c2 : Bool} (h : true = !(c1 || c2)) : c1 = false ∧ c2 = false := by cases c1 <;> cases c2 <;> first | (exact ⟨rfl, rfl⟩) | (cases h)
theorem put_tail (A : Nat → Prop) (W : World) (hA : ∀ b, A b → b < W.heap.size) (l : List Rec) (ra : Option Addr) (rc : Nat) (r : Rec) (p : At) (k xb : Nat) (h : RecsAt W ra l) (hc : l.length ≤ rc) (hL : IsRecs W A ra l) (hi : IsRec W A p r) (hk : k ≤ l.length) (hx : W.heap[xb]? = some (.cells (recArr p r) 32 (0, 0))) :
  ∃ a1 c1 wA, (Builtin.append_ #[22, 22] 22 #[.slice none 0 0, .slice ra k rc]).run Tryz.prog W = .ok (.slice a1 k c1) wA ∧ Hid (wA.heap[xb]? = some (.cells (recArr p r) 32 (0, 0))) ∧
  ∃ wB, wA.alloc (.cells #[.slice p.pa r.a.path.length p.pc, .string r.a.type, .string r.a.name, .int .i64 r.a.key, .int .u64 r.a.place, .string r.a.word, .string r.prov, .string r.id, .slice p.ta r.attrs.length p.tc] 32) = wB ∧
  ∃ a2 c2 wC, (Builtin.append_ #[22, 22] 22 #[.slice a1 k c1, .slice (some ⟨wA.heap.size, 0, none⟩) 1 1]).run Tryz.prog wB = .ok (.slice a2 (k + 1) c2) wC ∧
  ∃ a4, (if rc = k then ra else Option.map (fun x => x.add (k * 9)) ra) = a4 ∧
  ∃ a3 c3 wD, (Builtin.append_ #[22, 22] 22 #[.slice a2 (k + 1) c2, .slice a4 (l.length - k) (rc - k)]).run Tryz.prog wC = .ok (.slice a3 (l.length + 1) c3) wD ∧
  Hid (IsRecs wD (fun b => A b ∨ W.heap.size ≤ b) a3 (putR l r k k)) ∧ Hid (l.length + 1 ≤ c3) ∧ Hid (Below W.heap.size W wD) := by
 have hn := h.n
 obtain ⟨ps, hps, hcs⟩ := recs_of hL
 have hlen := hps.len
 have e1 : (l.take k).length = k := by rw [List.length_take]; omega
 have e2 : (l.drop k).length = l.length - k := List.length_drop
 have k1 := hcs.take k
 rw [← List.map_take] at k1
 obtain ⟨a1, c1, wA, r1, R1, G1, O1⟩ := append_recs W W.heap.size A hA (.slice none 0 0) [] (l.take k) (ps.take k) ra 0 k k rc (RowR.nil _ _ _) (hps.take k) k1 rfl e1 (by omega) (by omega) (Nat.le_refl _)
 rw [List.nil_append] at R1
 have BA : Below W.heap.size W wA := (Below.refl _ _).grown G1.out (Nat.le_refl _) (fun x hx => by cases hx)
 obtain ⟨wB, hwB, VB, BB⟩ := rec_new wA p r
 have BWB : Below W.heap.size W wB := BA.trans (BB.out.mono BA.size)
 have hxA : wA.heap[xb]? = some (.cells (recArr p r) 32 (0, 0)) := (BA.block _ (heap_lt hx)).trans hx
 have hpr : Recs wB A [(p, r)] [r] := ⟨rfl, fun x hx => by
  rw [List.mem_singleton.1 hx]
  exact hi.turn ⟨BWB.size, fun b hb hl => ⟨BWB.block b hl, hb⟩⟩⟩
 obtain ⟨a2, c2, wC, r2, R2, G2, O2⟩ := append_recs wB W.heap.size A hA (.slice a1 k c1) (l.take k) [r] [(p, r)] (some ⟨wA.heap.size, 0, none⟩) k 1 (k + 1) 1 (R1.out.below BB.out) hpr (rec_cellsAt VB.out) e1 rfl rfl (by omega) BWB.size
 have BC : Below W.heap.size W wC := BWB.grown G2.out BWB.size (fun x hx => O2.out x hx)
 have k2 := (hcs.stays BC).rest (flat_recs ps) (rc := rc) (by rw [List.length_map, hlen]; exact hc) k
 rw [← List.map_drop] at k2
 obtain ⟨a4, ha4⟩ : ∃ q : Option Addr, (if rc = k then ra else Option.map (fun x => x.add (k * 9)) ra) = q := ⟨_, rfl⟩
 rw [ha4] at k2
 have hpd : Recs wC A (ps.drop k) (l.drop k) := (hps.drop k).turn ⟨BC.size, fun b hb hl => ⟨BC.block b hl, hb⟩⟩
 obtain ⟨a3, c3, wD, r3, R3, G3, O3⟩ := append_recs wC W.heap.size A hA (.slice a2 (k + 1) c2) (l.take k ++ [r]) (l.drop k) (ps.drop k) a4 (k + 1) (l.length - k) (l.length + 1) (rc - k) R2.out hpd k2 (by rw [List.length_append, e1]; rfl) e2 (by omega) (by omega) BC.size
 have hpt : (l.take k ++ [r]) ++ l.drop k = putR l r k k := by rw [putR, List.append_assoc]; rfl
 have hpl : (putR l r k k).length = l.length + 1 := by rw [← hpt, List.length_append, List.length_append, e1, e2]; simp; omega
 rw [hpt] at R3
 obtain ⟨a, c, hv, hcc, hI, _⟩ := R3.out.form
 rw [hpl] at hv hcc
 injection hv with h1 _ h2
 subst h1 h2
 exact ⟨a1, c1, wA, r1, hxA, wB, hwB, a2, c2, wC, r2, a4, ha4, a3, c3, wD, r3, hI, hcc, BC.grown G3.out BC.size (fun x hx => O3.out x hx)⟩
set_option maxHeartbeats 8000000 in
theorem rput18_any (A : Nat → Prop) (l : List Rec) (ra : Option Addr) (rc : Nat) (r : Rec) (p : At) (w : World) (h : RecsAt w ra l) (hc : l.length ≤ rc) (hL : IsRecs w A ra l) (hI : IsRec w A p r) (hs : Small r) :
  Calls Tryz.prog 56 #[.slice ra l.length rc, recV p r] w (RpPost A l r w) := by
 obtain ⟨w1, hw1, V1, B1⟩ := rec_new w p r
 have hl1 := heap_lt V1.out
 obtain ⟨q, hq⟩ : ∃ q : ByteArray, (⟨(printA r.a).toArray⟩ : ByteArray) = q := ⟨_, rfl⟩
 have HPR := rpr_ok r p w1 ((hI.any).turn (Turn.below B1.out)) hs q hq
 have HQ : Hid (printA r.a = q.data.toList) := by rw [Hid, ← hq]
 have HR : Hid (∀ W, Below w1.heap.size w1 W → RecsAt W ra l) := fun W hb => (h.stays B1.out).stays hb
 have HBW : Hid (∀ W, Below w1.heap.size w1 W → Below w.heap.size w W) := fun W hb => B1.out.trans (hb.mono (by omega))
 have hL2 : IsRecs w (fun b => A b ∧ b < w.heap.size) ra l := hL.turn (Turn.mono _ (fun b h hb => ⟨h, hb⟩))
 have hI2 : IsRec w (fun b => A b ∧ b < w.heap.size) p r := hI.turn (Turn.mono _ (fun b h hb => ⟨h, hb⟩))
 have HL : Hid (∀ W, Below w1.heap.size w1 W → IsRecs W (fun b => A b ∧ b < w.heap.size) ra l) := fun W hb => hL2.turn ⟨(HBW.out W hb).size, fun b hb2 hl => ⟨(HBW.out W hb).block b hl, hb2⟩⟩
 have HI : Hid (∀ W, Below w1.heap.size w1 W → IsRec W (fun b => A b ∧ b < w.heap.size) p r) := fun W hb => hI2.turn ⟨(HBW.out W hb).size, fun b hb2 hl => ⟨(HBW.out W hb).block b hl, hb2⟩⟩
 have HLT : Hid (∀ W, Below w1.heap.size w1 W → ∀ b, A b ∧ b < w.heap.size → b < W.heap.size) := fun W hb b h => by have := (HBW.out W hb).size; omega
 have HKA : Hid (∀ W, Below w1.heap.size w1 W → W.heap[w.heap.size]? = some (.cells (recArr p r) 32 (0, 0))) := fun W hb => (hb.block _ hl1).trans V1.out
 have hn := h.n
 obtain ⟨x0, x1, x2, x3, x4, x5, x6, x7, x8⟩ := rec_cells V1.out
 unfold recV
 clear hq h hI hs hL hL2 hI2
 go_enter Tryz.func56, Tryz.ntmps56
 go_wp2_with fail
 refine (Calls.mono HPR.out ?_)
 rintro z w2 ⟨rfl, hb2⟩
 have B2 : Hid (Below w1.heap.size w1 w2) := hb2
 clear hb2 HPR hw1
 clear x0 x1 x2 x3 x4 x5 x6 x7 x8
 go_wp2_with fail
 go_loopw [6] (fun p6 wr => ∃ k : Nat, p6 = .int .i64 k ∧ k ≤ l.length ∧ Hid (∀ m (h : m < l.length), m < k → Op.bytesLess (printA r.a) (printA l[m].a) = false) ∧ Hid (Below w1.heap.size w1 wr)) (fun p6 _ => l.length - (intOf p6).toNat)
 case atStart => exact ⟨0, rfl, Nat.zero_le _, fun m _ h => by omega, B2.out⟩
 case round =>
  obtain ⟨k, rfl, hk, hL, hB⟩ := hrel
  by_cases hgo : ∃ hk : k < l.length, Op.bytesLess (printA r.a) (printA l[k].a) = false
  ·obtain ⟨hkl, hles⟩ := hgo
   obtain ⟨b, o, p2, hra, hb, hcr, hir⟩ := (HR.out wr hB.out).get hkl
   have hsm := (HR.out wr hB.out).s _ (List.getElem_mem hkl)
   have HN : Hid (∀ m (h : m < l.length), m < k + 1 → Op.bytesLess (printA r.a) (printA l[m].a) = false) := fun m hm hmk => by
    by_cases e : m = k
    ·subst e; exact hles
    ·exact hL.out m hm (by omega)
   obtain ⟨r2, hr2⟩ : ∃ r, l[k] = r := ⟨_, rfl⟩
   rw [hr2] at hcr hir hsm hles
   obtain ⟨z0, z1, z2, z3, z4, z5, z6, z7, z8⟩ := recs_nine hcr
   obtain ⟨q2, hq2⟩ : ∃ q : ByteArray, (⟨(printA r2.a).toArray⟩ : ByteArray) = q := ⟨_, rfl⟩
   have HP2 := rpr_ok r2 p2 wr hir hsm q2 hq2
   have hsw := less_swap q2.toList q.toList
   have he : Op.bytesLess q.toList q2.toList = false := by rw [← hles, HQ.out, ← hq2, ByteArray.toList_eq, ByteArray.toList_eq]
   rw [he] at hsw
   obtain ⟨c1, h1⟩ : ∃ c, Op.bytesLess q2.toList q.toList = c := ⟨_, rfl⟩
   obtain ⟨c2, h2⟩ : ∃ c, (q2.toList == q.toList) = c := ⟨_, rfl⟩
   rw [h1, h2] at hsw
   have t1 : decide ((k : Int) < (l.length : Int)) = true := by rw [decide_eq_true_eq]; omega
   have t2 : decide (k < l.length) = true := by rw [decide_eq_true_eq]; omega
   have hcc := le_cases hsw
   rw [hra]
   clear hcr hir hsm hr2 hq2 he hsw hra hles
   have B4 : Hid (Below w1.heap.size w1 wr) := hB.out
   rcases hcc with rfl | ⟨rfl, rfl⟩
   all_goals
    go_wp2_with fail
    refine (Calls.mono HP2.out ?_)
    rintro z w4 ⟨rfl, hb4⟩
    have B14 : Hid (Below w1.heap.size w1 w4) := hB.out.trans (hb4.mono hB.out.size)
    clear hb4 z0 z1 z2 z3 z4 z5 z6 z7 z8
    go_wp2_with fail
    go_roundw
    case rel => exact ⟨k + 1, by go_num, by omega, HN.out, B14.out⟩
    case measure => simp [intOf]; omega
  ·have HBE : Hid (Behind l (printA r.a) k) := ⟨hk, hL.out, fun hkl => by
    cases e : Op.bytesLess (printA r.a) (printA l[k].a)
    ·exact absurd ⟨hkl, e⟩ hgo
    ·rfl⟩
   have hcs : (decide ((k : Int) < (l.length : Int)) = false ∧ decide (k < l.length) = false) ∨ k < l.length := by
    by_cases e : k < l.length
    ·exact .inr e
    ·exact .inl ⟨by rw [decide_eq_false_iff_not]; omega, by rw [decide_eq_false_iff_not]; omega⟩
   clear hgo
   rcases hcs with ⟨t1, t2⟩ | hkl
   ·obtain ⟨a1, c1, wA, r1, VA, wB, hwB, a2, c2, wC, r2, a4, ha4, a3, c3, wD, r3, hI, hcc, hBD⟩ := put_tail _ wr (HLT.out wr hB.out) l ra rc r p k w.heap.size (HR.out wr hB.out) hc (HL.out wr hB.out) (HI.out wr hB.out) hk (HKA.out wr hB.out)
    have HSZ : Hid (w.heap.size ≤ wr.heap.size) := (HBW.out wr hB.out).size
    have HR1 := Hid.out (p := Hid _) r1
    have HR2 := Hid.out (p := Hid _) r2
    have HR3 := Hid.out (p := Hid _) r3
    obtain ⟨x0, x1, x2, x3, x4, x5, x6, x7, x8⟩ := rec_cells VA.out
    have hkrc : k ≤ rc := by omega
    clear r1 r2 r3
    go_wp2_with (first
     | (at_builtin; refine wpList_append_run (.slice none 0 0) (.slice ra k rc) 22 HR1.out rfl _ _ rfl rfl rfl ?_)
     | (at_builtin; refine wpList_append_run (.slice a1 k c1) (.slice (some ⟨wA.heap.size, 0, none⟩) 1 1) 22 HR2.out rfl _ _ rfl rfl rfl ?_)
     | (at_builtin; refine wpList_append_run (.slice a2 (k + 1) c2) (.slice a4 (l.length - k) (rc - k)) 22 HR3.out rfl _ _ rfl rfl rfl ?_))
    go_ret
    exact ⟨HBW.out wD (hB.out.trans (hBD.out.mono hB.out.size)), k, HBE.out, a3, c3, rfl, hI.out.turn (Turn.mono _ (fun b h _ => h.elim (fun h => .inl h.1) (fun h => .inr (by have := HSZ.out; omega)))), hcc.out⟩
   ·obtain ⟨b, o, p2, hra, hb, hcr, hir⟩ := (HR.out wr hB.out).get hkl
    have hsm := (HR.out wr hB.out).s _ (List.getElem_mem hkl)
    have hles := HBE.out.hi hkl
    obtain ⟨r2, hr2⟩ : ∃ r, l[k] = r := ⟨_, rfl⟩
    rw [hr2] at hcr hir hsm hles
    obtain ⟨z0, z1, z2, z3, z4, z5, z6, z7, z8⟩ := recs_nine hcr
    obtain ⟨q2, hq2⟩ : ∃ q : ByteArray, (⟨(printA r2.a).toArray⟩ : ByteArray) = q := ⟨_, rfl⟩
    have HP2 := rpr_ok r2 p2 wr hir hsm q2 hq2
    have hsw := less_swap q2.toList q.toList
    have he : Op.bytesLess q.toList q2.toList = true := by rw [← hles, HQ.out, ← hq2, ByteArray.toList_eq, ByteArray.toList_eq]
    rw [he] at hsw
    obtain ⟨cc1, h1⟩ : ∃ c, Op.bytesLess q2.toList q.toList = c := ⟨_, rfl⟩
    obtain ⟨cc2, h2⟩ : ∃ c, (q2.toList == q.toList) = c := ⟨_, rfl⟩
    rw [h1, h2] at hsw
    have t1 : decide ((k : Int) < (l.length : Int)) = true := by rw [decide_eq_true_eq]; omega
    have t2 : decide (k < l.length) = true := by rw [decide_eq_true_eq]; omega
    obtain ⟨rfl, rfl⟩ := le_none hsw
    have HRA := Hid.out (p := Hid _) hra
    subst hra
    clear hcr hir hsm hr2 hq2 he hsw hles
    go_wp2_with fail
    refine (Calls.mono HP2.out ?_)
    rintro z w4 ⟨rfl, hb4⟩
    have B14 : Hid (Below w1.heap.size w1 w4) := hB.out.trans (hb4.mono hB.out.size)
    clear hb4 z0 z1 z2 z3 z4 z5 z6 z7 z8
    obtain ⟨a1, c1, wA, r1, VA, wB, hwB, a2, c2, wC, rr2, a4, ha4, a3, c3, wD, r3, hI, hcc, hBD⟩ := put_tail _ w4 (HLT.out w4 B14.out) l _ rc r p k w.heap.size (HR.out w4 B14.out) hc (HL.out w4 B14.out) (HI.out w4 B14.out) hk (HKA.out w4 B14.out)
    have HSZ : Hid (w.heap.size ≤ w4.heap.size) := (HBW.out w4 B14.out).size
    have HR1 := Hid.out (p := Hid _) r1
    have HR2 := Hid.out (p := Hid _) rr2
    have HR3 := Hid.out (p := Hid _) r3
    obtain ⟨x0, x1, x2, x3, x4, x5, x6, x7, x8⟩ := rec_cells VA.out
    have hkrc : k ≤ rc := by omega
    rw [if_neg (by omega), Option.map_some, addr_add] at ha4
    subst ha4
    clear r1 rr2 r3
    go_wp2_with (first
     | (at_builtin; refine wpList_append_run (.slice none 0 0) (.slice (some ⟨b, o, none⟩) k rc) 22 HR1.out rfl _ _ rfl rfl rfl ?_)
     | (at_builtin; refine wpList_append_run (.slice a1 k c1) (.slice (some ⟨wA.heap.size, 0, none⟩) 1 1) 22 HR2.out rfl _ _ rfl rfl rfl ?_)
     | (at_builtin; refine wpList_append_run (.slice a2 (k + 1) c2) (.slice (some ⟨b, o + k * 9, none⟩) (l.length - k) (rc - k)) 22 HR3.out rfl _ _ rfl rfl rfl ?_))
    go_ret
    exact ⟨HBW.out wD (B14.out.trans (hBD.out.mono B14.out.size)), k, HBE.out, a3, c3, rfl, hI.out.turn (Turn.mono _ (fun b h _ => h.elim (fun h => .inl h.1) (fun h => .inr (by have := HSZ.out; omega)))), hcc.out⟩
end Go.Proofs.YtckflnibkglheaaGreatDoor.State
/- tabulariumref18.Put. -/
namespace Go.Proofs.YtckflnibkglheaaGreatDoor.State
open Go.RowKit Go.Shelf Go.Proofs.YtckflnibkglheaaGreatDoor.Utf Go.Proofs.YtckflnibkglheaaGreatDoor.Strs Go.Proofs.YtckflnibkglheaaGreatDoor.Addr
open Go.Proofs.YtckflnibkglheaaGreatDoor.Jdec (IsTexts Turn infoStr gb_set gb_below gb_refl)
set_option linter.unusedVariables false
set_option linter.unusedSimpArgs false
set_option maxRecDepth 100000

/-- What the document's Put tells. -/
def RuPost (A : Nat → Prop) (s : Sta) (r : Rec) (w : World) (e : Ending) (w' : World) : Prop := Below w.heap.size w w' ∧ ∃ l', ((∃ j, ∃ hj : j < s.recs.length, s.recs[j].a = r.a ∧ l' = dropR s.recs j) ∨ ((∀ x ∈ s.recs, x.a ≠ r.a) ∧ l' = s.recs)) ∧
 ∃ k, Behind l' (printA r.a) k ∧ ∃ a' c', e = .returned (staV a' c' { s with recs := putR l' r k k }) ∧ IsRecs w' (fun b => A b ∨ w.heap.size ≤ b) a' (putR l' r k k) ∧ (putR l' r k k).length ≤ c'
theorem rd_ok (A : Nat → Prop) (s : Sta) (ra : Option Addr) (rc : Nat) (a : Adr) (pa : Option Addr) (pc : Nat) (w : World) (h : RecsAt w ra s.recs) (hc : s.recs.length ≤ rc) (hA : IsRecs w A ra s.recs) (ha : AdrAt w pa a) (hin : ∃ x ∈ s.recs, x.a = a) :
  Hid (Calls Tryz.prog 30 #[.agg #[.int .u64 s.serial, .string s.lin, .slice ra s.recs.length rc], .agg #[.slice pa a.path.length pc, .string a.type, .string a.name, .int .i64 a.key, .int .u64 a.place, .string a.word]] w (RdPost A s a w)) := rdrop_any A s ra rc a pa pc w h hc hA ha hin
theorem RdPost.to {A : Nat → Prop} {s : Sta} {a : Adr} {w w' : World} {e : Ending} (h : RdPost A s a w e w') : ∃ (i : Nat) (hi : i < s.recs.length) (l' : List Rec) (a' : Option Addr) (c' : Nat), e = .returned (.agg #[.int .u64 s.serial, .string s.lin, .slice a' l'.length c']) ∧ Hid (s.recs[i].a = a) ∧ Hid (l' = dropR s.recs i) ∧ Hid (IsRecs w' (fun b => A b ∨ w.heap.size ≤ b) a' l') ∧ Hid (l'.length ≤ c') ∧ Hid (Below w.heap.size w w') := by
 obtain ⟨hb, i, hi, e1, a', c', e2, h1, h2⟩ := h
 exact ⟨i, hi, dropR s.recs i, a', c', e2, e1, rfl, h1, h2, hb⟩
theorem rp_ok (A : Nat → Prop) (l : List Rec) (ra : Option Addr) (rc : Nat) (r : Rec) (p : At) (w : World) (h : RecsAt w ra l) (hc : l.length ≤ rc) (hL : IsRecs w A ra l) (hI : IsRec w A p r) (hs : Small r) :
  Hid (Calls Tryz.prog 56 #[.slice ra l.length rc, .agg #[.slice p.pa r.a.path.length p.pc, .string r.a.type, .string r.a.name, .int .i64 r.a.key, .int .u64 r.a.place, .string r.a.word, .string r.prov, .string r.id, .slice p.ta r.attrs.length p.tc]] w (RpPost A l r w)) := rput18_any A l ra rc r p w h hc hL hI hs
theorem rp_ret (s : Sta) (w' : World) (tm : Array Value) (b : Nat) (a : Option Addr) (c : Nat) (Q : Ending → World → Prop) (hb : w'.heap[b]? = some (.cells (staArr a c s) 26 (0, 0))) (h2 : tm[4]? = some (.pointer (some ⟨b, 0, none⟩))) (hq : Q (.returned (staV a c s)) w') :
  bodyPost Tryz.prog Tryz.f24 Q Exit.ret { tmps := tm, defers := [] } w' := by
 obtain ⟨c0, c1, c2⟩ := sta_cells hb
 refine bodyPost_ret (v := staV a c s) ?_ rfl hq
 simp [results, Tryz.results24, go_sem, h2, c0, c1, c2, staV]
theorem rfound (l : List Rec) (a : Adr) (w w' : World) (e : Ending) (h : RfPost l a w e w') : Hid (Below w.heap.size w w') ∧ ((∃ i : Nat, ∃ h : i < l.length, e = .returned (.int .i64 i) ∧ Hid (l[i].a = a)) ∨ (e = .returned (.int .i64 (-1)) ∧ Hid (∀ x ∈ l, x.a ≠ a))) := h
set_option maxHeartbeats 16000000 in
theorem rPut_any (A : Nat → Prop) (s : Sta) (ra : Option Addr) (rc : Nat) (r : Rec) (p : At) (w : World) (h : RecsAt w ra s.recs) (hc : s.recs.length ≤ rc) (hA : IsRecs w A ra s.recs) (hi : IsRec w A p r) (hs : Small r) :
  Calls Tryz.prog 24 #[staV ra rc s, recV p r] w (RuPost A s r w) := by
 obtain ⟨w1, hw1, V1, B1⟩ := sta_new w ra rc s
 obtain ⟨w2, hw2, V2, B2⟩ := rec_new w1 p r
 obtain ⟨w3, hw3, V3, B3, Z3⟩ := zsta_new w2
 have hl1 := heap_lt V1.out
 have hl2 := heap_lt V2.out
 have hl3 := heap_lt V3.out
 have B02 : Hid (Below w.heap.size w w2) := B1.out.trans (B2.out.mono (by omega))
 have B03 : Hid (Below w.heap.size w w3) := B02.out.trans (B3.out.mono (by omega))
 have V13 : Hid (w3.heap[w.heap.size]? = some (.cells (staArr ra rc s) 26 (0, 0))) := (B3.out.block _ (by omega)).trans ((B2.out.block _ hl1).trans V1.out)
 have V23 : Hid (w3.heap[w1.heap.size]? = some (.cells (recArr p r) 32 (0, 0))) := (B3.out.block _ hl2).trans V2.out
 have HH : Hid (∀ W, Below w.heap.size w W → RecsAt W ra s.recs) := fun W hb => h.stays hb
 have hL2 : IsRecs w (fun b => A b ∧ b < w.heap.size) ra s.recs := hA.turn (Turn.mono _ (fun b h hb => ⟨h, hb⟩))
 have hI2 : IsRec w (fun b => A b ∧ b < w.heap.size) p r := hi.turn (Turn.mono _ (fun b h hb => ⟨h, hb⟩))
 have HL : Hid (∀ W, Below w.heap.size w W → IsRecs W (fun b => A b ∧ b < w.heap.size) ra s.recs) := fun W hb => hL2.turn ⟨hb.size, fun b hb2 hl => ⟨hb.block b hl, hb2⟩⟩
 have HI : Hid (∀ W, Below w.heap.size w W → IsRec W (fun b => A b ∧ b < w.heap.size) p r) := fun W hb => hI2.turn ⟨hb.size, fun b hb2 hl => ⟨hb.block b hl, hb2⟩⟩
 have HSM := Hid.out (p := Hid _) hs
 have hn := h.n
 have HS2 : Hid (w.heap.size ≤ w2.heap.size) := B02.out.size
 have hne1 : w2.heap.size ≠ w.heap.size := by omega
 have hne2 : w2.heap.size ≠ w1.heap.size := by omega
 have HFI := rf_ok s ra rc r.a p.pa p.pc w3 (h.stays B03.out) ((hi.any.turn (Turn.below B03.out)).adr hs)
 obtain ⟨x0, x1, x2⟩ := sta_cells V13.out
 obtain ⟨y0, y1, y2, y3, y4, y5, y6, y7, y8⟩ := rec_cells V23.out
 unfold staV recV
 clear h hi hs hA hL2 hI2
 go_enter Tryz.func24, Tryz.ntmps24
 go_wp2_with fail
 refine (Calls.mono HFI.out ?_)
 rintro z w4 hz
 obtain ⟨hb4, hz⟩ := rfound _ _ _ _ _ hz
 have B04 : Hid (Below w.heap.size w w4) := B03.out.trans (hb4.out.mono B03.out.size)
 have V14 : Hid (w4.heap[w.heap.size]? = some (.cells (staArr ra rc s) 26 (0, 0))) := (hb4.out.block _ (by omega)).trans V13.out
 have V24 : Hid (w4.heap[w1.heap.size]? = some (.cells (recArr p r) 32 (0, 0))) := (hb4.out.block _ (by omega)).trans V23.out
 have V34 : Hid (w4.heap[w2.heap.size]? = some (.cells (staArr none 0 ⟨0, ⟨#[]⟩, []⟩) 26 (0, 0))) := (hb4.out.block _ hl3).trans V3.out
 clear hb4 HFI hw1 hw2 hw3 x0 x1 x2 y0 y1 y2 y3 y4 y5 y6 y7 y8
 have hl14 := heap_lt V14.out
 have hl24 := heap_lt V24.out
 have hl34 := heap_lt V34.out
 rcases hz with ⟨i, hi, rfl, hia⟩ | ⟨rfl, hno⟩
 ·have hin : ∃ x ∈ s.recs, x.a = r.a := ⟨_, List.getElem_mem hi, hia.out⟩
  have HDR := rd_ok _ s ra rc r.a p.pa p.pc w4 (HH.out w4 B04.out) hc (HL.out w4 B04.out) ((HI.out w4 B04.out).any.adr HSM.out) hin
  obtain ⟨x0, x1, x2⟩ := sta_cells V14.out
  obtain ⟨y0, y1, y2, y3, y4, y5, y6, y7, y8⟩ := rec_cells V24.out
  have t0 : decide ((0 : Int) ≤ (i : Int)) = true := by rw [decide_eq_true_eq]; omega
  clear hin
  go_wp2_with fail
  refine (Calls.mono HDR.out ?_)
  rintro z w5 hz
  obtain ⟨j, hj, l', a', c', rfl, HJA, HL', HI', HC', hb5⟩ := hz.to
  have V15 : Hid (w5.heap[w.heap.size]? = some (.cells (staArr ra rc s) 26 (0, 0))) := (hb5.out.block _ hl14).trans V14.out
  have V25 : Hid (w5.heap[w1.heap.size]? = some (.cells (recArr p r) 32 (0, 0))) := (hb5.out.block _ hl24).trans V24.out
  have V35 : Hid (w5.heap[w2.heap.size]? = some (.cells (staArr none 0 ⟨0, ⟨#[]⟩, []⟩) 26 (0, 0))) := (hb5.out.block _ hl34).trans V34.out
  have f0 := frozen_of V15.out 0
  have f1 := frozen_of V15.out 1
  have f2 := frozen_of V15.out 2
  obtain ⟨g0, g1, g2⟩ := sta_cells V15.out
  obtain ⟨w6, hw6⟩ : ∃ w6, (((w5.setCell ⟨w.heap.size, 0, none⟩ (.int .u64 s.serial)).setCell ⟨w.heap.size, 1, none⟩ (.string s.lin)).setCell ⟨w.heap.size, 2, none⟩ (.slice a' l'.length c')) = w6 := ⟨_, rfl⟩
  have G6 : Hid (w5.grownBy w6 (some w.heap.size)) := by rw [← hw6]; exact ((gb_set _ _ _ _).trans (gb_set _ _ _ _)).trans (gb_set _ _ _ _)
  have V16 : Hid (w6.heap[w.heap.size]? = some (.cells (staArr a' c' { s with recs := l' }) 26 (0, 0))) := by rw [← hw6]; exact set3 (t := { s with recs := l' }) V15.out
  have V26 : Hid (w6.heap[w1.heap.size]? = some (.cells (recArr p r) 32 (0, 0))) := (G6.out.block _ (heap_lt V25.out) (by intro e; injection e with e; omega)).trans V25.out
  have V36 : Hid (w6.heap[w2.heap.size]? = some (.cells (staArr none 0 ⟨0, ⟨#[]⟩, []⟩) 26 (0, 0))) := (G6.out.block _ (heap_lt V35.out) (by intro e; injection e with e; omega)).trans V35.out
  have B05 : Hid (Below w.heap.size w w5) := B04.out.trans (hb5.out.mono B04.out.size)
  have B06 : Hid (Below w.heap.size w w6) := B05.out.grown G6.out B05.out.size (fun x hx => by injection hx with hx; omega)
  have hdr : Below w6.heap.size w6 w6.drew := (Below.refl _ _).drew
  have VD1 : Hid (w6.drew.heap[w.heap.size]? = some (.cells (staArr a' c' { s with recs := l' }) 26 (0, 0))) := (hdr.block _ (heap_lt V16.out)).trans V16.out
  have VD2 : Hid (w6.drew.heap[w1.heap.size]? = some (.cells (recArr p r) 32 (0, 0))) := (hdr.block _ (heap_lt V26.out)).trans V26.out
  have VD3 : Hid (w6.drew.heap[w2.heap.size]? = some (.cells (staArr none 0 ⟨0, ⟨#[]⟩, []⟩) 26 (0, 0))) := (hdr.block _ (heap_lt V36.out)).trans V36.out
  have hle4 := B04.out.size
  have HIA : IsRecs w6.drew (fun b => (A b ∧ b < w.heap.size) ∨ w4.heap.size ≤ b) a' l' := (HI'.out.turn ⟨G6.out.size, fun b hb hl => ⟨G6.out.block b hl (fun e => by injection e with e; omega), hb⟩⟩).turn ⟨hdr.size, fun b hb hl => ⟨hdr.block b hl, hb⟩⟩
  have HR6 : RecsAt w6.drew a' l' := ⟨HIA.any, by
   have h1 := (dropR_sub s.recs j).length_le
   have h2 := (HH.out w4 B04.out).n
   rw [HL'.out]; omega, fun x hx => (HH.out w4 B04.out).s x (by rw [HL'.out] at hx; exact (dropR_sub s.recs j).subset hx)⟩
  have HIR : IsRec w6.drew (fun b => (A b ∧ b < w.heap.size) ∨ w4.heap.size ≤ b) p r := (HI.out _ (B06.out.trans (hdr.mono B06.out.size))).turn (Turn.mono _ (fun b h _ => .inl h))
  have HP := rp_ok _ l' a' c' r p w6.drew HR6 HC'.out HIA HIR HSM.out
  have B6 : Hid (Below w.heap.size w w6) := B06.out
  obtain ⟨m0, m1, m2⟩ := sta_cells V16.out
  obtain ⟨n0, n1, n2, n3, n4, n5, n6, n7, n8⟩ := rec_cells V26.out
  obtain ⟨md0, md1, md2⟩ := sta_cells VD1.out
  obtain ⟨nd0, nd1, nd2, nd3, nd4, nd5, nd6, nd7, nd8⟩ := rec_cells VD2.out
  have HPD : Hid (∀ b, ((A b ∧ b < w.heap.size) ∨ w4.heap.size ≤ b) ∨ w6.drew.heap.size ≤ b → b ≠ w2.heap.size ∧ (A b ∨ w.heap.size ≤ b)) := fun b h => by
   have h1 := B06.out.size
   have h2 := hdr.size
   rcases h with (⟨h3, h4⟩ | h3) | h3
   ·exact ⟨by omega, .inl h3⟩
   ·exact ⟨by omega, .inr (by omega)⟩
   ·exact ⟨by have := heap_lt V36.out; omega, .inr (by omega)⟩
  clear hb5 hdr HR6 HIA HIR HDR y0 y1 y2 y3 y4 y5 y6 y7 y8
  go_wp2_with fail
  go_region_held3 (fun w' => w'.cell? ⟨w.heap.size, 0, none⟩ = some (.int .u64 s.serial) ∧ w'.cell? ⟨w.heap.size, 1, none⟩ = some (.string s.lin) ∧ w'.cell? ⟨w.heap.size, 2, none⟩ = some (.slice a' l'.length c') ∧ w'.cell? ⟨w1.heap.size, 0, none⟩ = some (.slice p.pa r.a.path.length p.pc) ∧ w'.cell? ⟨w1.heap.size, 1, none⟩ = some (.string r.a.type) ∧ w'.cell? ⟨w1.heap.size, 2, none⟩ = some (.string r.a.name) ∧ w'.cell? ⟨w1.heap.size, 3, none⟩ = some (.int .i64 r.a.key) ∧ w'.cell? ⟨w1.heap.size, 4, none⟩ = some (.int .u64 r.a.place) ∧ w'.cell? ⟨w1.heap.size, 5, none⟩ = some (.string r.a.word) ∧ w'.cell? ⟨w1.heap.size, 6, none⟩ = some (.string r.prov) ∧ w'.cell? ⟨w1.heap.size, 7, none⟩ = some (.string r.id) ∧ w'.cell? ⟨w1.heap.size, 8, none⟩ = some (.slice p.ta r.attrs.length p.tc)) (go_keep)
   (first
    | (go_at_call 56; refine (Calls.mono HP.out ?_); rintro z w8 hz; obtain ⟨hb8, k, hk, ja, jc, rfl, hI, hC⟩ := hz; have HBE := Hid.out (p := Hid _) hk; have HI8 := Hid.out (p := Hid _) hI; have HC8 := Hid.out (p := Hid _) hC; have B8 : Hid (Below w6.drew.heap.size w6.drew w8) := hb8; have V18 : Hid (w8.heap[w.heap.size]? = some (.cells (staArr a' c' { s with recs := l' }) 26 (0, 0))) := (hb8.block _ (heap_lt VD1.out)).trans VD1.out; have V28 : Hid (w8.heap[w1.heap.size]? = some (.cells (recArr p r) 32 (0, 0))) := (hb8.block _ (heap_lt VD2.out)).trans VD2.out; have V38 : Hid (w8.heap[w2.heap.size]? = some (.cells (staArr none 0 ⟨0, ⟨#[]⟩, []⟩) 26 (0, 0))) := (hb8.block _ (heap_lt VD3.out)).trans VD3.out; obtain ⟨m80, m81, m82⟩ := sta_cells V18.out; obtain ⟨n80, n81, n82, n83, n84, n85, n86, n87, n88⟩ := rec_cells V28.out; obtain ⟨k0, k1, k2⟩ := sta_cells V38.out; have e0 := frozen_of V38.out 0; have e1 := frozen_of V38.out 1; have e2 := frozen_of V38.out 2; clear hb8 hk hI hC))
  all_goals
   go_wp2_with fail
   have hg : w8.grownBy (((w8.setCell ⟨w2.heap.size, 0, none⟩ (.int .u64 s.serial)).setCell ⟨w2.heap.size, 1, none⟩ (.string s.lin)).setCell ⟨w2.heap.size, 2, none⟩ (.slice ja (l'.length + 1) jc)) (some w2.heap.size) := ((gb_set _ _ _ _).trans (gb_set _ _ _ _)).trans (gb_set _ _ _ _)
   have hpl : (putR l' r k k).length = l'.length + 1 := by
    have := HBE.out.n
    rw [putR, List.length_append, List.length_cons, List.length_take, List.length_drop]; omega
   have hset : (((w8.setCell ⟨w2.heap.size, 0, none⟩ (.int .u64 s.serial)).setCell ⟨w2.heap.size, 1, none⟩ (.string s.lin)).setCell ⟨w2.heap.size, 2, none⟩ (.slice ja (l'.length + 1) jc)).heap[w2.heap.size]? = some (.cells (staArr ja jc { s with recs := putR l' r k k }) 26 (0, 0)) := by
    rw [← hpl]
    exact set3 (t := { s with recs := putR l' r k k }) V38.out
   have hdw : Below w6.heap.size w6 w6.drew := (Below.refl _ _).drew
   have hB8 : Below w.heap.size w w8 := B06.out.trans ((hdw.trans (B8.out.mono hdw.size)).mono B06.out.size)
   have hsz := HS2.out
   have hI2 : IsRecs (((w8.setCell ⟨w2.heap.size, 0, none⟩ (.int .u64 s.serial)).setCell ⟨w2.heap.size, 1, none⟩ (.string s.lin)).setCell ⟨w2.heap.size, 2, none⟩ (.slice ja (l'.length + 1) jc)) (fun b => A b ∨ w.heap.size ≤ b) ja (putR l' r k k) :=
    IsRecs.turn HI8.out ⟨hg.size, fun b hb hl => ⟨hg.block b hl (fun e => by injection e with e; exact (HPD.out b hb).1 e), (HPD.out b hb).2⟩⟩
   exact rp_ret { s with recs := putR l' r k k } _ _ w2.heap.size ja jc (RuPost A s r w) hset (by rfl) ⟨hB8.grown hg hB8.size (fun x hx => by injection hx with hx; omega), l', (.inl ⟨j, hj, HJA.out, HL'.out⟩), k, HBE.out, ja, jc, rfl, hI2, by rw [hpl]; exact HC8.out⟩
 ·have t0 : decide ((0 : Int) ≤ (-1 : Int)) = false := by decide
  have hdr : Below w4.heap.size w4 w4.drew := (Below.refl _ _).drew
  obtain ⟨m0, m1, m2⟩ := sta_cells V14.out
  obtain ⟨n0, n1, n2, n3, n4, n5, n6, n7, n8⟩ := rec_cells V24.out
  have VD1 : Hid (w4.drew.heap[w.heap.size]? = some (.cells (staArr ra rc { s with recs := s.recs }) 26 (0, 0))) := (hdr.block _ hl14).trans V14.out
  have VD2 : Hid (w4.drew.heap[w1.heap.size]? = some (.cells (recArr p r) 32 (0, 0))) := (hdr.block _ hl24).trans V24.out
  have VD3 : Hid (w4.drew.heap[w2.heap.size]? = some (.cells (staArr none 0 ⟨0, ⟨#[]⟩, []⟩) 26 (0, 0))) := (hdr.block _ hl34).trans V34.out
  have HP := rp_ok _ s.recs ra rc r p w4.drew ((HH.out w4 B04.out).stays hdr) hc (HL.out _ (B04.out.trans (hdr.mono B04.out.size))) (HI.out _ (B04.out.trans (hdr.mono B04.out.size))) HSM.out
  have HPD : Hid (∀ b, (A b ∧ b < w.heap.size) ∨ w4.drew.heap.size ≤ b → b ≠ w2.heap.size ∧ (A b ∨ w.heap.size ≤ b)) := fun b h => by
   have h1 := B04.out.size
   have h2 := hdr.size
   rcases h with ⟨h3, h4⟩ | h3
   ·exact ⟨by omega, .inl h3⟩
   ·exact ⟨by omega, .inr (by omega)⟩
  obtain ⟨md0, md1, md2⟩ := sta_cells VD1.out
  obtain ⟨nd0, nd1, nd2, nd3, nd4, nd5, nd6, nd7, nd8⟩ := rec_cells VD2.out
  clear hdr
  go_wp2_with fail
  go_region_held3 (fun w' => w'.cell? ⟨w.heap.size, 0, none⟩ = some (.int .u64 s.serial) ∧ w'.cell? ⟨w.heap.size, 1, none⟩ = some (.string s.lin) ∧ w'.cell? ⟨w.heap.size, 2, none⟩ = some (.slice ra s.recs.length rc) ∧ w'.cell? ⟨w1.heap.size, 0, none⟩ = some (.slice p.pa r.a.path.length p.pc) ∧ w'.cell? ⟨w1.heap.size, 1, none⟩ = some (.string r.a.type) ∧ w'.cell? ⟨w1.heap.size, 2, none⟩ = some (.string r.a.name) ∧ w'.cell? ⟨w1.heap.size, 3, none⟩ = some (.int .i64 r.a.key) ∧ w'.cell? ⟨w1.heap.size, 4, none⟩ = some (.int .u64 r.a.place) ∧ w'.cell? ⟨w1.heap.size, 5, none⟩ = some (.string r.a.word) ∧ w'.cell? ⟨w1.heap.size, 6, none⟩ = some (.string r.prov) ∧ w'.cell? ⟨w1.heap.size, 7, none⟩ = some (.string r.id) ∧ w'.cell? ⟨w1.heap.size, 8, none⟩ = some (.slice p.ta r.attrs.length p.tc)) (go_keep)
   (first
    | (go_at_call 56; refine (Calls.mono HP.out ?_); rintro z w8 hz; obtain ⟨hb8, k, hk, ja, jc, rfl, hI, hC⟩ := hz; have HBE := Hid.out (p := Hid _) hk; have HI8 := Hid.out (p := Hid _) hI; have HC8 := Hid.out (p := Hid _) hC; have B8 : Hid (Below w4.drew.heap.size w4.drew w8) := hb8; have V18 : Hid (w8.heap[w.heap.size]? = some (.cells (staArr ra rc { s with recs := s.recs }) 26 (0, 0))) := (hb8.block _ (heap_lt VD1.out)).trans VD1.out; have V28 : Hid (w8.heap[w1.heap.size]? = some (.cells (recArr p r) 32 (0, 0))) := (hb8.block _ (heap_lt VD2.out)).trans VD2.out; have V38 : Hid (w8.heap[w2.heap.size]? = some (.cells (staArr none 0 ⟨0, ⟨#[]⟩, []⟩) 26 (0, 0))) := (hb8.block _ (heap_lt VD3.out)).trans VD3.out; obtain ⟨m80, m81, m82⟩ := sta_cells V18.out; obtain ⟨n80, n81, n82, n83, n84, n85, n86, n87, n88⟩ := rec_cells V28.out; obtain ⟨k0, k1, k2⟩ := sta_cells V38.out; have e0 := frozen_of V38.out 0; have e1 := frozen_of V38.out 1; have e2 := frozen_of V38.out 2; clear hb8 hk hI hC))
  all_goals
   go_wp2_with fail
   have hg : w8.grownBy (((w8.setCell ⟨w2.heap.size, 0, none⟩ (.int .u64 s.serial)).setCell ⟨w2.heap.size, 1, none⟩ (.string s.lin)).setCell ⟨w2.heap.size, 2, none⟩ (.slice ja (s.recs.length + 1) jc)) (some w2.heap.size) := ((gb_set _ _ _ _).trans (gb_set _ _ _ _)).trans (gb_set _ _ _ _)
   have hpl : (putR s.recs r k k).length = s.recs.length + 1 := by
    have := HBE.out.n
    rw [putR, List.length_append, List.length_cons, List.length_take, List.length_drop]; omega
   have hset : (((w8.setCell ⟨w2.heap.size, 0, none⟩ (.int .u64 s.serial)).setCell ⟨w2.heap.size, 1, none⟩ (.string s.lin)).setCell ⟨w2.heap.size, 2, none⟩ (.slice ja (s.recs.length + 1) jc)).heap[w2.heap.size]? = some (.cells (staArr ja jc { s with recs := putR s.recs r k k }) 26 (0, 0)) := by
    rw [← hpl]
    exact set3 (t := { s with recs := putR s.recs r k k }) V38.out
   have hdw : Below w4.heap.size w4 w4.drew := (Below.refl _ _).drew
   have hB8 : Below w.heap.size w w8 := B04.out.trans ((hdw.trans (B8.out.mono hdw.size)).mono B04.out.size)
   have hsz := HS2.out
   have hI2 : IsRecs (((w8.setCell ⟨w2.heap.size, 0, none⟩ (.int .u64 s.serial)).setCell ⟨w2.heap.size, 1, none⟩ (.string s.lin)).setCell ⟨w2.heap.size, 2, none⟩ (.slice ja (s.recs.length + 1) jc)) (fun b => A b ∨ w.heap.size ≤ b) ja (putR s.recs r k k) :=
    IsRecs.turn HI8.out ⟨hg.size, fun b hb hl => ⟨hg.block b hl (fun e => by injection e with e; exact (HPD.out b hb).1 e), (HPD.out b hb).2⟩⟩
   exact rp_ret { s with recs := putR s.recs r k k } _ _ w2.heap.size ja jc (RuPost A s r w) hset (by rfl) ⟨hB8.grown hg hB8.size (fun x hx => by injection hx with hx; omega), s.recs, (.inr ⟨hno.out, rfl⟩), k, HBE.out, ja, jc, rfl, hI2, by rw [hpl]; exact HC8.out⟩
end Go.Proofs.YtckflnibkglheaaGreatDoor.State
