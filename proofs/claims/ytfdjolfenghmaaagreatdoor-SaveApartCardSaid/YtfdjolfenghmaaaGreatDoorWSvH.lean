/- Resources in the making, in memory. -/
import Derived.Test.YtfdjolfenghmaaaGreatDoorWSvG
import Derived.Test.YtfdjolfenghmaaaGreatDoorWSvM
set_option linter.unusedVariables false
set_option linter.unusedSimpArgs false
set_option maxRecDepth 100000
namespace Go.Proofs.YtfdjolfenghmaaaGreatDoor.Save
open Go.RowKit Go.Shelf Utf Strs Go.Proofs.YtfdjolfenghmaaaGreatDoor.Addr Go.Proofs.YtfdjolfenghmaaaGreatDoor.State
open Jdec (Raw JV IsV IsTexts Turn gb_set gb_below gb_refl gb8 set8 val_ret val_cells own_new KidsA listOf objectOf infoKid)
theorem KidsA.mono {w : World} {B : Nat} {C C' : Nat -> Prop} {v : Value} {ts : List JV} (h : KidsA w B C v ts) (hC : ∀ b, C b -> b < w.heap.size -> C' b) : KidsA w B C' v ts := KidsA.below h (Below.refl _ _) hC
def grpRaw (kk kb : Nat) : Raw := objR (some ⟨kk, 0, none⟩) 5 5 (some ⟨kb, 0, none⟩) 5 5
structure Grp (w : World) (B : Nat) (C : Nat -> Prop) (kk kb : Nat) (ia : Option Addr) (ic : Nat) (a : Option Addr) (c : Nat) (r0 : Rec) (g : List Rec) : Prop where
  ck : C kk
  cb : C kb
  bB : B <= kb
  ne : kk ≠ kb
  K : w.heap[kk]? = some (.cells (keysR.map Value.string).toArray 9 (0, 0))
  V : w.heap[kb]? = some (.cells ((rawsR ia g.length ic a c r0).flatMap Raw.cells).toArray 46 (0, 0))
  P : KidsA w B (fun _ => False) (.slice a r0.a.path.length c) (r0.a.path.map strV)
  po : ∀ k, (Value.slice a r0.a.path.length c).ownBlock = some k -> C k /\ k ≠ kb
  I : KidsA w B (fun b => C b /\ b ≠ kb) (.slice ia g.length ic) (g.map insV)
  io : ∀ k, (Value.slice ia g.length ic).ownBlock = some k -> C k /\ k ≠ kb /\ (Value.slice a r0.a.path.length c).ownBlock ≠ some k
theorem own_or {v : Value} {row : Option Nat} (h : ∀ k, v.ownBlock = some k -> some k ≠ row) : v.ownBlock = none ∨ v.ownBlock ≠ row := by
  cases ho : v.ownBlock with
  | none => exact .inl rfl
  | some k => exact .inr (h k ho)
theorem Grp.turn {w w' : World} {B : Nat} {C C' : Nat -> Prop} {kk kb : Nat} {ia : Option Addr} {ic : Nat} {a : Option Addr} {c : Nat} {r0 : Rec} {g : List Rec} {row : Option Nat} (h : Grp w B C kk kb ia ic a c r0 g) (hg : w.grownBy w' row) (hr : ∀ b, C b -> some b ≠ row) (hC : ∀ b, C b -> b < w.heap.size -> C' b) : Grp w' B C' kk kb ia ic a c r0 g where
  ck := hC _ h.ck (heap_lt h.K)
  cb := hC _ h.cb (heap_lt h.V)
  bB := h.bB
  ne := h.ne
  K := (hg.block _ (heap_lt h.K) (hr _ h.ck)).trans h.K
  V := (hg.block _ (heap_lt h.V) (hr _ h.cb)).trans h.V
  P := strs_turn h.P hg (own_or fun k hk => hr k (h.po k hk).1)
  po := fun k hk => ⟨hC k (h.po k hk).1 (KidsA.lt h.P k hk).2, (h.po k hk).2⟩
  I := h.I.turn hg (own_or fun k hk => hr k (h.io k hk).1) fun b hb hl => ⟨hr b hb.1, hC b hb.1 hl, hb.2⟩
  io := fun k hk => ⟨hC k (h.io k hk).1 (KidsA.lt h.I k hk).2, (h.io k hk).2⟩
theorem list_is' {w : World} {B : Nat} {C : Nat -> Prop} {a : Option Addr} {n c : Nat} {ts : List JV} (h : KidsA w B C (.slice a n c) ts) (hn : n = ts.length) (hC : ∀ k, (Value.slice a n c).ownBlock = some k -> C k) : IsV w C (lstR a n c) (listOf ts) := by
  subst hn; exact list_is h hC
theorem Grp.isV {w : World} {B : Nat} {C : Nat -> Prop} {kk kb : Nat} {ia : Option Addr} {ic : Nat} {a : Option Addr} {c : Nat} {r0 : Rec} {g : List Rec} (h : Grp w B C kk kb ia ic a c r0 g) : IsV w C (grpRaw kk kb) (resO r0 (g.map insV)) := by
  refine .mk (grpRaw kk kb) keysR [listOf (g.map insV), listOf (r0.a.path.map strV), strV r0.a.name, strV r0.prov, strV r0.a.type] (fun i => (rawsR ia g.length ic a c r0).getD i Raw.zero) rfl rfl (.inr ⟨kk, 0, rfl, h.ck, heap_lt h.K, fun i hi => ?_⟩) (.inr ⟨kb, 0, rfl, h.cb, heap_lt h.V, fun i hi j u hu => ?_⟩) (fun i hi => ?_)
  · rw [Nat.zero_add, cell_of h.K]
    match i, hi with
    | 0, _ => rfl
    | 1, _ => rfl
    | 2, _ => rfl
    | 3, _ => rfl
    | 4, _ => rfl
  · rw [Nat.zero_add, cell_of h.V];have hl : (rawsR ia g.length ic a c r0).getD i Raw.zero = (rawsR ia g.length ic a c r0)[i]'hi := by rw [List.getD_eq_getElem?_getD, List.getElem?_eq_getElem (show i < (rawsR ia g.length ic a c r0).length from hi)]; rfl
    rw [hl] at hu;have := Jdec.flat_cells_at (rawsR ia g.length ic a c r0) i hi j u hu
    simpa using this
  · match i, hi with
    | 0, _ => exact list_is' (KidsA.mono h.I fun b hb _ => hb.1) (by simp) fun k hk => (h.io k hk).1
    | 1, _ => exact list_is' (KidsA.mono h.P fun b hb _ => hb.elim) (by simp) fun k hk => (h.po k hk).1
    | 2, _ => exact strR_is _ _ _
    | 3, _ => exact strR_is _ _ _
    | 4, _ => exact strR_is _ _ _
theorem Grp.new {w : World} {B B' : Nat} {r : Rec} {kk kb : Nat} {a : Option Addr} {c : Nat} (h : ResAt B' w r kk kb a c) (hB : B <= B') {C : Nat -> Prop} (hC : ∀ b, B' <= b -> C b) : Grp w B C kk kb none 0 a c r [] where
  ck := hC _ h.hk
  cb := hC _ h.hb
  bB := Nat.le_trans hB h.hb
  ne := h.ne
  K := h.K
  V := h.V
  P := by
    obtain ⟨rs, h1, h2, h3⟩ := strs_none h.P fun t ht => by obtain ⟨s, _, rfl⟩ := List.mem_map.1 ht; exact ⟨s, rfl⟩
    exact ⟨rs, h1, ⟨h2.1, by
      rcases h2.2 with h | ⟨g, cap, cur, e, hg, h⟩
      · exact .inl h
      · exact .inr ⟨g, cap, cur, e, Nat.le_trans hB hg, h⟩⟩, h3⟩
  po := fun k hk => ⟨hC k (KidsA.lt h.P k hk).1, (h.p k hk).2⟩
  I := KidsA.nil _ _ _
  io := fun k hk => by cases hk
theorem bare_zero (w : World) (A : Nat -> Prop) : IsV w A Raw.zero JV.zero := IsV.bare w A 0 false false ⟨#[]⟩ 0 ⟨#[]⟩ none none 0 0
structure Grp1 (w w2 w3 : World) (B : Nat) (C : Nat -> Prop) (kk kb : Nat) (ia : Option Addr) (ic : Nat) (gb ic' : Nat) (a : Option Addr) (c : Nat) (r0 : Rec) (g : List Rec) (ra : Raw) (r : Rec) : Prop where
  V : w3.heap[kb]? = w2.heap[kb]?
  e : ∀ j, j < 8 -> (∃ z, w3.cell? ⟨gb, g.length * 8 + j, none⟩ = some z) /\ w3.frozen? ⟨gb, g.length * 8 + j, none⟩ = false
  gbB : B <= gb
  gkb : gb ≠ kb
  gl : gb < w3.heap.size
  fin : Grp ((w3.setCells gb (g.length * 8) ra.cells).setCell ⟨kb, 7, none⟩ (.slice (some ⟨gb, 0, none⟩) (g.length + 1) ic')) B (fun b => C b ∨ w.heap.size <= b) kk kb (some ⟨gb, 0, none⟩) ic' a c r0 (g ++ [r])
  own : C gb ∨ w2.heap.size <= gb
  own2 : (Value.slice ia g.length ic).ownBlock = some gb ∨ w2.heap.size <= gb
  gs : w3.grownBy (w3.setCells gb (g.length * 8) ra.cells) (some gb)
theorem Grp.add {w w2 : World} {B : Nat} {C : Nat -> Prop} {kk kb : Nat} {ia : Option Addr} {ic : Nat} {a : Option Addr} {c : Nat} {r0 r : Rec} {g : List Rec} {ra : Raw} {zb : Nat} (h : Grp w B C kk kb ia ic a c r0 g) (hb : Below w.heap.size w w2) (hz : w2.heap[zb]? = some (.cells Raw.zero.arr 46 (0, 0)))
    (hra : IsV w2 (fun b => w.heap.size <= b) ra (insV r)) (hn : g.length <= 3000) (hB : B <= w.heap.size) :
    ∃ gb ic' w3, (Builtin.append_ #[44, 44] 44 #[.slice ia g.length ic, .slice (some ⟨zb, 0, none⟩) 1 1]).run Tryz.prog w2 = .ok (.slice (some ⟨gb, 0, none⟩) (g.length + 1) ic') w3 /\ Grp1 w w2 w3 B C kk kb ia ic gb ic' a c r0 g ra r /\ w2.grownBy w3 (Value.slice ia g.length ic).ownBlock := by
  have h2 : Grp w2 B (fun b => C b /\ b < w.heap.size) kk kb ia ic a c r0 g := (h.turn (gb_refl w none) (by simp) (C' := fun b => C b /\ b < w.heap.size) (fun b hb hl => ⟨hb, hl⟩)).turn (gb_below hb none) (by simp) (fun b hb _ => hb);obtain ⟨a', c', w3, hrun, hk, hg, hl⟩ := app_kids h2.I zb Raw.zero JV.zero hz (bare_zero _ _) (by rw [List.length_map]; exact hn) (Nat.le_trans hB hb.size);rw [List.length_map] at hrun hk hl;obtain ⟨a2, c2, e2, _, e3⟩ := KidsA.form hk;obtain ⟨gb, rfl⟩ : ∃ gb, a' = some ⟨gb, 0, none⟩ := by
    injection e2 with e2 _ _
    rcases e3 with e3 | ⟨gb, e3⟩
    · exact absurd (congrArg List.length e3) (by simp)
    · exact ⟨gb, by rw [e2, e3]⟩
  have hgb := KidsA.lt hk gb rfl;have hown : (C gb /\ gb < w.heap.size /\ gb ≠ kb /\ (Value.slice a r0.a.path.length c).ownBlock ≠ some gb) ∨ gb = w2.heap.size := by
    rcases hl with hl | hl
    · obtain ⟨k1, k2, k3⟩ := h2.io gb hl.symm;exact .inl ⟨k1.1, k1.2, k2, k3⟩
    · injection hl with hl
      exact .inr hl
  have hkb := heap_lt h2.V;have hgkb : gb ≠ kb := by
    rcases hown with ⟨_, _, h1, _⟩ | h1
    · exact h1
    · omega
  have hio := fun k (hk : (Value.slice ia g.length ic).ownBlock = some k) => h2.io k hk;have hKo : some kk ≠ (Value.slice ia g.length ic).ownBlock := row_ne h2.I h2.K (by decide);have K3 : w3.heap[kk]? = some (.cells (keysR.map Value.string).toArray 9 (0, 0)) := (hg.block _ (heap_lt h2.K) hKo).trans h2.K;have hkg : kk ≠ gb := fun e => row_ne hk K3 (by decide) (by rw [e]; rfl);have hVo : some kb ≠ (Value.slice ia g.length ic).ownBlock := fun e => (hio kb e.symm).2.1 rfl;have V3 : w3.heap[kb]? = w2.heap[kb]? := hg.block _ hkb hVo;have hPlt := KidsA.lt h2.P;have hPg : ∀ k, (Value.slice a r0.a.path.length c).ownBlock = some k -> k ≠ gb := fun k hk e => by
    rcases hown with ⟨_, _, _, h1⟩ | h1
    · exact h1 (by rw [hk, e])
    · have := (hPlt k hk).2; omega
  have P3 : KidsA w3 B (fun _ => False) (.slice a r0.a.path.length c) (r0.a.path.map strV) := strs_turn h2.P hg (own_or fun k hk e => (hio k e.symm).2.2 hk);have hra3 : IsV w3 (fun x => ((C x ∨ w.heap.size <= x) /\ x ≠ kb) /\ some x ≠ some gb) ra (insV r) := by
    have t1 : IsV w2 (fun x => w.heap.size <= x /\ x < w2.heap.size) ra (insV r) := hra.turn (Turn.mono w2 fun b h1 h2 => ⟨h1, h2⟩);refine t1.turn ⟨hg.size, fun b hb _ => ⟨hg.block b hb.2 fun e => ?_, ⟨.inr hb.1, ?_⟩, ?_⟩⟩
    · have := (hio b e.symm).1.2; omega
    · have := h2.cb.2; omega
    · intro e
      injection e with e
      rcases hown with ⟨_, h1, _⟩ | h1 <;> omega
  have I3 := KidsA.mono hk (C' := fun b => (C b ∨ w.heap.size <= b) /\ b ≠ kb) fun b hb _ => ⟨.inl hb.1.1, hb.2⟩;have hlm : (g.map insV).length = g.length := List.length_map ..;have I3' : KidsA w3 B (fun b => (C b ∨ w.heap.size <= b) /\ b ≠ kb) (.slice (some ⟨gb, 0, none⟩) ((g.map insV).length + 1) c') (g.map insV ++ [JV.zero]) := by rw [hlm]; exact I3
  obtain ⟨I4, g4⟩ := put_last I3' hra3;rw [hlm] at I4 g4;have hgB := KidsA.lt hk gb rfl;generalize hw4 : w3.setCells gb (g.length * 8) ra.cells = w4 at I4 g4 ⊢;have V4 : w4.heap[kb]? = some (.cells ((rawsR ia g.length ic a c r0).flatMap Raw.cells).toArray 46 (0, 0)) := (g4.block _ (by have := hg.size; omega) (by simp; omega)).trans (V3.trans h2.V);have G5 := gb_set w4 kb 7 (.slice (some ⟨gb, 0, none⟩) (g.length + 1) c');have e8 : (g ++ [r]).length = g.length + 1 := by simp
  refine ⟨gb, c', w3, hrun, ⟨V3, fun j hj => ?_, hgB.1, hgkb, hgB.2, ?_, ?_, ?_, by rw [hw4]; exact g4⟩, hg⟩
  · obtain ⟨rs, k1, k2, k3⟩ := hk;have hl8 : (g.map insV ++ [JV.zero]).length = g.length + 1 := by simp
    rw [hl8] at k2;exact ⟨Jdec.row_cell k2 _ (by omega), k2.frozenAt _⟩
  · rw [hw4];refine ⟨.inl h.ck, .inl h.cb, h.bB, h.ne, ?_, ?_, ?_, fun k hk => ⟨.inl (h.po k hk).1, (h.po k hk).2⟩, ?_, fun k hk => ?_⟩
    · exact (G5.block _ (by have := heap_lt K3; have := g4.size; omega) (by simp; exact h.ne)).trans ((g4.block _ (heap_lt K3) (by simp; exact hkg)).trans K3)
    · rw [heap_set_same V4, e8]
      rfl
    · refine strs_turn (strs_turn P3 g4 (own_or fun k hk e => hPg k hk (by injection e))) G5 (own_or fun k hk e => (h.po k hk).2 (by injection e))
    · rw [e8, List.map_append];refine I4.turn G5 (own_or fun k hk => ?_) fun b hb hl => ⟨by simp; exact hb.2, hb⟩;injection hk with hk
      subst hk;simp; exact hgkb
    · rw [e8] at hk;injection hk with hk
      subst hk;refine ⟨?_, hgkb, fun e => hPg gb e rfl⟩;rcases hown with ⟨h1, _⟩ | h1
      · exact .inl h1
      · exact .inr (by have h1 : gb = w2.heap.size := h1; have := hb.size; show w.heap.size <= gb; omega)
  · rcases hown with ⟨h1, _⟩ | h1
    · exact .inl h1
    · exact .inr (Nat.le_of_eq (show gb = w2.heap.size from h1).symm)
  · rcases hl with hl | hl
    · exact .inl hl.symm
    · injection hl with hl
      exact .inr (Nat.le_of_eq (show gb = w2.heap.size from hl).symm)
/-! ## All resources -/
theorem flat_congr {α β : Type} {f g : α -> List β} : ∀ l : List α, (∀ x ∈ l, f x = g x) -> l.flatMap f = l.flatMap g
  | [], _ => rfl
  | x :: l, h => by rw [List.flatMap_cons, List.flatMap_cons, h x (by simp), flat_congr l fun y hy => h y (by simp [hy])]
structure Pl where
  kk : Nat
  kb : Nat
  ia : Option Addr
  ic : Nat
  a : Option Addr
  c : Nat
  r0 : Rec
structure TrX (w : World) (B M : Nat) (v : Value) (gs : List (List Rec)) (cls : Nat -> Nat) (P : Nat -> Pl) : Prop where
  row : w.ownsRow B 46 8 v gs.length ((List.range gs.length).flatMap fun i => (grpRaw (P i).kk (P i).kb).cells)
  ro : ∀ k, v.ownBlock = some k -> cls k = 1
  lo : ∀ b, b < B -> cls b = 0
  m0 : cls M = 0
  mB : M < w.heap.size
  G : ∀ i (h : i < gs.length), Grp w B (fun b => cls b = i + 2) (P i).kk (P i).kb (P i).ia (P i).ic (P i).a (P i).c (P i).r0 gs[i]
  hd : ∀ i (h : i < gs.length), gs[i].headD (P i).r0 = (P i).r0
def Tr (w : World) (B M : Nat) (v : Value) (gs : List (List Rec)) : Prop := ∃ cls P, TrX w B M v gs cls P
def Tr1 (w : World) (B M : Nat) (v : Value) (gs : List (List Rec)) (r : Rec) : Prop := ∃ cls P, TrX w B M v gs cls P /\ ∀ i (h : i < gs.length), gs[i] = [] -> (P i).r0 = r
theorem Tr.one {w : World} {B M : Nat} {v : Value} {gs : List (List Rec)} (h : Tr w B M v gs) (hn : ∀ g ∈ gs, g ≠ []) (r : Rec) : Tr1 w B M v gs r := by
  obtain ⟨cls, P, h⟩ := h;exact ⟨cls, P, h, fun i hi e => absurd e (hn _ (List.getElem_mem hi))⟩
theorem TrX.kept {w w' : World} {B M : Nat} {v : Value} {gs : List (List Rec)} {cls : Nat -> Nat} {P : Nat -> Pl} {row : Option Nat} (h : TrX w B M v gs cls P) (hg : w.grownBy w' row) (hr : ∀ b, row = some b -> cls b = 0) : TrX w' B M v gs cls P where
  row := h.row.kept hg (own_or fun k hk e => by have := h.ro k hk; have := hr k e.symm; omega)
  ro := h.ro
  lo := h.lo
  m0 := h.m0
  mB := Nat.lt_of_lt_of_le h.mB hg.size
  G := fun i hi => (h.G i hi).turn hg (fun b hb e => by have := hr b e.symm; omega) (fun b hb _ => hb)
  hd := h.hd
theorem Tr.below {w w' : World} {B M : Nat} {v : Value} {gs : List (List Rec)} (h : Tr w B M v gs) (hb : Below w.heap.size w w') : Tr w' B M v gs := by
  obtain ⟨cls, P, h⟩ := h;exact ⟨cls, P, h.kept (gb_below hb none) (fun b e => by cases e)⟩
theorem Tr.map {w w' : World} {B M : Nat} {v : Value} {gs : List (List Rec)} (h : Tr w B M v gs) (hg : w.grownBy w' (some M)) : Tr w' B M v gs := by
  obtain ⟨cls, P, h⟩ := h;exact ⟨cls, P, h.kept hg (fun b e => by injection e with e; rw [<-e]; exact h.m0)⟩
theorem Tr.nil {w : World} {B M : Nat} (hM : M < w.heap.size) : Tr w B M (.slice none 0 0) [] :=
  ⟨fun _ => 0, fun _ => ⟨0, 0, none, 0, none, 0, Rec.zero⟩, World.ownsRow_nil _ _ _ _, (fun k hk => by cases hk), (fun _ _ => rfl), rfl, hM, (fun i hi => absurd hi (Nat.not_lt_zero _)), (fun i hi => absurd hi (Nat.not_lt_zero _))⟩
theorem Tr.new {w w1 w2 : World} {B M : Nat} {a : Option Addr} {c : Nat} {gs : List (List Rec)} {r : Rec} {kk kb : Nat} {pa : Option Addr} {pc : Nat} {vb : Nat} (h : Tr w B M (.slice a gs.length c) gs) (hb : Below w.heap.size w w1) (hr : ResAt w.heap.size w1 r kk kb pa pc)
    (hb2 : Below w1.heap.size w1 w2) (hv : w2.heap[vb]? = some (.cells (grpRaw kk kb).arr 46 (0, 0))) (hB : B <= w.heap.size) (hn : gs.length <= 3000) (hne : ∀ g ∈ gs, g ≠ []) :
    ∃ a' c' w3, (Builtin.append_ #[44, 44] 44 #[.slice a gs.length c, .slice (some ⟨vb, 0, none⟩) 1 1]).run Tryz.prog w2 = .ok (.slice a' (gs.length + 1) c') w3 /\ Tr1 w3 B M (.slice a' (gs.length + 1) c') (gs ++ [[]]) r /\ w2.grownBy w3 (Value.slice a gs.length c).ownBlock /\ (∀ k, (Value.slice a gs.length c).ownBlock = some k -> B <= k) /\ (∀ b, (∀ cs fr, w.heap[b]? ≠ some (.cells cs 46 fr)) -> some b ≠ (Value.slice a gs.length c).ownBlock) := by
  obtain ⟨cls, P, h⟩ := h;obtain ⟨i0, hi, hz0, hz1, hz2⟩ := info_parts infoKid;have hlt := h.row.lt;have row2 := h.row.kept (gb_below (hb.trans (hb2.mono hb.size)) none) (own_or fun k _ => by simp);have s1 := hb.size;have s2 := hb2.size;obtain ⟨v', w3, hrun, hown, hg, _, hl⟩ := run_append_own_at (P := Tryz.prog) w2 B 44 44 46 i0 _ 8 _ Tryz.underlying44 hi hz0 hz1 hz2 rfl (by decide) (.slice a gs.length c) gs.length _ row2 ⟨vb, 0, none⟩ 1 1 (grpRaw kk kb).cells rfl
    (fun j u hu => by rw [cell_add, Nat.zero_add, cell_of hv, <-hu]; simp [Raw.arr, Raw.cells]) (cells_one _) (by unfold maxLen; omega) (by omega) (by omega)
  obtain ⟨a', c', rfl⟩ : ∃ a' c', v' = .slice a' (gs.length + 1) c' := by
    rcases hown.2 with ⟨rfl, e0⟩ | ⟨g, cap, cur, rfl, _⟩
    · omega
    · exact ⟨_, _, rfl⟩
  have hro : ∀ k, (Value.slice a gs.length c).ownBlock = some k -> cls k = 1 /\ B <= k /\ k < w.heap.size := fun k hk => ⟨h.ro k hk, hlt k hk⟩;have hro' : ∀ k, (Value.slice a' (gs.length + 1) c').ownBlock = some k -> (cls k = 1 /\ B <= k /\ k < w.heap.size) ∨ k = w2.heap.size := fun k hk => by
    rcases hl with hl | hl
    · exact .inl (hro k (by rw [<-hl]; exact hk))
    · rw [hk] at hl; injection hl with hl; exact .inr hl
  have hmB := h.mB
  let cls' : Nat -> Nat := fun b => if b < w.heap.size then cls b else if b = w2.heap.size then 1 else gs.length + 2
  have c1 : ∀ b, b < w.heap.size -> cls' b = cls b := fun b hb => by simp [cls', hb]
  have c2 : ∀ b, w.heap.size <= b -> b ≠ w2.heap.size -> cls' b = gs.length + 2 := fun b h1 h2 => by simp only [cls']; rw [if_neg (by omega), if_neg h2]
  have c3 : cls' w2.heap.size = 1 := by show (if w2.heap.size < w.heap.size then cls w2.heap.size else if w2.heap.size = w2.heap.size then 1 else gs.length + 2) = 1; rw [if_neg (by omega), if_pos rfl]
  let P' : Nat -> Pl := fun i => if i = gs.length then ⟨kk, kb, none, 0, pa, pc, r⟩ else P i
  have p1 : ∀ i, i < gs.length -> P' i = P i := fun i hi => by simp only [P']; rw [if_neg (by omega)]
  have p2 : P' gs.length = ⟨kk, kb, none, 0, pa, pc, r⟩ := by show (if gs.length = gs.length then _ else _) = _; rw [if_pos rfl]
  have e1 : (gs ++ [([] : List Rec)]).length = gs.length + 1 := by simp
  refine ⟨a', c', w3, hrun, ⟨cls', P', ⟨?_, fun k hk => ?_, fun b hb => ?_, ?_, ?_, fun i hi => ?_, fun i hi => ?_⟩, fun i hi he => ?_⟩, hg, fun k hk => (hro k hk).2.1, fun b hnv e => ?_⟩
  · rw [e1, List.range_succ, List.flatMap_append, List.flatMap_singleton, p2];have : ((List.range gs.length).flatMap fun i => (grpRaw (P' i).kk (P' i).kb).cells) = (List.range gs.length).flatMap fun i => (grpRaw (P i).kk (P i).kb).cells := flat_congr _ fun i hi => by rw [p1 i (List.mem_range.1 hi)]
    rw [this];exact hown
  · rcases hro' k hk with ⟨h1, _, h3⟩ | rfl
    · rw [c1 k h3]; exact h1
    · exact c3
  · rw [c1 b (by omega)]; exact h.lo b hb
  · rw [c1 M hmB]; exact h.m0
  · have := hg.size; omega
  · rw [e1] at hi;by_cases hlt2 : i < gs.length
    · rw [p1 i hlt2, List.getElem_append_left hlt2];have g1 := ((h.G i hlt2).turn (gb_below (hb.trans (hb2.mono hb.size)) none) (by simp) (C' := fun b => cls b = i + 2 /\ b < w.heap.size) (fun b hb hl => ⟨hb, hl⟩));refine g1.turn hg (fun b hb e => ?_) (fun b hb _ => by rw [c1 b hb.2]; exact hb.1);have := (hro b e.symm).1;omega
    · obtain rfl : i = gs.length := by omega
      rw [p2];have e2 : (gs ++ [([] : List Rec)])[gs.length] = [] := by simp
      rw [e2];have g1 := (Grp.new hr hB (C := fun b => w.heap.size <= b /\ b < w1.heap.size ∨ w.heap.size <= b) (fun b hb => .inr hb));have g2 := (Grp.new hr hB (C := fun b => w.heap.size <= b) (fun b hb => hb)).turn (gb_refl w1 none) (by simp) (C' := fun b => w.heap.size <= b /\ b < w1.heap.size) (fun b hb hl => ⟨hb, hl⟩);have g3 := g2.turn (gb_below hb2 none) (by simp) (C' := fun b => w.heap.size <= b /\ b < w1.heap.size) (fun b hb _ => hb);refine g3.turn hg (fun b hb e => ?_) (fun b hb _ => c2 b hb.1 (by omega));have := (hro b e.symm).2.2;omega
  · rw [e1] at hi;by_cases hlt2 : i < gs.length
    · rw [p1 i hlt2, List.getElem_append_left hlt2]; exact h.hd i hlt2
    · obtain rfl : i = gs.length := by omega
      rw [p2];have e2 : (gs ++ [([] : List Rec)])[gs.length] = [] := by simp
      rw [e2]; rfl
  · rw [e1] at hi;by_cases hlt2 : i < gs.length
    · rw [List.getElem_append_left hlt2] at he;exact absurd he (hne _ (List.getElem_mem hlt2))
    · obtain rfl : i = gs.length := by omega
      rw [p2]
  · rcases h.row.2 with ⟨e2, _⟩ | ⟨g, cap, cur, e2, _, hg2, _⟩
    · rw [e2] at e; cases e
    · rw [e2] at e;simp only [Value.ownBlock, Option.some.injEq] at e
      subst e;exact hnv _ _ hg2
theorem Tr1.add {w : World} {B M : Nat} {v : Value} {gs : List (List Rec)} {r : Rec} (h : Tr1 w B M v gs r) {i : Nat} (hi : i < gs.length) (hB : B <= w.heap.size) (hn : gs[i].length <= 3000) :
    ∃ R c kb ia ic, v = .slice (some ⟨R, 0, none⟩) gs.length c /\ w.cell? ⟨R, i * 8 + 7, none⟩ = some (.slice (some ⟨kb, 0, none⟩) 5 5) /\ w.cell? ⟨kb, 7, none⟩ = some (.slice ia gs[i].length ic) /\ kb < w.heap.size /\ B <= kb ∧
      ∀ (w2 : World) (zb : Nat) (ra : Raw), Below w.heap.size w w2 -> w2.heap[zb]? = some (.cells Raw.zero.arr 46 (0, 0)) -> IsV w2 (fun b => w.heap.size <= b) ra (insV r) →
        ∃ gb ic' w3, (Builtin.append_ #[44, 44] 44 #[.slice ia gs[i].length ic, .slice (some ⟨zb, 0, none⟩) 1 1]).run Tryz.prog w2 = .ok (.slice (some ⟨gb, 0, none⟩) (gs[i].length + 1) ic') w3 ∧
          (gb ≠ kb /\ w3.cell? ⟨kb, 7, none⟩ = some (.slice ia gs[i].length ic) /\ w3.frozen? ⟨kb, 7, none⟩ = false) /\ (∀ j, j < 8 -> (∃ z, w3.cell? ⟨gb, gs[i].length * 8 + j, none⟩ = some z) /\ w3.frozen? ⟨gb, gs[i].length * 8 + j, none⟩ = false) ∧
          (w3.setCells gb (gs[i].length * 8) ra.cells).cell? ⟨kb, 7, none⟩ = some (.slice ia gs[i].length ic) /\ (w3.setCells gb (gs[i].length * 8) ra.cells).frozen? ⟨kb, 7, none⟩ = false ∧
          Tr ((w3.setCells gb (gs[i].length * 8) ra.cells).setCell ⟨kb, 7, none⟩ (.slice (some ⟨gb, 0, none⟩) (gs[i].length + 1) ic')) B M v (gs.set i (gs[i] ++ [r])) ∧
          (∃ row, w2.grownBy w3 row /\ w3.grownBy (w3.setCells gb (gs[i].length * 8) ra.cells) (some gb) /\ ∀ b, b < w.heap.size -> (∀ cs fr, w.heap[b]? ≠ some (.cells cs 46 fr)) -> some b ≠ row /\ b ≠ gb /\ b ≠ kb) ∧
          Below B w ((w3.setCells gb (gs[i].length * 8) ra.cells).setCell ⟨kb, 7, none⟩ (.slice (some ⟨gb, 0, none⟩) (gs[i].length + 1) ic')) := by
  obtain ⟨cls, P, h, hr0⟩ := h;have hG := h.G i hi;obtain ⟨R, c, hv⟩ : ∃ R c, v = .slice (some ⟨R, 0, none⟩) gs.length c := by
    rcases h.row.2 with ⟨rfl, h0⟩ | ⟨g, cap, cur, rfl, _⟩
    · omega
    · exact ⟨_, _, rfl⟩
  subst hv;have hR := h.row.lt R rfl;have hRc := h.ro R rfl;have hV7 : w.cell? ⟨(P i).kb, 7, none⟩ = some (.slice (P i).ia gs[i].length (P i).ic) := by rw [cell_of hG.V]; rfl
  refine ⟨R, c, (P i).kb, (P i).ia, (P i).ic, rfl, ?_, hV7, heap_lt hG.V, hG.bB, fun w2 zb ra hb hz hra => ?_⟩
  · have hfl : ((List.range gs.length).flatMap fun i => (grpRaw (P i).kk (P i).kb).cells) = ((List.range gs.length).map fun i => grpRaw (P i).kk (P i).kb).flatMap Raw.cells := by rw [List.flatMap_map]
    have hrow := h.row;rw [hfl] at hrow;have := hrow.cells (g := R) rfl (i * 8 + 7) _ (Jdec.flat_cells_at _ i (by simpa using hi) 7 (.slice (some ⟨(P i).kb, 0, none⟩) 5 5) (by simp [grpRaw, objR, Raw.cells]));rw [Addr.add_lit, Nat.zero_add] at this;exact this
  · obtain ⟨gb, ic', w3, hrun, G1, hg⟩ := hG.add (r := r) hb hz hra hn hB;have s1 := hb.size;have s2 := hg.size;have s3 := G1.gs.size;have V2 := (hb.block _ (heap_lt hG.V)).trans hG.V;have V4 : (w3.setCells gb (gs[i].length * 8) ra.cells).heap[(P i).kb]? = some (.cells ((rawsR (P i).ia gs[i].length (P i).ic (P i).a (P i).c (P i).r0).flatMap Raw.cells).toArray 46 (0, 0)) :=
      (G1.gs.block _ (by have := heap_lt V2; omega) (by have := G1.gkb; simp; omega)).trans (G1.V.trans V2)
    have hio := hG.io;have hgbv : ∀ b, b < w.heap.size -> (∀ cs fr, w.heap[b]? ≠ some (.cells cs 46 fr)) -> some b ≠ (Value.slice (P i).ia gs[i].length (P i).ic).ownBlock /\ b ≠ gb /\ b ≠ (P i).kb := fun b hb2 hnv => by
      refine ⟨fun e => ?_, fun e => ?_, fun e => ?_⟩
      · obtain ⟨rs, k1, k2, k3⟩ := hG.I;rcases k2.2 with ⟨e2, _⟩ | ⟨g, cap, cur, e2, _, hg2, _⟩
        · rw [e2] at e; cases e
        · rw [e2] at e;simp only [Value.ownBlock, Option.some.injEq] at e
          subst e;exact hnv _ _ hg2
      · subst e;rcases G1.own2 with h1 | h1
        · obtain ⟨rs, k1, k2, k3⟩ := hG.I;rcases k2.2 with ⟨e2, _⟩ | ⟨g, cap, cur, e2, _, hg2, _⟩
          · rw [e2] at h1; cases h1
          · rw [e2] at h1;simp only [Value.ownBlock, Option.some.injEq] at h1
            subst h1;exact hnv _ _ hg2
        · omega
      · subst e; exact hnv _ _ hG.V
    have gbo : gb < w.heap.size -> cls gb = i + 2 := fun hlt => by
      rcases G1.own with h1 | h1
      · exact h1
      · omega
    have gbB := G1.gbB;have kbB := hG.bB;have hcb : cls (P i).kb = i + 2 := hG.cb;have hoi : ∀ k, (Value.slice (P i).ia gs[i].length (P i).ic).ownBlock = some k -> cls k = i + 2 /\ B <= k := fun k hk => ⟨(hio k hk).1, (KidsA.lt hG.I k hk).1⟩;have G5 := gb_set (w3.setCells gb (gs[i].length * 8) ra.cells) (P i).kb 7 (.slice (some ⟨gb, 0, none⟩) (gs[i].length + 1) ic');have F := G1.fin;have g4 := G1.gs;have V47 := cell_of V4 7;have V4f := frozen_of V4 7;have V3 := G1.V.trans V2;refine ⟨gb, ic', w3, hrun, ⟨G1.gkb, by rw [cell_of V3]; rfl, frozen_of V3 7⟩, G1.e, by rw [V47]; rfl, V4f, ?_⟩;have gkb := G1.gkb;clear V4 V47 V4f hrun G1;generalize w3.setCells gb (gs[i].length * 8) ra.cells = w4 at F g4 G5 s3 ⊢;generalize w4.setCell ⟨(P i).kb, 7, none⟩ (.slice (some ⟨gb, 0, none⟩) (gs[i].length + 1) ic') = w5 at F G5 ⊢
    let cls' : Nat -> Nat := fun b => if b < w.heap.size then cls b else i + 2
    have c1 : ∀ b, b < w.heap.size -> cls' b = cls b := fun b hb => by simp [cls', hb]
    have c2 : ∀ b, w.heap.size <= b -> cls' b = i + 2 := fun b h1 => by simp only [cls']; rw [if_neg (by omega)]
    have hmB := h.mB;have e1 : (gs.set i (gs[i] ++ [r])).length = gs.length := List.length_set ..
    let P' : Nat -> Pl := fun j => if j = i then { P i with ia := some ⟨gb, 0, none⟩, ic := ic' } else P j
    have p1 : ∀ j, j ≠ i -> P' j = P j := fun j hj => by show (if j = i then _ else _) = _; rw [if_neg hj]
    have p2 : P' i = { P i with ia := some ⟨gb, 0, none⟩, ic := ic' } := by show (if i = i then _ else _) = _; rw [if_pos rfl]
    have p3 : ∀ j, (P' j).kk = (P j).kk /\ (P' j).kb = (P j).kb /\ (P' j).r0 = (P j).r0 := fun j => by
      by_cases hj : j = i
      · subst hj; rw [p2]; exact ⟨rfl, rfl, rfl⟩
      · rw [p1 j hj]; exact ⟨rfl, rfl, rfl⟩
    refine ⟨⟨cls', P', ⟨?_, fun k hk => ?_, fun b hb2 => ?_, ?_, ?_, fun j hj => ?_, fun j hj => ?_⟩⟩, ⟨_, hg, g4, hgbv⟩, ?_⟩
    · rw [e1, flat_congr (f := fun i => (grpRaw (P' i).kk (P' i).kb).cells) (g := fun i => (grpRaw (P i).kk (P i).kb).cells) (List.range gs.length) fun j _ => by rw [(p3 j).1, (p3 j).2.1]];have r2 := h.row.kept (gb_below hb none) (own_or fun k _ => by simp);have r3 := r2.kept hg (own_or fun k hk e => by obtain rfl : R = k := Option.some.inj hk; have := (hoi R e.symm).1; omega);have r4 := r3.kept g4 (own_or fun k hk e => by obtain rfl : R = k := Option.some.inj hk; have e : R = gb := Option.some.inj e; have := gbo (by omega); rw [<-e] at this; omega);exact r4.kept G5 (own_or fun k hk e => by obtain rfl : R = k := Option.some.inj hk; have e : R = (P i).kb := Option.some.inj e; rw [<-e] at hcb; omega)
    · injection hk with hk
      have hk : R = k := hk;rw [<-hk, c1 R hR.2]; exact hRc
    · rw [c1 b (by omega)]; exact h.lo b hb2
    · rw [c1 M hmB]; exact h.m0
    · have := G5.size; omega
    · have hj2 : j < gs.length := by rw [e1] at hj; exact hj
      by_cases hij : i = j
      · subst hij;rw [List.getElem_set_self, p2];refine F.turn (gb_refl _ none) (by simp) fun b hb2 _ => ?_;by_cases hbl : b < w.heap.size
        · rw [c1 b hbl];rcases hb2 with h1 | h1
          · exact h1
          · omega
        · exact c2 b (by omega)
      · rw [List.getElem_set_ne hij, p1 j (fun e => hij e.symm)];have t1 := (h.G j hj2).turn (gb_below hb none) (by simp) (C' := fun b => cls b = j + 2 /\ b < w.heap.size) (fun b hb hl => ⟨hb, hl⟩);have t2 := t1.turn hg (fun b hb2 e => by have := (hoi b e.symm).1; omega) (C' := fun b => cls b = j + 2 /\ b < w.heap.size) (fun b hb _ => hb);have t3 := t2.turn g4 (fun b hb2 e => by have e : b = gb := Option.some.inj e; have := gbo (by omega); rw [<-e] at this; omega) (C' := fun b => cls b = j + 2 /\ b < w.heap.size) (fun b hb _ => hb);refine t3.turn G5 (fun b hb2 e => by have e : b = (P i).kb := Option.some.inj e; rw [<-e] at hcb; omega) fun b hb2 _ => by rw [c1 b hb2.2]; exact hb2.1
    · have hj2 : j < gs.length := by rw [e1] at hj; exact hj
      by_cases hij : i = j
      · subst hij;rw [List.getElem_set_self, (p3 i).2.2];have h1 := h.hd i hi;have h2 := hr0 i hi
        cases hgi : gs[i] with
        | nil => rw [h2 hgi]; rfl
        | cons x t => rw [hgi] at h1; exact h1
      · rw [List.getElem_set_ne hij, (p3 j).2.2]; exact h.hd j hj2
    · refine ((((Below.refl B w).trans (hb.mono hB)).grown hg (by omega) (fun k hk => (hoi k hk).2)).grown g4 (by omega) (fun k hk => by injection hk with hk; omega)).grown G5 (by omega) (fun k hk => by injection hk with hk; omega)
theorem set_comm (w : World) (p q : Addr) (u v : Value) (h : p.block ≠ q.block) : (w.setCell p u).setCell q v = (w.setCell q v).setCell p u := by
  unfold World.setCell;simp only
  congr 1
  apply Array.ext
  · simp
  · intro i h1 h2
    simp only [Array.getElem_modify]
    by_cases hp : p.block = i
    · by_cases hq : q.block = i
      · exact absurd (hp.trans hq.symm) h
      · simp [hp, hq]
    · by_cases hq : q.block = i <;> simp [hp, hq]
theorem sets_comm {w x : World} {kb gb : Nat} {v : Value} (hx : w.setCell ⟨kb, 7, none⟩ v = x) (h : gb ≠ kb) : ∀ (j : Nat) (us : List Value), x.setCells gb j us = (w.setCells gb j us).setCell ⟨kb, 7, none⟩ v := by
  intro j us
  subst hx
  induction us generalizing w j with
  | nil => rfl
  | cons u us ih =>
    show ((w.setCell ⟨kb, 7, none⟩ v).setCell ⟨gb, j, none⟩ u).setCells gb (j + 1) us = _;rw [set_comm w ⟨kb, 7, none⟩ ⟨gb, j, none⟩ v u (fun e => h e.symm)];exact ih (w := w.setCell ⟨gb, j, none⟩ u) (j + 1)
theorem set_other {w x : World} {kb gb o : Nat} {v : Value} (hx : w.setCell ⟨kb, 7, none⟩ v = x) (h : gb ≠ kb) (hc : (∃ z, w.cell? ⟨gb, o, none⟩ = some z) /\ w.frozen? ⟨gb, o, none⟩ = false) : (∃ z, x.cell? ⟨gb, o, none⟩ = some z) /\ x.frozen? ⟨gb, o, none⟩ = false := by
  obtain ⟨⟨z, h1⟩, h2⟩ := hc;have hl := World.block_lt_of_cell? w _ h1;have hb : x.heap[gb]? = w.heap[gb]? := by rw [<-hx]; exact (gb_set w kb 7 v).block gb hl (by simp; exact h)
  exact ⟨⟨z, by rw [cell_blk hb]; exact h1⟩, by rw [<-h2]; simp only [World.frozen?, hb]⟩
theorem resV_of {g : List Rec} {r0 : Rec} (hn : g ≠ []) (h : g.headD r0 = r0) : resV g = resO r0 (g.map insV) := by
  cases g with
  | nil => exact absurd rfl hn
  | cons x t => rw [List.headD_cons] at h; subst h; rfl
theorem Tr.isV {w : World} {B M : Nat} {a : Option Addr} {c : Nat} {gs : List (List Rec)} (h : Tr w B M (.slice a gs.length c) gs) (hn : ∀ g ∈ gs, g ≠ []) : IsV w (fun b => B <= b) (lstR a gs.length c) (listOf (gs.map resV)) := by
  obtain ⟨cls, P, h⟩ := h;have hlo : ∀ b, cls b ≠ 0 -> B <= b := fun b hb => by
    by_cases h1 : b < B
    · exact absurd (h.lo b h1) hb
    · omega
  have hfl : ((List.range gs.length).flatMap fun i => (grpRaw (P i).kk (P i).kb).cells) = ((List.range gs.length).map fun i => grpRaw (P i).kk (P i).kb).flatMap Raw.cells := by rw [List.flatMap_map]
  have hrow := h.row;rw [hfl] at hrow;refine .mk (lstR a gs.length c) [] (gs.map resV) (fun i => grpRaw (P i).kk (P i).kb) rfl (by simp [lstR]) (.inl rfl) ?_ (fun i hi => ?_)
  · rcases hrow.2 with ⟨hx, h0⟩ | ⟨g, cap, cur, hx, hg, _⟩
    · exact .inl (by rw [List.length_eq_zero_iff.1 h0]; rfl)
    · injection hx with x1 x2 x3
      refine .inr ⟨g, 0, x1, hg, (hrow.lt g (by rw [x1]; rfl)).2, fun i hi j u hu => ?_⟩;rw [List.length_map] at hi;have hir : i < ((List.range gs.length).map fun i => grpRaw (P i).kk (P i).kb).length := by simpa using hi
      have := hrow.cells (g := g) (by rw [x1]; rfl) _ _ (Jdec.flat_cells_at _ i hir j u (by rw [List.getElem_map, List.getElem_range]; exact hu));rw [Addr.add_lit, Nat.zero_add] at this;rw [Nat.zero_add]; exact this
  · rw [List.length_map] at hi;rw [List.getElem_map, resV_of (hn _ (List.getElem_mem hi)) (h.hd i hi)];exact (h.G i hi).isV.turn (Turn.mono w fun b hb _ => hlo b (by rw [hb]; omega))
end Go.Proofs.YtfdjolfenghmaaaGreatDoor.Save
