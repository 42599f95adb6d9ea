/- save.instance. -/
import Derived.Test.YtfdjolfenghmaaaGreatDoorWSvE
import Derived.Deep.CutBlock
set_option linter.unusedVariables false
set_option linter.unusedSimpArgs false
set_option maxRecDepth 100000
namespace Go.Proofs.YtfdjolfenghmaaaGreatDoor.Save
open Go.RowKit Go.Shelf Utf Strs Go.Proofs.YtfdjolfenghmaaaGreatDoor.Addr Go.Proofs.YtfdjolfenghmaaaGreatDoor.State
open Jdec (Raw JV IsV IsTexts Turn gb_set gb_below gb_refl gb8 set8 val_ret val_cells own_new KidsA listOf objectOf set6 set7 infoStr)
theorem app_key {w : World} {B : Nat} {a : Option Addr} {c : Nat} {ks : List ByteArray} (h : w.ownsRow B 9 1 (.slice a ks.length c) ks.length (ks.map Value.string)) (b : Nat) (s : ByteArray) (hb : w.heap[b]? = some (.cells #[.string s] 9 (0, 0))) (hn : ks.length <= 3000) (hB : B <= w.heap.size) : ∃ a' c' w', (Builtin.append_ #[33, 33] 33 #[.slice a ks.length c, .slice (some ⟨b, 0, none⟩) 1 1]).run Tryz.prog w = .ok (.slice a' (ks.length + 1) c') w' /\ w'.ownsRow B 9 1 (.slice a' (ks.length + 1) c') (ks.length + 1) ((ks ++ [s]).map Value.string) /\ w.grownBy w' (Value.slice a ks.length c).ownBlock := by
  obtain ⟨i0, hi, hz0, hz1, hz2⟩ := info_parts infoStr;obtain ⟨v', w', hrun, hown, hg, _, hl⟩ := run_append_own_at (P := Tryz.prog) w B 33 33 9 i0 _ 1 _ Tryz.underlying33 hi hz0 hz1 hz2 rfl (by decide) (.slice a ks.length c) ks.length (ks.map Value.string) h ⟨b, 0, none⟩ 1 1 [.string s] rfl
    (fun j u hu => by rw [cell_add, Nat.zero_add, cell_of hb, <-hu]; simp) (fun u hu => by rw [List.mem_singleton.1 hu]; rfl) (by unfold maxLen; omega) (by omega) hB
  obtain ⟨a', c', rfl⟩ : ∃ a' c', v' = .slice a' (ks.length + 1) c' := by
    rcases hown.2 with ⟨rfl, e0⟩ | ⟨g, cap, cur, rfl, _⟩
    · omega
    · exact ⟨_, _, rfl⟩
  exact ⟨a', c', w', hrun, by rw [List.map_append]; exact hown, hg⟩
theorem key1_new (w : World) (s : ByteArray) : ∃ w1, w.alloc (.cells #[.string s] 9) = w1 /\ Hid (w1.heap[w.heap.size]? = some (.cells #[.string s] 9 (0, 0))) /\ Hid (Below w.heap.size w w1) :=
  ⟨_, rfl, heap_alloc_new _ _, (Below.refl _ _).alloc (Nat.le_refl _) _⟩
structure AttAt (w : World) (ab : Nat) (l : List (ByteArray × ByteArray)) (ka : Option Addr) (kc : Nat) (va : Option Addr) (vc : Nat) : Prop where
  V : w.heap[ab]? = some (.cells (objR ka l.length kc va l.length vc).arr 46 (0, 0))
  K : w.ownsRow (ab + 1) 9 1 (.slice ka l.length kc) l.length ((l.map (·.1)).map Value.string)
  W : KidsA w (ab + 1) (fun _ => False) (.slice va l.length vc) (l.map fun x => strV x.2)
theorem rows_apart {w : World} {B : Nat} {C : Nat -> Prop} {a va : Option Addr} {n m c vc : Nat} {xs : List Value} {ts : List JV} (h : w.ownsRow B 9 1 (.slice a n c) n xs) (h' : KidsA w B C (.slice va m vc) ts) : (Value.slice va m vc).ownBlock = none ∨ (Value.slice va m vc).ownBlock ≠ (Value.slice a n c).ownBlock := by
  obtain ⟨rs, h1, h2, h3⟩ := h';exact Jdec.rows_ne h2 h (by decide)
theorem AttAt.below {w w' : World} {ab : Nat} {l : List (ByteArray × ByteArray)} {ka va : Option Addr} {kc vc : Nat} (h : AttAt w ab l ka kc va vc) (hb : Below w.heap.size w w') : AttAt w' ab l ka kc va vc :=
  ⟨(hb.block _ (heap_lt h.V)).trans h.V, h.K.kept (gb_below hb none) (by cases (Value.slice ka l.length kc).ownBlock <;> simp), KidsA.below h.W hb (fun b hb _ => hb)⟩
structure AttK (w : World) (ab : Nat) (l : List (ByteArray × ByteArray)) (x : ByteArray) (ka : Option Addr) (kc : Nat) (va : Option Addr) (vc : Nat) : Prop where
  V : w.heap[ab]? = some (.cells (objR ka (l.length + 1) kc va l.length vc).arr 46 (0, 0))
  K : w.ownsRow (ab + 1) 9 1 (.slice ka (l.length + 1) kc) (l.length + 1) ((l.map (·.1) ++ [x]).map Value.string)
  W : KidsA w (ab + 1) (fun _ => False) (.slice va l.length vc) (l.map fun x => strV x.2)
theorem AttK.below {w w' : World} {ab : Nat} {l : List (ByteArray × ByteArray)} {x : ByteArray} {ka va : Option Addr} {kc vc : Nat} (h : AttK w ab l x ka kc va vc) (hb : Below w.heap.size w w') : AttK w' ab l x ka kc va vc :=
  ⟨(hb.block _ (heap_lt h.V)).trans h.V, h.K.kept (gb_below hb none) (by cases (Value.slice ka (l.length + 1) kc).ownBlock <;> simp), KidsA.below h.W hb (fun b hb _ => hb)⟩
theorem strs_none {w : World} {B : Nat} {C : Nat -> Prop} {v : Value} {ts : List JV} (h : KidsA w B C v ts) (ht : ∀ t ∈ ts, ∃ s, t = strV s) : KidsA w B (fun _ => False) v ts := by
  obtain ⟨rs, h1, h2, h3⟩ := h;refine ⟨rs, h1, h2, fun i hi hi' => ?_⟩;obtain ⟨s, hs⟩ := ht _ (List.getElem_mem hi');have h4 := h3 i hi hi';rw [hs] at h4 ⊢;obtain ⟨ka, kc, va, vc, e, _⟩ := h4.parts;rw [e];exact IsV.bare _ _ 4 false false ⟨#[]⟩ 0 s ka va kc vc
theorem strs_turn {w w' : World} {B : Nat} {v : Value} {ts : List JV} {row : Option Nat} (h : KidsA w B (fun _ => False) v ts) (hg : w.grownBy w' row) (h1 : v.ownBlock = none ∨ v.ownBlock ≠ row) : KidsA w' B (fun _ => False) v ts := h.turn hg h1 (fun b hb _ => hb.elim)
theorem AttAt.isV {w : World} {ab : Nat} {l : List (ByteArray × ByteArray)} {ka va : Option Addr} {kc vc : Nat} (h : AttAt w ab l ka kc va vc) {B : Nat} (hB : B <= ab) : IsV w (fun b => B <= b) (objR ka l.length kc va l.length vc) (attV l) := by
  obtain ⟨rs, h1, h2, h3⟩ := h.W;rw [List.length_map] at h1 h2;refine .mk (objR ka l.length kc va l.length vc) (l.map (·.1)) (l.map fun x => strV x.2) (fun i => rs.getD i Raw.zero) (by simp [objR]) (by simp [objR]) ?_ ?_ (fun i hi => ?_)
  · rcases h.K.2 with ⟨hx, h0⟩ | ⟨g, cap, cur, hx, hg, _⟩
    · exact .inl (by rw [List.length_eq_zero_iff.1 h0]; rfl)
    · injection hx with x1 x2 x3
      refine .inr ⟨g, 0, x1, by show B <= g; omega, (h.K.lt g (by rw [x1]; rfl)).2, fun i hi => ?_⟩;have := h.K.cells (g := g) (by rw [x1]; rfl) i (.string (l.map (·.1))[i]) (by rw [List.getElem?_map, List.getElem?_eq_getElem hi]; rfl);rw [Addr.add_lit, Nat.zero_add] at this;rw [Nat.zero_add]; exact this
  · rcases h2.2 with ⟨hx, h0⟩ | ⟨g, cap, cur, hx, hg, _⟩
    · exact .inl (by rw [List.length_eq_zero_iff.1 h0]; rfl)
    · injection hx with x1 x2 x3
      refine .inr ⟨g, 0, x1, by show B <= g; omega, (h2.lt g (by rw [x1]; rfl)).2, fun i hi j u hu => ?_⟩;rw [List.length_map] at hi;have hir : i < rs.length := by omega
      have hu' : rs[i].cells[j]? = some u := by
        have : rs.getD i Raw.zero = rs[i] := by simp [List.getD, hir]
        rw [<-this]; exact hu
      have := h2.cells (g := g) (by rw [x1]; rfl) _ _ (Jdec.flat_cells_at rs i hir j u hu');rw [Addr.add_lit, Nat.zero_add] at this;rw [Nat.zero_add]; exact this
  · have hir : i < rs.length := by rw [List.length_map] at hi; omega
    have : rs.getD i Raw.zero = rs[i] := by simp [List.getD, hir]
    show IsV w _ (rs.getD i Raw.zero) _;rw [this];exact (h3 i hir hi).turn (Turn.mono w (fun b hb _ => hb.1.elim))
theorem AttAt.key {w w' : World} {ab : Nat} {l : List (ByteArray × ByteArray)} {x : ByteArray} {ka va : Option Addr} {kc vc : Nat} {ka' : Option Addr} {kc' : Nat} (h : AttAt w ab l ka kc va vc)
    (hK : w'.ownsRow (ab + 1) 9 1 (.slice ka' (l.length + 1) kc') (l.length + 1) ((l.map (·.1) ++ [x]).map Value.string)) (hg : w.grownBy w' (Value.slice ka l.length kc).ownBlock) :
    AttK (w'.setCell ⟨ab, 6, none⟩ (.slice ka' (l.length + 1) kc')) ab l x ka' kc' va vc := by
  have hab : some ab ≠ (Value.slice ka l.length kc).ownBlock := fun e => by have := (h.K.lt ab e.symm).1; omega
  have hV : w'.heap[ab]? = some (.cells (objR ka l.length kc va l.length vc).arr 46 (0, 0)) := (hg.block _ (heap_lt h.V) hab).trans h.V;have hab' : (Value.slice ka' (l.length + 1) kc').ownBlock = none ∨ (Value.slice ka' (l.length + 1) kc').ownBlock ≠ some ab := by
    cases ho : (Value.slice ka' (l.length + 1) kc').ownBlock with
    | none => exact .inl rfl
    | some k => exact .inr (by have := (hK.lt k ho).1; simp; omega)
  have hW := strs_turn h.W hg (rows_apart h.K h.W);exact ⟨set6 hV, hK.kept (gb_set _ _ _ _) hab', strs_turn hW (gb_set _ _ _ _) (by
    cases ho : (Value.slice va l.length vc).ownBlock with
    | none => exact .inl rfl
    | some k => exact .inr (by have := (KidsA.lt hW k ho).1; simp; omega))⟩
theorem AttK.val {w w' : World} {ab : Nat} {l : List (ByteArray × ByteArray)} {x y : ByteArray} {ka va : Option Addr} {kc vc : Nat} {va' : Option Addr} {vc' : Nat} (h : AttK w ab l x ka kc va vc)
    (hW : KidsA w' (ab + 1) (fun _ => False) (.slice va' (l.length + 1) vc') (l.map (fun x => strV x.2) ++ [strV y])) (hg : w.grownBy w' (Value.slice va l.length vc).ownBlock) :
    AttAt (w'.setCell ⟨ab, 7, none⟩ (.slice va' (l.length + 1) vc')) ab (l ++ [(x, y)]) ka kc va' vc' := by
  have hab : some ab ≠ (Value.slice va l.length vc).ownBlock := fun e => by have := (KidsA.lt h.W ab e.symm).1; omega
  have hV : w'.heap[ab]? = some (.cells (objR ka (l.length + 1) kc va l.length vc).arr 46 (0, 0)) := (hg.block _ (heap_lt h.V) hab).trans h.V;have ap := rows_apart h.K h.W;have hK := h.K.kept hg (by
    cases ho : (Value.slice ka (l.length + 1) kc).ownBlock with
    | none => exact .inl rfl
    | some k =>
      refine .inr fun e => ?_;rcases ap with ap | ap
      · rw [ap] at e; cases e
      · exact ap (by rw [ho, e]))
  have e1 : (l ++ [(x, y)]).length = l.length + 1 := by simp
  refine ⟨?_, ?_, ?_⟩
  · rw [e1]; exact set7 hV
  · rw [e1, List.map_append];refine hK.kept (gb_set _ _ _ _) ?_
    cases ho : (Value.slice ka (l.length + 1) kc).ownBlock with
    | none => exact .inl rfl
    | some k => exact .inr (by have := (h.K.lt k ho).1; simp; omega)
  · rw [e1, List.map_append];refine strs_turn hW (gb_set _ _ _ _) ?_
    cases ho : (Value.slice va' (l.length + 1) vc').ownBlock with
    | none => exact .inl rfl
    | some k => exact .inr (by have := (KidsA.lt hW k ho).1; simp; omega)
theorem AttAt.nil {w : World} {ab : Nat} (h : w.heap[ab]? = some (.cells (objR none 0 0 none 0 0).arr 46 (0, 0))) : AttAt w ab [] none 0 none 0 := ⟨h, World.ownsRow_nil _ _ _ _, KidsA.nil _ _ _⟩
theorem wp_append_run {P : Program} {w w' : World} {o : Oper} {a : Act} {K : Act -> World -> Prop} {Q : Exit -> Act -> World -> Prop} {v' : Value} (v1 v2 : Value) (t : TypeId) (hr : (Builtin.append_ #[t, t] o.type #[v1, v2]).run P w = .ok v' w') (s x : Operand)
    (ho : o.op = .call { callee := .builtin .append, args := #[s, x], argTypes := #[t, t] }) (hs : a.eval s = v1) (hx : a.eval x = v2) (h : K (a.put o.dst v') w') : Oper.wp P o a w K Q := by
  unfold Oper.wp;simp [execOp, ho, resolve, invoke, builtin, hs, hx, hr, Result.andThen]
  exact h
end Go.Proofs.YtfdjolfenghmaaaGreatDoor.Save
