/- jdec's table of ways; what all readers of values lean on; ends wherever the parser stands. -/
import Derived.Test.YtehffmcfmdjknaaDoorJdecE
import Derived.Deep.AppendLies
import Derived.Deep.RegionLaw
import Derived.Maps.OwnSet
import Derived.Maps.OwnOps
namespace Go.Proofs.YtehffmcfmdjknaaDoor.Jdec
open Go.RowKit Go.Proofs.YtehffmcfmdjknaaDoor.Strs
set_option linter.unusedVariables false
set_option linter.unusedSimpArgs false
set_option maxRecDepth 100000

/-- With what the values of a way begin. -/
def wayS : Nat → ByteArray
  | 0 => ⟨#[34]⟩
  | 1 => ⟨#[45, 48, 49, 50, 51, 52, 53, 54, 55, 56, 57]⟩
  | 2 => ⟨#[123]⟩
  | 3 => ⟨#[91]⟩
  | 4 => ⟨#[116]⟩
  | 5 => ⟨#[102]⟩
  | _ => ⟨#[110]⟩
/-- On, unless an error was met. -/
def onE {α : Type} (r : Except Er Nat) (f : Nat → Except Er α) : Except Er α :=
  match r with
  | .ok q => f q
  | .error y => .error y
/-- A byte that must be there. -/
def must (l : List UInt8) (c : UInt8) (q : Nat) : Except Er Nat := if l[q]? = some c then .ok (q + 1) else .error (here l q)
end Go.Proofs.YtehffmcfmdjknaaDoor.Jdec
/- jdec's parser: lists. -/
namespace Go.Proofs.YtehffmcfmdjknaaDoor.Jdec
open Go.RowKit Go.Proofs.YtehffmcfmdjknaaDoor.Strs
set_option linter.unusedVariables false
set_option linter.unusedSimpArgs false
set_option maxRecDepth 100000

theorem infoKid : (Tryd.prog.info? 27).map (fun i => (i.zero, i.size, i.bytes)) = some (some (.agg #[.int .i64 0, .bool false, .bool false, .string ⟨#[]⟩, .int .i64 0, .string ⟨#[]⟩, .slice none 0 0, .slice none 0 0]), 8, 112) := by kernel_rfl
def lmeas (s : ByteArray) (P : Nat) (w : World) : Nat := if intOf ((w.cell? ⟨P, 4, none⟩).getD undef) = 0 then s.size + 2 - (intOf ((w.cell? ⟨P, 1, none⟩).getD undef)).toNat else 0

/-- Where a value ends. -/
def vpos (r : Except Er (JV × Nat)) : Except Er Nat :=
  match r with
  | .ok x => .ok x.2
  | .error y => .error y
def listR (r : Except Er (List JV × Nat)) : Except Er (JV × Nat) :=
  match r with
  | .error x => .error x
  | .ok (vs, r) => .ok (listOf vs, r)
theorem list_eq (l : List UInt8) (val : Val) (p : Nat) : list l val p = if l[skip l (p + 1)]? = some 93 then .ok (listOf [], skip l (p + 1) + 1) else listR (items l val (l.length + 1) (skip l (p + 1)) []) := rfl
/-- A list's words. -/
def lraw (va : Option Addr) (vn vc : Nat) : Raw := ⟨5, false, false, ⟨#[]⟩, 0, ⟨#[]⟩, none, 0, 0, va, vn, vc⟩
theorem list_is {w : World} {B : Nat} {va : Option Addr} {vc : Nat} {ts : List JV} (h : Kids w B (.slice va ts.length vc) ts) : IsV w (fun j => B ≤ j) (lraw va ts.length vc) (listOf ts) := by
  obtain ⟨_, f, h1, h2⟩ := h.isV
  exact .mk (lraw va ts.length vc) [] ts f rfl rfl (.inl rfl) h1 h2
/-- What an append to the row leaves, the row's slice in a block of its own. -/
theorem kid_put {w5 w6 : World} {b : Nat} {va : Option Addr} {vc g cap : Nat} {acc : List JV} {a : Raw} {t : JV} {rs : List Raw} (o : Obj) (k1 : rs.length = acc.length)
    (k2 : w5.ownsRow (b + 1) 27 8 (.slice va acc.length vc) acc.length (rs.flatMap Raw.cells))
    (k3 : ∀ i (h : i < rs.length) (h' : i < acc.length), IsV w5 (fun j => b + 1 ≤ j ∧ some j ≠ (Value.slice va acc.length vc).ownBlock) rs[i] acc[i])
    (hiv : IsV w5 (fun j => b + 1 ≤ j ∧ some j ≠ (Value.slice va acc.length vc).ownBlock) a t)
    (hown : w6.ownsRow (b + 1) 27 8 (.slice (some ⟨g, 0, none⟩) (acc.length + 1) cap) (acc.length + 1) (rs.flatMap Raw.cells ++ a.cells)) (hgrow : (w5.alloc o).grownBy w6 (Value.slice va acc.length vc).ownBlock)
    (hat : (Value.slice va acc.length vc).ownBlock = some g ∨ g = w5.heap.size + 1) : Kids w6 (b + 1) (.slice (some ⟨g, 0, none⟩) (acc ++ [t]).length cap) (acc ++ [t]) := by
  have T : ∀ {A : Nat → Prop}, Turn w5 (w5.alloc o) A A := fun {A} => Turn.grown (World.grownBy_alloc _ _ none) (fun b _ => by simp)
  have := Kids.snoc (w := w5.alloc o) (r := a) (t := t) rs k1 (k2.alloc o) (fun i h h' => (k3 i h h').turn T) (hiv.turn T) hown hgrow (by
    rcases hat with h | h
    · left; rw [h]; rfl
    · right; rw [h]; simp [Value.ownBlock])
  rw [List.length_append]; exact this

theorem call_keeps {wr w6 : World} {b P : Nat} {r : Raw} {T : TypeId} (hY : wr.heap[b]? = some (.cells r.arr T (0, 0))) (g : wr.drew.grownBy w6 (some P)) (hP : P < b) : Hid (w6.heap[b]? = some (.cells r.arr T (0, 0))) := by
  have : w6.heap[b]? = wr.drew.heap[b]? := g.block b (heap_lt hY) (by simp; omega)
  exact this.trans hY

theorem kid_ne {w : World} {b n : Nat} {v : Value} {xs : List Value} (h : w.ownsRow (b + 1) 27 8 v n xs) : some b ≠ v.ownBlock := by
  intro e
  have := (h.lt b e.symm).1
  omega

theorem kid_far {w w' : World} {b : Nat} {x o : Obj} {row : Option Nat} (h : w.heap[b]? = some x) (hg : (w.alloc o).grownBy w' row) (hne : some b ≠ row) : Hid (w'.heap[b]? = some x) := by
  have hb := heap_lt h
  rw [Hid, hg.block b (by simp; omega) hne]
  exact heap_alloc_old h

theorem kid_below {w w' : World} {b n : Nat} {o : Obj} {v u : Value} {xs : List Value} (hg : (w.alloc o).grownBy w' v.ownBlock) (h : w.ownsRow (b + 1) 27 8 v n xs) (hb : b < w.heap.size) {j : Nat} {c : Nat} (hj : b ≤ j) : Below b w (w'.setCell ⟨j, c, none⟩ u) :=
  (((Below.refl b w).alloc (by omega) _).grown hg (by simp; omega) (fun k hk => by have := (h.lt k hk).1; omega)).setCell (p := ⟨j, c, none⟩) hj _
theorem gb_keeps {w w' : World} {b P : Nat} {x : Obj} (h : w.heap[b]? = some x) (g : w.grownBy w' (some P)) (hP : P < b) : Hid (w'.heap[b]? = some x) := by
  rw [Hid, g.block b (heap_lt h) (by simp; omega)]; exact h

end Go.Proofs.YtehffmcfmdjknaaDoor.Jdec
/- jdec's parser: keys, and the map of those seen. -/
namespace Go.Proofs.YtehffmcfmdjknaaDoor.Jdec
open Go.RowKit Go.Maps Go.Proofs.YtehffmcfmdjknaaDoor.Strs
set_option linter.unusedVariables false
set_option linter.unusedSimpArgs false
set_option maxRecDepth 100000

theorem zeroBool (w : World) : (zeroValue 4).run Tryd.prog w = .ok (.bool false) w := by kernel_rfl
theorem plainElem_bool_inv {H : Type} {P : Program} {e : TypeId} (he : P.underlying e = some .bool) {v : Value} {x : Bool} {ps : List MemPlace} (h : plainElem (H := H) P e v = some (.lit (.bool x), ps)) : v = .bool x := by
  unfold plainElem at h
  rw [he] at h
  cases v <;> simp at h
  rw [h.1]
theorem keyLaw : Keyed Tryd.prog 9 := string_keyed Tryd.underlying9
/-- The map at block M has the keys ks. -/
def Seen (w : World) (M n : Nat) (ks : List ByteArray) : Prop :=
  ∃ D : DataW Unit, w.ownsMap Tryd.prog 9 (plainElem Tryd.prog 4) M n D ∧ ∀ d : ByteArray, D.atKey (.string d.data.toList) (.lit (.bool false)) = .lit (.bool (ks.any (fun x => decide (x = d))))
theorem Seen.made (w : World) : Seen (w.alloc (.map #[] 0)) w.heap.size 0 [] := ⟨.map [], World.ownsMap_made _ _ _ _, fun d => rfl⟩
theorem Seen.kept {w w' : World} {M n : Nat} {ks : List ByteArray} {row : Option Nat} (h : Seen w M n ks) (g : w.grownBy w' row) (hM : some M ≠ row) : Seen w' M n ks := by
  obtain ⟨D, h1, h2⟩ := h
  exact ⟨D, h1.kept g hM, h2⟩
theorem key_of (d : ByteArray) (hd : d.size ≤ maxLen) : keyOf Tryd.prog 9 (.string d) = some (.string d.data.toList) := Go.WideMaps.keyOf_string_mk Tryd.underlying9 hd
theorem Seen.look {w : World} {M n : Nat} {ks : List ByteArray} (h : Seen w M n ks) (d : ByteArray) (hd : d.size ≤ maxLen) :
    (Instr.lookup 86 (.map (some M)) (.string d) false).run Tryd.prog w = .ok (.bool (ks.any (fun x => decide (x = d)))) w := by
  obtain ⟨D, h1, h2⟩ := h
  obtain ⟨v, ps, hrun, hv⟩ := h1.lookup keyLaw Tryd.underlying86 (zeroBool w) (plainElem_bool Tryd.underlying4 false) (key_of d hd)
  rw [h2 d] at hv
  rw [hrun, plainElem_bool_inv Tryd.underlying4 hv]
theorem Seen.put {w w' : World} {M n : Nat} {ks : List ByteArray} {d : ByteArray} {D : DataW Unit} (h0 : w.ownsMap Tryd.prog 9 (plainElem Tryd.prog 4) M n D) (h2 : ∀ d : ByteArray, D.atKey (.string d.data.toList) (.lit (.bool false)) = .lit (.bool (ks.any (fun x => decide (x = d)))))
    (h1 : w'.ownsMap Tryd.prog 9 (plainElem Tryd.prog 4) M (n + 1) (D.put (.string d.data.toList) (.lit (.bool true)))) : Seen w' M (n + 1) (ks ++ [d]) := by
  refine ⟨_, h1, fun d' => ?_⟩
  by_cases e : d = d'
  · subst e
    rw [atKey_put_same h0.isMap (by trivial)]
    simp
  · rw [atKey_put_other, h2 d']
    · simp [e]
    · intro h
      injection h with h
      apply e
      cases d; cases d'
      simp only [ByteArray.mk.injEq]
      exact (Array.toList_inj.1 h.symm)
end Go.Proofs.YtehffmcfmdjknaaDoor.Jdec
/- jdec's parser: key. -/
namespace Go.Proofs.YtehffmcfmdjknaaDoor.Jdec
open Go.RowKit Go.Maps Go.Proofs.YtehffmcfmdjknaaDoor.Strs
set_option linter.unusedVariables false
set_option linter.unusedSimpArgs false
set_option maxRecDepth 100000

/-- What turned is the parser and the map. -/
def Two (w w' : World) (P M : Nat) : Prop := ∃ wm, w.grownBy wm (some P) ∧ wm.grownBy w' (some M) ∧ ∃ es c, w'.heap[M]? = some (.map es c)
theorem Seen.map {w : World} {M n : Nat} {ks : List ByteArray} (h : Seen w M n ks) : ∃ es c, w.heap[M]? = some (.map es c) := by
  obtain ⟨D, ⟨es, c, h, _⟩, _⟩ := h
  exact ⟨es, c, h⟩
theorem quoted_small {s : ByteArray} {k q : Nat} {d : ByteArray} (h : quoted s.data.toList k = .ok (d, q)) : d.size ≤ s.size := by
  unfold quoted at h
  split at h
  · cases h
  · rename_i o n hn
    injection h with h
    injection h with h1 h2
    have := quote_fits hn
    rw [List.length_drop] at this
    have hl : s.data.toList.length = s.size := by simp
    rw [← h1]
    show o.toArray.size ≤ s.size
    rw [List.size_toArray]; omega

end Go.Proofs.YtehffmcfmdjknaaDoor.Jdec
/- jdec's parser: an object in the making. -/
namespace Go.Proofs.YtehffmcfmdjknaaDoor.Jdec
open Go.RowKit Go.Maps Go.Proofs.YtehffmcfmdjknaaDoor.Strs
set_option linter.unusedVariables false
set_option linter.unusedSimpArgs false
set_option maxRecDepth 100000

/-- A row of values whose parts lie in A's blocks. -/
def KidsA (w : World) (B : Nat) (A : Nat → Prop) (v : Value) (ts : List JV) : Prop :=
  ∃ rs : List Raw, rs.length = ts.length ∧ w.ownsRow B 27 8 v ts.length (rs.flatMap Raw.cells) ∧
    ∀ i (h : i < rs.length) (h' : i < ts.length), IsV w (fun b => A b ∧ some b ≠ v.ownBlock) rs[i] ts[i]
theorem KidsA.turn {w w' : World} {B : Nat} {A A' : Nat → Prop} {v : Value} {ts : List JV} {row : Option Nat} (h : KidsA w B A v ts) (hg : w.grownBy w' row) (h1 : v.ownBlock = none ∨ v.ownBlock ≠ row) (h2 : ∀ b, A b → b < w.heap.size → some b ≠ row ∧ A' b) : KidsA w' B A' v ts := by
  obtain ⟨rs, k1, k2, k3⟩ := h
  refine ⟨rs, k1, k2.kept hg h1, fun i hi hi' => (k3 i hi hi').turn ⟨hg.size, fun b hb hlt => ?_⟩⟩
  obtain ⟨h3, h4⟩ := h2 b hb.1 hlt
  exact ⟨hg.block b hlt h3, h4, hb.2⟩
theorem KidsA.kids {w : World} {B : Nat} {A : Nat → Prop} {v : Value} {ts : List JV} (h : KidsA w B A v ts) (hA : ∀ b, A b → B ≤ b) : Kids w B v ts := by
  obtain ⟨rs, k1, k2, k3⟩ := h
  exact ⟨rs, k1, k2, fun i hi hi' => (k3 i hi hi').turn (Turn.mono w (fun b hb _ => ⟨hA b hb.1, hb.2⟩))⟩
theorem KidsA.snoc {w w' : World} {B : Nat} {A : Nat → Prop} {v v' : Value} {ts : List JV} {r : Raw} {t : JV} (rs : List Raw) (h1 : rs.length = ts.length) (h2 : w.ownsRow B 27 8 v ts.length (rs.flatMap Raw.cells))
    (h3 : ∀ i (h : i < rs.length) (h' : i < ts.length), IsV w (fun b => A b ∧ some b ≠ v.ownBlock) rs[i] ts[i]) (hr : IsV w (fun b => A b ∧ some b ≠ v.ownBlock) r t)
    (hown : w'.ownsRow B 27 8 v' (ts.length + 1) (rs.flatMap Raw.cells ++ r.cells)) (hg : w.grownBy w' v.ownBlock) (hl : v'.ownBlock = v.ownBlock ∨ v'.ownBlock = some w.heap.size) : KidsA w' B A v' (ts ++ [t]) := by
  have T : Turn w w' (fun b => A b ∧ some b ≠ v.ownBlock) (fun b => A b ∧ some b ≠ v'.ownBlock) := ⟨hg.size, fun b hb hlt => ⟨hg.block b hlt hb.2, hb.1, by
    rcases hl with e | e
    · rw [e]; exact hb.2
    · rw [e]; intro x; injection x with x; omega⟩⟩
  refine ⟨rs ++ [r], by simp [h1], by simpa using hown, fun i hi hi' => ?_⟩
  by_cases hlt : i < rs.length
  · rw [List.getElem_append_left hlt, List.getElem_append_left (by omega)]
    exact (h3 i hlt (by omega)).turn T
  · have he : i = rs.length := by simp at hi; omega
    subst he
    have e1 : (rs ++ [r])[rs.length] = r := by simp
    have e2 : (ts ++ [t])[rs.length]'(by simp [h1]) = t := by simp [← h1]
    rw [e1, e2]
    exact hr.turn T
/-- Rows of other elements lie elsewhere. -/
theorem rows_ne {w : World} {B B' e e' size size' n n' : Nat} {v v' : Value} {xs xs' : List Value} (h : w.ownsRow B e size v n xs) (h' : w.ownsRow B' e' size' v' n' xs') (hne : e ≠ e') : v.ownBlock = none ∨ v.ownBlock ≠ v'.ownBlock := by
  rcases h.2 with ⟨rfl, _⟩ | ⟨g, cap, cur, rfl, _, hgg, _⟩
  · exact .inl rfl
  · rcases h'.2 with ⟨rfl, _⟩ | ⟨g', cap', cur', rfl, _, hgg', _⟩
    · exact .inr (by simp [Value.ownBlock])
    · refine .inr fun he => ?_
      simp only [Value.ownBlock, Option.some.injEq] at he
      subst he
      rw [hgg] at hgg'
      simp only [Option.some.injEq, Obj.cells.injEq] at hgg'
      exact hne hgg'.2.1
theorem row_map {w : World} {B e size n M : Nat} {v : Value} {xs : List Value} (h : w.ownsRow B e size v n xs) (hM : ∃ es c, w.heap[M]? = some (.map es c)) : some M ≠ v.ownBlock := by
  obtain ⟨es, c, hm⟩ := hM
  rcases h.2 with ⟨rfl, _⟩ | ⟨g, cap, cur, rfl, _, hgg, _⟩
  · simp [Value.ownBlock]
  · intro he
    simp only [Value.ownBlock, Option.some.injEq] at he
    subst he
    rw [hgg] at hm
    simp at hm
/-- An object's words. -/
def oraw (ka : Option Addr) (kn kc : Nat) (va : Option Addr) (vn vc : Nat) : Raw := ⟨6, false, false, ⟨#[]⟩, 0, ⟨#[]⟩, ka, kn, kc, va, vn, vc⟩
/-- The blocks that an object's values may lie in. -/
def OA (b M : Nat) (v : Value) (j : Nat) : Prop := b + 1 ≤ j ∧ j ≠ M ∧ some j ≠ v.ownBlock
/-- An object in the making at block b, its map of keys at block M. -/
structure OB (w : World) (b M m : Nat) (ok : Prop) (ks : List ByteArray) (vs : List JV) (ka : Option Addr) (kc : Nat) (va : Option Addr) (vc : Nat) : Prop where
  Y : w.heap[b]? = some (.cells (oraw ka ks.length kc va vs.length vc).arr 27 (0, 0))
  K : w.ownsRow (b + 1) 9 1 (.slice ka ks.length kc) ks.length (ks.map Value.string)
  V : KidsA w (b + 1) (OA b M (.slice ka ks.length kc)) (.slice va vs.length vc) vs
  bM : b < M
  mp : ∃ es c, w.heap[M]? = some (.map es c)
  S : ok → Seen w M m ks
section
variable {w w' w7 : World} {b M m : Nat} {ok : Prop} {ks : List ByteArray} {vs : List JV} {ka va : Option Addr} {kc vc : Nat}
theorem OB.lt (h : OB w b M m ok ks vs ka kc va vc) : b < w.heap.size := heap_lt h.Y
theorem OB.kept {row : Option Nat} (h : OB w b M m ok ks vs ka kc va vc) (g : w.grownBy w' row) (hr : ∀ k, row = some k → k < b) : OB w' b M m ok ks vs ka kc va vc := by
  have hb := h.bM
  have hMl : M < w.heap.size := by obtain ⟨es, c, hm⟩ := h.mp; exact heap_lt hm
  have hne : ∀ k, b ≤ k → some k ≠ row := fun k hk e => by have := hr k e.symm; omega
  have hown : ∀ {e size n : Nat} {v : Value} {xs : List Value}, w.ownsRow (b + 1) e size v n xs → (v.ownBlock = none ∨ v.ownBlock ≠ row) := by
    intro e size n v xs hx
    cases hv : v.ownBlock with
    | none => exact .inl rfl
    | some k =>
      have := (hx.lt k hv).1
      exact .inr (hne k (by omega))
  refine ⟨(g.block b h.lt (hne b (Nat.le_refl _))).trans h.Y, h.K.kept g (hown h.K), ?_, hb, ?_, fun x => (h.S x).kept g (hne M (by omega))⟩
  · have hV := h.V
    obtain ⟨rs, k1, k2, k3⟩ := h.V
    exact hV.turn g (hown k2) (fun j hj _ => ⟨hne j (by have := hj.1; omega), hj⟩)
  · obtain ⟨es, c, hm⟩ := h.mp
    exact ⟨es, c, (g.block M hMl (hne M (by omega))).trans hm⟩
theorem OB.keptM (h : OB w b M m ok ks vs ka kc va vc) (g : w.grownBy w' (some M)) (hm : ∃ es c, w'.heap[M]? = some (.map es c)) : OB w' b M m False ks vs ka kc va vc := by
  have hb := h.bM
  have hown : ∀ {e size n : Nat} {v : Value} {xs : List Value}, w.ownsRow (b + 1) e size v n xs → (v.ownBlock = none ∨ v.ownBlock ≠ some M) := fun hx => .inr (fun e => row_map hx h.mp e.symm)
  refine ⟨(g.block b h.lt (by simp; omega)).trans h.Y, h.K.kept g (hown h.K), ?_, hb, hm, fun x => x.elim⟩
  have hV := h.V
  obtain ⟨rs, k1, k2, k3⟩ := h.V
  exact hV.turn g (hown k2) (fun j hj _ => ⟨by have := hj.2.1; simpa using this, hj⟩)
/-- A key more. -/
theorem OB.key {m' g cap : Nat} {d : ByteArray} {o : Obj} {ok' : Prop} (h : OB w b M m ok ks vs ka kc va vc) (hseen : ok' → Seen w M m' (ks ++ [d]))
    (hown : w7.ownsRow (b + 1) 9 1 (.slice (some ⟨g, 0, none⟩) (ks.length + 1) cap) (ks.length + 1) (ks.map Value.string ++ [.string d])) (hgrow : (w.alloc o).grownBy w7 (Value.slice ka ks.length kc).ownBlock)
    (hat : (Value.slice ka ks.length kc).ownBlock = some g ∨ g = w.heap.size + 1) :
    OB (w7.setCell ⟨b, 6, none⟩ (.slice (some ⟨g, 0, none⟩) (ks.length + 1) cap)) b M m' ok' (ks ++ [d]) vs (some ⟨g, 0, none⟩) cap va vc ∧ Below b w (w7.setCell ⟨b, 6, none⟩ (.slice (some ⟨g, 0, none⟩) (ks.length + 1) cap)) := by
  have hb := h.bM
  have hlt := h.lt
  have hMl : M < w.heap.size := by obtain ⟨es, c, hm⟩ := h.mp; exact heap_lt hm
  have hKo : ∀ j, (Value.slice ka ks.length kc).ownBlock = some j → b + 1 ≤ j := fun j hj => (h.K.lt j hj).1
  have hbo : some b ≠ (Value.slice ka ks.length kc).ownBlock := fun e => by have := hKo b e.symm; omega
  have hMo : some M ≠ (Value.slice ka ks.length kc).ownBlock := row_map h.K h.mp
  have Y7 : w7.heap[b]? = some (.cells (oraw ka ks.length kc va vs.length vc).arr 27 (0, 0)) := (hgrow.block b (by simp; omega) hbo).trans (heap_alloc_old h.Y)
  have hgb : b + 1 ≤ g := by
    rcases hat with e | e
    · exact hKo g e
    · omega
  have gs := gb_set w7 b 6 (.slice (some ⟨g, 0, none⟩) (ks.length + 1) cap)
  have hS : ∀ {n : Nat} {l : List ByteArray}, Seen w M n l → Seen (w7.setCell ⟨b, 6, none⟩ (.slice (some ⟨g, 0, none⟩) (ks.length + 1) cap)) M n l := fun hx => (((hx.kept (World.grownBy_alloc _ o none) (by simp)).kept hgrow hMo).kept gs (by simp; omega))
  refine ⟨⟨?_, ?_, ?_, hb, ?_, fun x => hS (hseen x)⟩, ?_⟩
  · rw [heap_set_same Y7]; simp [oraw, Raw.arr]
  · have := hown.kept gs (.inr (by simp [Value.ownBlock]; omega))
    simpa using this
  · obtain ⟨rs, k1, k2, k3⟩ := h.V
    have V1 : KidsA (w.alloc o) (b + 1) (fun j => OA b M (.slice ka ks.length kc) j ∧ j < w.heap.size) (.slice va vs.length vc) vs := KidsA.turn ⟨rs, k1, k2, k3⟩ (World.grownBy_alloc _ o none) (by cases h9 : (Value.slice va vs.length vc).ownBlock <;> simp) (fun j hj hl => ⟨by simp, hj, hl⟩)
    have V2 : KidsA w7 (b + 1) (OA b M (.slice (some ⟨g, 0, none⟩) (ks ++ [d]).length cap)) (.slice va vs.length vc) vs := V1.turn hgrow (rows_ne k2 h.K (by decide)) (fun j hj _ => by
      obtain ⟨⟨j1, j2, j3⟩, jl⟩ := hj
      refine ⟨j3, j1, j2, ?_⟩
      rcases hat with e | e
      · rw [e] at j3; exact j3
      · simp [Value.ownBlock]; omega)
    obtain ⟨rs, k1, k2, k3⟩ := V2
    exact KidsA.turn ⟨rs, k1, k2, k3⟩ gs (by
      cases hv : (Value.slice va vs.length vc).ownBlock with
      | none => exact .inl rfl
      | some k => have := (k2.lt k hv).1; exact .inr (by simp; omega)) (fun j hj _ => ⟨by have := hj.1; simp; omega, hj⟩)
  · obtain ⟨es, c, hm⟩ := h.mp
    exact ⟨es, c, (gs.block M (by have := hgrow.size; simp at this; omega) (by simp; omega)).trans ((hgrow.block M (by simp; omega) hMo).trans (heap_alloc_old hm))⟩
  · exact (((Below.refl b w).alloc (by omega) _).grown hgrow (by simp; omega) (fun k hk => by have := hKo k hk; omega)).setCell (p := ⟨b, 6, none⟩) (Nat.le_refl _) _
/-- A value more. -/
theorem OB.kid {g cap : Nat} {a : Raw} {t : JV} {o : Obj} {rs : List Raw} (h : OB w b M m ok ks vs ka kc va vc) (k1 : rs.length = vs.length) (k2 : w.ownsRow (b + 1) 27 8 (.slice va vs.length vc) vs.length (rs.flatMap Raw.cells))
    (k3 : ∀ i (h : i < rs.length) (h' : i < vs.length), IsV w (fun j => OA b M (.slice ka ks.length kc) j ∧ some j ≠ (Value.slice va vs.length vc).ownBlock) rs[i] vs[i])
    (hiv : IsV w (fun j => OA b M (.slice ka ks.length kc) j ∧ some j ≠ (Value.slice va vs.length vc).ownBlock) a t)
    (hown : w7.ownsRow (b + 1) 27 8 (.slice (some ⟨g, 0, none⟩) (vs.length + 1) cap) (vs.length + 1) (rs.flatMap Raw.cells ++ a.cells)) (hgrow : (w.alloc o).grownBy w7 (Value.slice va vs.length vc).ownBlock)
    (hat : (Value.slice va vs.length vc).ownBlock = some g ∨ g = w.heap.size + 1) :
    OB (w7.setCell ⟨b, 7, none⟩ (.slice (some ⟨g, 0, none⟩) (vs.length + 1) cap)) b M m ok ks (vs ++ [t]) ka kc (some ⟨g, 0, none⟩) cap ∧ Below b w (w7.setCell ⟨b, 7, none⟩ (.slice (some ⟨g, 0, none⟩) (vs.length + 1) cap)) := by
  have hb := h.bM
  have hlt := h.lt
  have hMl : M < w.heap.size := by obtain ⟨es, c, hm⟩ := h.mp; exact heap_lt hm
  have hVo : ∀ j, (Value.slice va vs.length vc).ownBlock = some j → b + 1 ≤ j := fun j hj => (k2.lt j hj).1
  have hbo : some b ≠ (Value.slice va vs.length vc).ownBlock := fun e => by have := hVo b e.symm; omega
  have hMo : some M ≠ (Value.slice va vs.length vc).ownBlock := row_map k2 h.mp
  have Y7 : w7.heap[b]? = some (.cells (oraw ka ks.length kc va vs.length vc).arr 27 (0, 0)) := (hgrow.block b (by simp; omega) hbo).trans (heap_alloc_old h.Y)
  have hgb : b + 1 ≤ g := by
    rcases hat with e | e
    · exact hVo g e
    · omega
  have gs := gb_set w7 b 7 (.slice (some ⟨g, 0, none⟩) (vs.length + 1) cap)
  have T : ∀ {A : Nat → Prop}, Turn w (w.alloc o) A A := fun {A} => Turn.grown (World.grownBy_alloc _ _ none) (fun b _ => by simp)
  have V7 := KidsA.snoc (w := w.alloc o) (A := OA b M (.slice ka ks.length kc)) (r := a) (t := t) rs k1 (k2.alloc o) (fun i h h' => (k3 i h h').turn T) (hiv.turn T) hown hgrow (by
    rcases hat with h | h
    · left; rw [h]; rfl
    · right; rw [h]; simp [Value.ownBlock])
  refine ⟨⟨?_, ?_, ?_, hb, ?_, fun x => (((h.S x).kept (World.grownBy_alloc _ o none) (by simp)).kept hgrow hMo).kept gs (by simp; omega)⟩, ?_⟩
  · rw [heap_set_same Y7]; simp [oraw, Raw.arr]
  · exact ((h.K.alloc o).kept hgrow (rows_ne h.K k2 (by decide))).kept gs (by
      cases hv : (Value.slice ka ks.length kc).ownBlock with
      | none => exact .inl rfl
      | some k => have := (h.K.lt k hv).1; exact .inr (by simp; omega))
  · have := V7.turn (A' := OA b M (.slice ka ks.length kc)) gs (.inr (by simp [Value.ownBlock]; omega)) (fun j hj _ => ⟨by have := hj.1; simp; omega, hj⟩)
    simpa using this
  · obtain ⟨es, c, hm⟩ := h.mp
    exact ⟨es, c, (gs.block M (by have := hgrow.size; simp at this; omega) (by simp; omega)).trans ((hgrow.block M (by simp; omega) hMo).trans (heap_alloc_old hm))⟩
  · exact (((Below.refl b w).alloc (by omega) _).grown hgrow (by simp; omega) (fun k hk => by have := hVo k hk; omega)).setCell (p := ⟨b, 7, none⟩) (Nat.le_refl _) _
/-- The object is read. -/
theorem OB.isV (h : OB w b M m ok ks vs ka kc va vc) : IsV w (fun j => b + 1 ≤ j) (oraw ka ks.length kc va vs.length vc) (objectOf ks vs) := by
  obtain ⟨_, f, h1, h2⟩ := (h.V.kids (fun j hj => hj.1)).isV
  refine .mk (oraw ka ks.length kc va vs.length vc) ks vs f rfl rfl ?_ h1 h2
  rcases h.K.2 with ⟨hx, h0⟩ | ⟨g, cap, cur, hx, hg, _⟩
  · exact .inl (List.length_eq_zero_iff.1 h0)
  · injection hx with x1 x2 x3
    refine .inr ⟨g, 0, x1, hg, (h.K.lt g (by rw [x1]; rfl)).2, fun i hi => ?_⟩
    have := h.K.cells (g := g) (by rw [x1]; rfl) i (.string ks[i]) (by simp [hi])
    rw [Addr.add_lit] at this
    exact this
end
end Go.Proofs.YtehffmcfmdjknaaDoor.Jdec
