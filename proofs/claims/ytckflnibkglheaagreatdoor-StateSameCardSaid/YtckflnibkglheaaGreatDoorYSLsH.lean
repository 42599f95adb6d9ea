/- tabulariumlaw18.StateSame. -/
import Derived.Test.YtckflnibkglheaaGreatDoorYSLsG
import Derived.Test.YtckflnibkglheaaGreatDoorYSStY
namespace Go.Proofs.YtckflnibkglheaaGreatDoor.State
open Go.RowKit Go.Shelf Go.Proofs.YtckflnibkglheaaGreatDoor.Utf Go.Proofs.YtckflnibkglheaaGreatDoor.Strs Go.Proofs.YtckflnibkglheaaGreatDoor.Addr
open Go.Proofs.YtckflnibkglheaaGreatDoor.Jdec (IsTexts Turn infoStr gb_set gb_below gb_refl)
set_option linter.unusedVariables false
set_option linter.unusedSimpArgs false
set_option maxRecDepth 100000

attribute [local go_sem] Oper.semAt_some
theorem cell_obj {w : World} {b o : Nat} {v : Value} (h : w.cell? ⟨b, o, none⟩ = some v) : ∃ cs T fr, w.heap[b]? = some (.cells cs T fr) := by
 unfold World.cell? at h
 split at h
 ·rename_i h1; exact ⟨_, _, _, h1⟩
 ·cases h
/-- Blocks of cells stay where only others turn. -/
theorem blk_same {w w' : World} {b o : Nat} {v : Value} {row : Option Nat} (h : w.cell? ⟨b, o, none⟩ = some v) (hl : b < w.heap.size) (hg : w.grownBy w' row) (hr : ∀ r, row = some r → ∃ o : Obj, w.heap[r]? = some o ∧ o.isCells = false) : w'.heap[b]? = w.heap[b]? :=
 hg.block b hl (fun e => by
  obtain ⟨cs, T, fr, h1⟩ := cell_obj h
  obtain ⟨o, h2, h3⟩ := hr b e.symm
  rw [h1] at h2
  cases h2
  cases h3)
theorem isRec_grown {w w' : World} {A : Nat → Prop} {p : At} {r : Rec} {row : Option Nat} (h : IsRec w A p r) (hg : w.grownBy w' row) (hr : ∀ r, row = some r → ∃ o : Obj, w.heap[r]? = some o ∧ o.isCells = false) : IsRec w' A p r := by
 refine ⟨?_, ?_⟩
 ·rcases h.path with h | ⟨b, o, ha, hA, hb, hc⟩
  ·exact .inl h
  ·by_cases h0 : r.a.path = []
   ·exact .inl h0
   ·have hp : 0 < r.a.path.length := Nat.pos_of_ne_zero (fun e => h0 (List.length_eq_zero_iff.1 e))
    have e := blk_same (hc 0 hp) hb hg hr
    exact .inr ⟨b, o, ha, hA, Nat.lt_of_lt_of_le hb hg.size, fun i hi => by rw [cell_blk e]; exact hc i hi⟩
 ·rcases h.attrs with h | ⟨b, o, ha, hA, hb, hc⟩
  ·exact .inl h
  ·by_cases h0 : r.attrs = []
   ·exact .inl h0
   ·have hp : 0 < r.attrs.length := Nat.pos_of_ne_zero (fun e => h0 (List.length_eq_zero_iff.1 e))
    have e := blk_same (hc 0 hp).1 hb hg hr
    exact .inr ⟨b, o, ha, hA, Nat.lt_of_lt_of_le hb hg.size, fun i hi => by rw [cell_blk e, cell_blk e]; exact hc i hi⟩
theorem cells_kept {w w' : World} {k : Nat} {cs : Array Value} {T : TypeId} {fr : Nat × Nat} {row : Option Nat} (h : w.heap[k]? = some (.cells cs T fr)) (hg : w.grownBy w' row) (hr : ∀ r, row = some r → ∃ o : Obj, w.heap[r]? = some o ∧ o.isCells = false) : w'.heap[k]? = some (.cells cs T fr) :=
 (hg.block k (heap_lt h) (fun e => by obtain ⟨o, h1, h2⟩ := hr k e.symm; rw [h] at h1; cases h1; cases h2)).trans h
theorem keeps_below {w w' : World} (B : Nat) (h : Below w.heap.size w w') : KeepsFrom B w w' := ⟨h.size, fun k o _ hk _ => (h.block k (heap_lt hk)).trans hk⟩
theorem seq2_some (b : Nat) : ∀ w, Sem.run Tryz.prog (binOp BinOp.neq 53 (.func (.func 59) #[] #[.pointer (some ⟨b, 0, none⟩)]) .nilFunc) w = .ok (.bool true) w := fun _ => by kernel_rfl
/-- Where the rounds stand. -/
structure SI (w wr : World) (nb stop : Nat) (l : List Rec) (pre : List (At × Rec)) (W : World) : Prop where
 n : W.heap[nb]? = some (.cells #[.int .i64 pre.length] 3 (0, 0))
 k : ∀ k, k < wr.heap.size → k ≠ nb → W.heap[k]? = wr.heap[k]?
 z : wr.heap.size ≤ W.heap.size
 b : Below w.heap.size w W
 m : pre.map (·.2) = l.take pre.length
 s : pre.length ≤ stop
theorem SI.turn {w wr : World} {nb stop : Nat} {l : List Rec} {pre : List (At × Rec)} {W : World} (h : SI w wr nb stop l pre W) : Turn wr W (fun b => b ≠ nb) (fun b => b ≠ nb) := ⟨h.z, fun b hb hl => ⟨h.k b hl hb, hb⟩⟩
theorem SI.stays {w wr : World} {nb stop : Nat} {l : List Rec} {pre : List (At × Rec)} {W W' : World} (h : SI w wr nb stop l pre W) (hb : Below W.heap.size W W') : SI w wr nb stop l pre W' :=
 ⟨(hb.block _ (heap_lt h.n)).trans h.n, fun k h1 h2 => (hb.block k (Nat.lt_of_lt_of_le h1 h.z)).trans (h.k k h1 h2), Nat.le_trans h.z hb.size, h.b.trans (hb.mono h.b.size), h.m, h.s⟩
theorem SI.grown {w wr : World} {nb stop : Nat} {l : List Rec} {pre : List (At × Rec)} {W W' : World} {row : Option Nat} (h : SI w wr nb stop l pre W) (hw : w.heap.size ≤ wr.heap.size) (hg : W.grownBy W' row) (hr : ∀ r, row = some r → wr.heap.size ≤ r ∧ ∃ o : Obj, W.heap[r]? = some o ∧ o.isCells = false) : SI w wr nb stop l pre W' :=
 ⟨cells_kept h.n hg (fun r e => (hr r e).2), fun k h1 h2 => (hg.block k (Nat.lt_of_lt_of_le h1 h.z) (fun e => by have := (hr k e.symm).1; omega)).trans (h.k k h1 h2), Nat.le_trans h.z hg.size, h.b.grown hg h.b.size (fun r e => by have := (hr r e).1; omega), h.m, h.s⟩
theorem SI.next {w wr : World} {nb stop : Nat} {l : List Rec} {pre : List (At × Rec)} {x : At × Rec} {W : World} (h : SI w wr nb stop l pre W) (hnb : w.heap.size ≤ nb) (hm : pre.map (·.2) ++ [x.2] = l.take (pre.length + 1)) (hs : pre.length < stop) :
  SI w wr nb stop l (pre ++ [x]) (W.setCell ⟨nb, 0, none⟩ (.int .i64 ((pre.length + 1 : Nat) : Int))) := by
 have hlen : (pre ++ [x]).length = pre.length + 1 := by simp
 have hg := gb_set W nb 0 (.int .i64 ((pre.length + 1 : Nat) : Int))
 refine ⟨?_, fun k h1 h2 => (hg.block k (Nat.lt_of_lt_of_le h1 h.z) (fun e => by injection e with e; exact h2 e)).trans (h.k k h1 h2), Nat.le_trans h.z hg.size, h.b.grown hg h.b.size (fun r e => by injection e with e; omega), ?_, by omega⟩
 ·rw [heap_set_same h.n, hlen]; rfl
 ·rw [List.map_append, hlen, ← hm]; rfl
/-- A record told, in its boxes. -/
def SAx (x3 x4 x5 x6 nb b0 : Nat) (l : List Rec) (pre : List (At × Rec)) (x : At × Rec) (a : Act) (W : World) : Prop :=
 ∃ (b : Nat) (u0 u1 u2 u8 u11 u12 u13 u14 u15 u16 u17 u18 u19 u20 u21 u22 u23 u24 u25 u26 u27 u28 u29 u30 u31 u32 u33 u34 u35 u36 u37 u38 u39 u40 u41 u42 u43 u44 u45 u46 u47 u48 u49 u50 u51 u52 u53 u54 u55 u56 u57 u58 u59 u60 u61 u62 u63 u64 u65 u66 u67 u68 u69 u70 : Value), a = { tmps := #[u0, u1, u2, .pointer (some ⟨x3, 0, none⟩), .pointer (some ⟨x4, 0, none⟩), .pointer (some ⟨x5, 0, none⟩), .pointer (some ⟨x6, 0, none⟩), .pointer (some ⟨nb, 0, none⟩), u8, .string ⟨(printA x.2.a).toArray⟩, .pointer (some ⟨b, 0, none⟩), u11, u12, u13, u14, u15, u16, u17, u18, u19, u20, u21, u22, u23, u24, u25, u26, u27, u28, u29, u30, u31, u32, u33, u34, u35, u36, u37, u38, u39, u40, u41, u42, u43, u44, u45, u46, u47, u48, u49, u50, u51, u52, u53, u54, u55, u56, u57, u58, u59, u60, u61, u62, u63, u64, u65, u66, u67, u68, u69, u70], defers := [] } ∧ b0 ≤ b ∧ W.heap[b]? = some (.cells (recArr x.1 x.2) 32 (0, 0)) ∧ IsRec W (fun _ => True) x.1 x.2 ∧ Small x.2 ∧ pre.map (·.2) ++ [x.2] = l.take (pre.length + 1)
theorem SAx.grown {x3 x4 x5 x6 nb b0 : Nat} {l : List Rec} {pre : List (At × Rec)} {x : At × Rec} {a : Act} {W W' : World} {row : Option Nat} (h : SAx x3 x4 x5 x6 nb b0 l pre x a W) (hg : W.grownBy W' row) (hr : ∀ r, row = some r → ∃ o : Obj, W.heap[r]? = some o ∧ o.isCells = false) : SAx x3 x4 x5 x6 nb b0 l pre x a W' := by
 obtain ⟨b, u0, u1, u2, u8, u11, u12, u13, u14, u15, u16, u17, u18, u19, u20, u21, u22, u23, u24, u25, u26, u27, u28, u29, u30, u31, u32, u33, u34, u35, u36, u37, u38, u39, u40, u41, u42, u43, u44, u45, u46, u47, u48, u49, u50, u51, u52, u53, u54, u55, u56, u57, u58, u59, u60, u61, u62, u63, u64, u65, u66, u67, u68, u69, u70, h1, h2, h3, h4, h5, h6⟩ := h
 exact ⟨b, u0, u1, u2, u8, u11, u12, u13, u14, u15, u16, u17, u18, u19, u20, u21, u22, u23, u24, u25, u26, u27, u28, u29, u30, u31, u32, u33, u34, u35, u36, u37, u38, u39, u40, u41, u42, u43, u44, u45, u46, u47, u48, u49, u50, u51, u52, u53, u54, u55, u56, u57, u58, u59, u60, u61, u62, u63, u64, u65, u66, u67, u68, u69, u70, h1, h2, cells_kept h3 hg hr, isRec_grown h4 hg hr, h5, h6⟩
/-- The result is read. -/
theorem ss_ret (w W : World) (D x6 : Nat) (tm : Array Value) (hv : W.heap[x6]? = some (.cells #[.bool true] 4 (0, 0))) (hB : Below w.heap.size w W) (hD : w.heap.size ≤ D) (hK : W.heap[D]? = some (.deferred (some []))) (h2 : tm[6]? = some (.pointer (some ⟨x6, 0, none⟩))) :
  bodyPostM Fence.wide 10 Tryz.prog Tryz.f7 (fun e w' => e = .returned (.bool true) ∧ Below w.heap.size w w') Exit.ret { tmps := tm, defers := [{ target := .collected D, args := #[] }] } W := by
 have hg := grownBy_putObj' W D (.deferred none)
 have hv' : (W.putObj D (.deferred none)).heap[x6]? = some (.cells #[.bool true] 4 (0, 0)) := cells_kept hv hg (fun k e => by cases e; exact ⟨_, hK, rfl⟩)
 have hc := cell_of hv' 0
 refine ⟨by simp, .inl ⟨_, _, rfl, run_takeDeferred hK, ?_⟩⟩
 refine ⟨.bool true, ?_, rfl, hB.grown hg hB.size (fun k e => by cases e; exact hD)⟩
 simp [results, Tryz.results7, go_sem, h2, hc]
theorem ss_ret0 (w W : World) (x6 : Nat) (tm : Array Value) (hv : W.heap[x6]? = some (.cells #[.bool true] 4 (0, 0))) (hB : Below w.heap.size w W) (h2 : tm[6]? = some (.pointer (some ⟨x6, 0, none⟩))) :
  bodyPostM Fence.wide 10 Tryz.prog Tryz.f7 (fun e w' => e = .returned (.bool true) ∧ Below w.heap.size w w') Exit.ret { tmps := tm, defers := [] } W := by
 have hc := cell_of hv 0
 refine ⟨.bool true, ?_, rfl, hB⟩
 simp [results, Tryz.results7, go_sem, h2, hc]
theorem u8_new (w : World) (n : Nat) : ∃ w1, w.alloc (.cells #[.int .u8 n] 5) = w1 ∧ Hid (w1.heap[w.heap.size]? = some (.cells #[.int .u8 n] 5 (0, 0))) ∧ Hid (Below w.heap.size w w1) := ⟨_, rfl, heap_alloc_new _ _, (Below.refl _ _).alloc (Nat.le_refl _) _⟩
theorem bool_new (w : World) : ∃ w1, w.alloc (.cells #[.bool false] 4) = w1 ∧ Hid (w1.heap[w.heap.size]? = some (.cells #[.bool false] 4 (0, 0))) ∧ Hid (Below w.heap.size w w1) := ⟨_, rfl, heap_alloc_new _ _, (Below.refl _ _).alloc (Nat.le_refl _) _⟩
theorem int_new (w : World) : ∃ w1, w.alloc (.cells #[.int .i64 0] 3) = w1 ∧ Hid (w1.heap[w.heap.size]? = some (.cells #[.int .i64 0] 3 (0, 0))) ∧ Hid (Below w.heap.size w w1) := ⟨_, rfl, heap_alloc_new _ _, (Below.refl _ _).alloc (Nat.le_refl _) _⟩
end Go.Proofs.YtckflnibkglheaaGreatDoor.State
