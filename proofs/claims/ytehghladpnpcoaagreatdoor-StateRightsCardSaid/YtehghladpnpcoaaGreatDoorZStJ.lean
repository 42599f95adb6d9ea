/- state.copied. -/
import Derived.Test.YtehghladpnpcoaaGreatDoorZStG
import Derived.Laws.OwnMore
import Derived.OwnWalk
set_option linter.unusedVariables false
set_option linter.unusedSimpArgs false
set_option maxRecDepth 100000
set_option maxHeartbeats 8000000
namespace Go.Proofs.YtehghladpnpcoaaGreatDoor.State
open Go.RowKit Go.Shelf Go.Proofs.YtehghladpnpcoaaGreatDoor.Utf Go.Proofs.YtehghladpnpcoaaGreatDoor.Strs Go.Proofs.YtehghladpnpcoaaGreatDoor.Addr
open Go.Proofs.YtehghladpnpcoaaGreatDoor.Jdec (IsTexts Turn infoStr gb_set gb_below gb_drew gb_refl)
def Part (B : Nat) (w : World) (b : Nat) : Prop := B ≤ b ∧ ∀ cs fr, w.heap[b]? ≠ some (.cells cs 38 fr)
theorem part_turn {w w' : World} {B B' : Nat} (hs : w.heap.size ≤ w'.heap.size) (hB : B' ≤ B) (h : ∀ b, Part B w b → b < w.heap.size → w'.heap[b]? = w.heap[b]?) : Turn w w' (Part B w) (Part B' w') :=
 ⟨hs, fun b hb hl => ⟨h b hb hl, Nat.le_trans hB hb.1, fun cs fr e => hb.2 cs fr (by rw [← h b hb hl]; exact e)⟩⟩
def PartT (T : TypeId) (B : Nat) (w : World) (b : Nat) : Prop := B ≤ b ∧ ∃ cs, w.heap[b]? = some (.cells cs T (0, 0))
theorem partT_turn {T : TypeId} {w w' : World} {B B' : Nat} (hs : w.heap.size ≤ w'.heap.size) (hB : B' ≤ B) (h : ∀ b, PartT T B w b → b < w.heap.size → w'.heap[b]? = w.heap[b]?) : Turn w w' (PartT T B w) (PartT T B' w') :=
 ⟨hs, fun b hb hl => ⟨h b hb hl, Nat.le_trans hB hb.1, by obtain ⟨_, cs, e⟩ := hb; exact ⟨cs, by rw [h b ⟨by assumption, cs, e⟩ hl]; exact e⟩⟩⟩
theorem partT_below {T : TypeId} {w w' : World} {B B' : Nat} (h : Below w.heap.size w w') (hB : B' ≤ B) : Turn w w' (PartT T B w) (PartT T B' w') := partT_turn h.size hB (fun b _ hl => h.block b hl)
theorem partT_grown {T U : TypeId} {w w' : World} {B B' k : Nat} {cs : Array Value} {fr : Nat × Nat} (hT : T ≠ U) (h : w.grownBy w' (some k)) (hB : B' ≤ B) (hk : w.heap[k]? = some (.cells cs U fr)) : Turn w w' (PartT T B w) (PartT T B' w') :=
 partT_turn h.size hB (fun b hb hl => h.block b hl (fun e => by
  injection e with e; subst e
  obtain ⟨_, cs', e2⟩ := hb
  rw [hk] at e2
  injection e2 with e2
  injection e2 with _ e2 _
  exact hT e2.symm))
theorem partT_part {T : TypeId} {w : World} {B b : Nat} (hT : T ≠ 38) (h : PartT T B w b) : Part B w b := ⟨h.1, fun cs fr e => by
 obtain ⟨_, cs', e2⟩ := h
 rw [e] at e2
 injection e2 with e2
 injection e2 with _ e2 _
 exact hT e2.symm⟩
theorem texts_and {w : World} {A P : Nat → Prop} {a : Option Addr} {l : List ByteArray} (h : IsTexts w A a l) (hP : ∀ b o, a = some ⟨b, o, none⟩ → l ≠ [] → A b → P b) : IsTexts w P a l := by
 rcases h with h | ⟨b, o, ha, hA, hb, hc⟩
 ·exact .inl h
 ·by_cases h0 : l = []
  ·exact .inl h0
  ·exact .inr ⟨b, o, ha, hP b o ha h0 hA, hb, hc⟩
theorem app_texts (w : World) (A : Nat → Prop) (ks : List ByteArray) (ka : Option Addr) (kc : Nat) (ht : IsTexts w A ka ks) (hl : ks.length ≤ 3000) : ∃ ka' kc' w', (Builtin.append_ #[33, 33] 33 #[.slice none 0 0, .slice ka ks.length kc]).run Tryz.prog w = .ok (.slice ka' ks.length kc') w' ∧ Hid (IsTexts w' (PartT 9 w.heap.size w') ka' ks) ∧ Hid (Below w.heap.size w w') := by
 obtain ⟨i0, hi, hz0, hz1, hz2⟩ := info_parts infoStr
 by_cases h0 : ks = []
 ·subst h0
  refine ⟨none, 0, w, ?_, .inl rfl, Below.refl _ _⟩
  cases ka with
  | none => simp [Builtin.append_, run_underlying Tryz.underlying33, sizeOf, typeInfo, hi, Builtin.lenOf, Builtin.firstCells]
  | some a => simp [Builtin.append_, run_underlying Tryz.underlying33, sizeOf, typeInfo, hi, Builtin.lenOf, Builtin.firstCells, loadCells, loadCellsFrom]
 ·obtain ⟨b, o, rfl, _, hb, hc⟩ := ht.resolve_left h0
  have hnews : ∀ j u, (ks.map Value.string)[j]? = some u → w.cell? ((⟨b, o, none⟩ : Addr).add j) = some u := fun j u hu => by
   obtain ⟨hj, rfl⟩ := List.getElem?_eq_some_iff.1 hu
   have hj' : j < ks.length := by simpa using hj
   have e : (⟨b, o, none⟩ : Addr).add j = ⟨b, o + j, none⟩ := by unfold Addr.add; split <;> simp_all
   rw [e, hc j hj', List.getElem_map]
  obtain ⟨v', w', hr, ho, hg, _⟩ := run_append_own (P := Tryz.prog) w w.heap.size 33 33 9 i0 (.string ⟨#[]⟩) 1 16 Tryz.underlying33 hi hz0 hz1 hz2 rfl (by decide) (.slice none 0 0) 0 [] (World.ownsRow_nil _ _ _ _) ⟨b, o, none⟩ ks.length kc (ks.map Value.string) (by simp) hnews (fun u hu => by obtain ⟨x, _, rfl⟩ := List.mem_map.1 hu; rfl) (by unfold maxLen; omega) (by omega) (Nat.le_refl _)
  rw [Nat.zero_add, List.nil_append] at ho
  have hrow : RowT w' w.heap.size v' ks := ho
  obtain ⟨a, c, rfl⟩ := hrow.form
  refine ⟨a, c, w', hr, texts_and hrow.texts (fun b o e h0 hA => ⟨hA, ?_⟩), hg.os, hg.tape, hg.output, hg.size, fun k hk => hg.block k hk (by simp [Value.ownBlock])⟩
  rcases hrow.2 with ⟨hv, _⟩ | ⟨g, cap, cur, hv, _, hgb, _⟩
  ·injection hv with hv
   rw [hv] at e
   cases e
  ·injection hv with hv
   rw [hv] at e
   injection e with e
   injection e with e
   subst e
   exact ⟨cur, hgb⟩
theorem infoPair : (Tryz.prog.info? 72).map (fun i => (i.zero, i.size, i.bytes)) = some (some (.agg #[.string ⟨#[]⟩, .string ⟨#[]⟩]), 2, 32) := by kernel_rfl
def pairC (x : ByteArray × ByteArray) : List Value := [.string x.1, .string x.2]
theorem pairs_len (l : List (ByteArray × ByteArray)) : (l.flatMap pairC).length = l.length * 2 := by
 induction l with
 | nil => rfl
 | cons x t ih => rw [List.flatMap_cons, List.length_append, ih, List.length_cons]; simp [pairC]; omega
theorem pairs_get : ∀ (l : List (ByteArray × ByteArray)) (i : Nat) (h : i < l.length), (l.flatMap pairC)[i * 2]? = some (.string l[i].1) ∧ (l.flatMap pairC)[i * 2 + 1]? = some (.string l[i].2) := by
 intro l
 induction l with
 | nil => intro i h; cases h
 | cons x t ih =>
  intro i h
  cases i with
  | zero => exact ⟨rfl, rfl⟩
  | succ i =>
   have hi : i < t.length := by simpa using h
   have := ih i hi
   rw [List.flatMap_cons]
   have e1 : (pairC x ++ t.flatMap pairC)[(i + 1) * 2]? = (t.flatMap pairC)[i * 2]? := by
    rw [List.getElem?_append_right (by simp [pairC]; omega)]
    congr 1
    simp [pairC]; omega
   have e2 : (pairC x ++ t.flatMap pairC)[(i + 1) * 2 + 1]? = (t.flatMap pairC)[i * 2 + 1]? := by
    rw [List.getElem?_append_right (by simp [pairC]; omega)]
    congr 1
    simp [pairC]; omega
   rw [e1, e2]
   exact this
theorem pairs_one (l : List (ByteArray × ByteArray)) : ∀ u ∈ l.flatMap pairC, u.oneCell' = true := by
 intro u hu
 obtain ⟨x, _, hx⟩ := List.mem_flatMap.1 hu
 simp only [pairC, List.mem_cons, List.not_mem_nil, or_false] at hx
 rcases hx with rfl | rfl <;> rfl
theorem app_pairs (w : World) (A : Nat → Prop) (l : List (ByteArray × ByteArray)) (ta : Option Addr) (tc : Nat) (ht : IsPairs w A ta l) (hl : l.length ≤ 3000) : ∃ ta' tc' w', (Builtin.append_ #[36, 36] 36 #[.slice none 0 0, .slice ta l.length tc]).run Tryz.prog w = .ok (.slice ta' l.length tc') w' ∧ Hid (IsPairs w' (PartT 72 w.heap.size w') ta' l) ∧ Hid (l = [] → ta' = none ∧ tc' = 0) ∧ Hid (Below w.heap.size w w') := by
 obtain ⟨i0, hi, hz0, hz1, hz2⟩ := info_parts infoPair
 by_cases h0 : l = []
 ·subst h0
  refine ⟨none, 0, w, ?_, .inl rfl, fun _ => ⟨rfl, rfl⟩, Below.refl _ _⟩
  cases ta with
  | none => simp [Builtin.append_, run_underlying Tryz.underlying36, sizeOf, typeInfo, hi, hz1, Builtin.lenOf, Builtin.firstCells]
  | some a => simp [Builtin.append_, run_underlying Tryz.underlying36, sizeOf, typeInfo, hi, hz1, Builtin.lenOf, Builtin.firstCells, loadCells, loadCellsFrom]
 ·obtain ⟨b, o, rfl, _, hb, hc⟩ := ht.resolve_left h0
  have hnews : ∀ j u, (l.flatMap pairC)[j]? = some u → w.cell? ((⟨b, o, none⟩ : Addr).add j) = some u := fun j u hu => by
   obtain ⟨hj, _⟩ := List.getElem?_eq_some_iff.1 hu
   rw [pairs_len] at hj
   have e : (⟨b, o, none⟩ : Addr).add j = ⟨b, o + j, none⟩ := by unfold Addr.add; split <;> simp_all
   rw [e]
   obtain ⟨i, hi2⟩ : ∃ i, j = i * 2 ∨ j = i * 2 + 1 := ⟨j / 2, by omega⟩
   rcases hi2 with rfl | rfl
   ·have h2 := (pairs_get l i (by omega)).1
    rw [h2] at hu
    rw [← hu]
    exact (hc i (by omega)).1
   ·have h2 := (pairs_get l i (by omega)).2
    rw [h2] at hu
    rw [← hu]
    exact (hc i (by omega)).2
  obtain ⟨v', w', hr, ho, hg, _⟩ := run_append_own (P := Tryz.prog) w w.heap.size 36 36 72 i0 _ 2 32 Tryz.underlying36 hi hz0 hz1 hz2 rfl (by decide) (.slice none 0 0) 0 [] (World.ownsRow_nil _ _ _ _) ⟨b, o, none⟩ l.length tc (l.flatMap pairC) (pairs_len l) hnews (pairs_one l) (by unfold maxLen; omega) (by omega) (Nat.le_refl _)
  rw [Nat.zero_add, List.nil_append] at ho
  have hlp : 0 < l.length := by
   rcases Nat.eq_zero_or_pos l.length with h | h
   ·exact absurd (List.length_eq_zero_iff.1 h) h0
   ·exact h
  obtain ⟨g, c, rfl, hgt⟩ : ∃ g c, v' = .slice (some ⟨g, 0, none⟩) l.length c ∧ ∃ cur, w'.heap[g]? = some (.cells cur 72 (0, 0)) := by
   rcases ho.2 with ⟨_, e0⟩ | ⟨g, cap, cur, rfl, _, hgb, _⟩
   ·omega
   ·exact ⟨g, cap, rfl, cur, hgb⟩
  obtain ⟨cur, hgt⟩ := hgt
  have hgl := ho.lt g (by simp [Value.ownBlock])
  refine ⟨some ⟨g, 0, none⟩, c, w', hr, .inr ⟨g, 0, rfl, ⟨hgl.1, cur, hgt⟩, hgl.2, fun i hi => ?_⟩, fun e => absurd e h0, hg.os, hg.tape, hg.output, hg.size, fun k hk => hg.block k hk (by simp [Value.ownBlock])⟩
  have h1 := World.ownsRow.cellAt ho (i * 2) (by omega)
  have h2 := World.ownsRow.cellAt ho (i * 2 + 1) (by omega)
  rw [Nat.zero_add]
  exact ⟨by rw [h1]; exact (pairs_get l i hi).1, by rw [h2]; exact (pairs_get l i hi).2⟩
def CpPost (r : Rec) (w : World) (e : Ending) (w' : World) : Prop := ∃ p, e = .returned (recV p r) ∧ IsRec w' (Part w.heap.size w') p r ∧ Below w.heap.size w w'
def CpPost2 (r : Rec) (w : World) (e : Ending) (w' : World) : Prop := ∃ p, e = .returned (recV p r) ∧ IsTexts w' (PartT 9 w.heap.size w') p.pa r.a.path ∧ IsPairs w' (PartT 72 w.heap.size w') p.ta r.attrs ∧ (r.attrs = [] → p.ta = none ∧ p.tc = 0) ∧ Below w.heap.size w w'
theorem CpPost2.one {r : Rec} {w w' : World} {e : Ending} (h : CpPost2 r w e w') : CpPost r w e w' := by
 obtain ⟨p, he, h1, h2, _, hb⟩ := h
 exact ⟨p, he, ⟨h1.turn (Turn.mono _ (fun b hA _ => partT_part (by decide) hA)), h2.turn (Turn.mono _ (fun b hA _ => partT_part (by decide) hA))⟩, hb⟩
theorem CpPost.to {r : Rec} {w w' : World} {e : Ending} (h : CpPost r w e w') : ∃ p : At, e = .returned (.agg #[.slice p.pa r.a.path.length p.pc, .string r.a.type, .string r.a.name, .int .i64 r.a.key, .int .u64 r.a.place, .string r.a.word, .string r.prov, .string r.id, .slice p.ta r.attrs.length p.tc]) ∧ Hid (IsRec w' (Part w.heap.size w') p r) ∧ Hid (Below w.heap.size w w') := h
theorem copied_ret (r : Rec) (p : At) (w w' : World) (tm : Array Value) (b : Nat) (hb : w'.heap[b]? = some (.cells (recArr p r) 38 (0, 0))) (h2 : tm[2]? = some (.pointer (some ⟨b, 0, none⟩))) (hI : IsTexts w' (PartT 9 w.heap.size w') p.pa r.a.path ∧ IsPairs w' (PartT 72 w.heap.size w') p.ta r.attrs ∧ (r.attrs = [] → p.ta = none ∧ p.tc = 0)) (hB : Below w.heap.size w w') : bodyPost Tryz.prog Tryz.f39 (CpPost2 r w) Exit.ret { tmps := tm, defers := [] } w' := by
 obtain ⟨c0, c1, c2, c3, c4, c5, c6, c7, c8⟩ := rec_cells hb
 refine bodyPost_ret (v := recV p r) ?_ rfl ⟨p, rfl, hI.1, hI.2.1, hI.2.2, hB⟩
 simp [results, Tryz.results39, go_sem, h2, c0, c1, c2, c3, c4, c5, c6, c7, c8, recV]
theorem zrec_new (w : World) : ∃ w1, w.alloc (.cells #[.slice none 0 0, .string ⟨#[]⟩, .string ⟨#[]⟩, .int .i64 0, .int .u64 0, .string ⟨#[]⟩, .string ⟨#[]⟩, .string ⟨#[]⟩, .slice none 0 0] 38) = w1 ∧ Hid (w1.heap[w.heap.size]? = some (.cells (recArr At.zero Rec.zero) 38 (0, 0))) ∧ Hid (Below w.heap.size w w1) ∧ Hid (w1.heap.size = w.heap.size + 1) :=
 ⟨_, rfl, heap_alloc_new _ _, (Below.refl _ _).alloc (Nat.le_refl _) _, by simp [Hid]⟩
theorem set9 {w : World} {b : Nat} {p : At} {r : Rec} {T : TypeId} (h : w.heap[b]? = some (.cells (recArr p r) T (0, 0))) (q : At) (s : Rec) : (((((((((w.setCell ⟨b, 0, none⟩ (.slice q.pa s.a.path.length q.pc)).setCell ⟨b, 1, none⟩ (.string s.a.type)).setCell ⟨b, 2, none⟩ (.string s.a.name)).setCell ⟨b, 3, none⟩ (.int .i64 s.a.key)).setCell ⟨b, 4, none⟩ (.int .u64 s.a.place)).setCell ⟨b, 5, none⟩ (.string s.a.word)).setCell ⟨b, 6, none⟩ (.string s.prov)).setCell ⟨b, 7, none⟩ (.string s.id)).setCell ⟨b, 8, none⟩ (.slice q.ta s.attrs.length q.tc)).heap[b]? = some (.cells (recArr q s) T (0, 0)) := by
 have h0 := heap_set_same h (i := 0) (.slice q.pa s.a.path.length q.pc)
 have h1 := heap_set_same h0 (i := 1) (.string s.a.type)
 have h2 := heap_set_same h1 (i := 2) (.string s.a.name)
 have h3 := heap_set_same h2 (i := 3) (.int .i64 s.a.key)
 have h4 := heap_set_same h3 (i := 4) (.int .u64 s.a.place)
 have h5 := heap_set_same h4 (i := 5) (.string s.a.word)
 have h6 := heap_set_same h5 (i := 6) (.string s.prov)
 have h7 := heap_set_same h6 (i := 7) (.string s.id)
 have h8 := heap_set_same h7 (i := 8) (.slice q.ta s.attrs.length q.tc)
 rw [h8]
 simp [recArr]
theorem gb9 (w : World) (b : Nat) (x0 x1 x2 x3 x4 x5 x6 x7 x8 : Value) : w.grownBy (((((((((w.setCell ⟨b, 0, none⟩ x0).setCell ⟨b, 1, none⟩ x1).setCell ⟨b, 2, none⟩ x2).setCell ⟨b, 3, none⟩ x3).setCell ⟨b, 4, none⟩ x4).setCell ⟨b, 5, none⟩ x5).setCell ⟨b, 6, none⟩ x6).setCell ⟨b, 7, none⟩ x7).setCell ⟨b, 8, none⟩ x8) (some b) :=
 (((((((((gb_set _ _ _ _).trans (gb_set _ _ _ _)).trans (gb_set _ _ _ _)).trans (gb_set _ _ _ _)).trans (gb_set _ _ _ _)).trans (gb_set _ _ _ _)).trans (gb_set _ _ _ _)).trans (gb_set _ _ _ _)).trans (gb_set _ _ _ _))
theorem rec_frozen {w : World} {b : Nat} {p : At} {r : Rec} (h : w.heap[b]? = some (.cells (recArr p r) 38 (0, 0))) : w.frozen? ⟨b, 0, none⟩ = false ∧ w.frozen? ⟨b, 1, none⟩ = false ∧ w.frozen? ⟨b, 2, none⟩ = false ∧ w.frozen? ⟨b, 3, none⟩ = false ∧ w.frozen? ⟨b, 4, none⟩ = false ∧ w.frozen? ⟨b, 5, none⟩ = false ∧ w.frozen? ⟨b, 6, none⟩ = false ∧ w.frozen? ⟨b, 7, none⟩ = false ∧ w.frozen? ⟨b, 8, none⟩ = false :=
 ⟨frozen_of h 0, frozen_of h 1, frozen_of h 2, frozen_of h 3, frozen_of h 4, frozen_of h 5, frozen_of h 6, frozen_of h 7, frozen_of h 8⟩
theorem copied2_any (r : Rec) (p : At) (w : World) (h : IsRec w (fun _ => True) p r) (hp : r.a.path.length ≤ 3000) (hn : r.attrs.length ≤ 3000) : Calls Tryz.prog 39 #[recV p r] w (CpPost2 r w) := by
 obtain ⟨w1, hw1, V1, B1⟩ := rec_new w p r
 obtain ⟨w2, hw2, V2, B2, Z2⟩ := zrec_new w1
 have hl1 := heap_lt V1.out
 have hl2 := heap_lt V2.out
 have B02 : Hid (Below w.heap.size w w2) := B1.out.trans (B2.out.mono (by omega))
 have V12 : Hid (w2.heap[w.heap.size]? = some (.cells (recArr p r) 38 (0, 0))) := (B2.out.block _ hl1).trans V1.out
 obtain ⟨ka', kc', w3, hap, T3, B3⟩ := app_texts w2 _ r.a.path p.pa p.pc (h.path.turn (Turn.below B02.out)) hp
 have HAP := hdQ hap
 have V13 : Hid (w3.heap[w.heap.size]? = some (.cells (recArr p r) 38 (0, 0))) := (B3.out.block _ (by omega)).trans V12.out
 have V23 : Hid (w3.heap[w1.heap.size]? = some (.cells (recArr At.zero Rec.zero) 38 (0, 0))) := (B3.out.block _ hl2).trans V2.out
 obtain ⟨w4, hw4⟩ : ∃ w4, w3.setCell ⟨w.heap.size, 0, none⟩ (.slice ka' r.a.path.length kc') = w4 := ⟨_, rfl⟩
 have V14 : Hid (w4.heap[w.heap.size]? = some (.cells (recArr ⟨ka', kc', p.ta, p.tc⟩ r) 38 (0, 0))) := by rw [← hw4, Hid, heap_set_same V13.out]; rfl
 have G4 : Hid (w3.grownBy w4 (some w.heap.size)) := by rw [← hw4]; exact gb_set _ _ _ _
 have V24 : Hid (w4.heap[w1.heap.size]? = some (.cells (recArr At.zero Rec.zero) 38 (0, 0))) := (G4.out.block _ (heap_lt V23.out) (by intro e; injection e with e; omega)).trans V23.out
 have hs3 := B3.out.size
 have B04 : Hid (Below w.heap.size w w4) := (B02.out.trans (B3.out.mono (by omega))).grown G4.out (B02.out.trans (B3.out.mono (by omega))).size (fun k hk => by injection hk with hk; omega)
 have hs4 := G4.out.size
 obtain ⟨ta', tc', w5, hbp, T5, N5, B5⟩ := app_pairs w4 _ r.attrs p.ta p.tc (h.attrs.turn (Turn.below B04.out)) hn
 have HBP := hdQ hbp
 have V15 : Hid (w5.heap[w.heap.size]? = some (.cells (recArr ⟨ka', kc', p.ta, p.tc⟩ r) 38 (0, 0))) := (B5.out.block _ (heap_lt V14.out)).trans V14.out
 have V25 : Hid (w5.heap[w1.heap.size]? = some (.cells (recArr At.zero Rec.zero) 38 (0, 0))) := (B5.out.block _ (heap_lt V24.out)).trans V24.out
 obtain ⟨w6, hw6⟩ : ∃ w6, w5.setCell ⟨w.heap.size, 8, none⟩ (.slice ta' r.attrs.length tc') = w6 := ⟨_, rfl⟩
 have V16 : Hid (w6.heap[w.heap.size]? = some (.cells (recArr ⟨ka', kc', ta', tc'⟩ r) 38 (0, 0))) := by rw [← hw6, Hid, heap_set_same V15.out]; rfl
 have G6 : Hid (w5.grownBy w6 (some w.heap.size)) := by rw [← hw6]; exact gb_set _ _ _ _
 have V26 : Hid (w6.heap[w1.heap.size]? = some (.cells (recArr At.zero Rec.zero) 38 (0, 0))) := (G6.out.block _ (heap_lt V25.out) (by intro e; injection e with e; omega)).trans V25.out
 have hs5 := B5.out.size
 have hs6 := G6.out.size
 have B06 : Hid (Below w.heap.size w w6) := (B04.out.trans (B5.out.mono (by omega))).grown G6.out (B04.out.trans (B5.out.mono (by omega))).size (fun k hk => by injection hk with hk; omega)
 have T6 : Hid (IsTexts w6 (PartT 9 w2.heap.size w6) ka' r.a.path) := ((T3.out.turn (partT_grown (B' := w2.heap.size) (by decide) G4.out (Nat.le_refl _) V13.out)).turn (partT_below (B' := w2.heap.size) B5.out (Nat.le_refl _))).turn (partT_grown (by decide) G6.out (Nat.le_refl _) V15.out)
 have P6 : Hid (IsPairs w6 (PartT 72 w4.heap.size w6) ta' r.attrs) := T5.out.turn (partT_grown (by decide) G6.out (Nat.le_refl _) V15.out)
 obtain ⟨x0, x1, x2, x3, x4, x5, x6, x7, x8⟩ := rec_cells V12.out
 have a8 : w4.cell? ⟨w.heap.size, 8, none⟩ = some (.slice p.ta r.attrs.length p.tc) := cell_of V14.out 8
 have b0 : w3.cell? ⟨w.heap.size, 0, none⟩ = some (.slice p.pa r.a.path.length p.pc) := cell_of V13.out 0
 have f0 := frozen_of V13.out 0
 have b8 : w5.cell? ⟨w.heap.size, 8, none⟩ = some (.slice p.ta r.attrs.length p.tc) := cell_of V15.out 8
 have f8 := frozen_of V15.out 8
 obtain ⟨y0, y1, y2, y3, y4, y5, y6, y7, y8⟩ := rec_cells V16.out
 obtain ⟨u0, u1, u2, u3, u4, u5, u6, u7, u8⟩ := rec_cells V26.out
 obtain ⟨g0, g1, g2, g3, g4, g5, g6, g7, g8⟩ := rec_frozen V26.out
 unfold recV
 clear hap hbp h
 go_enter Tryz.func39, Tryz.ntmps39
 go_wp2_with (first
  | (at_builtin; refine wpList_append_run (.slice none 0 0) (.slice p.pa r.a.path.length p.pc) 33 HAP.out rfl _ _ rfl rfl rfl ?_)
  | (at_builtin; refine wpList_append_run (.slice none 0 0) (.slice p.ta r.attrs.length p.tc) 36 HBP.out rfl _ _ rfl rfl rfl ?_))
 have hg := gb9 w6 w1.heap.size (.slice ka' r.a.path.length kc') (.string r.a.type) (.string r.a.name) (.int .i64 r.a.key) (.int .u64 r.a.place) (.string r.a.word) (.string r.prov) (.string r.id) (.slice ta' r.attrs.length tc')
 refine copied_ret r ⟨ka', kc', ta', tc'⟩ w _ _ w1.heap.size (set9 V26.out ⟨ka', kc', ta', tc'⟩ r) rfl ⟨?_, ?_, N5.out⟩ (B06.out.grown hg B06.out.size (fun k hk => by injection hk with hk; omega))
 ·exact T6.out.turn (partT_grown (by decide) hg (by have := B02.out.size; omega) V26.out)
 ·exact P6.out.turn (partT_grown (by decide) hg (by have := B04.out.size; omega) V26.out)
theorem copied_any (r : Rec) (p : At) (w : World) (h : IsRec w (fun _ => True) p r) (hp : r.a.path.length ≤ 3000) (hn : r.attrs.length ≤ 3000) :
  Calls Tryz.prog 39 #[recV p r] w (CpPost r w) := (copied2_any r p w h hp hn).mono fun _ _ h => h.one
def recL (x : At × Rec) : List Value := (recArr x.1 x.2).toList
theorem recs_get : ∀ (l : List (At × Rec)) (i : Nat) (h : i < l.length) (j : Nat), j < 9 → (l.flatMap recL)[i * 9 + j]? = (recArr l[i].1 l[i].2)[j]? := by
 intro l
 induction l with
 | nil => intro i h; cases h
 | cons x t ih =>
  intro i h j hj
  have hx : (recL x).length = 9 := by simp [recL, recArr]
  rw [List.flatMap_cons]
  cases i with
  | zero =>
   rw [List.getElem?_append_left (by omega)]
   simp [recL]
  | succ i =>
   have hi : i < t.length := by simpa using h
   rw [List.getElem?_append_right (by omega), hx, show (i + 1) * 9 + j - 9 = i * 9 + j by omega]
   exact ih i hi j hj
theorem recs_one (l : List (At × Rec)) : ∀ u ∈ l.flatMap recL, u.oneCell' = true := by
 intro u hu
 obtain ⟨x, _, hx⟩ := List.mem_flatMap.1 hu
 simp only [recL, recArr, List.mem_cons, List.not_mem_nil, or_false] at hx
 rcases hx with rfl | rfl | rfl | rfl | rfl | rfl | rfl | rfl | rfl <;> rfl
def RecRow (w : World) (B : Nat) (v : Value) (l : List Rec) : Prop := ∃ ps : List (At × Rec), ps.map (·.2) = l ∧ w.ownsRow B 38 9 v ps.length (ps.flatMap recL) ∧ ∀ x ∈ ps, IsRec w (Part B w) x.1 x.2
theorem RecRow.nil (w : World) (B : Nat) : RecRow w B (.slice none 0 0) [] := ⟨[], rfl, World.ownsRow_nil _ _ _ _, fun x h => by cases h⟩
theorem RecRow.cap {w : World} {B : Nat} {a : Option Addr} {c n : Nat} {l : List Rec} (h : RecRow w B (.slice a n c) l) : l.length ≤ c := by
 obtain ⟨ps, rfl, ho, _⟩ := h
 rw [List.length_map]
 rcases ho.2 with ⟨_, e0⟩ | ⟨g, cap, cur, hv, _, _, hc, _⟩
 ·omega
 ·injection hv with _ _ hv; omega
theorem RecRow.kept {w w' : World} {B : Nat} {v : Value} {l : List Rec} {r : Option Nat} (h : RecRow w B v l) (hg : w.grownBy w' r) (hr : ∀ b, r = some b → b < B) : RecRow w' B v l := by
 obtain ⟨ps, hl, ho, hi⟩ := h
 refine ⟨ps, hl, World.ownsRow.kept ho hg ?_, fun x hx => (hi x hx).turn (part_turn hg.size (Nat.le_refl _) (fun b hb hlt => hg.block b hlt (fun e => by have := hr b e.symm; have := hb.1; omega)))⟩
 cases hv : v.ownBlock with
 | none => exact .inl rfl
 | some k => exact .inr (fun e => by have h1 := hr k e.symm; have h2 := (World.ownsRow.lt ho k hv).1; omega)
theorem RecRow.below {w w' : World} {B : Nat} {v : Value} {l : List Rec} (h : RecRow w B v l) (hb : Below w.heap.size w w') : RecRow w' B v l := h.kept (gb_below hb none) (fun b e => by cases e)
theorem RecRow.recs {w : World} {B : Nat} {a : Option Addr} {c : Nat} {l : List Rec} (h : RecRow w B (.slice a l.length c) l) : IsRecs w (fun b => B ≤ b) a l := by
 obtain ⟨ps, rfl, ho, hi⟩ := h
 rw [List.length_map] at ho
 rcases Nat.eq_zero_or_pos ps.length with h0 | h0
 ·left; rw [List.length_eq_zero_iff.1 h0]; rfl
 ·obtain ⟨g, rfl⟩ : ∃ g, a = some ⟨g, 0, none⟩ := by
   rcases ho.2 with ⟨_, e0⟩ | ⟨g, cap, cur, hv, _⟩
   ·omega
   ·injection hv with hv; exact ⟨g, hv⟩
  have hgl := World.ownsRow.lt ho g (by simp [Value.ownBlock])
  refine .inr ⟨g, 0, rfl, hgl.1, hgl.2, fun i => (ps.getD i (At.zero, Rec.zero)).1, fun i hi2 => ?_⟩
  have hip : i < ps.length := by simpa using hi2
  have hgd : ps.getD i (At.zero, Rec.zero) = ps[i] := by simp [List.getD_eq_getElem?_getD, hip]
  show (∀ j u, (recArr (ps.getD i (At.zero, Rec.zero)).1 (ps.map (·.2))[i])[j]? = some u → w.cell? ⟨g, 0 + i * 9 + j, none⟩ = some u) ∧ IsRec w (fun b => B ≤ b) (ps.getD i (At.zero, Rec.zero)).1 (ps.map (·.2))[i]
  rw [hgd, List.getElem_map]
  refine ⟨fun j u hu => ?_, (hi _ (List.getElem_mem hip)).turn (Turn.mono _ (fun b hb _ => hb.1))⟩
  have hj : j < 9 := by
   have := (Array.getElem?_eq_some_iff.1 hu).1
   simpa [recArr] using this
  rw [Nat.zero_add, World.ownsRow.cellAt ho (i * 9 + j) (by omega), recs_get ps i hip j hj]
  exact hu
theorem infoRec : (Tryz.prog.info? 38).map (fun i => (i.zero, i.size, i.bytes)) = some (some (.agg #[.slice none 0 0, .string ⟨#[]⟩, .string ⟨#[]⟩, .int .i64 0, .int .u64 0, .string ⟨#[]⟩, .string ⟨#[]⟩, .string ⟨#[]⟩, .slice none 0 0]), 9, 144) := by kernel_rfl
theorem app_rec (w : World) (B : Nat) (v : Value) (l : List Rec) (p : At) (r : Rec) (h : RecRow w B v l) (hI : IsRec w (Part B w) p r) (hl : l.length ≤ 3000) (hB : B ≤ w.heap.size) :
  ∃ g cap w', (Builtin.append_ #[23, 23] 23 #[v, .slice (some ⟨w.heap.size, 0, none⟩) 1 1]).run Tryz.prog (w.alloc (.cells #[.slice p.pa r.a.path.length p.pc, .string r.a.type, .string r.a.name, .int .i64 r.a.key, .int .u64 r.a.place, .string r.a.word, .string r.prov, .string r.id, .slice p.ta r.attrs.length p.tc] 38)) = .ok (.slice (some ⟨g, 0, none⟩) (l.length + 1) cap) w' ∧
   Hid (RecRow w' B (.slice (some ⟨g, 0, none⟩) (l.length + 1) cap) (l ++ [r])) ∧ Hid (w.grownBy w' v.ownBlock) ∧ Hid (B ≤ g) := by
 obtain ⟨ps, rfl, ho, hi⟩ := h
 obtain ⟨i0, hi0, hz0, hz1, hz2⟩ := info_parts infoRec
 obtain ⟨w1, hw1, V1, B1⟩ := rec_new w p r
 have hnews : ∀ j u, (recL (p, r))[j]? = some u → w1.cell? ((⟨w.heap.size, 0, none⟩ : Addr).add j) = some u := fun j u hu => by
  have e : (⟨w.heap.size, 0, none⟩ : Addr).add j = ⟨w.heap.size, j, none⟩ := by unfold Addr.add; split <;> simp_all
  rw [e, cell_of V1.out j]
  simpa [recL] using hu
 have ho1 : w1.ownsRow B 38 9 v ps.length (ps.flatMap recL) := World.ownsRow.kept ho (gb_below B1.out none) (by cases v.ownBlock <;> simp)
 have hs1 := B1.out.size
 rw [List.length_map] at hl
 obtain ⟨v', w', hr, hn, hg, _⟩ := run_append_own (P := Tryz.prog) w1 B 23 23 38 i0 _ 9 144 Tryz.underlying23 hi0 hz0 hz1 hz2 rfl (by decide) v ps.length (ps.flatMap recL) ho1 ⟨w.heap.size, 0, none⟩ 1 1 (recL (p, r)) (by simp [recL, recArr]) hnews (recs_one [(p, r)] |> fun h u hu => h u (by simpa using hu)) (by unfold maxLen; omega) (by omega) (by omega)
 have hnl : ps.flatMap recL ++ recL (p, r) = (ps ++ [(p, r)]).flatMap recL := by simp
 rw [hnl] at hn
 obtain ⟨g, c, rfl⟩ : ∃ g c, v' = .slice (some ⟨g, 0, none⟩) (ps.length + 1) c := by
  rcases hn.2 with ⟨rfl, e0⟩ | ⟨g, cap, cur, rfl, _⟩
  ·omega
  ·exact ⟨_, _, rfl⟩
 have hgl := World.ownsRow.lt hn g (by simp [Value.ownBlock])
 have hgw : w.grownBy w' v.ownBlock := ⟨hg.os.trans B1.out.os, hg.tape.trans B1.out.tape, hg.output.trans B1.out.output, Nat.le_trans hs1 hg.size, fun k hk hne => (hg.block k (by omega) hne).trans (B1.out.block k hk)⟩
 have hturn : Turn w w' (Part B w) (Part B w') := part_turn hgw.size (Nat.le_refl _) (fun b hb hlt => hgw.block b hlt (fun e => by
  rcases ho.2 with ⟨rfl, _⟩ | ⟨g2, cap2, cur2, rfl, _, hb2, _⟩
  ·cases e
  ·simp [Value.ownBlock] at e
   subst e
   exact hb.2 _ _ hb2))
 refine ⟨g, c, w', ?_, ⟨ps ++ [(p, r)], by simp, ?_, fun x hx => ?_⟩, hgw, hgl.1⟩
 ·rw [hw1, List.length_map]; exact hr
 ·rw [List.length_append, List.length_singleton, List.length_map]; exact hn
 ·rcases List.mem_append.1 hx with hx | hx
  ·exact (hi x hx).turn hturn
  ·rw [List.mem_singleton.1 hx]; exact hI.turn hturn
def IsLists (w : World) (b o : Nat) (L : List (List Rec)) : Prop := b < w.heap.size ∧ ∀ i (h : i < L.length), ∃ ra rc, w.cell? ⟨b, o + i, none⟩ = some (.slice ra L[i].length rc) ∧ RecsAt w ra L[i]
theorem IsLists.stays {w w' : World} {b o : Nat} {L : List (List Rec)} (h : IsLists w b o L) (hb : Below w.heap.size w w') : IsLists w' b o L :=
 ⟨Nat.lt_of_lt_of_le h.1 hb.size, fun i hi => by
  obtain ⟨ra, rc, h1, h2⟩ := h.2 i hi
  exact ⟨ra, rc, by rw [cell_blk (hb.block b h.1)]; exact h1, h2.stays hb⟩⟩
structure JI (w wr : World) (s : Sta) (acc : List Rec) (a : Option Addr) (c : Nat) : Prop where
 A : wr.heap[w.heap.size]? = some (.cells (staArr a c { s with recs := acc }) 25 (0, 0))
 R : wr.heap[w.heap.size + 1]? = some (.cells (staArr none 0 ⟨0, ⟨#[]⟩, []⟩) 25 (0, 0))
 B : Below w.heap.size w wr
 S : w.heap.size + 2 ≤ wr.heap.size
 K : RecRow wr (w.heap.size + 2) (.slice a acc.length c) acc
theorem JI.stays {w wr wx : World} {s : Sta} {acc : List Rec} {a : Option Addr} {c : Nat} (h : JI w wr s acc a c) (hb : Below wr.heap.size wr wx) : JI w wx s acc a c :=
 ⟨(hb.block _ (heap_lt h.A)).trans h.A, (hb.block _ (heap_lt h.R)).trans h.R, h.B.trans (hb.mono h.B.size), Nat.le_trans h.S hb.size, h.K.below hb⟩
def JnPost (s : Sta) (l : List Rec) (w : World) (e : Ending) (w' : World) : Prop := ∃ a c, e = .returned (staV a c { s with recs := l }) ∧ IsRecs w' (fun b => w.heap.size ≤ b) a l ∧ l.length ≤ c ∧ Below w.heap.size w w'
theorem join_ret (s : Sta) (l : List Rec) (w w' : World) (tm : Array Value) (b : Nat) (a : Option Addr) (c : Nat) (hb : w'.heap[b]? = some (.cells (staArr a c { s with recs := l }) 25 (0, 0))) (h2 : tm[4]? = some (.pointer (some ⟨b, 0, none⟩))) (hI : IsRecs w' (fun b => w.heap.size ≤ b) a l) (hc : l.length ≤ c) (hB : Below w.heap.size w w') : bodyPost Tryz.prog Tryz.f68 (JnPost s l w) Exit.ret { tmps := tm, defers := [] } w' := by
 obtain ⟨c0, c1, c2⟩ := sta_cells hb
 refine bodyPost_ret (v := staV a c { s with recs := l }) ?_ rfl ⟨a, c, rfl, hI, hc, hB⟩
 simp [results, Tryz.results68, go_sem, h2, c0, c1, c2, staV]
theorem set3 {w : World} {b : Nat} {a a' : Option Addr} {c c' : Nat} {s t : Sta} {T : TypeId} (h : w.heap[b]? = some (.cells (staArr a c s) T (0, 0))) : (((w.setCell ⟨b, 0, none⟩ (.int .u64 t.serial)).setCell ⟨b, 1, none⟩ (.string t.lin)).setCell ⟨b, 2, none⟩ (.slice a' t.recs.length c')).heap[b]? = some (.cells (staArr a' c' t) T (0, 0)) := by
 have h0 := heap_set_same h (i := 0) (.int .u64 t.serial)
 have h1 := heap_set_same h0 (i := 1) (.string t.lin)
 have h2 := heap_set_same h1 (i := 2) (.slice a' t.recs.length c')
 rw [h2]
 simp [staArr]
theorem cp_ok (r : Rec) (p : At) (w : World) (h : IsRec w (fun _ => True) p r) (hs : Small r) : Hid (Calls Tryz.prog 39 #[.agg #[.slice p.pa r.a.path.length p.pc, .string r.a.type, .string r.a.name, .int .i64 r.a.key, .int .u64 r.a.place, .string r.a.word, .string r.prov, .string r.id, .slice p.ta r.attrs.length p.tc]] w (CpPost r w)) := copied_any r p w h hs.l hs.n
theorem zsta_new (w : World) : ∃ w1, w.alloc (.cells #[.int .u64 0, .string ⟨#[]⟩, .slice none 0 0] 25) = w1 ∧ Hid (w1.heap[w.heap.size]? = some (.cells (staArr none 0 ⟨0, ⟨#[]⟩, []⟩) 25 (0, 0))) ∧ Hid (Below w.heap.size w w1) ∧ Hid (w1.heap.size = w.heap.size + 1) :=
 ⟨_, rfl, heap_alloc_new _ _, (Below.refl _ _).alloc (Nat.le_refl _) _, by simp [Hid]⟩
theorem flat_take {L : List (List Rec)} {k : Nat} (h : k < L.length) : (L.take (k + 1)).flatten = (L.take k).flatten ++ L[k] := by
 rw [List.take_add_one, List.getElem?_eq_getElem h, List.flatten_append]
 simp
theorem flat_le {L : List (List Rec)} {k j : Nat} (h : k < L.length) : ((L.take k).flatten ++ L[k].take j).length ≤ L.flatten.length := by
 have e : L.flatten = (L.take k).flatten ++ (L[k] ++ (L.drop (k + 1)).flatten) := by
  have h1 : L.flatten = (L.take (k + 1)).flatten ++ (L.drop (k + 1)).flatten := by rw [← List.flatten_append, List.take_append_drop]
  rw [h1, flat_take h, List.append_assoc]
 rw [e]
 simp only [List.length_append, List.length_take]
 omega
theorem ji_next {w w5 w6 : World} {s : Sta} {ac : List Rec} {r : Rec} {a : Option Addr} {c g cap : Nat} (J5 : JI w w5 s ac a c) (hown : ∀ bb, (Value.slice a ac.length c).ownBlock = some bb → w.heap.size + 2 ≤ bb)
  (G6 : w5.grownBy w6 (Value.slice a ac.length c).ownBlock) (K6 : RecRow w6 (w.heap.size + 2) (.slice (some ⟨g, 0, none⟩) (ac.length + 1) cap) (ac ++ [r])) (A6 : w6.heap[w.heap.size]? = some (.cells (staArr a c { s with recs := ac }) 25 (0, 0))) :
  JI w (w6.setCell ⟨w.heap.size, 2, none⟩ (.slice (some ⟨g, 0, none⟩) (ac.length + 1) cap)) s (ac ++ [r]) (some ⟨g, 0, none⟩) cap := by
 have hgs := gb_set w6 w.heap.size 2 (.slice (some ⟨g, 0, none⟩) (ac.length + 1) cap)
 have hs5 := J5.S
 have hs6 := G6.size
 have hlen : (ac ++ [r]).length = ac.length + 1 := by simp
 refine ⟨?_, ?_, (J5.B.grown G6 J5.B.size (fun k hk => by have := hown k hk; omega)).grown hgs (Nat.le_trans J5.B.size hs6) (fun k hk => by injection hk with hk; omega), Nat.le_trans (Nat.le_trans hs5 hs6) hgs.size, ?_⟩
 ·rw [heap_set_same A6]
  simp [staArr]
 ·rw [hgs.block _ (by omega) (by intro e; injection e with e; omega), G6.block _ (by omega) (fun e => by have := hown _ e.symm; omega)]
  exact J5.R
 ·rw [hlen]
  exact K6.kept hgs (fun b e => by injection e with e; omega)
theorem join_any (s : Sta) (ra : Option Addr) (rc : Nat) (lb lo : Nat) (lc : Nat) (L : List (List Rec)) (w : World) (hL : IsLists w lb lo L) (hn : L.length ≤ 3000) (hf : L.flatten.length ≤ 3000) : Calls Tryz.prog 68 #[staV ra rc s, .slice (some ⟨lb, lo, none⟩) L.length lc] w (JnPost s L.flatten w) := by
 obtain ⟨w1, hw1, V1, B1⟩ := sta_new w ra rc s
 obtain ⟨w2, hw2, V2, B2, Z2⟩ := zsta_new w1
 have hl1 := heap_lt V1.out
 have hl2 := heap_lt V2.out
 have hz1 : w1.heap.size = w.heap.size + 1 := by rw [← hw1]; simp
 have hz2 : w2.heap.size = w1.heap.size + 1 := Z2.out
 have V12 : Hid (w2.heap[w.heap.size]? = some (.cells (staArr ra rc s) 25 (0, 0))) := (B2.out.block _ hl1).trans V1.out
 have B02 : Hid (Below w.heap.size w w2) := B1.out.trans (B2.out.mono (by omega))
 obtain ⟨w3, hw3⟩ : ∃ w3, w2.setCell ⟨w.heap.size, 2, none⟩ (.slice none 0 0) = w3 := ⟨_, rfl⟩
 have G3 : Hid (w2.grownBy w3 (some w.heap.size)) := by rw [← hw3]; exact gb_set _ _ _ _
 have hJ3 : JI w w3 s [] none 0 := by
  refine ⟨by rw [← hw3, heap_set_same V12.out]; rfl, ?_, B02.out.grown G3.out B02.out.size (fun k hk => by injection hk with hk; omega), by have := G3.out.size; omega, RecRow.nil _ _⟩
  rw [← hz1]
  exact (G3.out.block _ hl2 (by intro e; injection e with e; omega)).trans V2.out
 have HJ3 := hdQ hJ3
 have HL : Hid (∀ W, Below w.heap.size w W → IsLists W lb lo L) := fun W hb => hL.stays hb
 have f2 := frozen_of V12.out 2
 have c2 : w2.cell? ⟨w.heap.size, 2, none⟩ = some (.slice ra s.recs.length rc) := cell_of V12.out 2
 unfold staV
 clear hL hJ3 hz2
 have HZ1 := hdQ hz1
 clear hz1
 go_enter Tryz.func68, Tryz.ntmps68
 go_wp2_with fail
 clear f2 c2 hw1 hw2 hw3
 go_loopw [12] (fun p12 wr => ∃ (k : Nat) (a : Option Addr) (c : Nat), p12 = .int .i64 k ∧ k ≤ L.length ∧ Hid (JI w wr s (L.take k).flatten a c)) (fun p12 _ => L.length - (intOf p12).toNat)
 case atStart => exact ⟨0, none, 0, rfl, Nat.zero_le _, HJ3.out⟩
 case round =>
  obtain ⟨k, a, c, rfl, hk, hJ⟩ := hrel
  by_cases hlt : k < L.length
  ·obtain ⟨rk, rck, hck0, hrk⟩ := (HL.out w (Below.refl _ _)).2 k hlt
   have hck : wr.cell? ⟨lb, lo + k, none⟩ = some (.slice rk L[k].length rck) := by rw [cell_blk (hJ.out.B.block lb (HL.out w (Below.refl _ _)).1)]; exact hck0
   have hfl : ∀ j, ((L.take k).flatten ++ L[k].take j).length ≤ 3000 := fun j => Nat.le_trans (flat_le hlt) hf
   have hft := flat_take hlt
   obtain ⟨l, hl⟩ : ∃ l, L[k] = l := ⟨_, rfl⟩
   rw [hl] at hck hck0 hrk hfl hft
   obtain ⟨acc, hacc⟩ : ∃ acc, (L.take k).flatten = acc := ⟨_, rfl⟩
   rw [hacc] at hfl hft hJ
   have HFT := hdQ hft
   have HFL := hdQ hfl
   have HRK : Hid (∀ W, Below w.heap.size w W → RecsAt W rk l) := fun W hb => hrk.stays hb
   have hln : l.length ≤ 3000 := hrk.n
   clear hl hacc hfl hft hrk hck0
   go_wp2_with fail
   go_loopw [18] (fun p18 wx => ∃ (j : Nat) (a : Option Addr) (c : Nat), p18 = .int .i64 j ∧ j ≤ l.length ∧ Hid (JI w wx s (acc ++ l.take j) a c)) (fun p18 _ => l.length - (intOf p18).toNat)
   case atStart => exact ⟨0, a, c, rfl, Nat.zero_le _, by rw [List.take_zero, List.append_nil]; exact hJ.out⟩
   case round =>
    obtain ⟨j, a, c, rfl, hj, hJx⟩ := hrel
    have hRx : Hid (RecsAt wr rk l) := HRK.out wr hJx.out.B
    by_cases hjl : j < l.length
    ·obtain ⟨b, o, p, hrk, hb, hcr, hir⟩ := hRx.out.get hjl
     have hsr := hRx.out.s _ (List.getElem_mem hjl)
     have htk : l.take (j + 1) = l.take j ++ [l[j]] := by rw [List.take_add_one, List.getElem?_eq_getElem hjl]; rfl
     obtain ⟨r, hr⟩ : ∃ r, l[j] = r := ⟨_, rfl⟩
     rw [hr] at hcr hir hsr htk
     obtain ⟨z0, z1, z2, z3, z4, z5, z6, z7, z8⟩ := recs_nine hcr
     obtain ⟨w4, hw4, V4, B4⟩ := rec_new wr p r
     have J4 : Hid (JI w w4 s (acc ++ l.take j) a c) := hJx.out.stays B4.out
     have hdr : Below w4.heap.size w4 w4.drew := (Below.refl _ _).drew
     have J4d : Hid (JI w w4.drew s (acc ++ l.take j) a c) := J4.out.stays hdr
     have HCP := cp_ok r p w4.drew ((hir.turn (Turn.below B4.out)).turn (Turn.below hdr)) hsr
     have hacl := HFL.out j
     obtain ⟨ac, hac⟩ : ∃ ac, acc ++ l.take j = ac := ⟨_, rfl⟩
     rw [hac] at J4 J4d hacl
     have hnx : acc ++ l.take (j + 1) = ac ++ [r] := by rw [htk, ← List.append_assoc, hac]
     have HNX := hdQ hnx
     have x2 : w4.cell? ⟨w.heap.size, 2, none⟩ = some (.slice a ac.length c) := cell_of J4.out.A 2
     have x2d : w4.drew.cell? ⟨w.heap.size, 2, none⟩ = some (.slice a ac.length c) := cell_of J4d.out.A 2
     obtain ⟨y0, y1, y2, y3, y4, y5, y6, y7, y8⟩ := rec_cells V4.out
     obtain ⟨u0, u1, u2, u3, u4, u5, u6, u7, u8⟩ := rec_cells (w := w4.drew) (b := wr.heap.size) (p := p) (r := r) ((hdr.block _ (heap_lt V4.out)).trans V4.out)
     clear hcr hir hsr htk hr hac hnx hRx
     subst hrk
     go_wp2_with fail
     go_region_law (first
      | (refine step_append_run _ _ 23 HAP.out (by rfl) _ _ (by rfl) (by rfl) (by rfl) ?_)
      | (go_simp; go_at_call 39; refine (Calls.mono HCP.out ?_); rintro z w5 hz; obtain ⟨q, rfl, hq, hb5⟩ := hz.to; have J5 : Hid (JI w w5 s ac a c) := J4d.out.stays hb5.out; have hB5 : w.heap.size + 2 ≤ w5.heap.size := J5.out.S; obtain ⟨g, cap, w6, hap, K6, G6, hg6⟩ := app_rec w5 (w.heap.size + 2) (.slice a ac.length c) ac q r J5.out.K (hq.out.turn (part_turn (Nat.le_refl _) J4d.out.S (fun _ _ _ => rfl))) hacl hB5; obtain ⟨w5a, hw5a, V5a, B5a⟩ := rec_new w5 q r; rw [hw5a] at hap; have HAP := hdQ hap; have x25a : w5a.cell? ⟨w.heap.size, 2, none⟩ = some (.slice a ac.length c) := cell_of (J5.out.stays B5a.out).A 2; have x25 : w5.cell? ⟨w.heap.size, 2, none⟩ = some (.slice a ac.length c) := cell_of J5.out.A 2; have hown : ∀ bb, (Value.slice a ac.length c).ownBlock = some bb → w.heap.size + 2 ≤ bb := (fun bb e => (by obtain ⟨ps, _, ho, _⟩ := J5.out.K; exact (World.ownsRow.lt ho bb e).1)); have A6 : Hid (w6.heap[w.heap.size]? = some (.cells (staArr a c { s with recs := ac }) 25 (0, 0))) := ((G6.out.block _ (heap_lt J5.out.A) (fun e => (by have := hown _ e.symm; omega))).trans J5.out.A); have f6 := frozen_of A6.out 2; have x26 : w6.cell? ⟨w.heap.size, 2, none⟩ = some (.slice a ac.length c) := cell_of A6.out 2; have J7 : Hid (JI w (w6.setCell ⟨w.heap.size, 2, none⟩ (.slice (some ⟨g, 0, none⟩) (ac.length + 1) cap)) s (acc ++ l.take (j + 1)) (some ⟨g, 0, none⟩) cap) := (by rw [HNX.out]; exact ji_next J5.out hown G6.out K6.out A6.out); clear hz hap))
     all_goals
      obtain ⟨w7, hw7⟩ : ∃ w7, w6.setCell ⟨w.heap.size, 2, none⟩ (.slice (some ⟨g, 0, none⟩) (ac.length + 1) cap) = w7 := ⟨_, rfl⟩
      rw [hw7] at J7 ⊢
      clear hw7
      go_wp2_with fail
      go_roundw
      case rel => exact ⟨j + 1, _, _, by go_num, by omega, J7.out⟩
      case measure => simp [intOf]; omega
    ·have hje : j = l.length := by omega
     subst hje
     have JE : Hid (JI w wr s (L.take (k + 1)).flatten a c) := by rw [HFT.out]; have := hJx.out; rw [List.take_length] at this; exact this
     go_wp2_with fail
     go_roundw
     case rel => exact ⟨k + 1, _, _, by go_num, by omega, JE.out⟩
     case measure => simp [intOf]; omega
  ·have hke : k = L.length := by omega
   subst hke
   have JE : Hid (JI w wr s L.flatten a c) := by have := hJ.out; rw [List.take_length] at this; exact this
   obtain ⟨ql, hq⟩ : ∃ q, L.flatten = q := ⟨_, rfl⟩
   rw [hq] at JE
   have HQ := hdQ hq
   clear hq hJ
   obtain ⟨x0, x1, x2⟩ := sta_cells JE.out.A
   have hR : Hid (wr.heap[w1.heap.size]? = some (.cells (staArr none 0 ⟨0, ⟨#[]⟩, []⟩) 25 (0, 0))) := by rw [HZ1.out]; exact JE.out.R
   have f0 := frozen_of hR.out 0
   have f1 := frozen_of hR.out 1
   have f2 := frozen_of hR.out 2
   obtain ⟨r0, r1, r2⟩ := sta_cells hR.out
   go_wp2_with fail
   rw [HQ.out]
   have hg : wr.grownBy (((wr.setCell ⟨w1.heap.size, 0, none⟩ (.int .u64 s.serial)).setCell ⟨w1.heap.size, 1, none⟩ (.string s.lin)).setCell ⟨w1.heap.size, 2, none⟩ (.slice a ql.length c)) (some w1.heap.size) := ((gb_set _ _ _ _).trans (gb_set _ _ _ _)).trans (gb_set _ _ _ _)
   refine join_ret s ql w _ _ w1.heap.size a c (set3 (t := { s with recs := ql }) hR.out) rfl ?_ JE.out.K.cap (JE.out.B.grown hg JE.out.B.size (fun k hk => by injection hk with hk; omega))
   exact (JE.out.K.kept hg (fun b e => by injection e with e; have := HZ1.out; omega)).recs.turn (Turn.mono _ (fun b hb _ => by omega))
end Go.Proofs.YtehghladpnpcoaaGreatDoor.State
