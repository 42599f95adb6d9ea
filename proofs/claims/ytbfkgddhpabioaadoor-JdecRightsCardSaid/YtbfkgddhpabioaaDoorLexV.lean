/- lex.within. -/
import Derived.Test.YtbfkgddhpabioaaDoorLexI
namespace Go.Proofs.YtbfkgddhpabioaaDoor.Lex
open Go.RowKit Go.Shelf Go.Proofs.YtbfkgddhpabioaaDoor.Utf Go.Proofs.YtbfkgddhpabioaaDoor.Strs
set_option linter.unusedVariables false
set_option linter.unusedSimpArgs false
set_option maxRecDepth 100000
attribute [local go_sem] Oper.semAt_some

theorem KeepsOthers.set2 (W : World) (a b : Addr) (u v : Value) : KeepsOthers W ((W.setCell a u).setCell b v) := (KeepsOthers.setCell _ _ _).trans (KeepsOthers.setCell _ _ _)

/-- The two results' cells. -/
structure Two (W : World) (b : Nat) (x y : Value) : Prop where
  c0 : W.heap[b]? = some (.cells #[x] 3 (0, 0))
  c1 : W.heap[b + 1]? = some (.cells #[y] 30 (0, 0))
theorem Two.grown {w w' : World} {b : Nat} {x y : Value} {row : Option Nat} (h : Two w b x y) (hg : w.grownBy w' row) (hr : ∀ r, row = some r → ∃ o : Obj, w.heap[r]? = some o ∧ o.isCells = false) : Two w' b x y :=
  ⟨Quote.blk_grown h.c0 hg hr, Quote.blk_grown h.c1 hg hr⟩
theorem Two.set {w : World} {b : Nat} {x y : Value} (h : Two w b x y) (u v : Value) : Two ((w.setCell ⟨b, 0, none⟩ u).setCell ⟨b + 1, 0, none⟩ v) b u v :=
  ⟨heap_set_other (heap_set_same h.c0 u) (by omega) v, heap_set_same (heap_set_other h.c1 (by omega) u) v⟩

/-- The results are read. -/
theorem wret (s : ByteArray) (w W : World) (D : Nat) (tm : Array Value) (x y : Nat) (h : Two W w.heap.size (.int .i64 x) (.int .i64 y)) (hB : Below w.heap.size w W) (hD : w.heap.size ≤ D) (hK : W.heap[D]? = some (.deferred (some []))) (hv : within s.data.toList = (x, y))
    (h2 : tm[2]? = some (.pointer (some ⟨w.heap.size, 0, none⟩))) (h3 : tm[3]? = some (.pointer (some ⟨w.heap.size + 1, 0, none⟩))) :
    bodyPostM Fence.wide 10 Tryd.prog Tryd.f97 (fun e w' => e = .returned (.tuple #[.int .i64 (within s.data.toList).1, .int .i64 (within s.data.toList).2]) ∧ Below w.heap.size w w') Exit.ret
      { tmps := tm, defers := [{ target := .collected D, args := #[] }] } W := by
  have hg := grownBy_putObj' W D (.deferred none)
  have hr : ∀ r, some D = some r → ∃ o : Obj, W.heap[r]? = some o ∧ o.isCells = false := fun r e => by cases e; exact ⟨_, hK, rfl⟩
  have h' := h.grown hg hr
  have e0 := cell_of h'.c0 0
  have e1 := cell_of h'.c1 0
  refine ⟨by simp, .inl ⟨_, _, rfl, run_takeDeferred hK, ?_⟩⟩
  refine ⟨.tuple #[.int .i64 x, .int .i64 y], ?_, by rw [hv], hB.grown hg hB.size (fun k e => by cases e; exact hD)⟩
  simp [results, Tryd.results97, go_sem, h2, h3, e0, e1]

set_option maxHeartbeats 4000000 in
theorem within_any (s : ByteArray) (w : World) (hs : s.size ≤ 2147483648) (T : Sizes w) :
    Calls Tryd.prog 97 #[.string s] w fun e w' => e = .returned (.tuple #[.int .i64 (within s.data.toList).1, .int .i64 (within s.data.toList).2]) ∧ Below w.heap.size w w' := by
  have HT := Hid.out (p := Hid _) T; clear T
  rw [← callsIn_wide (n := 10)]
  refine callsIn_of_wp_marks Tryd.func97 rfl trivial ?_ rfl
  simp only [Tryd.ntmps97, List.size_toArray, List.length_cons, List.length_nil, Nat.reduceAdd, Nat.reduceSub, Array.replicate_succ, Array.replicate_zero, List.push_toArray, List.append_toArray, List.nil_append, List.cons_append]
  refine wpIn_wide.2 ?_
  go_wp2_with fail
  refine (all_any s _).mono ?_
  rintro e w1 ⟨rfl, hb1, hbox⟩
  have hb0 : Below w.heap.size w w1 := (((Below.refl _ w).alloc (Nat.le_refl _) _).alloc (by simp) _).trans (hb1.mono (by simp; omega))
  have T2 : Hid (Two w1 w.heap.size (.int .i64 0) (.int .i64 0)) :=
    ⟨(hb1.block _ (by simp; omega)).trans (heap_alloc_old (heap_alloc_new _ _)), (hb1.block _ (by simp)).trans (by have := heap_alloc_new (w.alloc (.cells #[.int .i64 0] 3)) (.cells #[.int .i64 0] 30); simpa using this)⟩
  have T1 : Hid (Sizes w1) := HT.out.stays hb0
  have HB := Hid.out (p := Hid _) hb0; clear hb0
  have hX : Hid (w1.heap[w.heap.size + 1 + 1]? = some (.cells #[.string s] 9 (0, 0))) := by unfold Hid; simpa using hbox
  have hsz : w.heap.size + 1 + 1 < w1.heap.size := heap_lt hX.out
  clear hb1 hbox
  go_wp2_with fail
  refine (wpIn_wide (n := 10)).1 ?_
  refine wpIn_rangeFunc_ownG (α := Nat × Nat) (w := w1) rfl (by decide) (gf := 131) (lb := #[.pointer (some ⟨w.heap.size + 1 + 1, 0, none⟩)]) rfl trivial (enters_of Tryd.func131 (by kernel_rfl) rfl)
    (scal_stops 9 (w.heap.size + 1 + 1) s (by omega) (by decide) w1 hX.out T1.out) (fun h k => KpA.t h k)
    (fun W l o o' hl ho hc _ => ⟨World.putObj_heap_other (fun e => by omega), fun t => t.kept (World.putObj_heap_other (fun e => by have := T1.out.lt; omega))⟩) (Below.refl _ _) (fun _ => rfl)
    (fun pre W => (∀ y ∈ pre, ctl y = false) ∧ Hid (Two W w.heap.size (.int .i64 0) (.int .i64 0)) ∧ Hid (Below w.heap.size w W))
    (fun c pre W => c = .ret ∧ ∃ (p : List (Nat × Nat)) (x : Nat × Nat), pre = p ++ [x] ∧ (∀ y ∈ p, ctl y = false) ∧ ctl x = true ∧ Hid (Two W w.heap.size (.int .i64 x.1) (.int .i64 3)) ∧ Hid (Below w.heap.size w W))
    (fun s A B row hs hg hr => ⟨hs.1, hs.2.1.out.grown hg (fun r e => (hr r e).2), hs.2.2.out.grown hg hs.2.2.out.size (fun r e => by have := (hr r e).1; omega)⟩)
    (fun c s A B row hs hg hr => ⟨hs.1, by obtain ⟨_, p, x, h1, h2, h3, h4, h5⟩ := hs; exact ⟨p, x, h1, h2, h3, h4.out.grown hg (fun r e => (hr r e).2), h5.out.grown hg h5.out.size (fun r e => by have := (hr r e).1; omega)⟩⟩)
    ⟨by simp, T2.out, HB.out⟩
    (fun x => { tmps := #[.string s, undef, .pointer (some ⟨w.heap.size, 0, none⟩), .pointer (some ⟨w.heap.size + 1, 0, none⟩), .int .i64 x.1, .int .i64 x.2, undef, .string s, .func (.func 131) #[] #[.pointer (some ⟨w.heap.size + 1 + 1, 0, none⟩)], .int .i64 x.1, .int .i64 x.2, undef, undef, undef, undef, undef, undef, undef, undef, undef, undef, undef, undef], defers := [] }) ?assign ?body ?done ?stop
  case assign =>
    intro l x W K hK
    gi_wp2
    exact hK
  case body =>
    rintro l pre x W ⟨hp, h2, hB⟩ _
    have c0 := cell_of h2.out.c0 0
    have c1 := cell_of h2.out.c1 0
    have f0 := frozen_of h2.out.c0 0
    have f1 := frozen_of h2.out.c1 0
    by_cases h32 : x.2 < 32
    · by_cases h9 : x.2 = 9
      · have d1 : decide ((x.2 : Int) < 32) = true := by simp; omega
        have d2 : ((x.2 : Int) != 9) = false := by rw [h9]; rfl
        have hc : ctl x = false := by simp [ctl, h9]
        clear h9 h32
        gi_wp2_with fail
        exact ⟨KeepsFrom.refl _ _, ⟨rfl, fun t => t⟩, fun y hy => by rcases List.mem_append.1 hy with h | h; exact hp y h; rw [List.mem_singleton.1 h]; exact hc, h2, hB⟩
      · have d1 : decide ((x.2 : Int) < 32) = true := by simp; omega
        have d2 : ((x.2 : Int) != 9) = true := by rw [bne_iff_ne]; omega
        have hc : ctl x = true := by simp [ctl, h9, h32]
        clear h9 h32
        gi_wp2_with fail
        exact ⟨(KeepsOthers.set2 _ _ _ _ _).from _, rfl, pre, x, rfl, hp, hc, h2.out.set _ _, (hB.out.setCell (p := ⟨w.heap.size, 0, none⟩) (Nat.le_refl _) _).setCell (p := ⟨w.heap.size + 1, 0, none⟩) (by simp) _⟩
    · have d1 : decide ((x.2 : Int) < 32) = false := by simp; omega
      have hc : ctl x = false := by simp [ctl, h32]
      clear h32
      gi_wp2_with fail
      exact ⟨KeepsFrom.refl _ _, ⟨rfl, fun t => t⟩, fun y hy => by rcases List.mem_append.1 hy with h | h; exact hp y h; rw [List.mem_singleton.1 h]; exact hc, h2, hB⟩
  case done =>
    rintro D xs W hD rfl ⟨hp, h2, hB⟩ hKD
    have hf : (scalAt s.data.toList 0).find? ctl = none := List.find?_eq_none.2 (fun y hy => by rw [hp y hy]; decide)
    have TW : Hid (Sizes W) := HT.out.stays hB.out
    have HP := Hid.out (p := Hid _) hp; clear hp
    have HK := Hid.out (p := Hid _) hKD; clear hKD
    go_wp2_with fail
    refine (bad_any s W (by omega) TW.out).mono ?_
    rintro e w' ⟨rfl, rfl⟩
    have c0 := cell_of h2.out.c0 0
    have c1 := cell_of h2.out.c1 0
    have f0 := frozen_of h2.out.c0 0
    have f1 := frozen_of h2.out.c1 0
    cases hb : bad (s.data.toList.length + 1) s.data.toList 0 with
    | none =>
      have hz : badZ s.data.toList = -1 := by rw [badZ, hb]
      have hv : Hid (within s.data.toList = (0, 0)) := by rw [Hid, within, hf, hb]
      rw [hz]
      clear hz hb hf
      go_wp2_with fail
      exact wret s w _ D _ 0 0 (h2.out.set _ _) ((hB.out.setCell (p := ⟨w.heap.size, 0, none⟩) (Nat.le_refl _) _).setCell (p := ⟨w.heap.size + 1, 0, none⟩) (by simp) _) (by omega) (heap_set_other (heap_set_other HK.out (by omega) _) (by omega) _) hv.out rfl rfl
    | some p =>
      have hz : badZ s.data.toList = p := by rw [badZ, hb]
      have hv : Hid (within s.data.toList = (p, 7)) := by rw [Hid, within, hf, hb]
      rw [hz]
      clear hz hb hf
      go_wp2_with fail
      exact wret s w _ D _ p 7 (h2.out.set _ _) ((hB.out.setCell (p := ⟨w.heap.size, 0, none⟩) (Nat.le_refl _) _).setCell (p := ⟨w.heap.size + 1, 0, none⟩) (by simp) _) (by omega) (heap_set_other (heap_set_other HK.out (by omega) _) (by omega) _) hv.out rfl rfl
  case stop =>
    rintro D c pre W hD hpre ⟨rfl, p, x, rfl, hp, hc, h2, hB⟩ hKD
    have hv : Hid (within s.data.toList = (x.1, 3)) := by
      obtain ⟨t, ht⟩ := hpre
      rw [Hid, within, ← ht, List.append_assoc, List.find?_append, List.find?_eq_none.2 (fun y hy => by rw [hp y hy]; decide)]
      simp [hc]
    clear hpre hp
    have HK := Hid.out (p := Hid _) hKD; clear hKD
    refine wpIn_wide.2 ?_
    go_wp2_with fail
    exact wret s w W D _ x.1 3 h2.out hB.out (by omega) HK.out hv.out rfl rfl
end Go.Proofs.YtbfkgddhpabioaaDoor.Lex
