/- (*strings.Builder).String at a place of a block. -/
import Derived.Test.YtbfkgddhpabioaaDoorBld
namespace Go.Proofs.YtbfkgddhpabioaaDoor
open Go.RowKit
set_option linter.unusedVariables false
set_option linter.unusedSimpArgs false
set_option maxRecDepth 100000

theorem string_any (B b o : Nat) (T : TypeId) (cs : Array Value) (l : List UInt8) (w : World) (h : Bl w B b o T cs l) (hBw : B ≤ w.heap.size) :
    Calls Tryd.prog 95 #[.pointer (some ⟨b, o, none⟩)] w fun e w' => e = .returned (.string ⟨l.toArray⟩) ∧ Keeps B b w w' ∧ w'.heap[b]? = some (.cells cs T (0, 0)) := by
  obtain ⟨v, hv, hown⟩ := h.buf
  have hlt := h.lt
  have hne := Lib.ownBlock_ne hown h.blk h.ne
  have cB : w.cell? ⟨b, o + 1, none⟩ = some v := by rw [cell_of h.blk]; exact hv
  have H1 := Hid.out (p := Hid _) h.blk
  have cellsByte : Tryd.prog.cellsOf 5 = 1 := by kernel_rfl
  by_cases hl : l = []
  · subst hl
    have hUS : ∀ W q, (Builtin.unsafeString_ #[127, 3] 9 #[.pointer q, .int .i64 0]).run Tryd.prog W = .ok (.string .empty) W := fun W q => Lib.run_unsafeString_none W _ _ _ q
    rcases hown.2 with ⟨rfl, _⟩ | ⟨g, cap, cur, rfl, hbg, hg, _, _, _, _⟩
    · have c1 : w.drew.cell? ⟨b, o + 1, none⟩ = some (.slice none 0 0) := cB
      have hSD : (Builtin.unsafeSliceData_ #[22] 127 #[.slice none 0 0]).run Tryd.prog w.drew = .ok (.pointer none) w.drew := rfl
      clear h hv hown hne cB cellsByte
      go_enter Tryd.func95, Tryd.ntmps95
      go_wp2
      go_region
      all_goals (go_wp2; go_ret; exact ⟨rfl, (Keeps.refl _ _ _).drewN 1, H1.out⟩)
    · by_cases hc0 : cap = 0
      · subst hc0
        have c1 : w.drew.cell? ⟨b, o + 1, none⟩ = some (.slice (some ⟨g, 0, none⟩) 0 0) := cB
        have hSD : (Builtin.unsafeSliceData_ #[22] 127 #[.slice (some ⟨g, 0, none⟩) 0 0]).run Tryd.prog w.drew = .ok (.pointer (some ⟨w.drew.heap.size, 0, none⟩)) (w.drew.alloc (.view ⟨g, 0, none⟩ 5)) :=
          Lib.run_unsafeSliceData_zero w.drew _ _ 5 (by kernel_rfl) ⟨g, 0, none⟩ 0 (5, cur.size) (by have hg' : w.drew.heap[g]? = some (.cells cur 5 (0, 0)) := hg; simp [World.shape?, hg'])
        have c2 : (w.drew.alloc (.view ⟨g, 0, none⟩ 5)).cell? ⟨b, o + 1, none⟩ = some (.slice (some ⟨g, 0, none⟩) 0 0) := by
          have : (w.drew.alloc (.view ⟨g, 0, none⟩ 5)).heap[b]? = _ := (Lib.alloc_old w.drew _ b hlt).trans H1.out
          rw [cell_of this]; exact hv
        have c3 : (w.alloc (.view ⟨g, 0, none⟩ 5)).drew.cell? ⟨b, o + 1, none⟩ = some (.slice (some ⟨g, 0, none⟩) 0 0) := c2
        have c0 : w.cell? ⟨b, o + 1, none⟩ = some (.slice (some ⟨g, 0, none⟩) 0 0) := c1
        clear h hv hown hne cB cellsByte
        go_enter Tryd.func95, Tryd.ntmps95
        go_wp2
        go_region
        all_goals (go_wp2; go_ret; exact ⟨rfl, ((Keeps.refl B b w).alloc hBw _).drewN 1, heap_alloc_old H1.out⟩)
      · have c1 : w.drew.cell? ⟨b, o + 1, none⟩ = some (.slice (some ⟨g, 0, none⟩) 0 cap) := cB
        have hSD : (Builtin.unsafeSliceData_ #[22] 127 #[.slice (some ⟨g, 0, none⟩) 0 cap]).run Tryd.prog w.drew = .ok (.pointer (some ⟨g, 0, none⟩)) w.drew :=
          Lib.run_unsafeSliceData_row _ _ _ _ _ _ hc0
        clear h hv hown hne cB cellsByte hc0
        go_enter Tryd.func95, Tryd.ntmps95
        go_wp2
        go_region
        all_goals (go_wp2; go_ret; exact ⟨rfl, (Keeps.refl _ _ _).drewN 1, H1.out⟩)
  · have hl0 : l.length ≠ 0 := by simpa using hl
    obtain ⟨g, cap, cur, rfl, hbg, hg, hnc, hcm, hcs, htake⟩ : ∃ g cap cur, v = .slice (some ⟨g, 0, none⟩) l.length cap ∧ B ≤ g ∧ w.heap[g]? = some (.cells cur 5 (0, 0)) ∧ l.length ≤ cap ∧ cap ≤ maxLen ∧ cur.size = cap * 1 ∧ cur.toList.take (l.length * 1) = Lib.byteCells l := by
      rcases hown.2 with ⟨_, hz⟩ | ⟨g, cap, cur, hv, r⟩
      · exact absurd hz hl0
      · exact ⟨g, cap, cur, hv, r⟩
    have c1 : w.drew.cell? ⟨b, o + 1, none⟩ = some (.slice (some ⟨g, 0, none⟩) l.length cap) := cB
    have hSD : (Builtin.unsafeSliceData_ #[22] 127 #[.slice (some ⟨g, 0, none⟩) l.length cap]).run Tryd.prog w.drew = .ok (.pointer (some ⟨g, 0, none⟩)) w.drew :=
      Lib.run_unsafeSliceData_row _ _ _ _ _ _ (by omega)
    have hUS : (Builtin.unsafeString_ #[127, 3] 9 #[.pointer (some ⟨g, 0, none⟩), .int .i64 l.length]).run Tryd.prog w.drew = .ok (.string ⟨l.toArray⟩) (w.drew.freeze ⟨g, 0, none⟩ l.length) := by
      refine Lib.run_unsafeString_row w.drew 127 3 9 5 (by kernel_rfl) cellsByte g cur.size (by have hg' : w.drew.heap[g]? = some (.cells cur 5 (0, 0)) := hg; simp [World.shape?, hg']) l hl (by omega) (by unfold maxLen at hcm; omega) ?_
      intro j x hx
      have := hown.cells (g := g) rfl j (.int .u8 x.toNat) (by simp [Lib.byteCells, hx])
      exact this
    have hgb : g ≠ b := fun e => by simp [Value.ownBlock, e] at hne
    have hk : Hid (Keeps B b w (w.drew.freeze ⟨g, 0, none⟩ l.length) ∧ (w.drew.freeze ⟨g, 0, none⟩ l.length).heap[b]? = some (.cells cs T (0, 0))) := by
      have hfr : ∀ k, k ≠ g → (w.drew.freeze ⟨g, 0, none⟩ l.length).heap[k]? = w.heap[k]? := by
        intro k hk
        unfold World.freeze
        rw [if_neg hl0]
        show (w.heap.modify g _)[k]? = _
        rw [Array.getElem?_modify, if_neg (by omega)]
      refine ⟨⟨Lib.below_freeze (Below.drew (Below.refl B w)) (p := ⟨g, 0, none⟩) hbg _, fun k _ _ hn => hfr k (fun e => ?_)⟩, (hfr b (fun e => hgb e.symm)).trans H1.out⟩
      subst e
      exact hn _ _ hg
    clear h hv hown hne cB cellsByte hg htake
    go_enter Tryd.func95, Tryd.ntmps95
    go_wp2
    go_region
    all_goals (go_wp2; go_ret; exact ⟨rfl, hk.out⟩)
end Go.Proofs.YtbfkgddhpabioaaDoor
