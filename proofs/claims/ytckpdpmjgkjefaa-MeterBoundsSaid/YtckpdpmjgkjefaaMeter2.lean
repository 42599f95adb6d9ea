/- Contracts of package meter and walks of its laws, over the seat's program. -/
import Derived.Test.YtckpdpmjgkjefaaMeter
import Derived.Outline
namespace Go.Proofs.Ytckpdpmjgkjefaa.Meter
open Go.RowKit Go.Proofs.Ytckpdpmjgkjefaa.Atom

theorem heap_alloc_new (w : World) (o : Obj) : (w.alloc o).heap[w.heap.size]? = some o := by
  show (w.heap.push o)[w.heap.size]? = _
  simp
theorem heap_alloc_old {w : World} {o o' : Obj} {k : Nat} (h : w.heap[k]? = some o') : (w.alloc o).heap[k]? = some o' :=
  (Below.heap_alloc w o k (Array.getElem?_eq_some_iff.1 h).1).trans h
theorem heap_set_same {w : World} {b i : Nat} {c : Array Value} {e : TypeId} {fr : Nat × Nat} (h : w.heap[b]? = some (.cells c e fr)) (v : Value) :
    (w.setCell ⟨b, i, none⟩ v).heap[b]? = some (.cells (c.setIfInBounds i v) e fr) := by
  simp [World.setCell, Array.getElem?_modify, h]
theorem heap_set_other {w : World} {b i k : Nat} {o : Obj} (h : w.heap[k]? = some o) (hk : k ≠ b) (v : Value) :
    (w.setCell ⟨b, i, none⟩ v).heap[k]? = some o := (Below.heap_setCell w _ v k hk).trans h

def IsNew (w : World) (l : Int) (e : Ending) (w' : World) : Prop :=
  ∃ b r, e = .returned (.pointer (some ⟨b, 0, none⟩)) ∧ w.heap.size ≤ b ∧ w.heap.size ≤ r ∧ Mtr w' b r l 0 0 0 ∧ Below w.heap.size w w'

theorem isNew_mk (w : World) (l : Int) : IsNew w l (.returned (.pointer (some ⟨w.heap.size, 0, none⟩)))
    ((w.alloc (.cells #[.int .i64 l, .pointer (some ⟨w.heap.size + 1, 0, none⟩)] 46)).alloc (.cells #[.int .i64 0, .int .i64 0, .int .i64 0] 49)) := by
  have hz : (w.alloc (.cells #[.int .i64 l, .pointer (some ⟨w.heap.size + 1, 0, none⟩)] 46)).heap.size = w.heap.size + 1 := by simp
  refine ⟨w.heap.size, w.heap.size + 1, rfl, Nat.le_refl _, by omega, ⟨by omega, ?_, ?_⟩, ?_⟩
  · exact heap_alloc_old (heap_alloc_new _ _)
  · have := heap_alloc_new (w.alloc (.cells #[.int .i64 l, .pointer (some ⟨w.heap.size + 1, 0, none⟩)] 46)) (.cells #[.int .i64 0, .int .i64 0, .int .i64 0] 49)
    rwa [hz] at this
  · exact ((Below.refl _ _).alloc (Nat.le_refl _) _).alloc (by omega) _

theorem new_any (l : Int) (w : World) : Calls Try.prog 8 #[.int .i64 l] w (IsNew w (max l 0)) := by
  by_cases hl : 0 ≤ l
  · have hm : Hid (max l 0 = l) := by unfold Hid; omega
    go_enter Try.func8, Try.ntmps8
    go_wp2_with (go_at_call 19; refine (store_any _ _ (.pointer none) (.int .i64 0) _ (by simp) (by simp) (by simp)).mono ?_; rintro e w' ⟨rfl, rfl⟩)
    go_ret
    rw [hm.out]
    exact isNew_mk w l
  · have hm : Hid (max l 0 = 0) := by unfold Hid; omega
    go_enter Try.func8, Try.ntmps8
    go_wp2_with (go_at_call 19; refine (store_any _ _ (.pointer none) (.int .i64 0) _ (by simp) (by simp) (by simp)).mono ?_; rintro e w' ⟨rfl, rfl⟩)
    go_ret
    rw [hm.out]
    exact isNew_mk w 0

/-! ### what a meter tells -/
theorem used_any (b r : Nat) (l u p f : Int) (w : World) (h : Mtr w b r l u p f) :
    Calls Try.prog 10 #[.pointer (some ⟨b, 0, none⟩)] w fun e w' => e = .returned (.int .i64 u) ∧ w = w' := by
  have c1 := h.c1
  have r0 := h.r0
  have sh := h.sh
  clear h
  go_enter Try.func10, Try.ntmps10
  go_wp2_with (go_at_call 20; refine (load_any _ _ _ c1 sh).mono ?_; rintro e w' ⟨rfl, rfl⟩)
  go_ret
  exact ⟨rfl, rfl⟩
theorem peak_any (b r : Nat) (l u p f : Int) (w : World) (h : Mtr w b r l u p f) :
    Calls Try.prog 13 #[.pointer (some ⟨b, 0, none⟩)] w fun e w' => e = .returned (.int .i64 p) ∧ w = w' := by
  have c1 := h.c1
  have r0 := h.r1
  have sh := h.sh
  clear h
  go_enter Try.func13, Try.ntmps13
  go_wp2_with (go_at_call 20; refine (load_any _ _ _ c1 sh).mono ?_; rintro e w' ⟨rfl, rfl⟩)
  go_ret
  exact ⟨rfl, rfl⟩
theorem refused_any (b r : Nat) (l u p f : Int) (w : World) (h : Mtr w b r l u p f) :
    Calls Try.prog 18 #[.pointer (some ⟨b, 0, none⟩)] w fun e w' => e = .returned (.int .i64 f) ∧ w = w' := by
  have c1 := h.c1
  have r0 := h.r2
  have sh := h.sh
  clear h
  go_enter Try.func18, Try.ntmps18
  go_wp2_with (go_at_call 20; refine (load_any _ _ _ c1 sh).mono ?_; rintro e w' ⟨rfl, rfl⟩)
  go_ret
  exact ⟨rfl, rfl⟩
theorem load_q (b r n : Nat) (w : World) (h1 : w.cell? ⟨b, 1, none⟩ = some (.pointer (some ⟨r, 0, none⟩))) (hs : w.shape? r = some (49, 3)) :
    Calls Try.prog 20 #[.pointer (some ⟨b, 1, none⟩)] (w.drewN n) fun e w'' => e = .returned (.pointer (some ⟨r, 0, none⟩)) ∧ ∃ m, w'' = w.drewN m :=
  Calls.quiet_of_same ((load_any b r (w.drewN n) h1 hs).mono fun _ _ h => ⟨h.1, h.2.symm⟩)
theorem left_any (b r : Nat) (l u p f : Int) (w : World) (h : Mtr w b r l u p f) (h0 : 0 ≤ u) (h1 : u ≤ l) (h2 : l ≤ 9223372036854775807) :
    Calls Try.prog 11 #[.pointer (some ⟨b, 0, none⟩)] w fun e w' => e = .returned (.int .i64 (l - u)) ∧ ∃ n, w' = w.drewN n := by
  have c0 := h.c0
  have c1 := h.c1
  have r0 := h.r0
  have sh := h.sh
  clear h
  go_enter Try.func11, Try.ntmps11
  go_wp2_with fail
  go_quiet ((go_at_call 20; exact load_q _ _ _ _ c1 sh))
  go_wp2
  go_ret
  exact ⟨rfl, _, rfl⟩
end Go.Proofs.Ytckpdpmjgkjefaa.Meter
