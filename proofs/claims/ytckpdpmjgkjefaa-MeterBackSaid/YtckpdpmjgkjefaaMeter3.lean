/- Contracts of package meter and walks of its laws, over the seat's program. -/
import Derived.Test.YtckpdpmjgkjefaaMeter2
import Derived.Outline
namespace Go.Proofs.Ytckpdpmjgkjefaa.Meter
open Go.RowKit Go.Proofs.Ytckpdpmjgkjefaa.Atom
set_option linter.unusedVariables false

/-- The meter shows u, p, f. -/
def Shows (w : World) (b : Nat) (l u p f : Int) (w' : World) : Prop :=
  ∃ r, Mtr w' b r l u p f ∧ Ex b w w' ∧ w.heap.size ≤ r
def Told (w : World) (b : Nat) (ok : Bool) (l u p f : Int) (e : Ending) (w' : World) : Prop := e = .returned (.bool ok) ∧ Shows w b l u p f w'

theorem cas_on {b r : Nat} {l u p f : Int} {w X : World} {u' p' f' : Int} (h : Hid (Mtr w b r l u p f)) (hb : Below w.heap.size w X)
    (hn : X.heap[w.heap.size]? = some (.cells #[.int .i64 u', .int .i64 p', .int .i64 f'] 49)) :
    Calls Try.prog 21 #[.pointer (some ⟨b, 1, none⟩), .pointer (some ⟨r, 0, none⟩), .pointer (some ⟨w.heap.size, 0, none⟩)] X
      fun e w' => e = .returned (.bool true) ∧ Shows w b l u' p' f' w' := by
  have hl := h.out.lt
  refine (cas_any b r w.heap.size (.int .i64 u) (.int .i64 u') X ?_ ?_ ?_ ?_).mono ?_
  · rw [hb.cell (p := ⟨b, 1, none⟩) hl.1]; exact h.out.c1
  · rw [hb.frozen (p := ⟨b, 1, none⟩) hl.1]; exact h.out.f1
  · rw [hb.cell (p := ⟨r, 0, none⟩) hl.2]; exact h.out.r0
  · simp [World.cell?, hn]
  rintro e w' ⟨rfl, rfl⟩
  have hx : Ex b w X := ⟨hb.os, hb.tape, hb.output, hb.size, fun k hk _ => hb.block k hk⟩
  refine ⟨rfl, w.heap.size, ⟨by omega, ?_, ?_⟩, hx.setCell (.inl rfl) _, Nat.le_refl _⟩
  · exact heap_set_same ((hb.block b hl.1).trans h.out.own) _
  · exact heap_set_other hn (by omega) _

/-- A new reading, some draws, and one cell or two of it turned. -/
theorem fresh1 (w : World) (x y z v : Value) (i n : Nat) : Below w.heap.size w (((w.alloc (.cells #[x, y, z] 49)).drewN n).setCell ⟨w.heap.size, i, none⟩ v) ∧
    (((w.alloc (.cells #[x, y, z] 49)).drewN n).setCell ⟨w.heap.size, i, none⟩ v).heap[w.heap.size]? = some (.cells (#[x, y, z].setIfInBounds i v) 49) := by
  have hb : Below w.heap.size w ((w.alloc (.cells #[x, y, z] 49)).drewN n) :=
    ⟨rfl, rfl, rfl, by show _ ≤ (w.alloc _).heap.size; simp, fun k hk => Below.heap_alloc w _ k hk⟩
  exact ⟨hb.setCell (Nat.le_refl _) _, heap_set_same (w := (w.alloc _).drewN n) (heap_alloc_new w _) _⟩
theorem fresh2 (w : World) (x y z v v' : Value) (i j n : Nat) : Below w.heap.size w ((((w.alloc (.cells #[x, y, z] 49)).drewN n).setCell ⟨w.heap.size, i, none⟩ v).setCell ⟨w.heap.size, j, none⟩ v') ∧
    ((((w.alloc (.cells #[x, y, z] 49)).drewN n).setCell ⟨w.heap.size, i, none⟩ v).setCell ⟨w.heap.size, j, none⟩ v').heap[w.heap.size]? = some (.cells ((#[x, y, z].setIfInBounds i v).setIfInBounds j v') 49) := by
  obtain ⟨h1, h2⟩ := fresh1 w x y z v i n
  exact ⟨h1.setCell (Nat.le_refl _) _, heap_set_same h2 _⟩

theorem fresh0 (w : World) (x y z : Value) : Below w.heap.size w (w.alloc (.cells #[x, y, z] 49)) ∧
    (w.alloc (.cells #[x, y, z] 49)).heap[w.heap.size]? = some (.cells #[x, y, z] 49) :=
  ⟨(Below.refl _ _).alloc (Nat.le_refl _) _, heap_alloc_new _ _⟩

theorem take_neg (b r : Nat) (l u p f n : Int) (w : World) (h : Mtr w b r l u p f) (h0 : 0 ≤ u) (h1 : u ≤ l) (h2 : l ≤ 9223372036854775807) (hf : 0 ≤ f) (hf' : f < 9223372036854775807) (hn : n < 0) :
    Calls Try.prog 9 #[.pointer (some ⟨b, 0, none⟩), .int .i64 n] w (Told w b false l u p (f + 1)) := by
  have hd : decide (0 ≤ n) = false := by simpa using hn
  have c0 := h.c0
  have c1 := h.c1
  have r0 := h.r0
  have r1 := h.r1
  have r2 := h.r2
  have f1 := h.f1
  have sh := h.sh
  have hl1 := h.lt.1
  have hl2 := h.lt.2
  have H : Hid (Mtr w b r l u p f) := h; clear h
  go_enter Try.func9, Try.ntmps9
  go_wp2_with fail
  go_step3
  go_wp2_with fail
  go_step3
  go_wp2_with fail
  refine wp_loop_once ?_
  go_wp2_with (go_at_call 20; refine (load_any _ _ _ c1 sh).mono ?_; rintro e w' ⟨rfl, rfl⟩)
  go_quiet (fail)
  go_wp2_with fail
  refine (cas_on H (fresh1 _ _ _ _ _ _ _).1 (fresh1 _ _ _ _ _ _ _).2).mono ?_
  rintro e w' ⟨rfl, hs⟩
  go_wp2_with fail
  (try rw [Exit.noGoto_ret])
  go_ret
  exact ⟨rfl, hs⟩

theorem take_big (b r : Nat) (l u p f n : Int) (w : World) (h : Mtr w b r l u p f) (h0 : 0 ≤ u) (h1 : u ≤ l) (h2 : l ≤ 9223372036854775807) (hf : 0 ≤ f) (hf' : f < 9223372036854775807) (hn : 0 ≤ n) (hb : l - u < n) :
    Calls Try.prog 9 #[.pointer (some ⟨b, 0, none⟩), .int .i64 n] w (Told w b false l u p (f + 1)) := by
  have hd : decide (0 ≤ n) = true := by simpa using hn
  have hd2 : decide (n ≤ l - u) = false := by simp; omega
  have c0 := h.c0
  have c1 := h.c1
  have r0 := h.r0
  have r1 := h.r1
  have r2 := h.r2
  have f1 := h.f1
  have sh := h.sh
  have hl1 := h.lt.1
  have hl2 := h.lt.2
  have H : Hid (Mtr w b r l u p f) := h; clear h
  go_enter Try.func9, Try.ntmps9
  go_wp2_with fail
  go_step3
  go_wp2_with fail
  go_step3
  go_wp2_with fail
  refine wp_loop_once ?_
  go_wp2_with (go_at_call 20; refine (load_any _ _ _ c1 sh).mono ?_; rintro e w' ⟨rfl, rfl⟩)
  go_quiet (fail)
  go_wp2_with fail
  refine (cas_on H (fresh1 _ _ _ _ _ _ _).1 (fresh1 _ _ _ _ _ _ _).2).mono ?_
  rintro e w' ⟨rfl, hs⟩
  go_wp2_with fail
  (try rw [Exit.noGoto_ret])
  go_ret
  exact ⟨rfl, hs⟩

theorem take_up (b r : Nat) (l u p f n : Int) (w : World) (h : Mtr w b r l u p f) (h0 : 0 ≤ u) (h1 : u ≤ l) (h2 : l ≤ 9223372036854775807) (hf : 0 ≤ f) (hf' : f < 9223372036854775807) (hn : 0 ≤ n) (hb : n ≤ l - u) (hp : p < u + n) :
    Calls Try.prog 9 #[.pointer (some ⟨b, 0, none⟩), .int .i64 n] w (Told w b true l (u + n) (u + n) f) := by
  have hd : decide (0 ≤ n) = true := by simpa using hn
  have hd2 : decide (n ≤ l - u) = true := by simpa using hb
  have c0 := h.c0
  have c1 := h.c1
  have r0 := h.r0
  have r1 := h.r1
  have r2 := h.r2
  have f1 := h.f1
  have sh := h.sh
  have hl1 := h.lt.1
  have hl2 := h.lt.2
  have H : Hid (Mtr w b r l u p f) := h; clear h
  go_enter Try.func9, Try.ntmps9
  go_wp2_with fail
  go_step3
  go_wp2_with fail
  go_step3
  go_wp2_with fail
  refine wp_loop_once ?_
  go_wp2_with (go_at_call 20; refine (load_any _ _ _ c1 sh).mono ?_; rintro e w' ⟨rfl, rfl⟩)
  go_quiet (fail)
  go_wp2_with fail
  refine (cas_on H (fresh2 _ _ _ _ _ _ _ _ _).1 (fresh2 _ _ _ _ _ _ _ _ _).2).mono ?_
  rintro e w' ⟨rfl, hs⟩
  go_wp2_with fail
  (try rw [Exit.noGoto_ret])
  go_ret
  exact ⟨rfl, hs⟩

theorem take_in (b r : Nat) (l u p f n : Int) (w : World) (h : Mtr w b r l u p f) (h0 : 0 ≤ u) (h1 : u ≤ l) (h2 : l ≤ 9223372036854775807) (hf : 0 ≤ f) (hf' : f < 9223372036854775807) (hn : 0 ≤ n) (hb : n ≤ l - u) (hp : u + n ≤ p) :
    Calls Try.prog 9 #[.pointer (some ⟨b, 0, none⟩), .int .i64 n] w (Told w b true l (u + n) p f) := by
  have hd : decide (0 ≤ n) = true := by simpa using hn
  have hd2 : decide (n ≤ l - u) = true := by simpa using hb
  have c0 := h.c0
  have c1 := h.c1
  have r0 := h.r0
  have r1 := h.r1
  have r2 := h.r2
  have f1 := h.f1
  have sh := h.sh
  have hl1 := h.lt.1
  have hl2 := h.lt.2
  have H : Hid (Mtr w b r l u p f) := h; clear h
  go_enter Try.func9, Try.ntmps9
  go_wp2_with fail
  go_step3
  go_wp2_with fail
  go_step3
  go_wp2_with fail
  refine wp_loop_once ?_
  go_wp2_with (go_at_call 20; refine (load_any _ _ _ c1 sh).mono ?_; rintro e w' ⟨rfl, rfl⟩)
  go_quiet (fail)
  go_wp2_with fail
  refine (cas_on H (fresh2 _ _ _ _ _ _ _ _ _).1 (fresh2 _ _ _ _ _ _ _ _ _).2).mono ?_
  rintro e w' ⟨rfl, hs⟩
  go_wp2_with fail
  (try rw [Exit.noGoto_ret])
  go_ret
  exact ⟨rfl, hs⟩

theorem give_neg (b r : Nat) (l u p f n : Int) (w : World) (h : Mtr w b r l u p f) (h0 : 0 ≤ u) (h1 : u ≤ l) (h2 : l ≤ 9223372036854775807) (hf : 0 ≤ f) (hf' : f < 9223372036854775807) (hn : n < 0) :
    Calls Try.prog 12 #[.pointer (some ⟨b, 0, none⟩), .int .i64 n] w (Told w b false l u p (f + 1)) := by
  have hd : decide (0 ≤ n) = false := by simpa using hn
  have c0 := h.c0
  have c1 := h.c1
  have r0 := h.r0
  have r1 := h.r1
  have r2 := h.r2
  have f1 := h.f1
  have sh := h.sh
  have hl1 := h.lt.1
  have hl2 := h.lt.2
  have H : Hid (Mtr w b r l u p f) := h; clear h
  go_enter Try.func12, Try.ntmps12
  go_wp2_with fail
  go_step3
  go_wp2_with fail
  go_step3
  go_wp2_with fail
  refine wp_loop_once ?_
  go_wp2_with (go_at_call 20; refine (load_any _ _ _ c1 sh).mono ?_; rintro e w' ⟨rfl, rfl⟩)
  go_wp2_with fail
  refine (cas_on H (fresh0 _ _ _ _).1 (fresh0 _ _ _ _).2).mono ?_
  rintro e w' ⟨rfl, hs⟩
  go_wp2_with fail
  (try rw [Exit.noGoto_ret])
  go_ret
  exact ⟨rfl, hs⟩

theorem give_big (b r : Nat) (l u p f n : Int) (w : World) (h : Mtr w b r l u p f) (h0 : 0 ≤ u) (h1 : u ≤ l) (h2 : l ≤ 9223372036854775807) (hf : 0 ≤ f) (hf' : f < 9223372036854775807) (hn : 0 ≤ n) (hb : u < n) :
    Calls Try.prog 12 #[.pointer (some ⟨b, 0, none⟩), .int .i64 n] w (Told w b false l u p (f + 1)) := by
  have hd : decide (0 ≤ n) = true := by simpa using hn
  have hd2 : decide (n ≤ u) = false := by simp; omega
  have c0 := h.c0
  have c1 := h.c1
  have r0 := h.r0
  have r1 := h.r1
  have r2 := h.r2
  have f1 := h.f1
  have sh := h.sh
  have hl1 := h.lt.1
  have hl2 := h.lt.2
  have H : Hid (Mtr w b r l u p f) := h; clear h
  go_enter Try.func12, Try.ntmps12
  go_wp2_with fail
  go_step3
  go_wp2_with fail
  go_step3
  go_wp2_with fail
  refine wp_loop_once ?_
  go_wp2_with (go_at_call 20; refine (load_any _ _ _ c1 sh).mono ?_; rintro e w' ⟨rfl, rfl⟩)
  go_wp2_with fail
  refine (cas_on H (fresh0 _ _ _ _).1 (fresh0 _ _ _ _).2).mono ?_
  rintro e w' ⟨rfl, hs⟩
  go_wp2_with fail
  (try rw [Exit.noGoto_ret])
  go_ret
  exact ⟨rfl, hs⟩

theorem give_ok (b r : Nat) (l u p f n : Int) (w : World) (h : Mtr w b r l u p f) (h0 : 0 ≤ u) (h1 : u ≤ l) (h2 : l ≤ 9223372036854775807) (hf : 0 ≤ f) (hf' : f < 9223372036854775807) (hn : 0 ≤ n) (hb : n ≤ u) :
    Calls Try.prog 12 #[.pointer (some ⟨b, 0, none⟩), .int .i64 n] w (Told w b true l (u - n) p f) := by
  have hd : decide (0 ≤ n) = true := by simpa using hn
  have hd2 : decide (n ≤ u) = true := by simpa using hb
  have c0 := h.c0
  have c1 := h.c1
  have r0 := h.r0
  have r1 := h.r1
  have r2 := h.r2
  have f1 := h.f1
  have sh := h.sh
  have hl1 := h.lt.1
  have hl2 := h.lt.2
  have H : Hid (Mtr w b r l u p f) := h; clear h
  go_enter Try.func12, Try.ntmps12
  go_wp2_with fail
  go_step3
  go_wp2_with fail
  go_step3
  go_wp2_with fail
  refine wp_loop_once ?_
  go_wp2_with (go_at_call 20; refine (load_any _ _ _ c1 sh).mono ?_; rintro e w' ⟨rfl, rfl⟩)
  go_wp2_with fail
  refine (cas_on H (fresh0 _ _ _ _).1 (fresh0 _ _ _ _).2).mono ?_
  rintro e w' ⟨rfl, hs⟩
  go_wp2_with fail
  (try rw [Exit.noGoto_ret])
  go_ret
  exact ⟨rfl, hs⟩
end Go.Proofs.Ytckpdpmjgkjefaa.Meter
