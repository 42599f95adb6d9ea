/- The walk of the law MeterActs. -/
import Derived.Test.YtckpdpmjgkjefaaMeter6
namespace Go.Proofs.Ytckpdpmjgkjefaa.Meter
open Go.RowKit Go.Proofs.Ytckpdpmjgkjefaa.Atom
set_option linter.unusedVariables false

def DoneA (w : World) (e : Ending) (w' : World) : Prop := e = .returned (.bool true) ∧ Below w.heap.size w w'

theorem acts_long (a0 : Int) (a : Option Addr) (len cap : Nat) (w : World) (hl : 100 < len) (hm : len ≤ 9223372036854775807) :
    Calls Try.prog 5 #[.int .i64 a0, .slice a len cap] w (DoneA w) := by
  go_enter Try.func5, Try.ntmps5
  go_wp2_with fail
  refine (wakes_any _).mono ?_
  rintro e w1 ⟨rfl, hb⟩
  have B1 : Hid (Below w.heap.size w w1) := hb; clear hb
  go_wp2_with fail
  go_ret
  exact ⟨rfl, B1.out⟩

/-- What holds at the head of each round. -/
structure Inv (w : World) (b X : Nat) (L : Int) (k : Nat) (wr : World) : Prop where
  out : ∃ r u p f, Mtr wr b r L u p f ∧ wr.heap[X]? = some (.cells #[.int .i64 L, .int .i64 u, .int .i64 p, .int .i64 f] 30) ∧ r ≠ X ∧ 0 ≤ u ∧ u ≤ L ∧ 0 ≤ f ∧ f ≤ k
  bel : Below w.heap.size w wr
theorem Inv.below {w : World} {b X : Nat} {L : Int} {k : Nat} {wr wr' : World} (h : Inv w b X L k wr) (hb : Below wr.heap.size wr wr') : Inv w b X L k wr' := by
  obtain ⟨⟨r, u, p, f, hm, hx, h1⟩, h2⟩ := h
  refine ⟨⟨r, u, p, f, ⟨hm.ne, (hb.block _ hm.lt.1).trans hm.own, (hb.block _ hm.lt.2).trans hm.shown⟩, (hb.block _ (Array.getElem?_eq_some_iff.1 hx).1).trans hx, h1⟩, h2.trans (hb.mono h2.size)⟩

theorem acts_none (a0 : Int) (a : Option Addr) (cap : Nat) (g : Nat → Bool) (n : Nat → Int) (w : World) (h0 : a0 ≤ 9223372036854775807) (ho : OpsAt w a 0 cap g n) :
    Calls Try.prog 5 #[.int .i64 a0, .slice a 0 cap] w (DoneA w) := by
  have HO : Hid (OpsAt w a 0 cap g n) := ho; clear ho
  go_enter Try.func5, Try.ntmps5
  go_wp2_with fail
  refine (wakes_any _).mono ?_
  rintro e w1 ⟨rfl, hb⟩
  have B1 : Hid (Below w.heap.size w w1) := hb; clear hb
  have z1 := B1.out.size
  go_wp2_with fail
  refine (new_any _ _).mono ?_
  rintro e w2 ⟨b, r, rfl, hb, hr, hm, hbel⟩
  have B2 : Hid (Below w.heap.size w w2) := B1.out.trans (hbel.mono B1.out.size)
  have M2 : Hid (Mtr w2 b r (max a0 0) 0 0 0) := hm
  have l2 := hm.lt
  clear hm hbel
  have z2 := B2.out.size
  go_wp2_with fail
  refine (refNew_any _ _).mono ?_
  rintro e w3 ⟨rfl, hbel⟩
  have B3 : Hid (Below w.heap.size w w3) := B2.out.trans (hbel.mono B2.out.size)
  have M3 : Hid (Mtr w3 b r (max a0 0) 0 0 0) := ⟨M2.out.ne, (hbel.block b l2.1).trans M2.out.own, (hbel.block r l2.2).trans M2.out.shown⟩
  have z3 := B3.out.size
  have z23 := hbel.size
  clear hbel
  obtain ⟨X, hX⟩ : ∃ X, X = w3.heap.size := ⟨_, rfl⟩
  have HX := Hid.out (p := Hid _) hX
  have zX : w3.heap.size ≤ X ∧ X ≤ w3.heap.size := by omega
  have HI : Hid (Inv w b w3.heap.size (max a0 0) 0 (w3.alloc (.cells #[.int .i64 (max a0 0), .int .i64 0, .int .i64 0, .int .i64 0] 30))) :=
    ⟨⟨r, 0, 0, 0, ⟨M3.out.ne, heap_alloc_old M3.out.own, heap_alloc_old M3.out.shown⟩, heap_alloc_new _ _, by omega, by omega, by omega, by omega, by omega⟩, B3.out.alloc z3 _⟩
  have HM : Hid (Mtr (w3.alloc (.cells #[.int .i64 (max a0 0), .int .i64 0, .int .i64 0, .int .i64 0] 30)) b r (max a0 0) 0 0 0) := ⟨M3.out.ne, heap_alloc_old M3.out.own, heap_alloc_old M3.out.shown⟩
  clear hX
  go_wp2_with fail
  refine (told_any b r _ _ _ _ _ HM.out (by omega) (by omega) (by omega)).mono ?_
  rintro e w4 ⟨rfl, hbel⟩
  have I4 : Hid (Inv w b w3.heap.size (max a0 0) 0 w4) := HI.out.below hbel
  clear hbel HI HM
  have ne1 : b ≠ w3.heap.size := by omega
  generalize w3.heap.size = Y at *
  go_wp2_with fail
  refine wp_loop_once ?_
  go_wp2_with fail
  go_ret
  exact ⟨rfl, I4.out.bel⟩

theorem store4 {w : World} {Y : Nat} {x0 x1 x2 x3 : Value} (hx : w.heap[Y]? = some (.cells #[x0, x1, x2, x3] 30)) (v0 v1 v2 v3 : Value) :
    ((((w.setCell ⟨Y, 0, none⟩ v0).setCell ⟨Y, 1, none⟩ v1).setCell ⟨Y, 2, none⟩ v2).setCell ⟨Y, 3, none⟩ v3).heap[Y]? = some (.cells #[v0, v1, v2, v3] 30) ∧
    Ex Y w ((((w.setCell ⟨Y, 0, none⟩ v0).setCell ⟨Y, 1, none⟩ v1).setCell ⟨Y, 2, none⟩ v2).setCell ⟨Y, 3, none⟩ v3) := by
  refine ⟨?_, ((((Ex.refl Y w).setCell (p := ⟨Y, 0, none⟩) (.inl rfl) v0).setCell (p := ⟨Y, 1, none⟩) (.inl rfl) v1).setCell (p := ⟨Y, 2, none⟩) (.inl rfl) v2).setCell (p := ⟨Y, 3, none⟩) (.inl rfl) v3⟩
  have := heap_set_same (i := 3) (heap_set_same (i := 2) (heap_set_same (i := 1) (heap_set_same (i := 0) hx v0) v1) v2) v3
  simpa using this
theorem mtr_ex {w w' : World} {b r c : Nat} {l u p f : Int} (h : Mtr w b r l u p f) (hx : Ex c w w') (hb : b ≠ c) (hr : r ≠ c) : Mtr w' b r l u p f := h.ex hx hb hr

/-- The next round's head, out of what one call left. -/
theorem Inv.next {w : World} {b X : Nat} {L : Int} {k : Nat} {wr wr' : World} {u p f : Int} (hs : Shows wr b L u p f wr') (hw : Below w.heap.size w wr) (hb : w.heap.size ≤ b) (hX : X < wr.heap.size)
    (hx : wr'.heap[X]? = some (.cells #[.int .i64 L, .int .i64 u, .int .i64 p, .int .i64 f] 30)) (h0 : 0 ≤ u) (h1 : u ≤ L) (h2 : 0 ≤ f) (h3 : f ≤ k) :
    Inv w b X L k wr' := by
  obtain ⟨r, hm, hex, hr⟩ := hs
  exact ⟨⟨r, u, p, f, hm, hx, by omega, h0, h1, h2, h3⟩, hw.trans (hex.below hb hw.size)⟩

theorem acts_short (a0 : Int) (xb xo len cap : Nat) (g : Nat → Bool) (n : Nat → Int) (w : World) (h0 : a0 ≤ 9223372036854775807) (ho : OpsAt w (some ⟨xb, xo, none⟩) len cap g n) (hxb : xb < w.heap.size) (hlen : len ≤ 100) :
    Calls Try.prog 5 #[.int .i64 a0, .slice (some ⟨xb, xo, none⟩) len cap] w (DoneA w) := by
  have HO : Hid (OpsAt w (some ⟨xb, xo, none⟩) len cap g n) := ho; clear ho
  go_enter Try.func5, Try.ntmps5
  go_wp2_with fail
  refine (wakes_any _).mono ?_
  rintro e w1 ⟨rfl, hb⟩
  have B1 : Hid (Below w.heap.size w w1) := hb; clear hb
  have z1 := B1.out.size
  go_wp2_with fail
  refine (new_any _ _).mono ?_
  rintro e w2 ⟨b, r, rfl, hb, hr, hm, hbel⟩
  have B2 : Hid (Below w.heap.size w w2) := B1.out.trans (hbel.mono B1.out.size)
  have M2 : Hid (Mtr w2 b r (max a0 0) 0 0 0) := hm
  have l2 := hm.lt
  clear hm hbel
  have z2 := B2.out.size
  go_wp2_with fail
  refine (refNew_any _ _).mono ?_
  rintro e w3 ⟨rfl, hbel⟩
  have B3 : Hid (Below w.heap.size w w3) := B2.out.trans (hbel.mono B2.out.size)
  have M3 : Hid (Mtr w3 b r (max a0 0) 0 0 0) := ⟨M2.out.ne, (hbel.block b l2.1).trans M2.out.own, (hbel.block r l2.2).trans M2.out.shown⟩
  have z3 := B3.out.size
  have z23 := hbel.size
  clear hbel
  obtain ⟨X, hX⟩ : ∃ X, X = w3.heap.size := ⟨_, rfl⟩
  have HX := Hid.out (p := Hid _) hX
  have zX : w3.heap.size ≤ X ∧ X ≤ w3.heap.size := by omega
  have HI : Hid (Inv w b w3.heap.size (max a0 0) 0 (w3.alloc (.cells #[.int .i64 (max a0 0), .int .i64 0, .int .i64 0, .int .i64 0] 30))) :=
    ⟨⟨r, 0, 0, 0, ⟨M3.out.ne, heap_alloc_old M3.out.own, heap_alloc_old M3.out.shown⟩, heap_alloc_new _ _, by omega, by omega, by omega, by omega, by omega⟩, B3.out.alloc z3 _⟩
  have HM : Hid (Mtr (w3.alloc (.cells #[.int .i64 (max a0 0), .int .i64 0, .int .i64 0, .int .i64 0] 30)) b r (max a0 0) 0 0 0) := ⟨M3.out.ne, heap_alloc_old M3.out.own, heap_alloc_old M3.out.shown⟩
  clear hX
  go_wp2_with fail
  refine (told_any b r _ _ _ _ _ HM.out (by omega) (by omega) (by omega)).mono ?_
  rintro e w4 ⟨rfl, hbel⟩
  have I4 : Hid (Inv w b w3.heap.size (max a0 0) 0 w4) := HI.out.below hbel
  clear hbel HI HM
  have ne1 : b ≠ w3.heap.size := by omega
  generalize w3.heap.size = Y at *
  obtain ⟨L, hL⟩ : ∃ L, L = max a0 0 := ⟨_, rfl⟩
  have bL : 0 ≤ L ∧ L ≤ 9223372036854775807 := by omega
  rw [← hL] at I4
  clear hL M2 M3
  go_wp2_with fail
  go_loopw [29] (fun i wr => ∃ k : Nat, k ≤ len ∧ i = .int .i64 k ∧ Hid (Inv w b Y L k wr)) (fun i _ => len - (intOf i).toNat)
  case atStart => exact ⟨0, Nat.zero_le _, rfl, I4⟩
  case round =>
    obtain ⟨k, hk, rfl, I⟩ := hrel
    have hsz := I.out.bel.size
    by_cases hlt : k < len
    · obtain ⟨x, hxe, _, _, hc0, hc1, hn0, hn1⟩ := HO.out.some k hlt
      have e0 : wr.cell? ⟨xb, xo + k * 2, none⟩ = some (.bool (g k)) := by
        cases hxe; rw [← hc0]; exact I.out.bel.cell (p := ⟨xb, _, none⟩) hxb
      have e1 : wr.cell? ⟨xb, xo + k * 2 + 1, none⟩ = some (.int .i64 (n k)) := by
        cases hxe; rw [← hc1]; exact I.out.bel.cell (p := ⟨xb, _, none⟩) hxb
      clear hxe hc0 hc1
      cases hg : g k
      · rw [hg] at e0
        obtain ⟨r, u, p, f, hm, hx, hrX, hu0, hu1, hf0, hf1⟩ := I.out.out
        have lm := hm.lt
        have yl := (Array.getElem?_eq_some_iff.1 hx).1
        have D5 : Hid (Below wr.heap.size wr (wr.alloc (.cells #[.bool false, .int .i64 (n k)] 34))) := (Below.refl _ _).alloc (Nat.le_refl _) _
        have M5 : Hid (Mtr (wr.alloc (.cells #[.bool false, .int .i64 (n k)] 34)) b r L u p f) := ⟨hm.ne, heap_alloc_old hm.own, heap_alloc_old hm.shown⟩
        have X5 : Hid ((wr.alloc (.cells #[.bool false, .int .i64 (n k)] 34)).heap[Y]? = some (.cells #[.int .i64 L, .int .i64 u, .int .i64 p, .int .i64 f] 30)) := heap_alloc_old hx
        have C5 : Hid ((wr.alloc (.cells #[.bool false, .int .i64 (n k)] 34)).heap[wr.heap.size]? = some (.cells #[.bool false, .int .i64 (n k)] 34)) := heap_alloc_new _ _
        have yl5 : Y < (wr.alloc (.cells #[.bool false, .int .i64 (n k)] 34)).heap.size := (Array.getElem?_eq_some_iff.1 X5.out).1
        have wl5 : wr.heap.size < (wr.alloc (.cells #[.bool false, .int .i64 (n k)] 34)).heap.size := (Array.getElem?_eq_some_iff.1 C5.out).1
        have ex0 : wr.cell? ⟨Y, 0, none⟩ = some (.int .i64 L) := by simp [World.cell?, hx]
        have ex1 : wr.cell? ⟨Y, 1, none⟩ = some (.int .i64 u) := by simp [World.cell?, hx]
        have ex2 : wr.cell? ⟨Y, 2, none⟩ = some (.int .i64 p) := by simp [World.cell?, hx]
        have ex3 : wr.cell? ⟨Y, 3, none⟩ = some (.int .i64 f) := by simp [World.cell?, hx]
        clear hm hx
        by_cases hn : 0 ≤ n k ∧ n k ≤ L - u
        · obtain ⟨hn, hb2⟩ := hn
          go_wp2_with fail
          refine (refTake_ok L u p f (n k) _ (by omega) (by omega) (by omega) (by omega) (by omega) hn hb2).mono ?_
          rintro e w6 ⟨rfl, hbel⟩
          have D6 : Hid (Below wr.heap.size wr w6) := D5.out.trans (hbel.mono D5.out.size)
          have z6 := D6.out.size
          have l5 := M5.out.lt
          have M6 : Hid (Mtr w6 b r L u p f) := ⟨M5.out.ne, (hbel.block _ l5.1).trans M5.out.own, (hbel.block _ l5.2).trans M5.out.shown⟩
          have X6 : Hid (w6.heap[Y]? = some (.cells #[.int .i64 L, .int .i64 u, .int .i64 p, .int .i64 f] 30)) := (hbel.block _ yl5).trans X5.out
          have C6 : Hid (w6.heap[wr.heap.size]? = some (.cells #[.bool false, .int .i64 (n k)] 34)) := (hbel.block _ wl5).trans C5.out
          clear hbel
          have x0 : w6.cell? ⟨Y, 0, none⟩ = some (.int .i64 L) := by simp [World.cell?, X6.out]
          have x1 : w6.cell? ⟨Y, 1, none⟩ = some (.int .i64 u) := by simp [World.cell?, X6.out]
          have x2 : w6.cell? ⟨Y, 2, none⟩ = some (.int .i64 p) := by simp [World.cell?, X6.out]
          have x3 : w6.cell? ⟨Y, 3, none⟩ = some (.int .i64 f) := by simp [World.cell?, X6.out]
          have f0 : w6.frozen? ⟨Y, 0, none⟩ = false := by simp [World.frozen?, X6.out]
          have f1 : w6.frozen? ⟨Y, 1, none⟩ = false := by simp [World.frozen?, X6.out]
          have f2 : w6.frozen? ⟨Y, 2, none⟩ = false := by simp [World.frozen?, X6.out]
          have f3 : w6.frozen? ⟨Y, 3, none⟩ = false := by simp [World.frozen?, X6.out]
          have y1 : w6.cell? ⟨wr.heap.size, 1, none⟩ = some (.int .i64 (n k)) := by simp [World.cell?, C6.out]
          go_wp2_with fail
          have S := store4 X6.out (.int .i64 L) (.int .i64 (u + n k)) (.int .i64 (max p (u + n k))) (.int .i64 f)
          have zS := S.2.size
          have ML := mtr_ex M6.out S.2 (by omega) (by omega)
          have SX : Hid _ := S.1
          have SE : Hid _ := S.2
          have MS : Hid _ := ML
          clear S ML x0 x1 x2 x3 f0 f1 f2 f3 y1
          refine (take_ok b r L u p f (n k) _ MS.out (by omega) (by omega) (by omega) (by omega) (by omega) hn hb2).mono ?_
          rintro e w8 ⟨rfl, r8, hm8, hex8, hr8⟩
          have zs8 := hex8.size
          have zM := MS.out.lt
          have yM := (Array.getElem?_eq_some_iff.1 SX.out).1
          have M8 : Hid (Mtr w8 b r8 L (u + n k) (max p (u + n k)) f) := hm8
          have X8 : Hid (w8.heap[Y]? = some (.cells #[.int .i64 L, .int .i64 (u + n k), .int .i64 (max p (u + n k)), .int .i64 f] 30)) := (hex8.block Y yM (by omega)).trans SX.out
          have D8 : Hid (Below w.heap.size w w8) := ((I.out.bel.trans (D6.out.mono hsz)).trans (SE.out.below (by omega) (by omega))).trans (hex8.below (by omega) (by omega))
          have z8 := D8.out.size
          have l8 := M8.out.lt
          clear hm8 hex8 SX SE MS
          have x0 : w8.cell? ⟨Y, 0, none⟩ = some (.int .i64 L) := by simp [World.cell?, X8.out]
          have x1 : w8.cell? ⟨Y, 1, none⟩ = some (.int .i64 (u + n k)) := by simp [World.cell?, X8.out]
          have x2 : w8.cell? ⟨Y, 2, none⟩ = some (.int .i64 (max p (u + n k))) := by simp [World.cell?, X8.out]
          have x3 : w8.cell? ⟨Y, 3, none⟩ = some (.int .i64 f) := by simp [World.cell?, X8.out]
          go_wp2_with fail
          refine (told_any b r8 L (u + n k) (max p (u + n k)) f w8 M8.out (by omega) (by omega) (by omega)).mono ?_
          rintro e w9 ⟨rfl, hbel⟩
          have I9 : Hid (Inv w b Y L (k + 1) w9) := Inv.below ⟨⟨r8, (u + n k), (max p (u + n k)), f, M8.out, X8.out, by omega, by omega, by omega, by omega, by omega⟩, D8.out⟩ hbel
          clear hbel x0 x1 x2 x3
          go_wp2_with fail
          go_roundw
          case rel => exact ⟨k + 1, by omega, by go_num, I9⟩
          case measure => simp [intOf]; omega
        · have hn : n k < 0 ∨ L - u < n k := by omega
          go_wp2_with fail
          refine (refTake_no L u p f (n k) _ (by omega) (by omega) (by omega) (by omega) (by omega) hn).mono ?_
          rintro e w6 ⟨rfl, hbel⟩
          have D6 : Hid (Below wr.heap.size wr w6) := D5.out.trans (hbel.mono D5.out.size)
          have z6 := D6.out.size
          have l5 := M5.out.lt
          have M6 : Hid (Mtr w6 b r L u p f) := ⟨M5.out.ne, (hbel.block _ l5.1).trans M5.out.own, (hbel.block _ l5.2).trans M5.out.shown⟩
          have X6 : Hid (w6.heap[Y]? = some (.cells #[.int .i64 L, .int .i64 u, .int .i64 p, .int .i64 f] 30)) := (hbel.block _ yl5).trans X5.out
          have C6 : Hid (w6.heap[wr.heap.size]? = some (.cells #[.bool false, .int .i64 (n k)] 34)) := (hbel.block _ wl5).trans C5.out
          clear hbel
          have x0 : w6.cell? ⟨Y, 0, none⟩ = some (.int .i64 L) := by simp [World.cell?, X6.out]
          have x1 : w6.cell? ⟨Y, 1, none⟩ = some (.int .i64 u) := by simp [World.cell?, X6.out]
          have x2 : w6.cell? ⟨Y, 2, none⟩ = some (.int .i64 p) := by simp [World.cell?, X6.out]
          have x3 : w6.cell? ⟨Y, 3, none⟩ = some (.int .i64 f) := by simp [World.cell?, X6.out]
          have f0 : w6.frozen? ⟨Y, 0, none⟩ = false := by simp [World.frozen?, X6.out]
          have f1 : w6.frozen? ⟨Y, 1, none⟩ = false := by simp [World.frozen?, X6.out]
          have f2 : w6.frozen? ⟨Y, 2, none⟩ = false := by simp [World.frozen?, X6.out]
          have f3 : w6.frozen? ⟨Y, 3, none⟩ = false := by simp [World.frozen?, X6.out]
          have y1 : w6.cell? ⟨wr.heap.size, 1, none⟩ = some (.int .i64 (n k)) := by simp [World.cell?, C6.out]
          go_wp2_with fail
          have S := store4 X6.out (.int .i64 L) (.int .i64 u) (.int .i64 p) (.int .i64 (f + 1))
          have zS := S.2.size
          have ML := mtr_ex M6.out S.2 (by omega) (by omega)
          have SX : Hid _ := S.1
          have SE : Hid _ := S.2
          have MS : Hid _ := ML
          clear S ML x0 x1 x2 x3 f0 f1 f2 f3 y1
          refine (take_no b r L u p f (n k) _ MS.out (by omega) (by omega) (by omega) (by omega) (by omega) hn).mono ?_
          rintro e w8 ⟨rfl, r8, hm8, hex8, hr8⟩
          have zs8 := hex8.size
          have zM := MS.out.lt
          have yM := (Array.getElem?_eq_some_iff.1 SX.out).1
          have M8 : Hid (Mtr w8 b r8 L u p (f + 1)) := hm8
          have X8 : Hid (w8.heap[Y]? = some (.cells #[.int .i64 L, .int .i64 u, .int .i64 p, .int .i64 (f + 1)] 30)) := (hex8.block Y yM (by omega)).trans SX.out
          have D8 : Hid (Below w.heap.size w w8) := ((I.out.bel.trans (D6.out.mono hsz)).trans (SE.out.below (by omega) (by omega))).trans (hex8.below (by omega) (by omega))
          have z8 := D8.out.size
          have l8 := M8.out.lt
          clear hm8 hex8 SX SE MS
          have x0 : w8.cell? ⟨Y, 0, none⟩ = some (.int .i64 L) := by simp [World.cell?, X8.out]
          have x1 : w8.cell? ⟨Y, 1, none⟩ = some (.int .i64 u) := by simp [World.cell?, X8.out]
          have x2 : w8.cell? ⟨Y, 2, none⟩ = some (.int .i64 p) := by simp [World.cell?, X8.out]
          have x3 : w8.cell? ⟨Y, 3, none⟩ = some (.int .i64 (f + 1)) := by simp [World.cell?, X8.out]
          go_wp2_with fail
          refine (told_any b r8 L u p (f + 1) w8 M8.out (by omega) (by omega) (by omega)).mono ?_
          rintro e w9 ⟨rfl, hbel⟩
          have I9 : Hid (Inv w b Y L (k + 1) w9) := Inv.below ⟨⟨r8, u, p, (f + 1), M8.out, X8.out, by omega, by omega, by omega, by omega, by omega⟩, D8.out⟩ hbel
          clear hbel x0 x1 x2 x3
          go_wp2_with fail
          go_roundw
          case rel => exact ⟨k + 1, by omega, by go_num, I9⟩
          case measure => simp [intOf]; omega
      · rw [hg] at e0
        obtain ⟨r, u, p, f, hm, hx, hrX, hu0, hu1, hf0, hf1⟩ := I.out.out
        have lm := hm.lt
        have yl := (Array.getElem?_eq_some_iff.1 hx).1
        have D5 : Hid (Below wr.heap.size wr (wr.alloc (.cells #[.bool true, .int .i64 (n k)] 34))) := (Below.refl _ _).alloc (Nat.le_refl _) _
        have M5 : Hid (Mtr (wr.alloc (.cells #[.bool true, .int .i64 (n k)] 34)) b r L u p f) := ⟨hm.ne, heap_alloc_old hm.own, heap_alloc_old hm.shown⟩
        have X5 : Hid ((wr.alloc (.cells #[.bool true, .int .i64 (n k)] 34)).heap[Y]? = some (.cells #[.int .i64 L, .int .i64 u, .int .i64 p, .int .i64 f] 30)) := heap_alloc_old hx
        have C5 : Hid ((wr.alloc (.cells #[.bool true, .int .i64 (n k)] 34)).heap[wr.heap.size]? = some (.cells #[.bool true, .int .i64 (n k)] 34)) := heap_alloc_new _ _
        have yl5 : Y < (wr.alloc (.cells #[.bool true, .int .i64 (n k)] 34)).heap.size := (Array.getElem?_eq_some_iff.1 X5.out).1
        have wl5 : wr.heap.size < (wr.alloc (.cells #[.bool true, .int .i64 (n k)] 34)).heap.size := (Array.getElem?_eq_some_iff.1 C5.out).1
        have ex0 : wr.cell? ⟨Y, 0, none⟩ = some (.int .i64 L) := by simp [World.cell?, hx]
        have ex1 : wr.cell? ⟨Y, 1, none⟩ = some (.int .i64 u) := by simp [World.cell?, hx]
        have ex2 : wr.cell? ⟨Y, 2, none⟩ = some (.int .i64 p) := by simp [World.cell?, hx]
        have ex3 : wr.cell? ⟨Y, 3, none⟩ = some (.int .i64 f) := by simp [World.cell?, hx]
        clear hm hx
        by_cases hn : 0 ≤ n k ∧ n k ≤ u
        · obtain ⟨hn, hb2⟩ := hn
          go_wp2_with fail
          refine (refGive_ok L u p f (n k) _ (by omega) (by omega) (by omega) (by omega) (by omega) hn hb2).mono ?_
          rintro e w6 ⟨rfl, hbel⟩
          have D6 : Hid (Below wr.heap.size wr w6) := D5.out.trans (hbel.mono D5.out.size)
          have z6 := D6.out.size
          have l5 := M5.out.lt
          have M6 : Hid (Mtr w6 b r L u p f) := ⟨M5.out.ne, (hbel.block _ l5.1).trans M5.out.own, (hbel.block _ l5.2).trans M5.out.shown⟩
          have X6 : Hid (w6.heap[Y]? = some (.cells #[.int .i64 L, .int .i64 u, .int .i64 p, .int .i64 f] 30)) := (hbel.block _ yl5).trans X5.out
          have C6 : Hid (w6.heap[wr.heap.size]? = some (.cells #[.bool true, .int .i64 (n k)] 34)) := (hbel.block _ wl5).trans C5.out
          clear hbel
          have x0 : w6.cell? ⟨Y, 0, none⟩ = some (.int .i64 L) := by simp [World.cell?, X6.out]
          have x1 : w6.cell? ⟨Y, 1, none⟩ = some (.int .i64 u) := by simp [World.cell?, X6.out]
          have x2 : w6.cell? ⟨Y, 2, none⟩ = some (.int .i64 p) := by simp [World.cell?, X6.out]
          have x3 : w6.cell? ⟨Y, 3, none⟩ = some (.int .i64 f) := by simp [World.cell?, X6.out]
          have f0 : w6.frozen? ⟨Y, 0, none⟩ = false := by simp [World.frozen?, X6.out]
          have f1 : w6.frozen? ⟨Y, 1, none⟩ = false := by simp [World.frozen?, X6.out]
          have f2 : w6.frozen? ⟨Y, 2, none⟩ = false := by simp [World.frozen?, X6.out]
          have f3 : w6.frozen? ⟨Y, 3, none⟩ = false := by simp [World.frozen?, X6.out]
          have y1 : w6.cell? ⟨wr.heap.size, 1, none⟩ = some (.int .i64 (n k)) := by simp [World.cell?, C6.out]
          go_wp2_with fail
          have S := store4 X6.out (.int .i64 L) (.int .i64 (u - n k)) (.int .i64 p) (.int .i64 f)
          have zS := S.2.size
          have ML := mtr_ex M6.out S.2 (by omega) (by omega)
          have SX : Hid _ := S.1
          have SE : Hid _ := S.2
          have MS : Hid _ := ML
          clear S ML x0 x1 x2 x3 f0 f1 f2 f3 y1
          refine (give_ok b r L u p f (n k) _ MS.out (by omega) (by omega) (by omega) (by omega) (by omega) hn hb2).mono ?_
          rintro e w8 ⟨rfl, r8, hm8, hex8, hr8⟩
          have zs8 := hex8.size
          have zM := MS.out.lt
          have yM := (Array.getElem?_eq_some_iff.1 SX.out).1
          have M8 : Hid (Mtr w8 b r8 L (u - n k) p f) := hm8
          have X8 : Hid (w8.heap[Y]? = some (.cells #[.int .i64 L, .int .i64 (u - n k), .int .i64 p, .int .i64 f] 30)) := (hex8.block Y yM (by omega)).trans SX.out
          have D8 : Hid (Below w.heap.size w w8) := ((I.out.bel.trans (D6.out.mono hsz)).trans (SE.out.below (by omega) (by omega))).trans (hex8.below (by omega) (by omega))
          have z8 := D8.out.size
          have l8 := M8.out.lt
          clear hm8 hex8 SX SE MS
          have x0 : w8.cell? ⟨Y, 0, none⟩ = some (.int .i64 L) := by simp [World.cell?, X8.out]
          have x1 : w8.cell? ⟨Y, 1, none⟩ = some (.int .i64 (u - n k)) := by simp [World.cell?, X8.out]
          have x2 : w8.cell? ⟨Y, 2, none⟩ = some (.int .i64 p) := by simp [World.cell?, X8.out]
          have x3 : w8.cell? ⟨Y, 3, none⟩ = some (.int .i64 f) := by simp [World.cell?, X8.out]
          go_wp2_with fail
          refine (told_any b r8 L (u - n k) p f w8 M8.out (by omega) (by omega) (by omega)).mono ?_
          rintro e w9 ⟨rfl, hbel⟩
          have I9 : Hid (Inv w b Y L (k + 1) w9) := Inv.below ⟨⟨r8, (u - n k), p, f, M8.out, X8.out, by omega, by omega, by omega, by omega, by omega⟩, D8.out⟩ hbel
          clear hbel x0 x1 x2 x3
          go_wp2_with fail
          go_roundw
          case rel => exact ⟨k + 1, by omega, by go_num, I9⟩
          case measure => simp [intOf]; omega
        · have hn : n k < 0 ∨ u < n k := by omega
          go_wp2_with fail
          refine (refGive_no L u p f (n k) _ (by omega) (by omega) (by omega) (by omega) (by omega) hn).mono ?_
          rintro e w6 ⟨rfl, hbel⟩
          have D6 : Hid (Below wr.heap.size wr w6) := D5.out.trans (hbel.mono D5.out.size)
          have z6 := D6.out.size
          have l5 := M5.out.lt
          have M6 : Hid (Mtr w6 b r L u p f) := ⟨M5.out.ne, (hbel.block _ l5.1).trans M5.out.own, (hbel.block _ l5.2).trans M5.out.shown⟩
          have X6 : Hid (w6.heap[Y]? = some (.cells #[.int .i64 L, .int .i64 u, .int .i64 p, .int .i64 f] 30)) := (hbel.block _ yl5).trans X5.out
          have C6 : Hid (w6.heap[wr.heap.size]? = some (.cells #[.bool true, .int .i64 (n k)] 34)) := (hbel.block _ wl5).trans C5.out
          clear hbel
          have x0 : w6.cell? ⟨Y, 0, none⟩ = some (.int .i64 L) := by simp [World.cell?, X6.out]
          have x1 : w6.cell? ⟨Y, 1, none⟩ = some (.int .i64 u) := by simp [World.cell?, X6.out]
          have x2 : w6.cell? ⟨Y, 2, none⟩ = some (.int .i64 p) := by simp [World.cell?, X6.out]
          have x3 : w6.cell? ⟨Y, 3, none⟩ = some (.int .i64 f) := by simp [World.cell?, X6.out]
          have f0 : w6.frozen? ⟨Y, 0, none⟩ = false := by simp [World.frozen?, X6.out]
          have f1 : w6.frozen? ⟨Y, 1, none⟩ = false := by simp [World.frozen?, X6.out]
          have f2 : w6.frozen? ⟨Y, 2, none⟩ = false := by simp [World.frozen?, X6.out]
          have f3 : w6.frozen? ⟨Y, 3, none⟩ = false := by simp [World.frozen?, X6.out]
          have y1 : w6.cell? ⟨wr.heap.size, 1, none⟩ = some (.int .i64 (n k)) := by simp [World.cell?, C6.out]
          go_wp2_with fail
          have S := store4 X6.out (.int .i64 L) (.int .i64 u) (.int .i64 p) (.int .i64 (f + 1))
          have zS := S.2.size
          have ML := mtr_ex M6.out S.2 (by omega) (by omega)
          have SX : Hid _ := S.1
          have SE : Hid _ := S.2
          have MS : Hid _ := ML
          clear S ML x0 x1 x2 x3 f0 f1 f2 f3 y1
          refine (give_no b r L u p f (n k) _ MS.out (by omega) (by omega) (by omega) (by omega) (by omega) hn).mono ?_
          rintro e w8 ⟨rfl, r8, hm8, hex8, hr8⟩
          have zs8 := hex8.size
          have zM := MS.out.lt
          have yM := (Array.getElem?_eq_some_iff.1 SX.out).1
          have M8 : Hid (Mtr w8 b r8 L u p (f + 1)) := hm8
          have X8 : Hid (w8.heap[Y]? = some (.cells #[.int .i64 L, .int .i64 u, .int .i64 p, .int .i64 (f + 1)] 30)) := (hex8.block Y yM (by omega)).trans SX.out
          have D8 : Hid (Below w.heap.size w w8) := ((I.out.bel.trans (D6.out.mono hsz)).trans (SE.out.below (by omega) (by omega))).trans (hex8.below (by omega) (by omega))
          have z8 := D8.out.size
          have l8 := M8.out.lt
          clear hm8 hex8 SX SE MS
          have x0 : w8.cell? ⟨Y, 0, none⟩ = some (.int .i64 L) := by simp [World.cell?, X8.out]
          have x1 : w8.cell? ⟨Y, 1, none⟩ = some (.int .i64 u) := by simp [World.cell?, X8.out]
          have x2 : w8.cell? ⟨Y, 2, none⟩ = some (.int .i64 p) := by simp [World.cell?, X8.out]
          have x3 : w8.cell? ⟨Y, 3, none⟩ = some (.int .i64 (f + 1)) := by simp [World.cell?, X8.out]
          go_wp2_with fail
          refine (told_any b r8 L u p (f + 1) w8 M8.out (by omega) (by omega) (by omega)).mono ?_
          rintro e w9 ⟨rfl, hbel⟩
          have I9 : Hid (Inv w b Y L (k + 1) w9) := Inv.below ⟨⟨r8, u, p, (f + 1), M8.out, X8.out, by omega, by omega, by omega, by omega, by omega⟩, D8.out⟩ hbel
          clear hbel x0 x1 x2 x3
          go_wp2_with fail
          go_roundw
          case rel => exact ⟨k + 1, by omega, by go_num, I9⟩
          case measure => simp [intOf]; omega
    · go_wp2_with fail
      go_ret
      exact ⟨rfl, I.out.bel⟩

theorem acts_wf {w : World} (a0 : Int) (w0 : (Lit.int .i64 a0).wf = true) (v : Value) (x : Option Addr × Nat × Nat × (Nat → Bool) × (Nat → Int)) (hx : v = .slice x.1 x.2.1 x.2.2.1 ∧ OpsAt w x.1 x.2.1 x.2.2.1 x.2.2.2.1 x.2.2.2.2) :
    Calls Try.prog 5 #[.int .i64 a0, v] w (DoneA w) := by
  obtain ⟨a, len, cap, g, n⟩ := x
  obtain ⟨rfl, ho⟩ := hx
  have h0 := (bounds_i64 w0).2
  by_cases hl : 100 < len
  · exact acts_long a0 a len cap _ hl ho.le
  by_cases h1 : len = 0
  · simp only at h1 ho hl
    subst h1
    exact acts_none a0 a cap g n _ h0 ho
  · obtain ⟨y, hy, hs, hb, _⟩ := ho.some 0 (by simp only at h1 ⊢; omega)
    simp only at hy ho hl
    subst hy
    obtain ⟨yb, yo, ys⟩ := y
    simp only at hs hb
    subst hs
    exact acts_short a0 yb yo len cap g n _ h0 ho hb (by omega)
end Go.Proofs.Ytckpdpmjgkjefaa.Meter
