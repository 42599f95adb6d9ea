/- The walk of the law MeterBounds. -/
import Derived.Test.YtckpdpmjgkjefaaMeter6
namespace Go.Proofs.Ytckpdpmjgkjefaa.Meter
open Go.RowKit Go.Proofs.Ytckpdpmjgkjefaa.Atom
set_option linter.unusedVariables false

def DoneC (w : World) (e : Ending) (w' : World) : Prop := e = .returned (.bool true) ∧ Below w.heap.size w w'

theorem bounds_long (a0 : Int) (a : Option Addr) (len cap : Nat) (w : World) (hl : 100 < len) (hm : len ≤ 9223372036854775807) :
    Calls Try.prog 6 #[.int .i64 a0, .slice a len cap] w (DoneC w) := by
  go_enter Try.func6, Try.ntmps6
  go_wp2_with fail
  refine (wakes_any _).mono ?_
  rintro e w1 ⟨rfl, hb⟩
  have B1 : Hid (Below w.heap.size w w1) := hb; clear hb
  go_wp2_with fail
  go_ret
  exact ⟨rfl, B1.out⟩

/-- What holds at the head of each round: the meter shows u, p, f. -/
structure InvB (w : World) (b : Nat) (L : Int) (k : Nat) (p : Int) (wr : World) : Prop where
  out : ∃ r u f, Mtr wr b r L u p f ∧ 0 ≤ u ∧ u ≤ L ∧ u ≤ p ∧ p ≤ L ∧ 0 ≤ f ∧ f ≤ k
  bel : Below w.heap.size w wr
theorem InvB.below {w : World} {b : Nat} {L : Int} {k : Nat} {p : Int} {wr wr' : World} (h : InvB w b L k p wr) (hb : Below wr.heap.size wr wr') : InvB w b L k p wr' := by
  obtain ⟨⟨r, u, f, hm, h1⟩, h2⟩ := h
  exact ⟨⟨r, u, f, ⟨hm.ne, (hb.block _ hm.lt.1).trans hm.own, (hb.block _ hm.lt.2).trans hm.shown⟩, h1⟩, h2.trans (hb.mono h2.size)⟩

theorem bounds_none (a0 : Int) (a : Option Addr) (cap : Nat) (g : Nat → Bool) (n : Nat → Int) (w : World) (h0 : a0 ≤ 9223372036854775807) (ho : OpsAt w a 0 cap g n) :
    Calls Try.prog 6 #[.int .i64 a0, .slice a 0 cap] w (DoneC w) := by
  have HO : Hid (OpsAt w a 0 cap g n) := ho; clear ho
  go_enter Try.func6, Try.ntmps6
  go_wp2_with fail
  refine (wakes_any _).mono ?_
  rintro e w1 ⟨rfl, hb⟩
  have B1 : Hid (Below w.heap.size w w1) := hb; clear hb
  have z1 := B1.out.size
  go_wp2_with fail
  refine (new_any _ _).mono ?_
  rintro e w2 ⟨b, r, rfl, hb, hr, hm, hbel⟩
  have B2 : Hid (Below w.heap.size w w2) := B1.out.trans (hbel.mono B1.out.size)
  have I2 : Hid (InvB w b (max a0 0) 0 0 w2) := ⟨⟨r, 0, 0, hm, by omega, by omega, by omega, by omega, by omega, by omega⟩, B2.out⟩
  clear hm hbel
  have z2 := B2.out.size
  obtain ⟨L, hL⟩ : ∃ L, L = max a0 0 := ⟨_, rfl⟩
  have bL : 0 ≤ L ∧ L ≤ 9223372036854775807 ∧ a0 ≤ L ∧ (L ≤ a0 ∨ L ≤ 0) := by omega
  rw [← hL] at I2
  clear hL
  go_wp2_with fail
  refine wp_loop_once ?_
  go_wp2_with fail
  go_ret
  exact ⟨rfl, I2.out.bel⟩

set_option maxHeartbeats 2000000 in
theorem bounds_short_pos (a0 : Int) (xb xo len cap : Nat) (g : Nat → Bool) (n : Nat → Int) (w : World) (h0 : a0 ≤ 9223372036854775807) (ho : OpsAt w (some ⟨xb, xo, none⟩) len cap g n) (hxb : xb < w.heap.size) (hlen : len ≤ 100) (hp : 0 ≤ a0) :
    Calls Try.prog 6 #[.int .i64 a0, .slice (some ⟨xb, xo, none⟩) len cap] w (DoneC w) := by
  have HO : Hid (OpsAt w (some ⟨xb, xo, none⟩) len cap g n) := ho; clear ho
  go_enter Try.func6, Try.ntmps6
  go_wp2_with fail
  refine (wakes_any _).mono ?_
  rintro e w1 ⟨rfl, hb⟩
  have B1 : Hid (Below w.heap.size w w1) := hb; clear hb
  have z1 := B1.out.size
  go_wp2_with fail
  refine (new_any _ _).mono ?_
  rintro e w2 ⟨b, r, rfl, hb, hr, hm, hbel⟩
  have B2 : Hid (Below w.heap.size w w2) := B1.out.trans (hbel.mono B1.out.size)
  have I2 : Hid (InvB w b (max a0 0) 0 0 w2) := ⟨⟨r, 0, 0, hm, by omega, by omega, by omega, by omega, by omega, by omega⟩, B2.out⟩
  clear hm hbel
  have z2 := B2.out.size
  rw [show max a0 0 = a0 by omega] at I2
  go_wp2_with fail
  go_loopw [6, 20] (fun q i wr => ∃ (k : Nat) (p : Int), k ≤ len ∧ i = .int .i64 k ∧ q = .int .i64 p ∧ Hid (InvB w b a0 k p wr)) (fun _ i _ => len - (intOf i).toNat)
  case atStart => exact ⟨0, 0, Nat.zero_le _, rfl, rfl, I2⟩
  case round =>
    obtain ⟨k, p, hk, rfl, rfl, I⟩ := hrel
    have hsz := I.out.bel.size
    by_cases hlt : k < len
    · obtain ⟨x, hxe, _, _, hc0, hc1, hn0, hn1⟩ := HO.out.some k hlt
      have e0 : wr.cell? ⟨xb, xo + k * 2, none⟩ = some (.bool (g k)) := by
        cases hxe; rw [← hc0]; exact I.out.bel.cell (p := ⟨xb, _, none⟩) hxb
      have e1 : wr.cell? ⟨xb, xo + k * 2 + 1, none⟩ = some (.int .i64 (n k)) := by
        cases hxe; rw [← hc1]; exact I.out.bel.cell (p := ⟨xb, _, none⟩) hxb
      clear hxe hc0 hc1
      obtain ⟨r, u, f, hm, hu0, hu1, hp0, hp1, hf0, hf1⟩ := I.out.out
      have lm := hm.lt
      cases hg : g k
      · rw [hg] at e0
        by_cases hn : 0 ≤ n k ∧ n k ≤ a0 - u
        · obtain ⟨hn, hb2⟩ := hn
          have M5 : Hid (Mtr (wr.alloc (.cells #[.bool false, .int .i64 (n k)] 34)) b r a0 u p f) := ⟨hm.ne, heap_alloc_old hm.own, heap_alloc_old hm.shown⟩
          have D5 : Hid (Below w.heap.size w (wr.alloc (.cells #[.bool false, .int .i64 (n k)] 34))) := I.out.bel.alloc hsz _
          clear hm
          go_wp2_with fail
          refine (take_ok b r a0 u p f (n k) _ M5.out (by omega) (by omega) (by omega) (by omega) (by omega) hn hb2).mono ?_
          rintro e w8 ⟨rfl, r8, hm8, hex8, hr8⟩
          have M8 : Hid (Mtr w8 b r8 a0 (u + n k) (max p (u + n k)) f) := hm8
          have D8 : Hid (Below w.heap.size w w8) := D5.out.trans (hex8.below (by omega) (by simp; omega))
          clear hm8 hex8
          obtain ⟨u8, p8, f8, M9', q8⟩ : ∃ u8 p8 f8 : Int, Hid (Mtr w8 b r8 a0 u8 p8 f8) ∧ (0 ≤ u8 ∧ u8 ≤ a0 ∧ u8 ≤ p8 ∧ p8 ≤ a0 ∧ p ≤ p8 ∧ 0 ≤ f8 ∧ f8 ≤ k + 1) := ⟨_, _, _, M8, by omega, by omega, by omega, by omega, by omega, by omega, by omega⟩
          clear M8
          have M8 := M9'
          clear M9' hu0 hu1 hp0 hp1 hf0 hf1
          go_wp2_with fail
          refine (used_any b r8 a0 u8 p8 f8 _ M8.out).mono ?_
          rintro e w' ⟨rfl, rfl⟩
          go_wp2_with fail
          refine (left_any b r8 a0 u8 p8 f8 _ M8.out (by omega) (by omega) (by omega)).mono ?_
          rintro e w9 ⟨rfl, n9, hw9⟩
          have M9 : Hid (Mtr w9 b r8 a0 u8 p8 f8) := by rw [hw9]; exact M8.out.drewN n9
          have D9 : Hid (Below w.heap.size w w9) := D8.out.trans (by rw [hw9]; exact below_drewN _ _ _)
          clear hw9
          go_wp2_with fail
          refine (used_any b r8 a0 u8 p8 f8 _ M9.out).mono ?_
          rintro e w' ⟨rfl, rfl⟩
          go_wp2_with fail
          refine (left_any b r8 a0 u8 p8 f8 _ M9.out (by omega) (by omega) (by omega)).mono ?_
          rintro e w10 ⟨rfl, n10, hw10⟩
          have M10 : Hid (Mtr w10 b r8 a0 u8 p8 f8) := by rw [hw10]; exact M9.out.drewN n10
          have D10 : Hid (Below w.heap.size w w10) := D9.out.trans (by rw [hw10]; exact below_drewN _ _ _)
          clear hw10
          go_wp2_with fail
          refine (peak_any b r8 a0 u8 p8 f8 _ M10.out).mono ?_
          rintro e w' ⟨rfl, rfl⟩
          go_wp2_with fail
          refine (peak_any b r8 a0 u8 p8 f8 _ M10.out).mono ?_
          rintro e w' ⟨rfl, rfl⟩
          go_wp2_with fail
          refine (used_any b r8 a0 u8 p8 f8 _ M10.out).mono ?_
          rintro e w' ⟨rfl, rfl⟩
          go_wp2_with fail
          refine (peak_any b r8 a0 u8 p8 f8 _ M10.out).mono ?_
          rintro e w' ⟨rfl, rfl⟩
          have I9 : Hid (InvB w b a0 (k + 1) p8 w10) := ⟨⟨r8, u8, f8, M10.out, by omega, by omega, by omega, by omega, by omega, by omega⟩, D10.out⟩
          go_wp2_with fail
          go_roundw
          case rel => exact ⟨k + 1, p8, by omega, by go_num, rfl, I9⟩
          case measure => simp [intOf]; omega
        · have hn : n k < 0 ∨ a0 - u < n k := by omega
          have M5 : Hid (Mtr (wr.alloc (.cells #[.bool false, .int .i64 (n k)] 34)) b r a0 u p f) := ⟨hm.ne, heap_alloc_old hm.own, heap_alloc_old hm.shown⟩
          have D5 : Hid (Below w.heap.size w (wr.alloc (.cells #[.bool false, .int .i64 (n k)] 34))) := I.out.bel.alloc hsz _
          clear hm
          go_wp2_with fail
          refine (take_no b r a0 u p f (n k) _ M5.out (by omega) (by omega) (by omega) (by omega) (by omega) hn).mono ?_
          rintro e w8 ⟨rfl, r8, hm8, hex8, hr8⟩
          have M8 : Hid (Mtr w8 b r8 a0 u p (f + 1)) := hm8
          have D8 : Hid (Below w.heap.size w w8) := D5.out.trans (hex8.below (by omega) (by simp; omega))
          clear hm8 hex8
          obtain ⟨u8, p8, f8, M9', q8⟩ : ∃ u8 p8 f8 : Int, Hid (Mtr w8 b r8 a0 u8 p8 f8) ∧ (0 ≤ u8 ∧ u8 ≤ a0 ∧ u8 ≤ p8 ∧ p8 ≤ a0 ∧ p ≤ p8 ∧ 0 ≤ f8 ∧ f8 ≤ k + 1) := ⟨_, _, _, M8, by omega, by omega, by omega, by omega, by omega, by omega, by omega⟩
          clear M8
          have M8 := M9'
          clear M9' hu0 hu1 hp0 hp1 hf0 hf1
          go_wp2_with fail
          refine (used_any b r8 a0 u8 p8 f8 _ M8.out).mono ?_
          rintro e w' ⟨rfl, rfl⟩
          go_wp2_with fail
          refine (left_any b r8 a0 u8 p8 f8 _ M8.out (by omega) (by omega) (by omega)).mono ?_
          rintro e w9 ⟨rfl, n9, hw9⟩
          have M9 : Hid (Mtr w9 b r8 a0 u8 p8 f8) := by rw [hw9]; exact M8.out.drewN n9
          have D9 : Hid (Below w.heap.size w w9) := D8.out.trans (by rw [hw9]; exact below_drewN _ _ _)
          clear hw9
          go_wp2_with fail
          refine (used_any b r8 a0 u8 p8 f8 _ M9.out).mono ?_
          rintro e w' ⟨rfl, rfl⟩
          go_wp2_with fail
          refine (left_any b r8 a0 u8 p8 f8 _ M9.out (by omega) (by omega) (by omega)).mono ?_
          rintro e w10 ⟨rfl, n10, hw10⟩
          have M10 : Hid (Mtr w10 b r8 a0 u8 p8 f8) := by rw [hw10]; exact M9.out.drewN n10
          have D10 : Hid (Below w.heap.size w w10) := D9.out.trans (by rw [hw10]; exact below_drewN _ _ _)
          clear hw10
          go_wp2_with fail
          refine (peak_any b r8 a0 u8 p8 f8 _ M10.out).mono ?_
          rintro e w' ⟨rfl, rfl⟩
          go_wp2_with fail
          refine (peak_any b r8 a0 u8 p8 f8 _ M10.out).mono ?_
          rintro e w' ⟨rfl, rfl⟩
          go_wp2_with fail
          refine (used_any b r8 a0 u8 p8 f8 _ M10.out).mono ?_
          rintro e w' ⟨rfl, rfl⟩
          go_wp2_with fail
          refine (peak_any b r8 a0 u8 p8 f8 _ M10.out).mono ?_
          rintro e w' ⟨rfl, rfl⟩
          have I9 : Hid (InvB w b a0 (k + 1) p8 w10) := ⟨⟨r8, u8, f8, M10.out, by omega, by omega, by omega, by omega, by omega, by omega⟩, D10.out⟩
          go_wp2_with fail
          go_roundw
          case rel => exact ⟨k + 1, p8, by omega, by go_num, rfl, I9⟩
          case measure => simp [intOf]; omega
      · rw [hg] at e0
        by_cases hn : 0 ≤ n k ∧ n k ≤ u
        · obtain ⟨hn, hb2⟩ := hn
          have M5 : Hid (Mtr (wr.alloc (.cells #[.bool true, .int .i64 (n k)] 34)) b r a0 u p f) := ⟨hm.ne, heap_alloc_old hm.own, heap_alloc_old hm.shown⟩
          have D5 : Hid (Below w.heap.size w (wr.alloc (.cells #[.bool true, .int .i64 (n k)] 34))) := I.out.bel.alloc hsz _
          clear hm
          go_wp2_with fail
          refine (give_ok b r a0 u p f (n k) _ M5.out (by omega) (by omega) (by omega) (by omega) (by omega) hn hb2).mono ?_
          rintro e w8 ⟨rfl, r8, hm8, hex8, hr8⟩
          have M8 : Hid (Mtr w8 b r8 a0 (u - n k) p f) := hm8
          have D8 : Hid (Below w.heap.size w w8) := D5.out.trans (hex8.below (by omega) (by simp; omega))
          clear hm8 hex8
          obtain ⟨u8, p8, f8, M9', q8⟩ : ∃ u8 p8 f8 : Int, Hid (Mtr w8 b r8 a0 u8 p8 f8) ∧ (0 ≤ u8 ∧ u8 ≤ a0 ∧ u8 ≤ p8 ∧ p8 ≤ a0 ∧ p ≤ p8 ∧ 0 ≤ f8 ∧ f8 ≤ k + 1) := ⟨_, _, _, M8, by omega, by omega, by omega, by omega, by omega, by omega, by omega⟩
          clear M8
          have M8 := M9'
          clear M9' hu0 hu1 hp0 hp1 hf0 hf1
          go_wp2_with fail
          refine (used_any b r8 a0 u8 p8 f8 _ M8.out).mono ?_
          rintro e w' ⟨rfl, rfl⟩
          go_wp2_with fail
          refine (left_any b r8 a0 u8 p8 f8 _ M8.out (by omega) (by omega) (by omega)).mono ?_
          rintro e w9 ⟨rfl, n9, hw9⟩
          have M9 : Hid (Mtr w9 b r8 a0 u8 p8 f8) := by rw [hw9]; exact M8.out.drewN n9
          have D9 : Hid (Below w.heap.size w w9) := D8.out.trans (by rw [hw9]; exact below_drewN _ _ _)
          clear hw9
          go_wp2_with fail
          refine (used_any b r8 a0 u8 p8 f8 _ M9.out).mono ?_
          rintro e w' ⟨rfl, rfl⟩
          go_wp2_with fail
          refine (left_any b r8 a0 u8 p8 f8 _ M9.out (by omega) (by omega) (by omega)).mono ?_
          rintro e w10 ⟨rfl, n10, hw10⟩
          have M10 : Hid (Mtr w10 b r8 a0 u8 p8 f8) := by rw [hw10]; exact M9.out.drewN n10
          have D10 : Hid (Below w.heap.size w w10) := D9.out.trans (by rw [hw10]; exact below_drewN _ _ _)
          clear hw10
          go_wp2_with fail
          refine (peak_any b r8 a0 u8 p8 f8 _ M10.out).mono ?_
          rintro e w' ⟨rfl, rfl⟩
          go_wp2_with fail
          refine (peak_any b r8 a0 u8 p8 f8 _ M10.out).mono ?_
          rintro e w' ⟨rfl, rfl⟩
          go_wp2_with fail
          refine (used_any b r8 a0 u8 p8 f8 _ M10.out).mono ?_
          rintro e w' ⟨rfl, rfl⟩
          go_wp2_with fail
          refine (peak_any b r8 a0 u8 p8 f8 _ M10.out).mono ?_
          rintro e w' ⟨rfl, rfl⟩
          have I9 : Hid (InvB w b a0 (k + 1) p8 w10) := ⟨⟨r8, u8, f8, M10.out, by omega, by omega, by omega, by omega, by omega, by omega⟩, D10.out⟩
          go_wp2_with fail
          go_roundw
          case rel => exact ⟨k + 1, p8, by omega, by go_num, rfl, I9⟩
          case measure => simp [intOf]; omega
        · have hn : n k < 0 ∨ u < n k := by omega
          have M5 : Hid (Mtr (wr.alloc (.cells #[.bool true, .int .i64 (n k)] 34)) b r a0 u p f) := ⟨hm.ne, heap_alloc_old hm.own, heap_alloc_old hm.shown⟩
          have D5 : Hid (Below w.heap.size w (wr.alloc (.cells #[.bool true, .int .i64 (n k)] 34))) := I.out.bel.alloc hsz _
          clear hm
          go_wp2_with fail
          refine (give_no b r a0 u p f (n k) _ M5.out (by omega) (by omega) (by omega) (by omega) (by omega) hn).mono ?_
          rintro e w8 ⟨rfl, r8, hm8, hex8, hr8⟩
          have M8 : Hid (Mtr w8 b r8 a0 u p (f + 1)) := hm8
          have D8 : Hid (Below w.heap.size w w8) := D5.out.trans (hex8.below (by omega) (by simp; omega))
          clear hm8 hex8
          obtain ⟨u8, p8, f8, M9', q8⟩ : ∃ u8 p8 f8 : Int, Hid (Mtr w8 b r8 a0 u8 p8 f8) ∧ (0 ≤ u8 ∧ u8 ≤ a0 ∧ u8 ≤ p8 ∧ p8 ≤ a0 ∧ p ≤ p8 ∧ 0 ≤ f8 ∧ f8 ≤ k + 1) := ⟨_, _, _, M8, by omega, by omega, by omega, by omega, by omega, by omega, by omega⟩
          clear M8
          have M8 := M9'
          clear M9' hu0 hu1 hp0 hp1 hf0 hf1
          go_wp2_with fail
          refine (used_any b r8 a0 u8 p8 f8 _ M8.out).mono ?_
          rintro e w' ⟨rfl, rfl⟩
          go_wp2_with fail
          refine (left_any b r8 a0 u8 p8 f8 _ M8.out (by omega) (by omega) (by omega)).mono ?_
          rintro e w9 ⟨rfl, n9, hw9⟩
          have M9 : Hid (Mtr w9 b r8 a0 u8 p8 f8) := by rw [hw9]; exact M8.out.drewN n9
          have D9 : Hid (Below w.heap.size w w9) := D8.out.trans (by rw [hw9]; exact below_drewN _ _ _)
          clear hw9
          go_wp2_with fail
          refine (used_any b r8 a0 u8 p8 f8 _ M9.out).mono ?_
          rintro e w' ⟨rfl, rfl⟩
          go_wp2_with fail
          refine (left_any b r8 a0 u8 p8 f8 _ M9.out (by omega) (by omega) (by omega)).mono ?_
          rintro e w10 ⟨rfl, n10, hw10⟩
          have M10 : Hid (Mtr w10 b r8 a0 u8 p8 f8) := by rw [hw10]; exact M9.out.drewN n10
          have D10 : Hid (Below w.heap.size w w10) := D9.out.trans (by rw [hw10]; exact below_drewN _ _ _)
          clear hw10
          go_wp2_with fail
          refine (peak_any b r8 a0 u8 p8 f8 _ M10.out).mono ?_
          rintro e w' ⟨rfl, rfl⟩
          go_wp2_with fail
          refine (peak_any b r8 a0 u8 p8 f8 _ M10.out).mono ?_
          rintro e w' ⟨rfl, rfl⟩
          go_wp2_with fail
          refine (used_any b r8 a0 u8 p8 f8 _ M10.out).mono ?_
          rintro e w' ⟨rfl, rfl⟩
          go_wp2_with fail
          refine (peak_any b r8 a0 u8 p8 f8 _ M10.out).mono ?_
          rintro e w' ⟨rfl, rfl⟩
          have I9 : Hid (InvB w b a0 (k + 1) p8 w10) := ⟨⟨r8, u8, f8, M10.out, by omega, by omega, by omega, by omega, by omega, by omega⟩, D10.out⟩
          go_wp2_with fail
          go_roundw
          case rel => exact ⟨k + 1, p8, by omega, by go_num, rfl, I9⟩
          case measure => simp [intOf]; omega
    · go_wp2_with fail
      go_ret
      exact ⟨rfl, I.out.bel⟩
set_option maxHeartbeats 2000000 in
theorem bounds_short_neg (a0 : Int) (xb xo len cap : Nat) (g : Nat → Bool) (n : Nat → Int) (w : World) (h0 : a0 ≤ 9223372036854775807) (ho : OpsAt w (some ⟨xb, xo, none⟩) len cap g n) (hxb : xb < w.heap.size) (hlen : len ≤ 100) (hp : a0 < 0) :
    Calls Try.prog 6 #[.int .i64 a0, .slice (some ⟨xb, xo, none⟩) len cap] w (DoneC w) := by
  have HO : Hid (OpsAt w (some ⟨xb, xo, none⟩) len cap g n) := ho; clear ho
  go_enter Try.func6, Try.ntmps6
  go_wp2_with fail
  refine (wakes_any _).mono ?_
  rintro e w1 ⟨rfl, hb⟩
  have B1 : Hid (Below w.heap.size w w1) := hb; clear hb
  have z1 := B1.out.size
  go_wp2_with fail
  refine (new_any _ _).mono ?_
  rintro e w2 ⟨b, r, rfl, hb, hr, hm, hbel⟩
  have B2 : Hid (Below w.heap.size w w2) := B1.out.trans (hbel.mono B1.out.size)
  have I2 : Hid (InvB w b (max a0 0) 0 0 w2) := ⟨⟨r, 0, 0, hm, by omega, by omega, by omega, by omega, by omega, by omega⟩, B2.out⟩
  clear hm hbel
  have z2 := B2.out.size
  rw [show max a0 0 = 0 by omega] at I2
  go_wp2_with fail
  go_loopw [6, 20] (fun q i wr => ∃ (k : Nat) (p : Int), k ≤ len ∧ i = .int .i64 k ∧ q = .int .i64 p ∧ Hid (InvB w b 0 k p wr)) (fun _ i _ => len - (intOf i).toNat)
  case atStart => exact ⟨0, 0, Nat.zero_le _, rfl, rfl, I2⟩
  case round =>
    obtain ⟨k, p, hk, rfl, rfl, I⟩ := hrel
    have hsz := I.out.bel.size
    by_cases hlt : k < len
    · obtain ⟨x, hxe, _, _, hc0, hc1, hn0, hn1⟩ := HO.out.some k hlt
      have e0 : wr.cell? ⟨xb, xo + k * 2, none⟩ = some (.bool (g k)) := by
        cases hxe; rw [← hc0]; exact I.out.bel.cell (p := ⟨xb, _, none⟩) hxb
      have e1 : wr.cell? ⟨xb, xo + k * 2 + 1, none⟩ = some (.int .i64 (n k)) := by
        cases hxe; rw [← hc1]; exact I.out.bel.cell (p := ⟨xb, _, none⟩) hxb
      clear hxe hc0 hc1
      obtain ⟨r, u, f, hm, hu0, hu1, hp0, hp1, hf0, hf1⟩ := I.out.out
      have lm := hm.lt
      cases hg : g k
      · rw [hg] at e0
        by_cases hn : 0 ≤ n k ∧ n k ≤ 0 - u
        · obtain ⟨hn, hb2⟩ := hn
          have M5 : Hid (Mtr (wr.alloc (.cells #[.bool false, .int .i64 (n k)] 34)) b r 0 u p f) := ⟨hm.ne, heap_alloc_old hm.own, heap_alloc_old hm.shown⟩
          have D5 : Hid (Below w.heap.size w (wr.alloc (.cells #[.bool false, .int .i64 (n k)] 34))) := I.out.bel.alloc hsz _
          clear hm
          go_wp2_with fail
          refine (take_ok b r 0 u p f (n k) _ M5.out (by omega) (by omega) (by omega) (by omega) (by omega) hn hb2).mono ?_
          rintro e w8 ⟨rfl, r8, hm8, hex8, hr8⟩
          have M8 : Hid (Mtr w8 b r8 0 (u + n k) (max p (u + n k)) f) := hm8
          have D8 : Hid (Below w.heap.size w w8) := D5.out.trans (hex8.below (by omega) (by simp; omega))
          clear hm8 hex8
          obtain ⟨u8, p8, f8, M9', q8⟩ : ∃ u8 p8 f8 : Int, Hid (Mtr w8 b r8 0 u8 p8 f8) ∧ (0 ≤ u8 ∧ u8 ≤ 0 ∧ u8 ≤ p8 ∧ p8 ≤ 0 ∧ p ≤ p8 ∧ 0 ≤ f8 ∧ f8 ≤ k + 1) := ⟨_, _, _, M8, by omega, by omega, by omega, by omega, by omega, by omega, by omega⟩
          clear M8
          have M8 := M9'
          clear M9' hu0 hu1 hp0 hp1 hf0 hf1
          go_wp2_with fail
          refine (used_any b r8 0 u8 p8 f8 _ M8.out).mono ?_
          rintro e w' ⟨rfl, rfl⟩
          go_wp2_with fail
          refine (left_any b r8 0 u8 p8 f8 _ M8.out (by omega) (by omega) (by omega)).mono ?_
          rintro e w9 ⟨rfl, n9, hw9⟩
          have M9 : Hid (Mtr w9 b r8 0 u8 p8 f8) := by rw [hw9]; exact M8.out.drewN n9
          have D9 : Hid (Below w.heap.size w w9) := D8.out.trans (by rw [hw9]; exact below_drewN _ _ _)
          clear hw9
          go_wp2_with fail
          refine (used_any b r8 0 u8 p8 f8 _ M9.out).mono ?_
          rintro e w' ⟨rfl, rfl⟩
          go_wp2_with fail
          refine (left_any b r8 0 u8 p8 f8 _ M9.out (by omega) (by omega) (by omega)).mono ?_
          rintro e w10 ⟨rfl, n10, hw10⟩
          have M10 : Hid (Mtr w10 b r8 0 u8 p8 f8) := by rw [hw10]; exact M9.out.drewN n10
          have D10 : Hid (Below w.heap.size w w10) := D9.out.trans (by rw [hw10]; exact below_drewN _ _ _)
          clear hw10
          go_wp2_with fail
          refine (peak_any b r8 0 u8 p8 f8 _ M10.out).mono ?_
          rintro e w' ⟨rfl, rfl⟩
          go_wp2_with fail
          refine (peak_any b r8 0 u8 p8 f8 _ M10.out).mono ?_
          rintro e w' ⟨rfl, rfl⟩
          go_wp2_with fail
          refine (used_any b r8 0 u8 p8 f8 _ M10.out).mono ?_
          rintro e w' ⟨rfl, rfl⟩
          go_wp2_with fail
          refine (peak_any b r8 0 u8 p8 f8 _ M10.out).mono ?_
          rintro e w' ⟨rfl, rfl⟩
          have I9 : Hid (InvB w b 0 (k + 1) p8 w10) := ⟨⟨r8, u8, f8, M10.out, by omega, by omega, by omega, by omega, by omega, by omega⟩, D10.out⟩
          go_wp2_with fail
          go_roundw
          case rel => exact ⟨k + 1, p8, by omega, by go_num, rfl, I9⟩
          case measure => simp [intOf]; omega
        · have hn : n k < 0 ∨ 0 - u < n k := by omega
          have M5 : Hid (Mtr (wr.alloc (.cells #[.bool false, .int .i64 (n k)] 34)) b r 0 u p f) := ⟨hm.ne, heap_alloc_old hm.own, heap_alloc_old hm.shown⟩
          have D5 : Hid (Below w.heap.size w (wr.alloc (.cells #[.bool false, .int .i64 (n k)] 34))) := I.out.bel.alloc hsz _
          clear hm
          go_wp2_with fail
          refine (take_no b r 0 u p f (n k) _ M5.out (by omega) (by omega) (by omega) (by omega) (by omega) hn).mono ?_
          rintro e w8 ⟨rfl, r8, hm8, hex8, hr8⟩
          have M8 : Hid (Mtr w8 b r8 0 u p (f + 1)) := hm8
          have D8 : Hid (Below w.heap.size w w8) := D5.out.trans (hex8.below (by omega) (by simp; omega))
          clear hm8 hex8
          obtain ⟨u8, p8, f8, M9', q8⟩ : ∃ u8 p8 f8 : Int, Hid (Mtr w8 b r8 0 u8 p8 f8) ∧ (0 ≤ u8 ∧ u8 ≤ 0 ∧ u8 ≤ p8 ∧ p8 ≤ 0 ∧ p ≤ p8 ∧ 0 ≤ f8 ∧ f8 ≤ k + 1) := ⟨_, _, _, M8, by omega, by omega, by omega, by omega, by omega, by omega, by omega⟩
          clear M8
          have M8 := M9'
          clear M9' hu0 hu1 hp0 hp1 hf0 hf1
          go_wp2_with fail
          refine (used_any b r8 0 u8 p8 f8 _ M8.out).mono ?_
          rintro e w' ⟨rfl, rfl⟩
          go_wp2_with fail
          refine (left_any b r8 0 u8 p8 f8 _ M8.out (by omega) (by omega) (by omega)).mono ?_
          rintro e w9 ⟨rfl, n9, hw9⟩
          have M9 : Hid (Mtr w9 b r8 0 u8 p8 f8) := by rw [hw9]; exact M8.out.drewN n9
          have D9 : Hid (Below w.heap.size w w9) := D8.out.trans (by rw [hw9]; exact below_drewN _ _ _)
          clear hw9
          go_wp2_with fail
          refine (used_any b r8 0 u8 p8 f8 _ M9.out).mono ?_
          rintro e w' ⟨rfl, rfl⟩
          go_wp2_with fail
          refine (left_any b r8 0 u8 p8 f8 _ M9.out (by omega) (by omega) (by omega)).mono ?_
          rintro e w10 ⟨rfl, n10, hw10⟩
          have M10 : Hid (Mtr w10 b r8 0 u8 p8 f8) := by rw [hw10]; exact M9.out.drewN n10
          have D10 : Hid (Below w.heap.size w w10) := D9.out.trans (by rw [hw10]; exact below_drewN _ _ _)
          clear hw10
          go_wp2_with fail
          refine (peak_any b r8 0 u8 p8 f8 _ M10.out).mono ?_
          rintro e w' ⟨rfl, rfl⟩
          go_wp2_with fail
          refine (peak_any b r8 0 u8 p8 f8 _ M10.out).mono ?_
          rintro e w' ⟨rfl, rfl⟩
          go_wp2_with fail
          refine (used_any b r8 0 u8 p8 f8 _ M10.out).mono ?_
          rintro e w' ⟨rfl, rfl⟩
          go_wp2_with fail
          refine (peak_any b r8 0 u8 p8 f8 _ M10.out).mono ?_
          rintro e w' ⟨rfl, rfl⟩
          have I9 : Hid (InvB w b 0 (k + 1) p8 w10) := ⟨⟨r8, u8, f8, M10.out, by omega, by omega, by omega, by omega, by omega, by omega⟩, D10.out⟩
          go_wp2_with fail
          go_roundw
          case rel => exact ⟨k + 1, p8, by omega, by go_num, rfl, I9⟩
          case measure => simp [intOf]; omega
      · rw [hg] at e0
        by_cases hn : 0 ≤ n k ∧ n k ≤ u
        · obtain ⟨hn, hb2⟩ := hn
          have M5 : Hid (Mtr (wr.alloc (.cells #[.bool true, .int .i64 (n k)] 34)) b r 0 u p f) := ⟨hm.ne, heap_alloc_old hm.own, heap_alloc_old hm.shown⟩
          have D5 : Hid (Below w.heap.size w (wr.alloc (.cells #[.bool true, .int .i64 (n k)] 34))) := I.out.bel.alloc hsz _
          clear hm
          go_wp2_with fail
          refine (give_ok b r 0 u p f (n k) _ M5.out (by omega) (by omega) (by omega) (by omega) (by omega) hn hb2).mono ?_
          rintro e w8 ⟨rfl, r8, hm8, hex8, hr8⟩
          have M8 : Hid (Mtr w8 b r8 0 (u - n k) p f) := hm8
          have D8 : Hid (Below w.heap.size w w8) := D5.out.trans (hex8.below (by omega) (by simp; omega))
          clear hm8 hex8
          obtain ⟨u8, p8, f8, M9', q8⟩ : ∃ u8 p8 f8 : Int, Hid (Mtr w8 b r8 0 u8 p8 f8) ∧ (0 ≤ u8 ∧ u8 ≤ 0 ∧ u8 ≤ p8 ∧ p8 ≤ 0 ∧ p ≤ p8 ∧ 0 ≤ f8 ∧ f8 ≤ k + 1) := ⟨_, _, _, M8, by omega, by omega, by omega, by omega, by omega, by omega, by omega⟩
          clear M8
          have M8 := M9'
          clear M9' hu0 hu1 hp0 hp1 hf0 hf1
          go_wp2_with fail
          refine (used_any b r8 0 u8 p8 f8 _ M8.out).mono ?_
          rintro e w' ⟨rfl, rfl⟩
          go_wp2_with fail
          refine (left_any b r8 0 u8 p8 f8 _ M8.out (by omega) (by omega) (by omega)).mono ?_
          rintro e w9 ⟨rfl, n9, hw9⟩
          have M9 : Hid (Mtr w9 b r8 0 u8 p8 f8) := by rw [hw9]; exact M8.out.drewN n9
          have D9 : Hid (Below w.heap.size w w9) := D8.out.trans (by rw [hw9]; exact below_drewN _ _ _)
          clear hw9
          go_wp2_with fail
          refine (used_any b r8 0 u8 p8 f8 _ M9.out).mono ?_
          rintro e w' ⟨rfl, rfl⟩
          go_wp2_with fail
          refine (left_any b r8 0 u8 p8 f8 _ M9.out (by omega) (by omega) (by omega)).mono ?_
          rintro e w10 ⟨rfl, n10, hw10⟩
          have M10 : Hid (Mtr w10 b r8 0 u8 p8 f8) := by rw [hw10]; exact M9.out.drewN n10
          have D10 : Hid (Below w.heap.size w w10) := D9.out.trans (by rw [hw10]; exact below_drewN _ _ _)
          clear hw10
          go_wp2_with fail
          refine (peak_any b r8 0 u8 p8 f8 _ M10.out).mono ?_
          rintro e w' ⟨rfl, rfl⟩
          go_wp2_with fail
          refine (peak_any b r8 0 u8 p8 f8 _ M10.out).mono ?_
          rintro e w' ⟨rfl, rfl⟩
          go_wp2_with fail
          refine (used_any b r8 0 u8 p8 f8 _ M10.out).mono ?_
          rintro e w' ⟨rfl, rfl⟩
          go_wp2_with fail
          refine (peak_any b r8 0 u8 p8 f8 _ M10.out).mono ?_
          rintro e w' ⟨rfl, rfl⟩
          have I9 : Hid (InvB w b 0 (k + 1) p8 w10) := ⟨⟨r8, u8, f8, M10.out, by omega, by omega, by omega, by omega, by omega, by omega⟩, D10.out⟩
          go_wp2_with fail
          go_roundw
          case rel => exact ⟨k + 1, p8, by omega, by go_num, rfl, I9⟩
          case measure => simp [intOf]; omega
        · have hn : n k < 0 ∨ u < n k := by omega
          have M5 : Hid (Mtr (wr.alloc (.cells #[.bool true, .int .i64 (n k)] 34)) b r 0 u p f) := ⟨hm.ne, heap_alloc_old hm.own, heap_alloc_old hm.shown⟩
          have D5 : Hid (Below w.heap.size w (wr.alloc (.cells #[.bool true, .int .i64 (n k)] 34))) := I.out.bel.alloc hsz _
          clear hm
          go_wp2_with fail
          refine (give_no b r 0 u p f (n k) _ M5.out (by omega) (by omega) (by omega) (by omega) (by omega) hn).mono ?_
          rintro e w8 ⟨rfl, r8, hm8, hex8, hr8⟩
          have M8 : Hid (Mtr w8 b r8 0 u p (f + 1)) := hm8
          have D8 : Hid (Below w.heap.size w w8) := D5.out.trans (hex8.below (by omega) (by simp; omega))
          clear hm8 hex8
          obtain ⟨u8, p8, f8, M9', q8⟩ : ∃ u8 p8 f8 : Int, Hid (Mtr w8 b r8 0 u8 p8 f8) ∧ (0 ≤ u8 ∧ u8 ≤ 0 ∧ u8 ≤ p8 ∧ p8 ≤ 0 ∧ p ≤ p8 ∧ 0 ≤ f8 ∧ f8 ≤ k + 1) := ⟨_, _, _, M8, by omega, by omega, by omega, by omega, by omega, by omega, by omega⟩
          clear M8
          have M8 := M9'
          clear M9' hu0 hu1 hp0 hp1 hf0 hf1
          go_wp2_with fail
          refine (used_any b r8 0 u8 p8 f8 _ M8.out).mono ?_
          rintro e w' ⟨rfl, rfl⟩
          go_wp2_with fail
          refine (left_any b r8 0 u8 p8 f8 _ M8.out (by omega) (by omega) (by omega)).mono ?_
          rintro e w9 ⟨rfl, n9, hw9⟩
          have M9 : Hid (Mtr w9 b r8 0 u8 p8 f8) := by rw [hw9]; exact M8.out.drewN n9
          have D9 : Hid (Below w.heap.size w w9) := D8.out.trans (by rw [hw9]; exact below_drewN _ _ _)
          clear hw9
          go_wp2_with fail
          refine (used_any b r8 0 u8 p8 f8 _ M9.out).mono ?_
          rintro e w' ⟨rfl, rfl⟩
          go_wp2_with fail
          refine (left_any b r8 0 u8 p8 f8 _ M9.out (by omega) (by omega) (by omega)).mono ?_
          rintro e w10 ⟨rfl, n10, hw10⟩
          have M10 : Hid (Mtr w10 b r8 0 u8 p8 f8) := by rw [hw10]; exact M9.out.drewN n10
          have D10 : Hid (Below w.heap.size w w10) := D9.out.trans (by rw [hw10]; exact below_drewN _ _ _)
          clear hw10
          go_wp2_with fail
          refine (peak_any b r8 0 u8 p8 f8 _ M10.out).mono ?_
          rintro e w' ⟨rfl, rfl⟩
          go_wp2_with fail
          refine (peak_any b r8 0 u8 p8 f8 _ M10.out).mono ?_
          rintro e w' ⟨rfl, rfl⟩
          go_wp2_with fail
          refine (used_any b r8 0 u8 p8 f8 _ M10.out).mono ?_
          rintro e w' ⟨rfl, rfl⟩
          go_wp2_with fail
          refine (peak_any b r8 0 u8 p8 f8 _ M10.out).mono ?_
          rintro e w' ⟨rfl, rfl⟩
          have I9 : Hid (InvB w b 0 (k + 1) p8 w10) := ⟨⟨r8, u8, f8, M10.out, by omega, by omega, by omega, by omega, by omega, by omega⟩, D10.out⟩
          go_wp2_with fail
          go_roundw
          case rel => exact ⟨k + 1, p8, by omega, by go_num, rfl, I9⟩
          case measure => simp [intOf]; omega
    · go_wp2_with fail
      go_ret
      exact ⟨rfl, I.out.bel⟩

theorem bounds_wf {w : World} (a0 : Int) (w0 : (Lit.int .i64 a0).wf = true) (v : Value) (x : Option Addr × Nat × Nat × (Nat → Bool) × (Nat → Int)) (hx : v = .slice x.1 x.2.1 x.2.2.1 ∧ OpsAt w x.1 x.2.1 x.2.2.1 x.2.2.2.1 x.2.2.2.2) :
    Calls Try.prog 6 #[.int .i64 a0, v] w (DoneC w) := by
  obtain ⟨a, len, cap, g, n⟩ := x
  obtain ⟨rfl, ho⟩ := hx
  have h0 := (bounds_i64 w0).2
  by_cases hl : 100 < len
  · exact bounds_long a0 a len cap _ hl ho.le
  by_cases h1 : len = 0
  · simp only at h1 ho hl
    subst h1
    exact bounds_none a0 a cap g n _ h0 ho
  · obtain ⟨y, hy, hs, hb, _⟩ := ho.some 0 (by simp only at h1 ⊢; omega)
    simp only at hy ho hl
    subst hy
    obtain ⟨yb, yo, ys⟩ := y
    simp only at hs hb
    subst hs
    by_cases hp : 0 ≤ a0
    · exact bounds_short_pos a0 yb yo len cap g n _ h0 ho hb (by omega) hp
    · exact bounds_short_neg a0 yb yo len cap g n _ h0 ho hb (by omega) (by omega)
end Go.Proofs.Ytckpdpmjgkjefaa.Meter
