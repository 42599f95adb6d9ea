/- The walk of the law MeterBack. -/
import Derived.Test.YtckpdpmjgkjefaaMeter4
import Derived.Outline
import Derived.OpenShut
namespace Go.Proofs.Ytckpdpmjgkjefaa.Meter
open Go.RowKit Go.Proofs.Ytckpdpmjgkjefaa.Atom
set_option linter.unusedVariables false

def DoneB (w : World) (e : Ending) (w' : World) : Prop := e = .returned (.bool true) ∧ Below w.heap.size w w'

theorem back_e0 (a0 a1 a2 : Int) (w : World)  (c : a1 < 0) :
    Calls Try.prog 4 #[.int .i64 a0, .int .i64 a1, .int .i64 a2] w (DoneB w) := by
  go_enter Try.func4, Try.ntmps4
  go_wp2_with fail
  refine (wakes_any _).mono ?_
  rintro e w1 ⟨rfl, hb⟩
  have B1 : Hid (Below w.heap.size w w1) := hb; clear hb
  have hs1 := B1.out.size
  go_wp2_with fail
  refine (new_any _ _).mono ?_
  rintro e w2 ⟨b, r, rfl, hb, hr, hm, hbel⟩
  have B2 : Hid (Below w.heap.size w w2) := B1.out.trans (hbel.mono B1.out.size)
  have M2 : Hid (Mtr w2 b r (max a0 0) 0 0 0) := hm; clear hm hbel
  have z2 := B2.out.size
  go_wp2_with fail
  go_ret
  exact ⟨rfl, B2.out⟩

theorem back_e1 (a0 a1 a2 : Int) (w : World) (p0 : ¬ a1 < 0) (c : a2 < 0) :
    Calls Try.prog 4 #[.int .i64 a0, .int .i64 a1, .int .i64 a2] w (DoneB w) := by
  go_enter Try.func4, Try.ntmps4
  go_wp2_with fail
  refine (wakes_any _).mono ?_
  rintro e w1 ⟨rfl, hb⟩
  have B1 : Hid (Below w.heap.size w w1) := hb; clear hb
  have hs1 := B1.out.size
  go_wp2_with fail
  refine (new_any _ _).mono ?_
  rintro e w2 ⟨b, r, rfl, hb, hr, hm, hbel⟩
  have B2 : Hid (Below w.heap.size w w2) := B1.out.trans (hbel.mono B1.out.size)
  have M2 : Hid (Mtr w2 b r (max a0 0) 0 0 0) := hm; clear hm hbel
  have z2 := B2.out.size
  go_wp2_with fail
  go_ret
  exact ⟨rfl, B2.out⟩

theorem back_e2 (a0 a1 a2 : Int) (w : World) (p0 : ¬ a1 < 0) (p1 : ¬ a2 < 0) (c : 1152921504606846976 < a1) :
    Calls Try.prog 4 #[.int .i64 a0, .int .i64 a1, .int .i64 a2] w (DoneB w) := by
  go_enter Try.func4, Try.ntmps4
  go_wp2_with fail
  refine (wakes_any _).mono ?_
  rintro e w1 ⟨rfl, hb⟩
  have B1 : Hid (Below w.heap.size w w1) := hb; clear hb
  have hs1 := B1.out.size
  go_wp2_with fail
  refine (new_any _ _).mono ?_
  rintro e w2 ⟨b, r, rfl, hb, hr, hm, hbel⟩
  have B2 : Hid (Below w.heap.size w w2) := B1.out.trans (hbel.mono B1.out.size)
  have M2 : Hid (Mtr w2 b r (max a0 0) 0 0 0) := hm; clear hm hbel
  have z2 := B2.out.size
  go_wp2_with fail
  go_ret
  exact ⟨rfl, B2.out⟩

theorem back_e3 (a0 a1 a2 : Int) (w : World) (p0 : ¬ a1 < 0) (p1 : ¬ a2 < 0) (p2 : ¬ 1152921504606846976 < a1) (c : 1152921504606846976 < a2) :
    Calls Try.prog 4 #[.int .i64 a0, .int .i64 a1, .int .i64 a2] w (DoneB w) := by
  go_enter Try.func4, Try.ntmps4
  go_wp2_with fail
  refine (wakes_any _).mono ?_
  rintro e w1 ⟨rfl, hb⟩
  have B1 : Hid (Below w.heap.size w w1) := hb; clear hb
  have hs1 := B1.out.size
  go_wp2_with fail
  refine (new_any _ _).mono ?_
  rintro e w2 ⟨b, r, rfl, hb, hr, hm, hbel⟩
  have B2 : Hid (Below w.heap.size w w2) := B1.out.trans (hbel.mono B1.out.size)
  have M2 : Hid (Mtr w2 b r (max a0 0) 0 0 0) := hm; clear hm hbel
  have z2 := B2.out.size
  go_wp2_with fail
  go_ret
  exact ⟨rfl, B2.out⟩

theorem back_n (a0 a1 a2 : Int) (w : World) (h0 : a0 ≤ 9223372036854775807) (p0 : 0 ≤ a1) (p1 : 0 ≤ a2) (p2 : a1 ≤ 1152921504606846976) (p3 : a2 ≤ 1152921504606846976) (y1 : max a0 0 < a1) :
    Calls Try.prog 4 #[.int .i64 a0, .int .i64 a1, .int .i64 a2] w (DoneB w) := by
  have q2 : (max a0 0 - 0 == max a0 0 - 0) = true := by simp
  have q1 : decide (max a0 0 - 0 < a1) = true := by simp; omega
  go_enter Try.func4, Try.ntmps4
  go_wp2_with fail
  refine (wakes_any _).mono ?_
  rintro e w1 ⟨rfl, hb⟩
  have B1 : Hid (Below w.heap.size w w1) := hb; clear hb
  have hs1 := B1.out.size
  go_wp2_with fail
  refine (new_any _ _).mono ?_
  rintro e w2 ⟨b, r, rfl, hb, hr, hm, hbel⟩
  have B2 : Hid (Below w.heap.size w w2) := B1.out.trans (hbel.mono B1.out.size)
  have M2 : Hid (Mtr w2 b r (max a0 0) 0 0 0) := hm; clear hm hbel
  have z2 := B2.out.size
  go_wp2_with fail
  refine (left_any b r _ _ _ _ w2 M2.out (by omega) (by omega) (by omega)).mono ?_
  rintro e w3 ⟨rfl, n3, hw3⟩
  have B3 : Hid (Below w.heap.size w w3) := B2.out.trans (by rw [hw3]; exact below_drewN _ _ _)
  have M3 : Hid (Mtr w3 b r (max a0 0) 0 0 0) := by rw [hw3]; exact M2.out.drewN n3
  have z3 := B3.out.size
  clear hw3
  go_wp2_with fail
  refine (take_no b r (max a0 0) 0 0 0 a1 w3 M3.out (by omega) (by omega) (by omega) (by omega) (by omega) (by omega)).mono ?_
  rintro e w4 ⟨rfl, r4, hm, hx, hq4⟩
  have B4 : Hid (Below w.heap.size w w4) := B3.out.trans (hx.below (by omega) B3.out.size)
  have M4 : Hid (Mtr w4 b r4 (max a0 0) 0 0 (0 + 1)) := hm
  clear hm hx
  have z4 := B4.out.size
  go_wp2_with fail
  refine (left_any b r4 _ _ _ _ w4 M4.out (by omega) (by omega) (by omega)).mono ?_
  rintro e w5 ⟨rfl, n5, hw5⟩
  have B5 : Hid (Below w.heap.size w w5) := B4.out.trans (by rw [hw5]; exact below_drewN _ _ _)
  have M5 : Hid (Mtr w5 b r4 (max a0 0) 0 0 (0 + 1)) := by rw [hw5]; exact M4.out.drewN n5
  have z5 := B5.out.size
  clear hw5
  go_wp2_with fail
  go_ret
  exact ⟨rfl, B5.out⟩

theorem back_yn (a0 a1 a2 : Int) (w : World) (h0 : a0 ≤ 9223372036854775807) (p0 : 0 ≤ a1) (p1 : 0 ≤ a2) (p2 : a1 ≤ 1152921504606846976) (p3 : a2 ≤ 1152921504606846976) (y1 : a1 ≤ max a0 0) (y2 : max a0 0 - a1 < a2) :
    Calls Try.prog 4 #[.int .i64 a0, .int .i64 a1, .int .i64 a2] w (DoneB w) := by
  have q2 : (max a0 0 - (0 + a1 - a1) == max a0 0 - 0) = true := by rw [beq_iff_eq]; omega
  have q1 : decide (max a0 0 - 0 - a1 < a2) = true := by simp; omega
  go_enter Try.func4, Try.ntmps4
  go_wp2_with fail
  refine (wakes_any _).mono ?_
  rintro e w1 ⟨rfl, hb⟩
  have B1 : Hid (Below w.heap.size w w1) := hb; clear hb
  have hs1 := B1.out.size
  go_wp2_with fail
  refine (new_any _ _).mono ?_
  rintro e w2 ⟨b, r, rfl, hb, hr, hm, hbel⟩
  have B2 : Hid (Below w.heap.size w w2) := B1.out.trans (hbel.mono B1.out.size)
  have M2 : Hid (Mtr w2 b r (max a0 0) 0 0 0) := hm; clear hm hbel
  have z2 := B2.out.size
  go_wp2_with fail
  refine (left_any b r _ _ _ _ w2 M2.out (by omega) (by omega) (by omega)).mono ?_
  rintro e w3 ⟨rfl, n3, hw3⟩
  have B3 : Hid (Below w.heap.size w w3) := B2.out.trans (by rw [hw3]; exact below_drewN _ _ _)
  have M3 : Hid (Mtr w3 b r (max a0 0) 0 0 0) := by rw [hw3]; exact M2.out.drewN n3
  have z3 := B3.out.size
  clear hw3
  go_wp2_with fail
  refine (take_ok b r (max a0 0) 0 0 0 a1 w3 M3.out (by omega) (by omega) (by omega) (by omega) (by omega) (by omega) (by omega)).mono ?_
  rintro e w4 ⟨rfl, r4, hm, hx, hq4⟩
  have B4 : Hid (Below w.heap.size w w4) := B3.out.trans (hx.below (by omega) B3.out.size)
  have M4 : Hid (Mtr w4 b r4 (max a0 0) (0 + a1) (max 0 (0 + a1)) 0) := hm
  clear hm hx
  have z4 := B4.out.size
  go_wp2_with fail
  refine (take_no b r4 (max a0 0) (0 + a1) (max 0 (0 + a1)) 0 a2 w4 M4.out (by omega) (by omega) (by omega) (by omega) (by omega) (by omega)).mono ?_
  rintro e w5 ⟨rfl, r5, hm, hx, hq5⟩
  have B5 : Hid (Below w.heap.size w w5) := B4.out.trans (hx.below (by omega) B4.out.size)
  have M5 : Hid (Mtr w5 b r5 (max a0 0) (0 + a1) (max 0 (0 + a1)) (0 + 1)) := hm
  clear hm hx
  have z5 := B5.out.size
  go_wp2_with fail
  refine (give_ok b r5 (max a0 0) (0 + a1) (max 0 (0 + a1)) (0 + 1) a1 w5 M5.out (by omega) (by omega) (by omega) (by omega) (by omega) (by omega) (by omega)).mono ?_
  rintro e w6 ⟨rfl, r6, hm, hx, hq6⟩
  have B6 : Hid (Below w.heap.size w w6) := B5.out.trans (hx.below (by omega) B5.out.size)
  have M6 : Hid (Mtr w6 b r6 (max a0 0) ((0 + a1) - a1) (max 0 (0 + a1)) (0 + 1)) := hm
  clear hm hx
  have z6 := B6.out.size
  go_wp2_with fail
  refine (left_any b r6 _ _ _ _ w6 M6.out (by omega) (by omega) (by omega)).mono ?_
  rintro e w7 ⟨rfl, n7, hw7⟩
  have B7 : Hid (Below w.heap.size w w7) := B6.out.trans (by rw [hw7]; exact below_drewN _ _ _)
  have M7 : Hid (Mtr w7 b r6 (max a0 0) ((0 + a1) - a1) (max 0 (0 + a1)) (0 + 1)) := by rw [hw7]; exact M6.out.drewN n7
  have z7 := B7.out.size
  clear hw7
  go_wp2_with fail
  go_ret
  exact ⟨rfl, B7.out⟩

theorem back_yy (a0 a1 a2 : Int) (w : World) (h0 : a0 ≤ 9223372036854775807) (p0 : 0 ≤ a1) (p1 : 0 ≤ a2) (p2 : a1 ≤ 1152921504606846976) (p3 : a2 ≤ 1152921504606846976) (y1 : a1 ≤ max a0 0) (y2 : a2 ≤ max a0 0 - a1) :
    Calls Try.prog 4 #[.int .i64 a0, .int .i64 a1, .int .i64 a2] w (DoneB w) := by
  have q2 : (max 0 (max a1 (a1 + a2)) == a1 + a2) = true := by rw [beq_iff_eq]; omega
  have q1 : (max a0 0 - (0 + a1 + a2 - (a1 + a2)) == max a0 0 - 0) = true := by rw [beq_iff_eq]; omega
  go_enter Try.func4, Try.ntmps4
  go_wp2_with fail
  refine (wakes_any _).mono ?_
  rintro e w1 ⟨rfl, hb⟩
  have B1 : Hid (Below w.heap.size w w1) := hb; clear hb
  have hs1 := B1.out.size
  go_wp2_with fail
  refine (new_any _ _).mono ?_
  rintro e w2 ⟨b, r, rfl, hb, hr, hm, hbel⟩
  have B2 : Hid (Below w.heap.size w w2) := B1.out.trans (hbel.mono B1.out.size)
  have M2 : Hid (Mtr w2 b r (max a0 0) 0 0 0) := hm; clear hm hbel
  have z2 := B2.out.size
  go_wp2_with fail
  refine (left_any b r _ _ _ _ w2 M2.out (by omega) (by omega) (by omega)).mono ?_
  rintro e w3 ⟨rfl, n3, hw3⟩
  have B3 : Hid (Below w.heap.size w w3) := B2.out.trans (by rw [hw3]; exact below_drewN _ _ _)
  have M3 : Hid (Mtr w3 b r (max a0 0) 0 0 0) := by rw [hw3]; exact M2.out.drewN n3
  have z3 := B3.out.size
  clear hw3
  go_wp2_with fail
  refine (take_ok b r (max a0 0) 0 0 0 a1 w3 M3.out (by omega) (by omega) (by omega) (by omega) (by omega) (by omega) (by omega)).mono ?_
  rintro e w4 ⟨rfl, r4, hm, hx, hq4⟩
  have B4 : Hid (Below w.heap.size w w4) := B3.out.trans (hx.below (by omega) B3.out.size)
  have M4 : Hid (Mtr w4 b r4 (max a0 0) (0 + a1) (max 0 (0 + a1)) 0) := hm
  clear hm hx
  have z4 := B4.out.size
  go_wp2_with fail
  refine (take_ok b r4 (max a0 0) (0 + a1) (max 0 (0 + a1)) 0 a2 w4 M4.out (by omega) (by omega) (by omega) (by omega) (by omega) (by omega) (by omega)).mono ?_
  rintro e w5 ⟨rfl, r5, hm, hx, hq5⟩
  have B5 : Hid (Below w.heap.size w w5) := B4.out.trans (hx.below (by omega) B4.out.size)
  have M5 : Hid (Mtr w5 b r5 (max a0 0) ((0 + a1) + a2) (max (max 0 (0 + a1)) ((0 + a1) + a2)) 0) := hm
  clear hm hx
  have z5 := B5.out.size
  go_wp2_with fail
  refine (give_ok b r5 (max a0 0) ((0 + a1) + a2) (max (max 0 (0 + a1)) ((0 + a1) + a2)) 0 (a1 + a2) w5 M5.out (by omega) (by omega) (by omega) (by omega) (by omega) (by omega) (by omega)).mono ?_
  rintro e w6 ⟨rfl, r6, hm, hx, hq6⟩
  have B6 : Hid (Below w.heap.size w w6) := B5.out.trans (hx.below (by omega) B5.out.size)
  have M6 : Hid (Mtr w6 b r6 (max a0 0) (((0 + a1) + a2) - (a1 + a2)) (max (max 0 (0 + a1)) ((0 + a1) + a2)) 0) := hm
  clear hm hx
  have z6 := B6.out.size
  go_wp2_with fail
  refine (left_any b r6 _ _ _ _ w6 M6.out (by omega) (by omega) (by omega)).mono ?_
  rintro e w7 ⟨rfl, n7, hw7⟩
  have B7 : Hid (Below w.heap.size w w7) := B6.out.trans (by rw [hw7]; exact below_drewN _ _ _)
  have M7 : Hid (Mtr w7 b r6 (max a0 0) (((0 + a1) + a2) - (a1 + a2)) (max (max 0 (0 + a1)) ((0 + a1) + a2)) 0) := by rw [hw7]; exact M6.out.drewN n7
  have z7 := B7.out.size
  clear hw7
  go_wp2_with fail
  refine (give_no b r6 (max a0 0) (((0 + a1) + a2) - (a1 + a2)) (max (max 0 (0 + a1)) ((0 + a1) + a2)) 0 1 w7 M7.out (by omega) (by omega) (by omega) (by omega) (by omega) (by omega)).mono ?_
  rintro e w8 ⟨rfl, r8, hm, hx, hq8⟩
  have B8 : Hid (Below w.heap.size w w8) := B7.out.trans (hx.below (by omega) B7.out.size)
  have M8 : Hid (Mtr w8 b r8 (max a0 0) (((0 + a1) + a2) - (a1 + a2)) (max (max 0 (0 + a1)) ((0 + a1) + a2)) (0 + 1)) := hm
  clear hm hx
  have z8 := B8.out.size
  go_wp2_with fail
  refine (peak_any b r8 _ _ _ _ w8 M8.out).mono ?_
  rintro e w' ⟨rfl, rfl⟩
  go_wp2_with fail
  go_ret
  exact ⟨rfl, B8.out⟩

theorem back_wf (a0 : Int) (w0 : (Lit.int .i64 a0).wf = true) (a1 : Int) (w1 : (Lit.int .i64 a1).wf = true) (a2 : Int) (w2 : (Lit.int .i64 a2).wf = true) (w : World) :
    Calls Try.prog 4 #[.int .i64 a0, .int .i64 a1, .int .i64 a2] w (DoneB w) := by
  have h0 := (bounds_i64 w0).2
  by_cases c0 : a1 < 0
  · exact back_e0 a0 a1 a2 w c0
  by_cases c1 : a2 < 0
  · exact back_e1 a0 a1 a2 w c0 c1
  by_cases c2 : 1152921504606846976 < a1
  · exact back_e2 a0 a1 a2 w c0 c1 c2
  by_cases c3 : 1152921504606846976 < a2
  · exact back_e3 a0 a1 a2 w c0 c1 c2 c3
  by_cases y1 : a1 ≤ max a0 0
  · by_cases y2 : a2 ≤ max a0 0 - a1
    · exact back_yy a0 a1 a2 w h0 (by omega) (by omega) (by omega) (by omega) y1 y2
    · exact back_yn a0 a1 a2 w h0 (by omega) (by omega) (by omega) (by omega) y1 (by omega)
  · exact back_n a0 a1 a2 w h0 (by omega) (by omega) (by omega) (by omega) (by omega)
end Go.Proofs.Ytckpdpmjgkjefaa.Meter
