/- Contracts of package meter and walks of its laws, over the seat's program. -/
import Derived.Test.YtckpdpmjgkjefaaMeter4
import Derived.Outline
import Derived.OpenShut
namespace Go.Proofs.Ytckpdpmjgkjefaa.Meter
open Go.RowKit Go.Proofs.Ytckpdpmjgkjefaa.Atom
set_option linter.unusedVariables false

def Done (w : World) (e : Ending) (w' : World) : Prop := e = .returned (.bool true) ∧ Below w.heap.size w w'

theorem joins_e0 (a0 a1 a2 : Int) (w : World)  (c : a1 < 0) :
    Calls Try.prog 3 #[.int .i64 a0, .int .i64 a1, .int .i64 a2] w (Done w) := by
  go_enter Try.func3, Try.ntmps3
  go_wp2_with fail
  refine (wakes_any _).mono ?_
  rintro e w1 ⟨rfl, hb⟩
  have B1 : Hid (Below w.heap.size w w1) := hb; clear hb
  go_wp2_with fail
  refine (new_any _ _).mono ?_
  rintro e w2 ⟨b, r, rfl, hb, hr, hm, hbel⟩
  have B2 : Hid (Below w.heap.size w w2) := B1.out.trans (hbel.mono B1.out.size)
  have s2 := B2.out.size
  have l2 := hm.lt
  have M2 : Hid (Mtr w2 b r (max a0 0) 0 0 0) := hm; clear hm hbel
  have hs1 := B1.out.size
  go_wp2_with fail
  refine (new_any _ _).mono ?_
  rintro e w3 ⟨b', r', rfl, hb', hr', hm', hbel⟩
  have B3 : Hid (Below w.heap.size w w3) := B2.out.trans (hbel.mono B2.out.size)
  have N2 : Hid (Mtr w3 b r (max a0 0) 0 0 0) := ⟨M2.out.ne, (hbel.block b l2.1).trans M2.out.own, (hbel.block r l2.2).trans M2.out.shown⟩
  have N3 : Hid (Mtr w3 b' r' (max a0 0) 0 0 0) := hm'
  have s3 := B3.out.size
  have s23 := hbel.size
  have l3 := hm'.lt
  clear hm' hbel
  go_wp2_with fail
  go_ret
  exact ⟨rfl, B3.out⟩

theorem joins_e1 (a0 a1 a2 : Int) (w : World) (p0 : ¬ a1 < 0) (c : a2 < 0) :
    Calls Try.prog 3 #[.int .i64 a0, .int .i64 a1, .int .i64 a2] w (Done w) := by
  go_enter Try.func3, Try.ntmps3
  go_wp2_with fail
  refine (wakes_any _).mono ?_
  rintro e w1 ⟨rfl, hb⟩
  have B1 : Hid (Below w.heap.size w w1) := hb; clear hb
  go_wp2_with fail
  refine (new_any _ _).mono ?_
  rintro e w2 ⟨b, r, rfl, hb, hr, hm, hbel⟩
  have B2 : Hid (Below w.heap.size w w2) := B1.out.trans (hbel.mono B1.out.size)
  have s2 := B2.out.size
  have l2 := hm.lt
  have M2 : Hid (Mtr w2 b r (max a0 0) 0 0 0) := hm; clear hm hbel
  have hs1 := B1.out.size
  go_wp2_with fail
  refine (new_any _ _).mono ?_
  rintro e w3 ⟨b', r', rfl, hb', hr', hm', hbel⟩
  have B3 : Hid (Below w.heap.size w w3) := B2.out.trans (hbel.mono B2.out.size)
  have N2 : Hid (Mtr w3 b r (max a0 0) 0 0 0) := ⟨M2.out.ne, (hbel.block b l2.1).trans M2.out.own, (hbel.block r l2.2).trans M2.out.shown⟩
  have N3 : Hid (Mtr w3 b' r' (max a0 0) 0 0 0) := hm'
  have s3 := B3.out.size
  have s23 := hbel.size
  have l3 := hm'.lt
  clear hm' hbel
  go_wp2_with fail
  go_ret
  exact ⟨rfl, B3.out⟩

theorem joins_e2 (a0 a1 a2 : Int) (w : World) (p0 : ¬ a1 < 0) (p1 : ¬ a2 < 0) (c : 1152921504606846976 < a1) :
    Calls Try.prog 3 #[.int .i64 a0, .int .i64 a1, .int .i64 a2] w (Done w) := by
  go_enter Try.func3, Try.ntmps3
  go_wp2_with fail
  refine (wakes_any _).mono ?_
  rintro e w1 ⟨rfl, hb⟩
  have B1 : Hid (Below w.heap.size w w1) := hb; clear hb
  go_wp2_with fail
  refine (new_any _ _).mono ?_
  rintro e w2 ⟨b, r, rfl, hb, hr, hm, hbel⟩
  have B2 : Hid (Below w.heap.size w w2) := B1.out.trans (hbel.mono B1.out.size)
  have s2 := B2.out.size
  have l2 := hm.lt
  have M2 : Hid (Mtr w2 b r (max a0 0) 0 0 0) := hm; clear hm hbel
  have hs1 := B1.out.size
  go_wp2_with fail
  refine (new_any _ _).mono ?_
  rintro e w3 ⟨b', r', rfl, hb', hr', hm', hbel⟩
  have B3 : Hid (Below w.heap.size w w3) := B2.out.trans (hbel.mono B2.out.size)
  have N2 : Hid (Mtr w3 b r (max a0 0) 0 0 0) := ⟨M2.out.ne, (hbel.block b l2.1).trans M2.out.own, (hbel.block r l2.2).trans M2.out.shown⟩
  have N3 : Hid (Mtr w3 b' r' (max a0 0) 0 0 0) := hm'
  have s3 := B3.out.size
  have s23 := hbel.size
  have l3 := hm'.lt
  clear hm' hbel
  go_wp2_with fail
  go_ret
  exact ⟨rfl, B3.out⟩

theorem joins_e3 (a0 a1 a2 : Int) (w : World) (p0 : ¬ a1 < 0) (p1 : ¬ a2 < 0) (p2 : ¬ 1152921504606846976 < a1) (c : 1152921504606846976 < a2) :
    Calls Try.prog 3 #[.int .i64 a0, .int .i64 a1, .int .i64 a2] w (Done w) := by
  go_enter Try.func3, Try.ntmps3
  go_wp2_with fail
  refine (wakes_any _).mono ?_
  rintro e w1 ⟨rfl, hb⟩
  have B1 : Hid (Below w.heap.size w w1) := hb; clear hb
  go_wp2_with fail
  refine (new_any _ _).mono ?_
  rintro e w2 ⟨b, r, rfl, hb, hr, hm, hbel⟩
  have B2 : Hid (Below w.heap.size w w2) := B1.out.trans (hbel.mono B1.out.size)
  have s2 := B2.out.size
  have l2 := hm.lt
  have M2 : Hid (Mtr w2 b r (max a0 0) 0 0 0) := hm; clear hm hbel
  have hs1 := B1.out.size
  go_wp2_with fail
  refine (new_any _ _).mono ?_
  rintro e w3 ⟨b', r', rfl, hb', hr', hm', hbel⟩
  have B3 : Hid (Below w.heap.size w w3) := B2.out.trans (hbel.mono B2.out.size)
  have N2 : Hid (Mtr w3 b r (max a0 0) 0 0 0) := ⟨M2.out.ne, (hbel.block b l2.1).trans M2.out.own, (hbel.block r l2.2).trans M2.out.shown⟩
  have N3 : Hid (Mtr w3 b' r' (max a0 0) 0 0 0) := hm'
  have s3 := B3.out.size
  have s23 := hbel.size
  have l3 := hm'.lt
  clear hm' hbel
  go_wp2_with fail
  go_ret
  exact ⟨rfl, B3.out⟩

theorem joins_yes (a0 a1 a2 : Int) (w : World) (h0 : a0 ≤ 9223372036854775807) (p0 : 0 ≤ a1) (p1 : 0 ≤ a2) (p2 : a1 ≤ 1152921504606846976) (p3 : a2 ≤ 1152921504606846976) (y1 : a1 ≤ max a0 0) (y2 : a1 + a2 ≤ max a0 0) :
    Calls Try.prog 3 #[.int .i64 a0, .int .i64 a1, .int .i64 a2] w (Done w) := by
  go_enter Try.func3, Try.ntmps3
  go_wp2_with fail
  refine (wakes_any _).mono ?_
  rintro e w1 ⟨rfl, hb⟩
  have B1 : Hid (Below w.heap.size w w1) := hb; clear hb
  go_wp2_with fail
  refine (new_any _ _).mono ?_
  rintro e w2 ⟨b, r, rfl, hb, hr, hm, hbel⟩
  have B2 : Hid (Below w.heap.size w w2) := B1.out.trans (hbel.mono B1.out.size)
  have s2 := B2.out.size
  have l2 := hm.lt
  have M2 : Hid (Mtr w2 b r (max a0 0) 0 0 0) := hm; clear hm hbel
  have hs1 := B1.out.size
  go_wp2_with fail
  refine (new_any _ _).mono ?_
  rintro e w3 ⟨b', r', rfl, hb', hr', hm', hbel⟩
  have B3 : Hid (Below w.heap.size w w3) := B2.out.trans (hbel.mono B2.out.size)
  have N2 : Hid (Mtr w3 b r (max a0 0) 0 0 0) := ⟨M2.out.ne, (hbel.block b l2.1).trans M2.out.own, (hbel.block r l2.2).trans M2.out.shown⟩
  have N3 : Hid (Mtr w3 b' r' (max a0 0) 0 0 0) := hm'
  have s3 := B3.out.size
  have s23 := hbel.size
  have l3 := hm'.lt
  clear hm' hbel
  go_wp2_with fail
  have q1 : b ≠ b' := by omega
  have q2 : r ≠ b' := by omega
  have q3 : b ≠ r' := by omega
  refine (take_ok b r (max a0 0) 0 0 0 a1 w3 N2.out (by omega) (by omega) (by omega) (by omega) (by omega) (by omega) (by omega)).mono ?_
  rintro e w4 ⟨rfl, r4, hm, hx, hq4⟩
  have B4 : Hid (Below w.heap.size w w4) := B3.out.trans (hx.below (by omega) B3.out.size)
  have O4 : Hid (Mtr w4 b' r' (max a0 0) 0 0 0) := N3.out.ex hx (by omega) (by omega)
  have M4 : Hid (Mtr w4 b r4 (max a0 0) (0 + a1) (max 0 (0 + a1)) 0) := hm
  have L4 := hm.lt
  clear hm hx
  have z4 := B4.out.size
  go_wp2_with fail
  refine (take_ok b r4 (max a0 0) (0 + a1) (max 0 (0 + a1)) 0 a2 w4 M4.out (by omega) (by omega) (by omega) (by omega) (by omega) (by omega) (by omega)).mono ?_
  rintro e w5 ⟨rfl, r45, hm, hx, hq5⟩
  have B5 : Hid (Below w.heap.size w w5) := B4.out.trans (hx.below (by omega) B4.out.size)
  have O5 : Hid (Mtr w5 b' r' (max a0 0) 0 0 0) := O4.out.ex hx (by omega) (by omega)
  have M5 : Hid (Mtr w5 b r45 (max a0 0) ((0 + a1) + a2) (max (max 0 (0 + a1)) ((0 + a1) + a2)) 0) := hm
  have L5 := hm.lt
  clear hm hx
  have z5 := B5.out.size
  go_wp2_with fail
  refine (take_ok b' r' (max a0 0) 0 0 0 (a1 + a2) w5 O5.out (by omega) (by omega) (by omega) (by omega) (by omega) (by omega) (by omega)).mono ?_
  rintro e w6 ⟨rfl, r'6, hm, hx, hq6⟩
  have B6 : Hid (Below w.heap.size w w6) := B5.out.trans (hx.below (by omega) B5.out.size)
  have O6 : Hid (Mtr w6 b r45 (max a0 0) ((0 + a1) + a2) (max (max 0 (0 + a1)) ((0 + a1) + a2)) 0) := M5.out.ex hx (by omega) (by omega)
  have M6 : Hid (Mtr w6 b' r'6 (max a0 0) (0 + (a1 + a2)) (max 0 (0 + (a1 + a2))) 0) := hm
  have L6 := hm.lt
  clear hm hx
  have z6 := B6.out.size
  go_wp2_with fail
  refine (used_any b r45 _ _ _ _ w6 O6.out).mono ?_
  rintro e w7 ⟨rfl, rfl⟩
  go_wp2_with fail
  refine (used_any b' r'6 _ _ _ _ w6 M6.out).mono ?_
  rintro e w7 ⟨rfl, rfl⟩
  have hq : (0 + a1 + a2 == 0 + (a1 + a2)) = true := by rw [beq_iff_eq]; omega
  have hq2 : (max a0 0 - (0 + a1 + a2) == max a0 0 - (0 + (a1 + a2))) = true := by rw [beq_iff_eq]; omega
  go_wp2_with fail
  refine (left_any b r45 _ _ _ _ w6 O6.out (by omega) (by omega) (by omega)).mono ?_
  rintro e w7 ⟨rfl, n7, rfl⟩
  go_wp2_with fail
  refine (left_any b' r'6 _ _ _ _ _ (M6.out.drewN n7) (by omega) (by omega) (by omega)).mono ?_
  rintro e w7 ⟨rfl, n8, rfl⟩
  go_wp2_with fail
  go_ret
  exact ⟨rfl, B6.out.trans (below_drewN _ _ _)⟩

theorem joins_yn (a0 a1 a2 : Int) (w : World) (h0 : a0 ≤ 9223372036854775807) (p0 : 0 ≤ a1) (p1 : 0 ≤ a2) (p2 : a1 ≤ 1152921504606846976) (p3 : a2 ≤ 1152921504606846976) (y1 : a1 ≤ max a0 0) (y2 : max a0 0 < a1 + a2) :
    Calls Try.prog 3 #[.int .i64 a0, .int .i64 a1, .int .i64 a2] w (Done w) := by
  go_enter Try.func3, Try.ntmps3
  go_wp2_with fail
  refine (wakes_any _).mono ?_
  rintro e w1 ⟨rfl, hb⟩
  have B1 : Hid (Below w.heap.size w w1) := hb; clear hb
  go_wp2_with fail
  refine (new_any _ _).mono ?_
  rintro e w2 ⟨b, r, rfl, hb, hr, hm, hbel⟩
  have B2 : Hid (Below w.heap.size w w2) := B1.out.trans (hbel.mono B1.out.size)
  have s2 := B2.out.size
  have l2 := hm.lt
  have M2 : Hid (Mtr w2 b r (max a0 0) 0 0 0) := hm; clear hm hbel
  have hs1 := B1.out.size
  go_wp2_with fail
  refine (new_any _ _).mono ?_
  rintro e w3 ⟨b', r', rfl, hb', hr', hm', hbel⟩
  have B3 : Hid (Below w.heap.size w w3) := B2.out.trans (hbel.mono B2.out.size)
  have N2 : Hid (Mtr w3 b r (max a0 0) 0 0 0) := ⟨M2.out.ne, (hbel.block b l2.1).trans M2.out.own, (hbel.block r l2.2).trans M2.out.shown⟩
  have N3 : Hid (Mtr w3 b' r' (max a0 0) 0 0 0) := hm'
  have s3 := B3.out.size
  have s23 := hbel.size
  have l3 := hm'.lt
  clear hm' hbel
  go_wp2_with fail
  have q1 : b ≠ b' := by omega
  have q2 : r ≠ b' := by omega
  have q3 : b ≠ r' := by omega
  refine (take_ok b r (max a0 0) 0 0 0 a1 w3 N2.out (by omega) (by omega) (by omega) (by omega) (by omega) (by omega) (by omega)).mono ?_
  rintro e w4 ⟨rfl, r4, hm, hx, hq4⟩
  have B4 : Hid (Below w.heap.size w w4) := B3.out.trans (hx.below (by omega) B3.out.size)
  have O4 : Hid (Mtr w4 b' r' (max a0 0) 0 0 0) := N3.out.ex hx (by omega) (by omega)
  have M4 : Hid (Mtr w4 b r4 (max a0 0) (0 + a1) (max 0 (0 + a1)) 0) := hm
  have L4 := hm.lt
  clear hm hx
  have z4 := B4.out.size
  go_wp2_with fail
  refine (take_no b r4 (max a0 0) (0 + a1) (max 0 (0 + a1)) 0 a2 w4 M4.out (by omega) (by omega) (by omega) (by omega) (by omega) (by omega)).mono ?_
  rintro e w5 ⟨rfl, r45, hm, hx, hq5⟩
  have B5 : Hid (Below w.heap.size w w5) := B4.out.trans (hx.below (by omega) B4.out.size)
  have O5 : Hid (Mtr w5 b' r' (max a0 0) 0 0 0) := O4.out.ex hx (by omega) (by omega)
  have M5 : Hid (Mtr w5 b r45 (max a0 0) (0 + a1) (max 0 (0 + a1)) (0 + 1)) := hm
  have L5 := hm.lt
  clear hm hx
  have z5 := B5.out.size
  go_wp2_with fail
  refine (take_no b' r' (max a0 0) 0 0 0 (a1 + a2) w5 O5.out (by omega) (by omega) (by omega) (by omega) (by omega) (by omega)).mono ?_
  rintro e w6 ⟨rfl, r'6, hm, hx, hq6⟩
  have B6 : Hid (Below w.heap.size w w6) := B5.out.trans (hx.below (by omega) B5.out.size)
  have O6 : Hid (Mtr w6 b r45 (max a0 0) (0 + a1) (max 0 (0 + a1)) (0 + 1)) := M5.out.ex hx (by omega) (by omega)
  have M6 : Hid (Mtr w6 b' r'6 (max a0 0) 0 0 (0 + 1)) := hm
  have L6 := hm.lt
  clear hm hx
  have z6 := B6.out.size
  go_wp2_with fail
  refine (used_any b' r'6 _ _ _ _ w6 M6.out).mono ?_
  rintro e w7 ⟨rfl, rfl⟩
  go_wp2_with fail
  go_ret
  exact ⟨rfl, B6.out⟩

theorem joins_ny (a0 a1 a2 : Int) (w : World) (h0 : a0 ≤ 9223372036854775807) (p0 : 0 ≤ a1) (p1 : 0 ≤ a2) (p2 : a1 ≤ 1152921504606846976) (p3 : a2 ≤ 1152921504606846976) (y1 : max a0 0 < a1) (y2 : a2 ≤ max a0 0) :
    Calls Try.prog 3 #[.int .i64 a0, .int .i64 a1, .int .i64 a2] w (Done w) := by
  go_enter Try.func3, Try.ntmps3
  go_wp2_with fail
  refine (wakes_any _).mono ?_
  rintro e w1 ⟨rfl, hb⟩
  have B1 : Hid (Below w.heap.size w w1) := hb; clear hb
  go_wp2_with fail
  refine (new_any _ _).mono ?_
  rintro e w2 ⟨b, r, rfl, hb, hr, hm, hbel⟩
  have B2 : Hid (Below w.heap.size w w2) := B1.out.trans (hbel.mono B1.out.size)
  have s2 := B2.out.size
  have l2 := hm.lt
  have M2 : Hid (Mtr w2 b r (max a0 0) 0 0 0) := hm; clear hm hbel
  have hs1 := B1.out.size
  go_wp2_with fail
  refine (new_any _ _).mono ?_
  rintro e w3 ⟨b', r', rfl, hb', hr', hm', hbel⟩
  have B3 : Hid (Below w.heap.size w w3) := B2.out.trans (hbel.mono B2.out.size)
  have N2 : Hid (Mtr w3 b r (max a0 0) 0 0 0) := ⟨M2.out.ne, (hbel.block b l2.1).trans M2.out.own, (hbel.block r l2.2).trans M2.out.shown⟩
  have N3 : Hid (Mtr w3 b' r' (max a0 0) 0 0 0) := hm'
  have s3 := B3.out.size
  have s23 := hbel.size
  have l3 := hm'.lt
  clear hm' hbel
  go_wp2_with fail
  have q1 : b ≠ b' := by omega
  have q2 : r ≠ b' := by omega
  have q3 : b ≠ r' := by omega
  refine (take_no b r (max a0 0) 0 0 0 a1 w3 N2.out (by omega) (by omega) (by omega) (by omega) (by omega) (by omega)).mono ?_
  rintro e w4 ⟨rfl, r4, hm, hx, hq4⟩
  have B4 : Hid (Below w.heap.size w w4) := B3.out.trans (hx.below (by omega) B3.out.size)
  have O4 : Hid (Mtr w4 b' r' (max a0 0) 0 0 0) := N3.out.ex hx (by omega) (by omega)
  have M4 : Hid (Mtr w4 b r4 (max a0 0) 0 0 (0 + 1)) := hm
  have L4 := hm.lt
  clear hm hx
  have z4 := B4.out.size
  go_wp2_with fail
  refine (take_ok b r4 (max a0 0) 0 0 (0 + 1) a2 w4 M4.out (by omega) (by omega) (by omega) (by omega) (by omega) (by omega) (by omega)).mono ?_
  rintro e w5 ⟨rfl, r45, hm, hx, hq5⟩
  have B5 : Hid (Below w.heap.size w w5) := B4.out.trans (hx.below (by omega) B4.out.size)
  have O5 : Hid (Mtr w5 b' r' (max a0 0) 0 0 0) := O4.out.ex hx (by omega) (by omega)
  have M5 : Hid (Mtr w5 b r45 (max a0 0) (0 + a2) (max 0 (0 + a2)) (0 + 1)) := hm
  have L5 := hm.lt
  clear hm hx
  have z5 := B5.out.size
  go_wp2_with fail
  refine (take_no b' r' (max a0 0) 0 0 0 (a1 + a2) w5 O5.out (by omega) (by omega) (by omega) (by omega) (by omega) (by omega)).mono ?_
  rintro e w6 ⟨rfl, r'6, hm, hx, hq6⟩
  have B6 : Hid (Below w.heap.size w w6) := B5.out.trans (hx.below (by omega) B5.out.size)
  have O6 : Hid (Mtr w6 b r45 (max a0 0) (0 + a2) (max 0 (0 + a2)) (0 + 1)) := M5.out.ex hx (by omega) (by omega)
  have M6 : Hid (Mtr w6 b' r'6 (max a0 0) 0 0 (0 + 1)) := hm
  have L6 := hm.lt
  clear hm hx
  have z6 := B6.out.size
  go_wp2_with fail
  refine (used_any b' r'6 _ _ _ _ w6 M6.out).mono ?_
  rintro e w7 ⟨rfl, rfl⟩
  go_wp2_with fail
  go_ret
  exact ⟨rfl, B6.out⟩

theorem joins_nn (a0 a1 a2 : Int) (w : World) (h0 : a0 ≤ 9223372036854775807) (p0 : 0 ≤ a1) (p1 : 0 ≤ a2) (p2 : a1 ≤ 1152921504606846976) (p3 : a2 ≤ 1152921504606846976) (y1 : max a0 0 < a1) (y2 : max a0 0 < a2) :
    Calls Try.prog 3 #[.int .i64 a0, .int .i64 a1, .int .i64 a2] w (Done w) := by
  go_enter Try.func3, Try.ntmps3
  go_wp2_with fail
  refine (wakes_any _).mono ?_
  rintro e w1 ⟨rfl, hb⟩
  have B1 : Hid (Below w.heap.size w w1) := hb; clear hb
  go_wp2_with fail
  refine (new_any _ _).mono ?_
  rintro e w2 ⟨b, r, rfl, hb, hr, hm, hbel⟩
  have B2 : Hid (Below w.heap.size w w2) := B1.out.trans (hbel.mono B1.out.size)
  have s2 := B2.out.size
  have l2 := hm.lt
  have M2 : Hid (Mtr w2 b r (max a0 0) 0 0 0) := hm; clear hm hbel
  have hs1 := B1.out.size
  go_wp2_with fail
  refine (new_any _ _).mono ?_
  rintro e w3 ⟨b', r', rfl, hb', hr', hm', hbel⟩
  have B3 : Hid (Below w.heap.size w w3) := B2.out.trans (hbel.mono B2.out.size)
  have N2 : Hid (Mtr w3 b r (max a0 0) 0 0 0) := ⟨M2.out.ne, (hbel.block b l2.1).trans M2.out.own, (hbel.block r l2.2).trans M2.out.shown⟩
  have N3 : Hid (Mtr w3 b' r' (max a0 0) 0 0 0) := hm'
  have s3 := B3.out.size
  have s23 := hbel.size
  have l3 := hm'.lt
  clear hm' hbel
  go_wp2_with fail
  have q1 : b ≠ b' := by omega
  have q2 : r ≠ b' := by omega
  have q3 : b ≠ r' := by omega
  refine (take_no b r (max a0 0) 0 0 0 a1 w3 N2.out (by omega) (by omega) (by omega) (by omega) (by omega) (by omega)).mono ?_
  rintro e w4 ⟨rfl, r4, hm, hx, hq4⟩
  have B4 : Hid (Below w.heap.size w w4) := B3.out.trans (hx.below (by omega) B3.out.size)
  have O4 : Hid (Mtr w4 b' r' (max a0 0) 0 0 0) := N3.out.ex hx (by omega) (by omega)
  have M4 : Hid (Mtr w4 b r4 (max a0 0) 0 0 (0 + 1)) := hm
  have L4 := hm.lt
  clear hm hx
  have z4 := B4.out.size
  go_wp2_with fail
  refine (take_no b r4 (max a0 0) 0 0 (0 + 1) a2 w4 M4.out (by omega) (by omega) (by omega) (by omega) (by omega) (by omega)).mono ?_
  rintro e w5 ⟨rfl, r45, hm, hx, hq5⟩
  have B5 : Hid (Below w.heap.size w w5) := B4.out.trans (hx.below (by omega) B4.out.size)
  have O5 : Hid (Mtr w5 b' r' (max a0 0) 0 0 0) := O4.out.ex hx (by omega) (by omega)
  have M5 : Hid (Mtr w5 b r45 (max a0 0) 0 0 ((0 + 1) + 1)) := hm
  have L5 := hm.lt
  clear hm hx
  have z5 := B5.out.size
  go_wp2_with fail
  refine (take_no b' r' (max a0 0) 0 0 0 (a1 + a2) w5 O5.out (by omega) (by omega) (by omega) (by omega) (by omega) (by omega)).mono ?_
  rintro e w6 ⟨rfl, r'6, hm, hx, hq6⟩
  have B6 : Hid (Below w.heap.size w w6) := B5.out.trans (hx.below (by omega) B5.out.size)
  have O6 : Hid (Mtr w6 b r45 (max a0 0) 0 0 ((0 + 1) + 1)) := M5.out.ex hx (by omega) (by omega)
  have M6 : Hid (Mtr w6 b' r'6 (max a0 0) 0 0 (0 + 1)) := hm
  have L6 := hm.lt
  clear hm hx
  have z6 := B6.out.size
  go_wp2_with fail
  refine (used_any b' r'6 _ _ _ _ w6 M6.out).mono ?_
  rintro e w7 ⟨rfl, rfl⟩
  go_wp2_with fail
  go_ret
  exact ⟨rfl, B6.out⟩

theorem joins_any (a0 a1 a2 : Int) (w : World) (h0 : a0 ≤ 9223372036854775807) :
    Calls Try.prog 3 #[.int .i64 a0, .int .i64 a1, .int .i64 a2] w (Done w) := by
  by_cases c0 : a1 < 0
  · exact joins_e0 a0 a1 a2 w c0
  by_cases c1 : a2 < 0
  · exact joins_e1 a0 a1 a2 w c0 c1
  by_cases c2 : 1152921504606846976 < a1
  · exact joins_e2 a0 a1 a2 w c0 c1 c2
  by_cases c3 : 1152921504606846976 < a2
  · exact joins_e3 a0 a1 a2 w c0 c1 c2 c3
  by_cases y1 : a1 ≤ max a0 0
  · by_cases y2 : a1 + a2 ≤ max a0 0
    · exact joins_yes a0 a1 a2 w h0 (by omega) (by omega) (by omega) (by omega) y1 y2
    · exact joins_yn a0 a1 a2 w h0 (by omega) (by omega) (by omega) (by omega) y1 (by omega)
  · by_cases y2 : a2 ≤ max a0 0
    · exact joins_ny a0 a1 a2 w h0 (by omega) (by omega) (by omega) (by omega) (by omega) y2
    · exact joins_nn a0 a1 a2 w h0 (by omega) (by omega) (by omega) (by omega) (by omega) (by omega)

theorem joins_wf (a0 : Int) (w0 : (Lit.int .i64 a0).wf = true) (a1 : Int) (w1 : (Lit.int .i64 a1).wf = true) (a2 : Int) (w2 : (Lit.int .i64 a2).wf = true) (w : World) :
    Calls Try.prog 3 #[.int .i64 a0, .int .i64 a1, .int .i64 a2] w (Done w) := joins_any a0 a1 a2 w (bounds_i64 w0).2
end Go.Proofs.Ytckpdpmjgkjefaa.Meter
