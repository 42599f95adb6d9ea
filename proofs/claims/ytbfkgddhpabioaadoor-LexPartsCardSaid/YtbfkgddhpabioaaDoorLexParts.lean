/- tabulariumlaw11.LexParts. -/
import Derived.Test.YtbfkgddhpabioaaDoorLawPR
namespace Go.Proofs.YtbfkgddhpabioaaDoor.Lex
open Go.RowKit Go.Proofs.YtbfkgddhpabioaaDoor.Utf Go.Proofs.YtbfkgddhpabioaaDoor.Strs
set_option linter.unusedVariables false
set_option linter.unusedSimpArgs false
set_option maxRecDepth 100000

theorem plainZ_len (l : List TokZ) : (plainZ l).length ≤ l.length := List.length_filter_le _ _
theorem remZ_len (l : List TokZ) : (remZ l).length ≤ l.length := by unfold remZ; rw [List.length_map]; exact List.length_filter_le _ _

set_option maxHeartbeats 8000000 in
theorem lexParts_any (v v' : Value) (l l' : List TokZ) (w : World) (T : Tabs w) (h : IsToks w v l) (h' : IsToks w v' l') (hl : l.length ≤ 9223372036854775807) (hl' : l'.length ≤ 9223372036854775807) :
    Calls Tryd.prog 9 #[v, v'] w fun e w' => e = .returned (.bool true) ∧ Below w.heap.size w w' := by
  have hw := wakes_any w T
  clear T
  have HH := Hid.out (p := Hid _) h
  have HH' := Hid.out (p := Hid _) h'
  obtain ⟨a, c, rfl, ha⟩ := h
  obtain ⟨a', c', rfl, ha'⟩ := h'
  clear ha ha'
  by_cases hb : 200 < l.length
  · go_enter Tryd.func9, Tryd.ntmps9
    go_wp2_with fail
    refine hw.mono ?_
    rintro e w1 ⟨rfl, hb1⟩
    have B1 : Hid (Below w.heap.size w w1) := hb1
    clear hb1 hw
    go_wp2_with fail
    go_ret
    exact ⟨rfl, B1.out⟩
  · by_cases hb' : 200 < l'.length
    · go_enter Tryd.func9, Tryd.ntmps9
      go_wp2_with fail
      refine hw.mono ?_
      rintro e w1 ⟨rfl, hb1⟩
      have B1 : Hid (Below w.heap.size w w1) := hb1
      clear hb1 hw
      go_wp2_with fail
      go_ret
      exact ⟨rfl, B1.out⟩
    · go_enter Tryd.func9, Tryd.ntmps9
      go_wp2_with fail
      refine hw.mono ?_
      rintro e w1 ⟨rfl, hb1⟩
      have B1 : Hid (Below w.heap.size w w1) := hb1
      clear hb1 hw
      go_wp2_with fail
      refine (plain_any _ l w1 (IsToks.stays HH.out B1.out) (by omega)).mono ?_
      rintro e w2 ⟨u1, rfl, hr1, hb2⟩
      have R1 : Hid (IsToks w2 u1 (plainZ l)) := hr1.reads
      have B2 : Hid (Below w.heap.size w w2) := B1.out.trans (hb2.mono B1.out.size)
      clear hr1 hb2
      go_wp2_with fail
      refine (rplain_any _ l w2 (IsToks.stays HH.out B2.out) (by omega)).mono ?_
      rintro e w3 ⟨u2, rfl, hr2, hb3⟩
      have R2 : Hid (IsToks w3 u2 (plainZ l)) := hr2.reads
      have R1' : Hid (IsToks w3 u1 (plainZ l)) := R1.out.stays hb3
      have B3 : Hid (Below w.heap.size w w3) := B2.out.trans (hb3.mono B2.out.size)
      clear hr2 hb3
      go_wp2_with fail
      refine (whole_any u1 u2 _ _ w3 R1'.out R2.out (by have := plainZ_len l; omega) (by have := plainZ_len l; omega)).mono ?_
      rintro e w4 ⟨rfl, n4, rfl⟩
      have B4 : Hid (Below w.heap.size w (w3.drewN n4)) := B3.out.trans (below_drewN _ _ _)
      generalize w3.drewN n4 = w4 at *
      have d1 : decide (plainZ l = plainZ l) = true := by simp
      rw [d1]
      clear d1
      go_wp2_with fail
      refine (rems_any _ l w4 (IsToks.stays HH.out B4.out) (by omega)).mono ?_
      rintro e w5 ⟨u3, rfl, hr3, hb5⟩
      have R3 : Hid (IsStrs w5 u3 (remZ l)) := hr3.reads
      have B5 : Hid (Below w.heap.size w w5) := B4.out.trans (hb5.mono B4.out.size)
      clear hr3 hb5
      go_wp2_with fail
      refine (rrems_any _ l w5 (IsToks.stays HH.out B5.out) (by omega)).mono ?_
      rintro e w6 ⟨u4, rfl, hr4, hb6⟩
      have R4 : Hid (IsStrs w6 u4 (remZ l)) := hr4.reads
      have R3' : Hid (IsStrs w6 u3 (remZ l)) := R3.out.stays hb6
      have B6 : Hid (Below w.heap.size w w6) := B5.out.trans (hb6.mono B5.out.size)
      clear hr4 hb6
      go_wp2_with fail
      refine (texts_any u3 u4 _ _ w6 R3'.out R4.out (by have := remZ_len l; omega) (by have := remZ_len l; omega)).mono ?_
      rintro e w7 ⟨rfl, n7, rfl⟩
      have B7 : Hid (Below w.heap.size w (w6.drewN n7)) := B6.out.trans (below_drewN _ _ _)
      generalize w6.drewN n7 = w7 at *
      have d2 : decide (remZ l = remZ l) = true := by simp
      rw [d2]
      clear d2
      go_wp2_with fail
      refine (same_any _ _ l l' w7 (IsToks.stays HH.out B7.out) (IsToks.stays HH'.out B7.out) (by omega) (by omega)).mono ?_
      rintro e w8 ⟨rfl, hb8⟩
      have B8 : Hid (Below w.heap.size w w8) := B7.out.trans (hb8.mono B7.out.size)
      clear hb8
      generalize hsb : sameB l l' = sb at *
      have HSB := Hid.out (p := Hid _) hsb; clear hsb
      go_wp2_with fail
      refine (rsame_any _ _ l l' w8 (IsToks.stays HH.out B8.out) (IsToks.stays HH'.out B8.out) (by omega) (by omega)).mono ?_
      rintro e w9 ⟨rfl, hb9⟩
      have B9 : Hid (Below w.heap.size w w9) := B8.out.trans (hb9.mono B8.out.size)
      clear hb9
      rw [HSB.out]
      cases sb
      all_goals
        go_wp2_with fail
        go_ret
        exact ⟨rfl, B9.out⟩
end Go.Proofs.YtbfkgddhpabioaaDoor.Lex
