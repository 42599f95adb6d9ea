/- tabulariumref02.Bad, Valid. -/
import Derived.Test.YtbfkgddhpabioaaDoorRefOB
namespace Go.Proofs.YtbfkgddhpabioaaDoor.Utf
open Go.RowKit Go.Proofs.YtbfkgddhpabioaaDoor.Quote Go.Proofs.YtbfkgddhpabioaaDoor.Strs
set_option linter.unusedVariables false
set_option linter.unusedSimpArgs false
set_option maxRecDepth 100000

theorem rbad_any (s : ByteArray) (w : World) (hs : s.size ≤ 4611686018427387904) :
    Calls Tryd.prog 90 #[.string s] w fun e w' => e = .returned (.int .i64 (badZ s.data.toList)) ∧ Below w.heap.size w w' := by
  go_enter Tryd.func90, Tryd.ntmps90
  go_wp2_with fail
  go_loopw [3] (fun p wr => ∃ k : Nat, k ≤ s.size ∧ p = .int .i64 k ∧ Hid (bad (s.data.toList.length + 1) s.data.toList 0 = bad (s.data.toList.length - k + 1) (s.data.toList.drop k) k) ∧ Hid (Below w.heap.size w wr)) (fun p _ => s.size - (intOf p).toNat)
  case atStart => exact ⟨0, Nat.zero_le _, rfl, rfl, Below.refl _ _⟩
  case round =>
    obtain ⟨k, hk, rfl, hb, hB⟩ := hrel
    have hl : s.data.toList.length = s.size := by simp
    by_cases hlt : k < s.size
    · have h1 := one_size_le (s.data.toList.drop k)
      rw [List.length_drop, hl] at h1
      have hst := badZ_step s.data.toList k (by rw [hl]; omega)
      rw [hl, if_neg (by omega)] at hst
      have HS := Hid.out (p := Hid _) hst; clear hst
      have HL := Hid.out (p := Hid _) hl; clear hl
      go_wp2_with fail
      refine (rone_any s k wr (by omega) hs).mono ?_
      rintro e w1 ⟨rfl, hb1⟩
      have B1 : Hid (Below w.heap.size w w1) := hB.out.trans (hb1.mono hB.out.size)
      clear hb1
      generalize one (s.data.toList.drop k) = o at *
      obtain ⟨c, z⟩ := o
      simp only at h1 HS
      by_cases hz : z = 0
      · subst hz
        go_wp2_with fail
        go_ret
        refine ⟨ret_i64 ?_, B1.out⟩
        unfold badZ
        rw [hb.out, HL.out, HS.out]
        rfl
      · have hzb : ((z : Int) == 0) = false := by simp; omega
        go_wp2_with fail
        go_roundw
        case rel => exact ⟨k + z, by omega, by go_num, by rw [Hid, hb.out, HL.out, HS.out, if_neg hz], B1.out⟩
        case measure => simp [intOf]; omega
    · obtain rfl : k = s.size := by omega
      go_wp2_with fail
      go_ret
      refine ⟨ret_i64 ?_, hB.out⟩
      unfold badZ
      rw [hb.out, badZ_step _ _ (by simp)]
      simp

def validB (l : List UInt8) : Bool := (bad (l.length + 1) l 0).isNone
theorem badZ_neg (l : List UInt8) : decide (badZ l < 0) = validB l := by
  unfold badZ validB
  cases bad (l.length + 1) l 0 with
  | none => rfl
  | some k => simp
theorem rvalid_any (s : ByteArray) (w : World) (hs : s.size ≤ 4611686018427387904) :
    Calls Tryd.prog 66 #[.string s] w fun e w' => e = .returned (.bool (validB s.data.toList)) ∧ Below w.heap.size w w' := by
  have hv := badZ_neg s.data.toList
  have hc := rbad_any s w hs
  obtain ⟨z, hz⟩ : ∃ z, badZ s.data.toList = z := ⟨_, rfl⟩
  rw [hz] at hv hc
  clear hz
  have HV := Hid.out (p := Hid _) hv; clear hv
  go_enter Tryd.func66, Tryd.ntmps66
  go_wp2_with fail
  refine hc.mono ?_
  rintro e w1 ⟨rfl, hb1⟩
  have B1 : Hid (Below w.heap.size w w1) := hb1
  clear hb1
  go_wp2_with fail
  go_ret
  exact ⟨by rw [← HV.out]; rfl, B1.out⟩
end Go.Proofs.YtbfkgddhpabioaaDoor.Utf
