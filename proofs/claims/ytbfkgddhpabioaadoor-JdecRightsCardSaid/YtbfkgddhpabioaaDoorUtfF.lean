/- utf.first at every place; utf.Bad, utf.Valid. -/
import Derived.Test.YtbfkgddhpabioaaDoorUtfW
namespace Go.Proofs.YtbfkgddhpabioaaDoor.Utf
open Go.RowKit
set_option linter.unusedVariables false
set_option linter.unusedSimpArgs false

theorem first_any (s : ByteArray) (i : Nat) (w : World) (hi : i ≤ 4611686018427387904) (hs : s.size ≤ 4611686018427387904) (T : Sizes w) :
    Calls Tryd.prog 132 #[.string s, .int .i64 i] w (First s i w) := by
  by_cases h0 : i < s.size
  · have h256 : s[i].toNat < 256 := UInt8.toNat_lt _
    by_cases c1 : s[i].toNat < 128
    · exact first_ascii s i w h0 hs T c1
    by_cases c2 : sizeAt s[i].toNat = 0 ∨ s.size - i < sizeAt s[i].toNat
    · exact first_zero s i w h0 hs T c2
    have hz : sizeAt s[i].toNat = 2 ∧ 192 ≤ s[i].toNat ∧ s[i].toNat < 224 ∨ sizeAt s[i].toNat = 3 ∧ 224 ≤ s[i].toNat ∧ s[i].toNat < 240 ∨ sizeAt s[i].toNat = 4 ∧ 240 ≤ s[i].toNat ∧ s[i].toNat < 248 := by
      unfold sizeAt at c2 ⊢; (repeat' split) <;> (repeat' split at c2) <;> omega
    rcases hz with ⟨hz, a, b⟩ | ⟨hz, a, b⟩ | ⟨hz, a, b⟩
    · have hk : i + 1 < s.size := by omega
      cases g1 : cont (s[i + 1]'(by omega)).toNat
      · exact first_2_bad1 s i w h0 hs T a b hk g1
      · cases q : scalarB (s[i].toNat % 32 * 64 + s[i + 1].toNat % 64)
        · exact first_2_noscalar s i w h0 hs T a b hk g1 _ rfl q
        · by_cases q2 : width (s[i].toNat % 32 * 64 + s[i + 1].toNat % 64) = 2
          · exact first_2_ok s i w h0 hs T a b hk g1 _ rfl q q2
          · exact first_2_nowidth s i w h0 hs T a b hk g1 _ rfl q q2
    · have hk : i + 2 < s.size := by omega
      cases g1 : cont (s[i + 1]'(by omega)).toNat
      · exact first_3_bad1 s i w h0 hs T a b hk g1
      cases g2 : cont (s[i + 2]'(by omega)).toNat
      · exact first_3_bad2 s i w h0 hs T a b hk g1 g2
      · cases q : scalarB ((s[i].toNat % 16 * 64 + s[i + 1].toNat % 64) * 64 + s[i + 2].toNat % 64)
        · exact first_3_noscalar s i w h0 hs T a b hk g1 g2 _ rfl q
        · by_cases q2 : width ((s[i].toNat % 16 * 64 + s[i + 1].toNat % 64) * 64 + s[i + 2].toNat % 64) = 3
          · exact first_3_ok s i w h0 hs T a b hk g1 g2 _ rfl q q2
          · exact first_3_nowidth s i w h0 hs T a b hk g1 g2 _ rfl q q2
    · have hk : i + 3 < s.size := by omega
      cases g1 : cont (s[i + 1]'(by omega)).toNat
      · exact first_4_bad1 s i w h0 hs T a b hk g1
      cases g2 : cont (s[i + 2]'(by omega)).toNat
      · exact first_4_bad2 s i w h0 hs T a b hk g1 g2
      cases g3 : cont (s[i + 3]'(by omega)).toNat
      · exact first_4_bad3 s i w h0 hs T a b hk g1 g2 g3
      · cases q : scalarB (((s[i].toNat % 8 * 64 + s[i + 1].toNat % 64) * 64 + s[i + 2].toNat % 64) * 64 + s[i + 3].toNat % 64)
        · exact first_4_noscalar s i w h0 hs T a b hk g1 g2 g3 _ rfl q
        · by_cases q2 : width (((s[i].toNat % 8 * 64 + s[i + 1].toNat % 64) * 64 + s[i + 2].toNat % 64) * 64 + s[i + 3].toNat % 64) = 4
          · exact first_4_ok s i w h0 hs T a b hk g1 g2 g3 _ rfl q q2
          · exact first_4_nowidth s i w h0 hs T a b hk g1 g2 g3 _ rfl q q2
  · exact first_end s i w (by omega) hi

/-- The place where a text ends to be one: -1, if nowhere. -/
def badZ (l : List UInt8) : Int := match bad (l.length + 1) l 0 with | some p => p | none => -1
theorem bad_mono : ∀ (n m : Nat) (l : List UInt8) (p : Nat), l.length < n → l.length < m → bad n l p = bad m l p
  | 0, _, _, _, h, _ => by omega
  | _ + 1, 0, _, _, _, h => by omega
  | n + 1, m + 1, l, p, h, h' => by
    unfold bad
    by_cases hl : l = []
    · rw [if_pos hl, if_pos hl]
    · rw [if_neg hl, if_neg hl]
      by_cases hz : (one l).2 = 0
      · rw [if_pos hz, if_pos hz]
      · rw [if_neg hz, if_neg hz]
        have h1 := (one_size_le l).1
        exact bad_mono n m _ _ (by rw [List.length_drop]; omega) (by rw [List.length_drop]; omega)

/-- What is left of the search at a place. -/
theorem badZ_step (l : List UInt8) (k : Nat) (hk : k ≤ l.length) :
    bad (l.length - k + 1) (l.drop k) k = if k = l.length then none else if (one (l.drop k)).2 = 0 then some k else bad (l.length - (k + (one (l.drop k)).2) + 1) (l.drop (k + (one (l.drop k)).2)) (k + (one (l.drop k)).2) := by
  conv => lhs; unfold bad
  by_cases h : k = l.length
  · subst h; simp
  · have hne : ¬ l.drop k = [] := by intro e; have := congrArg List.length e; simp at this; omega
    rw [if_neg hne, if_neg h]
    by_cases hz : (one (l.drop k)).2 = 0
    · rw [if_pos hz, if_pos hz]
    · rw [if_neg hz, if_neg hz, List.drop_drop]
      have h1 := (one_size_le (l.drop k)).1
      rw [List.length_drop] at h1
      exact bad_mono _ _ _ _ (by rw [List.length_drop]; omega) (by rw [List.length_drop]; omega)

theorem ret_i64 {a b : Int} (h : a = b) : Ending.returned (.int .i64 a) = .returned (.int .i64 b) := by rw [h]

theorem bad_any (s : ByteArray) (w : World) (hs : s.size ≤ 4611686018427387904) (T : Sizes w) :
    Calls Tryd.prog 118 #[.string s] w fun e w' => e = .returned (.int .i64 (badZ s.data.toList)) ∧ w = w' := by
  have HT := Hid.out (p := Hid _) T; clear T
  go_enter Tryd.func118, Tryd.ntmps118
  go_wp2_with fail
  go_loop [3] (fun p => ∃ k : Nat, k ≤ s.size ∧ p = .int .i64 k ∧ Hid (bad (s.data.toList.length + 1) s.data.toList 0 = bad (s.data.toList.length - k + 1) (s.data.toList.drop k) k)) (fun p => s.size - (intOf p).toNat)
  case atStart => exact ⟨0, Nat.zero_le _, rfl, rfl⟩
  case round =>
    obtain ⟨k, hk, rfl, hb⟩ := hrel
    have hl : s.data.toList.length = s.size := by simp
    by_cases hlt : k < s.size
    · have h1 := one_size_le (s.data.toList.drop k)
      rw [List.length_drop, hl] at h1
      have hst := badZ_step s.data.toList k (by rw [hl]; omega)
      rw [hl, if_neg (by omega)] at hst
      have HS := Hid.out (p := Hid _) hst; clear hst
      have HL := Hid.out (p := Hid _) hl; clear hl
      go_wp2_with fail
      refine (first_any s k w (by omega) hs HT).mono ?_
      rintro e w' ⟨rfl, rfl⟩
      generalize one (s.data.toList.drop k) = o at *
      obtain ⟨c, z⟩ := o
      simp only at h1 HS
      by_cases hz : z = 0
      · subst hz
        go_wp2_with fail
        go_ret
        refine ⟨ret_i64 ?_, rfl⟩
        unfold badZ
        rw [hb.out, HL.out, HS.out]
        rfl
      · have hzb : ((z : Int) == 0) = false := by simp; omega
        go_wp2_with fail
        go_round
        case rel => exact ⟨k + z, by omega, by go_num, by rw [Hid, hb.out, HL.out, HS.out, if_neg hz]⟩
        case measure => simp [intOf]; omega
    · obtain rfl : k = s.size := by omega
      go_wp2_with fail
      go_ret
      refine ⟨ret_i64 ?_, rfl⟩
      unfold badZ
      rw [hb.out, badZ_step _ _ (by simp)]
      simp
end Go.Proofs.YtbfkgddhpabioaaDoor.Utf
