/- jdec.Deepest, tabulariumref09.Deepest: how deep brackets stand. (Written by gen/rigd.py.) -/
import Derived.Test.YtbfkgddhpabioaaDoorRigB
import Derived.Test.YtbfkgddhpabioaaDoorJdecL
namespace Go.Proofs.YtbfkgddhpabioaaDoor.Jdec
open Go.RowKit Go.Proofs.YtbfkgddhpabioaaDoor.Strs
set_option linter.unusedVariables false
set_option linter.unusedSimpArgs false
set_option maxRecDepth 100000

theorem byte_n {c : UInt8} {n : Nat} (hn : n < 256) (h : (c.toNat : Int) = (n : Int)) : c = UInt8.ofNat n := UInt8.toNat_inj.1 (by rw [UInt8.toNat_ofNat']; omega)
theorem byte_nn {c : UInt8} {n : Nat} (h : (c.toNat : Int) ≠ (n : Int)) : c ≠ UInt8.ofNat n ∨ 256 ≤ n := by
  by_cases h2 : 256 ≤ n
  · exact .inr h2
  · exact .inl fun e => h (by rw [e, UInt8.toNat_ofNat']; omega)
theorem at_byte {s : ByteArray} {k : Nat} (h : k < s.size) : s.data.toList.drop k = s[k] :: s.data.toList.drop (k + 1) := at_cons (byte_get s k h)

set_option maxHeartbeats 4000000 in
theorem deepest_any (s : ByteArray) (w : World) (hs : s.size ≤ 1000000) :
    Calls Tryd.prog 14 #[.string s] w fun e w' => e = .returned (.int .i64 (deep s.data.toList false 0 0 : Nat)) ∧ w = w' := by
  go_enter Tryd.func14, Tryd.ntmps14
  go_wp2_with fail
  go_loopw [3, 4, 5, 6] (fun p3 p4 p5 p6 wr => ∃ (k o m : Nat) (q : Bool), p3 = .int .i64 o ∧ p4 = .int .i64 m ∧ p5 = .bool q ∧ p6 = .int .i64 k ∧ k ≤ s.size + 1 ∧ o ≤ k ∧ m ≤ k ∧ Hid (deep s.data.toList false 0 0 = deepAt s.data.toList k q o m) ∧ w = wr) (fun _ _ _ p6 _ => s.size - (intOf p6).toNat)
  case atStart => exact ⟨0, 0, 0, false, rfl, rfl, rfl, rfl, Nat.zero_le _, Nat.le_refl _, Nat.le_refl _, by rw [Hid, deepAt, List.drop_zero], rfl⟩
  case round =>
    obtain ⟨k, o, m, q, rfl, rfl, rfl, rfl, hk, ho, hm, hD, rfl⟩ := hrel
    by_cases hlt : k < s.size
    · have hat := at_byte hlt
      have HA := Hid.out (p := Hid _) hat
      clear hat
      cases q with
      | true =>
        by_cases h92 : (s[k].toNat : Int) = 92
        · have hc : s[k] = 92 := byte_n (n := 92) (by decide) h92
          have HF : Hid (deep s.data.toList false 0 0 = deepAt s.data.toList (k + 2) true o m) := by
            rw [Hid, hD.out, deepAt, HA.out, hc, deep_skip, List.drop_drop]; rfl
          clear hc
          go_wp2_with fail
          go_roundw
          case rel => exact ⟨k + 2, o, m, true, rfl, rfl, rfl, by go_num, by omega, by omega, by omega, HF.out, by trivial⟩
          case measure => simp [intOf]; omega
        by_cases h34 : (s[k].toNat : Int) = 34
        · have hc : s[k] = 34 := byte_n (n := 34) (by decide) h34
          have HF : Hid (deep s.data.toList false 0 0 = deepAt s.data.toList (k + 1) false o m) := by
            rw [Hid, hD.out, deepAt, HA.out, hc, deep_end]; rfl
          clear hc h92
          go_wp2_with fail
          go_roundw
          case rel => exact ⟨k + 1, o, m, false, rfl, rfl, rfl, by go_num, by omega, by omega, by omega, HF.out, by trivial⟩
          case measure => simp [intOf]; omega
        have HF : Hid (deep s.data.toList false 0 0 = deepAt s.data.toList (k + 1) true o m) := by
          rw [Hid, hD.out, deepAt, HA.out, deep_in _ _ _ _ ((byte_nn (n := 92) h92).resolve_right (by decide)) ((byte_nn (n := 34) h34).resolve_right (by decide))]; rfl
        have b92 : ((s[k].toNat : Int) == 92) = false := by rw [beq_eq_false_iff_ne]; exact h92
        have b34 : ((s[k].toNat : Int) == 34) = false := by rw [beq_eq_false_iff_ne]; exact h34
        clear h92 h34
        go_wp2_with fail
        go_roundw
        case rel => exact ⟨k + 1, o, m, true, rfl, rfl, rfl, by go_num, by omega, by omega, by omega, HF.out, by trivial⟩
        case measure => simp [intOf]; omega
      | false =>
        by_cases h34 : (s[k].toNat : Int) = 34
        · have hc : s[k] = 34 := byte_n (n := 34) (by decide) h34
          have HF : Hid (deep s.data.toList false 0 0 = deepAt s.data.toList (k + 1) true o m) := by
            rw [Hid, hD.out, deepAt, HA.out, hc, deep_quo]; rfl
          clear hc
          go_wp2_with fail
          go_roundw
          case rel => exact ⟨k + 1, o, m, true, rfl, rfl, rfl, by go_num, by omega, by omega, by omega, HF.out, by trivial⟩
          case measure => simp [intOf]; omega
        by_cases h91 : (s[k].toNat : Int) = 91
        · have hc : s[k] = 91 := byte_n (n := 91) (by decide) h91
          obtain ⟨mm, hmm⟩ : ∃ mm, max m (o + 1) = mm := ⟨_, rfl⟩
          have HF : Hid (deep s.data.toList false 0 0 = deepAt s.data.toList (k + 1) false (o + 1) mm) := by
            rw [Hid, hD.out, deepAt, HA.out, hc, deep_open _ _ _ _ (by decide), hmm]; rfl
          have hmx : max (m : Int) ((o : Int) + 1) = (mm : Int) := by omega
          have hmk : mm ≤ k + 1 := by omega
          clear hc hmm h34
          go_wp2_with fail
          go_roundw
          case rel => exact ⟨k + 1, o + 1, mm, false, by go_num, rfl, rfl, by go_num, by omega, by omega, by omega, HF.out, by trivial⟩
          case measure => simp [intOf]; omega
        by_cases h123 : (s[k].toNat : Int) = 123
        · have hc : s[k] = 123 := byte_n (n := 123) (by decide) h123
          obtain ⟨mm, hmm⟩ : ∃ mm, max m (o + 1) = mm := ⟨_, rfl⟩
          have HF : Hid (deep s.data.toList false 0 0 = deepAt s.data.toList (k + 1) false (o + 1) mm) := by
            rw [Hid, hD.out, deepAt, HA.out, hc, deep_open _ _ _ _ (by decide), hmm]; rfl
          have hmx : max (m : Int) ((o : Int) + 1) = (mm : Int) := by omega
          have hmk : mm ≤ k + 1 := by omega
          clear hc hmm h34 h91
          go_wp2_with fail
          go_roundw
          case rel => exact ⟨k + 1, o + 1, mm, false, by go_num, rfl, rfl, by go_num, by omega, by omega, by omega, HF.out, by trivial⟩
          case measure => simp [intOf]; omega
        by_cases h93 : (s[k].toNat : Int) = 93
        · have hc : s[k] = 93 := byte_n (n := 93) (by decide) h93
          by_cases h0 : o = 0
          · subst h0
            have HF : Hid (deep s.data.toList false 0 0 = m) := by
              rw [Hid, hD.out, deepAt, HA.out, hc, deep_shut _ _ _ _ (by decide), if_pos rfl]
            clear hc h34 h91 h123
            go_wp2_with fail
            go_ret
            exact ⟨by rw [HF.out]; rfl, rfl⟩
          · have HF : Hid (deep s.data.toList false 0 0 = deepAt s.data.toList (k + 1) false (o - 1) m) := by
              rw [Hid, hD.out, deepAt, HA.out, hc, deep_shut _ _ _ _ (by decide), if_neg h0]; rfl
            have hoz : ((o : Int) == 0) = false := by rw [beq_eq_false_iff_ne]; omega
            have hoo : (o : Int) - 1 = ((o - 1 : Nat) : Int) := by omega
            have how : o - 1 ≤ o := by omega
            clear hc h0 h34 h91 h123
            go_wp2_with fail
            go_roundw
            case rel => exact ⟨k + 1, o - 1, m, false, rfl, rfl, rfl, by go_num, by omega, by omega, by omega, HF.out, by trivial⟩
            case measure => simp [intOf]; omega
        by_cases h125 : (s[k].toNat : Int) = 125
        · have hc : s[k] = 125 := byte_n (n := 125) (by decide) h125
          by_cases h0 : o = 0
          · subst h0
            have HF : Hid (deep s.data.toList false 0 0 = m) := by
              rw [Hid, hD.out, deepAt, HA.out, hc, deep_shut _ _ _ _ (by decide), if_pos rfl]
            clear hc h34 h91 h123 h93
            go_wp2_with fail
            go_ret
            exact ⟨by rw [HF.out]; rfl, rfl⟩
          · have HF : Hid (deep s.data.toList false 0 0 = deepAt s.data.toList (k + 1) false (o - 1) m) := by
              rw [Hid, hD.out, deepAt, HA.out, hc, deep_shut _ _ _ _ (by decide), if_neg h0]; rfl
            have hoz : ((o : Int) == 0) = false := by rw [beq_eq_false_iff_ne]; omega
            have hoo : (o : Int) - 1 = ((o - 1 : Nat) : Int) := by omega
            have how : o - 1 ≤ o := by omega
            clear hc h0 h34 h91 h123 h93
            go_wp2_with fail
            go_roundw
            case rel => exact ⟨k + 1, o - 1, m, false, rfl, rfl, rfl, by go_num, by omega, by omega, by omega, HF.out, by trivial⟩
            case measure => simp [intOf]; omega
        have HF : Hid (deep s.data.toList false 0 0 = deepAt s.data.toList (k + 1) false o m) := by
          rw [Hid, hD.out, deepAt, HA.out, deep_dull _ _ _ _ ⟨(byte_nn (n := 34) h34).resolve_right (by decide), (byte_nn (n := 91) h91).resolve_right (by decide), (byte_nn (n := 123) h123).resolve_right (by decide), (byte_nn (n := 93) h93).resolve_right (by decide), (byte_nn (n := 125) h125).resolve_right (by decide)⟩]; rfl
        have b34 : ((s[k].toNat : Int) == 34) = false := by rw [beq_eq_false_iff_ne]; exact h34
        have b91 : ((s[k].toNat : Int) == 91) = false := by rw [beq_eq_false_iff_ne]; exact h91
        have b123 : ((s[k].toNat : Int) == 123) = false := by rw [beq_eq_false_iff_ne]; exact h123
        have b93 : ((s[k].toNat : Int) == 93) = false := by rw [beq_eq_false_iff_ne]; exact h93
        have b125 : ((s[k].toNat : Int) == 125) = false := by rw [beq_eq_false_iff_ne]; exact h125
        clear h34 h91 h123 h93 h125
        go_wp2_with fail
        go_roundw
        case rel => exact ⟨k + 1, o, m, false, rfl, rfl, rfl, by go_num, by omega, by omega, by omega, HF.out, by trivial⟩
        case measure => simp [intOf]; omega
    · have HF : Hid (deep s.data.toList false 0 0 = m) := by
        rw [Hid, hD.out, deepAt, List.drop_eq_nil_of_le (by simp; omega), deep_nil]
      go_wp2_with fail
      go_ret
      exact ⟨by rw [HF.out]; rfl, rfl⟩

set_option maxHeartbeats 4000000 in
theorem rdeepest_any (s : ByteArray) (w : World) (hs : s.size ≤ 1000000) :
    Calls Tryd.prog 15 #[.string s] w fun e w' => e = .returned (.int .i64 (deep s.data.toList false 0 0 : Nat)) ∧ w = w' := by
  go_enter Tryd.func15, Tryd.ntmps15
  go_wp2_with fail
  go_loopw [3, 4, 5] (fun p3 p4 p5 wr => ∃ (k o m : Nat), p3 = .int .i64 o ∧ p4 = .int .i64 m ∧ p5 = .int .i64 k ∧ k ≤ s.size + 2 ∧ o ≤ k ∧ m ≤ k ∧ o ≤ m ∧ Hid (deep s.data.toList false 0 0 = deepAt s.data.toList k false o m) ∧ w = wr) (fun _ _ p5 _ => s.size + 2 - (intOf p5).toNat)
  case atStart => exact ⟨0, 0, 0, rfl, rfl, rfl, Nat.zero_le _, Nat.le_refl _, Nat.le_refl _, Nat.le_refl _, by rw [Hid, deepAt, List.drop_zero], rfl⟩
  case round =>
    obtain ⟨k, o, m, rfl, rfl, rfl, hk, ho, hm, hom, hD, rfl⟩ := hrel
    by_cases hlt : k < s.size
    · have hat := at_byte hlt
      have HA := Hid.out (p := Hid _) hat
      clear hat
      have htm : decide ((m : Int) < (o : Int)) = false := by rw [decide_eq_false_iff_not]; omega
      have htn : decide (m < o) = false := by rw [decide_eq_false_iff_not]; omega
      by_cases h34 : (s[k].toNat : Int) = 34
      · have hc : s[k] = 34 := byte_n (n := 34) (by decide) h34
        have HF : Hid (deep s.data.toList false 0 0 = deepAt s.data.toList (k + 1) true o m) := by
          rw [Hid, hD.out, deepAt, HA.out, hc, deep_quo]; rfl
        clear hc htm htn
        go_wp2_with fail
        clear h34
        go_loopw [5] (fun p5 wr => ∃ j : Nat, p5 = .int .i64 j ∧ k + 1 ≤ j ∧ j ≤ s.size + 1 ∧ Hid (deep s.data.toList false 0 0 = deepAt s.data.toList j true o m) ∧ w = wr) (fun p5 _ => s.size + 1 - (intOf p5).toNat)
        case atStart => exact ⟨k + 1, by go_num, Nat.le_refl _, by omega, HF.out, by trivial⟩
        case round =>
          obtain ⟨j, rfl, hkj, hj, hE, hww⟩ := hrel
          by_cases hjl : j < s.size
          · have hat2 := at_byte hjl
            have HA2 := Hid.out (p := Hid _) hat2
            clear hat2
            by_cases h34 : (s[j].toNat : Int) = 34
            · have hc : s[j] = 34 := byte_n (n := 34) (by decide) h34
              have HG : Hid (deep s.data.toList false 0 0 = deepAt s.data.toList (j + 1) false o m) := by
                rw [Hid, hE.out, deepAt, HA2.out, hc, deep_end]; rfl
              clear hc
              go_wp2_with fail
              go_roundw
              case rel => exact ⟨j + 1, o, m, rfl, rfl, by go_num, by omega, by omega, by omega, hom, HG.out, by trivial⟩
              case measure => simp [intOf]; omega
            have b34 : ((s[j].toNat : Int) != 34) = true := by rw [bne_iff_ne]; exact h34
            by_cases h92 : (s[j].toNat : Int) = 92
            · have hc : s[j] = 92 := byte_n (n := 92) (by decide) h92
              have HG : Hid (deep s.data.toList false 0 0 = deepAt s.data.toList (j + 2) true o m) := by
                rw [Hid, hE.out, deepAt, HA2.out, hc, deep_skip, List.drop_drop]; rfl
              clear hc b34 h34
              go_wp2_with fail
              go_roundw
              case rel => exact ⟨j + 2, by go_num, by omega, by omega, HG.out, by trivial⟩
              case measure => simp [intOf]; omega
            have b92 : ((s[j].toNat : Int) == 92) = false := by rw [beq_eq_false_iff_ne]; exact h92
            have HG : Hid (deep s.data.toList false 0 0 = deepAt s.data.toList (j + 1) true o m) := by
              rw [Hid, hE.out, deepAt, HA2.out, deep_in _ _ _ _ ((byte_nn (n := 92) h92).resolve_right (by decide)) ((byte_nn (n := 34) h34).resolve_right (by decide))]; rfl
            clear h34 h92
            go_wp2_with fail
            go_roundw
            case rel => exact ⟨j + 1, by go_num, by omega, by omega, HG.out, by trivial⟩
            case measure => simp [intOf]; omega
          · have HG : Hid (deep s.data.toList false 0 0 = deepAt s.data.toList (j + 1) false o m) := by
              rw [Hid, hE.out, deepAt, deepAt, List.drop_eq_nil_of_le (by simp; omega), List.drop_eq_nil_of_le (by simp; omega), deep_nil, deep_nil]
            go_wp2_with fail
            go_roundw
            case rel => exact ⟨j + 1, o, m, rfl, rfl, by go_num, by omega, by omega, by omega, hom, HG.out, by trivial⟩
            case measure => simp [intOf]; omega
      have b34 : ((s[k].toNat : Int) == 34) = false := by rw [beq_eq_false_iff_ne]; exact h34
      by_cases h91 : (s[k].toNat : Int) = 91
      · have hc : s[k] = 91 := byte_n (n := 91) (by decide) h91
        by_cases hmo : m < o + 1
        · have HF : Hid (deep s.data.toList false 0 0 = deepAt s.data.toList (k + 1) false (o + 1) (o + 1)) := by
            rw [Hid, hD.out, deepAt, HA.out, hc, deep_open _ _ _ _ (by decide), show max m (o + 1) = o + 1 by omega]; rfl
          have t1 : decide ((m : Int) < (o : Int) + 1) = true := by rw [decide_eq_true_eq]; omega
          have t2 : decide (m < o + 1) = true := by rw [decide_eq_true_eq]; omega
          clear hc htm htn hmo h34
          go_wp2_with fail
          go_roundw
          case rel => exact ⟨k + 1, o + 1, o + 1, by go_num, by go_num, by go_num, by omega, by omega, by omega, by omega, HF.out, by trivial⟩
          case measure => simp [intOf]; omega
        · have HF : Hid (deep s.data.toList false 0 0 = deepAt s.data.toList (k + 1) false (o + 1) m) := by
            rw [Hid, hD.out, deepAt, HA.out, hc, deep_open _ _ _ _ (by decide), show max m (o + 1) = m by omega]; rfl
          have t1 : decide ((m : Int) < (o : Int) + 1) = false := by rw [decide_eq_false_iff_not]; omega
          have t2 : decide (m < o + 1) = false := by rw [decide_eq_false_iff_not]; omega
          have hmo2 : o + 1 ≤ m := by omega
          clear hc htm htn hmo h34
          go_wp2_with fail
          go_roundw
          case rel => exact ⟨k + 1, o + 1, m, by go_num, rfl, by go_num, by omega, by omega, by omega, by omega, HF.out, by trivial⟩
          case measure => simp [intOf]; omega
      have b91 : ((s[k].toNat : Int) == 91) = false := by rw [beq_eq_false_iff_ne]; exact h91
      by_cases h123 : (s[k].toNat : Int) = 123
      · have hc : s[k] = 123 := byte_n (n := 123) (by decide) h123
        by_cases hmo : m < o + 1
        · have HF : Hid (deep s.data.toList false 0 0 = deepAt s.data.toList (k + 1) false (o + 1) (o + 1)) := by
            rw [Hid, hD.out, deepAt, HA.out, hc, deep_open _ _ _ _ (by decide), show max m (o + 1) = o + 1 by omega]; rfl
          have t1 : decide ((m : Int) < (o : Int) + 1) = true := by rw [decide_eq_true_eq]; omega
          have t2 : decide (m < o + 1) = true := by rw [decide_eq_true_eq]; omega
          clear hc htm htn hmo h34 h91
          go_wp2_with fail
          go_roundw
          case rel => exact ⟨k + 1, o + 1, o + 1, by go_num, by go_num, by go_num, by omega, by omega, by omega, by omega, HF.out, by trivial⟩
          case measure => simp [intOf]; omega
        · have HF : Hid (deep s.data.toList false 0 0 = deepAt s.data.toList (k + 1) false (o + 1) m) := by
            rw [Hid, hD.out, deepAt, HA.out, hc, deep_open _ _ _ _ (by decide), show max m (o + 1) = m by omega]; rfl
          have t1 : decide ((m : Int) < (o : Int) + 1) = false := by rw [decide_eq_false_iff_not]; omega
          have t2 : decide (m < o + 1) = false := by rw [decide_eq_false_iff_not]; omega
          have hmo2 : o + 1 ≤ m := by omega
          clear hc htm htn hmo h34 h91
          go_wp2_with fail
          go_roundw
          case rel => exact ⟨k + 1, o + 1, m, by go_num, rfl, by go_num, by omega, by omega, by omega, by omega, HF.out, by trivial⟩
          case measure => simp [intOf]; omega
      have b123 : ((s[k].toNat : Int) == 123) = false := by rw [beq_eq_false_iff_ne]; exact h123
      by_cases h93 : (s[k].toNat : Int) = 93
      · have hc : s[k] = 93 := byte_n (n := 93) (by decide) h93
        by_cases h0 : o = 0
        · subst h0
          have HF : Hid (deep s.data.toList false 0 0 = m) := by
            rw [Hid, hD.out, deepAt, HA.out, hc, deep_shut _ _ _ _ (by decide), if_pos rfl]
          clear hc htm htn h34 h91 h123
          go_wp2_with fail
          go_ret
          exact ⟨by rw [HF.out]; rfl, rfl⟩
        · have HF : Hid (deep s.data.toList false 0 0 = deepAt s.data.toList (k + 1) false (o - 1) m) := by
            rw [Hid, hD.out, deepAt, HA.out, hc, deep_shut _ _ _ _ (by decide), if_neg h0]; rfl
          obtain ⟨p, hp⟩ : ∃ p, o = p + 1 := ⟨o - 1, by omega⟩
          subst hp
          have hoo : ((p + 1 : Nat) : Int) - 1 = (p : Int) := by omega
          have t1 : decide ((m : Int) < (p : Int)) = false := by rw [decide_eq_false_iff_not]; omega
          have t2 : decide (m < p) = false := by rw [decide_eq_false_iff_not]; omega
          rw [Nat.add_sub_cancel] at HF
          clear hc h0 htm htn h34 h91 h123
          go_wp2_with fail
          go_roundw
          case rel => exact ⟨k + 1, p, m, by go_num, rfl, by go_num, by omega, by omega, by omega, by omega, HF.out, by trivial⟩
          case measure => simp [intOf]; omega
      have b93 : ((s[k].toNat : Int) == 93) = false := by rw [beq_eq_false_iff_ne]; exact h93
      by_cases h125 : (s[k].toNat : Int) = 125
      · have hc : s[k] = 125 := byte_n (n := 125) (by decide) h125
        by_cases h0 : o = 0
        · subst h0
          have HF : Hid (deep s.data.toList false 0 0 = m) := by
            rw [Hid, hD.out, deepAt, HA.out, hc, deep_shut _ _ _ _ (by decide), if_pos rfl]
          clear hc htm htn h34 h91 h123 h93
          go_wp2_with fail
          go_ret
          exact ⟨by rw [HF.out]; rfl, rfl⟩
        · have HF : Hid (deep s.data.toList false 0 0 = deepAt s.data.toList (k + 1) false (o - 1) m) := by
            rw [Hid, hD.out, deepAt, HA.out, hc, deep_shut _ _ _ _ (by decide), if_neg h0]; rfl
          obtain ⟨p, hp⟩ : ∃ p, o = p + 1 := ⟨o - 1, by omega⟩
          subst hp
          have hoo : ((p + 1 : Nat) : Int) - 1 = (p : Int) := by omega
          have t1 : decide ((m : Int) < (p : Int)) = false := by rw [decide_eq_false_iff_not]; omega
          have t2 : decide (m < p) = false := by rw [decide_eq_false_iff_not]; omega
          rw [Nat.add_sub_cancel] at HF
          clear hc h0 htm htn h34 h91 h123 h93
          go_wp2_with fail
          go_roundw
          case rel => exact ⟨k + 1, p, m, by go_num, rfl, by go_num, by omega, by omega, by omega, by omega, HF.out, by trivial⟩
          case measure => simp [intOf]; omega
      have b125 : ((s[k].toNat : Int) == 125) = false := by rw [beq_eq_false_iff_ne]; exact h125
      have HF : Hid (deep s.data.toList false 0 0 = deepAt s.data.toList (k + 1) false o m) := by
        rw [Hid, hD.out, deepAt, HA.out, deep_dull _ _ _ _ ⟨(byte_nn (n := 34) h34).resolve_right (by decide), (byte_nn (n := 91) h91).resolve_right (by decide), (byte_nn (n := 123) h123).resolve_right (by decide), (byte_nn (n := 93) h93).resolve_right (by decide), (byte_nn (n := 125) h125).resolve_right (by decide)⟩]; rfl
      have t0 : decide ((o : Int) < 0) = false := by rw [decide_eq_false_iff_not]; omega
      clear h34 h91 h123 h93 h125
      go_wp2_with fail
      go_roundw
      case rel => exact ⟨k + 1, o, m, rfl, rfl, by go_num, by omega, by omega, by omega, by omega, HF.out, by trivial⟩
      case measure => simp [intOf]; omega
    · have HF : Hid (deep s.data.toList false 0 0 = m) := by
        rw [Hid, hD.out, deepAt, List.drop_eq_nil_of_le (by simp; omega), deep_nil]
      go_wp2_with fail
      go_ret
      exact ⟨by rw [HF.out]; rfl, rfl⟩
end Go.Proofs.YtbfkgddhpabioaaDoor.Jdec
