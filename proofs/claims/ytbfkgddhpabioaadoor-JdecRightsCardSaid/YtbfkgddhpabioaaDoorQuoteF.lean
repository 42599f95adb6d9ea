/- quote.reader: four. -/
import Derived.Test.YtbfkgddhpabioaaDoorQuoteN
import Derived.Test.YtbfkgddhpabioaaDoorUtfP
namespace Go.Proofs.YtbfkgddhpabioaaDoor.Quote
open Go.RowKit Go.Proofs.YtbfkgddhpabioaaDoor.Utf
set_option linter.unusedVariables false
set_option linter.unusedSimpArgs false
set_option maxRecDepth 100000

theorem or16 (n d : Nat) (D : Int) (hD : D = d) (hn : n < 1048576) (hd : d < 16) : bits .or .i64 ((n : Int) * 16) D = ((n * 16 + d : Nat) : Int) := by
  subst hD
  rw [show ((n : Int) * 16) = ((n * 16 : Nat) : Int) by omega, Bits.or_nat _ _ (by omega) (by omega)]
  have := Nat.shiftLeft_add_eq_or_of_lt (i := 4) (b := d) (by omega) n
  rw [Nat.shiftLeft_eq] at this
  exact congrArg _ this.symm
theorem int_i64 {a b : Int} (h : a = b) : Value.int .i64 a = Value.int .i64 b := by rw [h]

theorem drop_cons (s : ByteArray) (p : Nat) (h : p < s.size) : s.data.toList.drop p = s[p] :: s.data.toList.drop (p + 1) := by
  rw [List.drop_eq_getElem_cons (by simpa using h)]; rfl
theorem drop_end (s : ByteArray) (p : Nat) (h : s.size ≤ p) : s.data.toList.drop p = [] := List.drop_eq_nil_of_le (by simpa using h)

/-- What 'four' comes to, the place being carried. -/
def fourR (src : ByteArray) (p : Nat) (out : List UInt8) : Except Nat (Value × Nat × List UInt8) :=
  match four 4 0 (src.data.toList.drop p) with
  | .error k => .error k
  | .ok n => .ok (.int .i64 n, p + 4, out)

set_option maxHeartbeats 1000000 in
theorem four_any (B b : Nat) (src : ByteArray) (p : Nat) (out : List UInt8) (w : World) (h : Rdr w B b src p out) (hp : p ≤ src.size) (hs : src.size ≤ 1152921504606846976) :
    Calls Tryd.prog 137 #[.pointer (some ⟨b, 0, none⟩)] w (RPost B b src w (fourR src p out)) := by
  have H := Hid.out (p := Hid _) h; clear h
  obtain ⟨r, hr⟩ : ∃ r, r = fourR src p out := ⟨_, rfl⟩
  rw [← hr]
  have HR := Hid.out (p := Hid _) hr; clear hr
  go_enter Tryd.func137, Tryd.ntmps137
  go_wp2_with fail
  go_loopw [3, 5] (fun v i wr => ∃ (k n : Nat), k ≤ 4 ∧ i = .int .i64 k ∧ v = .int .i64 n ∧ n < 16 ^ k ∧ p + k ≤ src.size ∧ Hid (Rdr wr B b src (p + k) out ∧ Keeps B b w wr ∧ four 4 0 (src.data.toList.drop p) = four (4 - k) n (src.data.toList.drop (p + k)))) (fun _ i _ => 4 - (intOf i).toNat)
  case atStart => exact ⟨0, 0, by omega, rfl, rfl, by omega, by omega, H.out, Keeps.refl _ _ _, rfl⟩
  case round =>
    obtain ⟨k, n, hk, rfl, rfl, hn, hpk, J⟩ := hrel
    by_cases hlt : k < 4
    · have hn6 : n < 65536 := Nat.lt_of_lt_of_le hn (Nat.pow_le_pow_right (by omega) (by omega : k ≤ 4))
      have e4 : Hid (4 - k = (3 - k) + 1) := by unfold Hid; omega
      by_cases hend : p + k < src.size
      · have hc : src[p + k].toNat < 256 := UInt8.toNat_lt _
        have hcons := Hid.out (p := Hid _) (drop_cons src (p + k) hend)
        go_wp2_with fail
        refine (next_ok B b src (p + k) out wr J.out.1 hend (by omega)).mono ?_
        rintro e w1 ⟨hk1, rfl, h1⟩
        have H1 := Hid.out (p := Hid _) h1; clear h1
        have K1 : Hid (Keeps B b w w1) := J.out.2.1.trans hk1
        clear hk1
        cases hx : hexv src[p + k].toNat with
        | none =>
          have hf : Hid (r = .error 3) := by
            rw [Hid, HR.out, fourR, J.out.2.2, e4.out, hcons.out]
            unfold four
            rw [hx]
          have q1 : ¬ (48 ≤ src[p + k].toNat ∧ src[p + k].toNat ≤ 57) := by intro h; simp [hexv, h] at hx
          have q2 : ¬ (97 ≤ src[p + k].toNat ∧ src[p + k].toNat ≤ 102) := by
            intro h
            rw [hexv, if_neg (by omega), if_pos h] at hx
            cases hx
          have q3 : ¬ (65 ≤ src[p + k].toNat ∧ src[p + k].toNat ≤ 70) := by
            intro h
            rw [hexv, if_neg (by omega), if_neg (by omega), if_pos h] at hx
            cases hx
          clear hx hcons
          generalize src[p + k].toNat = c at *
          have hfin : ∀ (a : Act), a.defers = [] → bodyPost Tryd.prog Tryd.f137 (RPost B b src w r) (.panic (thrown 3)) a w1 := by
            intro a ha
            exact ⟨ha, by rw [hf.out]; exact ⟨K1.out, rfl⟩⟩
          have HF := Hid.out (p := Hid _) hfin; clear hfin
          have hr : c < 48 ∨ 58 ≤ c ∧ c < 65 ∨ 71 ≤ c ∧ c < 97 ∨ 103 ≤ c := by omega
          rcases hr with hr | hr | hr | hr
          · have d0 : decide (48 ≤ (c : Int)) = false := by simp; omega
            have d1 : decide (97 ≤ (c : Int)) = false := by simp; omega
            have d2 : decide (65 ≤ (c : Int)) = false := by simp; omega
            go_wp2_with fail
            refine (fail_any 3 _).mono ?_
            rintro e w' ⟨rfl, rfl⟩
            go_wp2_with fail
            exact HF.out _ rfl
          · have d0 : decide (48 ≤ (c : Int)) = true := by simp; omega
            have d1 : decide ((c : Int) ≤ 57) = false := by simp; omega
            have d2 : decide (97 ≤ (c : Int)) = false := by simp; omega
            have d3 : decide (65 ≤ (c : Int)) = false := by simp; omega
            go_wp2_with fail
            refine (fail_any 3 _).mono ?_
            rintro e w' ⟨rfl, rfl⟩
            go_wp2_with fail
            exact HF.out _ rfl
          · have d0 : decide (48 ≤ (c : Int)) = true := by simp; omega
            have d1 : decide ((c : Int) ≤ 57) = false := by simp; omega
            have d2 : decide (97 ≤ (c : Int)) = false := by simp; omega
            have d3 : decide (65 ≤ (c : Int)) = true := by simp; omega
            have d4 : decide ((c : Int) ≤ 70) = false := by simp; omega
            go_wp2_with fail
            refine (fail_any 3 _).mono ?_
            rintro e w' ⟨rfl, rfl⟩
            go_wp2_with fail
            exact HF.out _ rfl
          · have d0 : decide (48 ≤ (c : Int)) = true := by simp; omega
            have d1 : decide ((c : Int) ≤ 57) = false := by simp; omega
            have d2 : decide (97 ≤ (c : Int)) = true := by simp; omega
            have d3 : decide ((c : Int) ≤ 102) = false := by simp; omega
            have d4 : decide (65 ≤ (c : Int)) = true := by simp; omega
            have d5 : decide ((c : Int) ≤ 70) = false := by simp; omega
            go_wp2_with fail
            refine (fail_any 3 _).mono ?_
            rintro e w' ⟨rfl, rfl⟩
            go_wp2_with fail
            exact HF.out _ rfl
        | some d =>
          have hd := hexv_lt hx
          have hst : Hid (four 4 0 (src.data.toList.drop p) = four (4 - (k + 1)) (n * 16 + d) (src.data.toList.drop (p + (k + 1)))) := by
            have e5 : 4 - (k + 1) = 3 - k := by omega
            rw [Hid, J.out.2.2, e4.out, hcons.out, e5]
            conv => lhs; unfold four
            rw [hx]
            rfl
          have hn1 : n * 16 + d < 16 ^ (k + 1) := by rw [Nat.pow_succ]; omega
          have hv : 48 ≤ src[p + k].toNat ∧ src[p + k].toNat ≤ 57 ∧ d = src[p + k].toNat - 48 ∨ 97 ≤ src[p + k].toNat ∧ src[p + k].toNat ≤ 102 ∧ d = src[p + k].toNat - 87 ∨ 65 ≤ src[p + k].toNat ∧ src[p + k].toNat ≤ 70 ∧ d = src[p + k].toNat - 55 := by
            unfold hexv at hx
            repeat' split at hx
            all_goals simp at hx
            all_goals omega
          clear hx hcons
          generalize src[p + k].toNat = c at *
          rcases hv with ⟨v1, v2, v3⟩ | ⟨v1, v2, v3⟩ | ⟨v1, v2, v3⟩
          · have d0 : decide (48 ≤ (c : Int)) = true := by simp; omega
            have d1 : decide ((c : Int) ≤ 57) = true := by simp; omega
            have V3 := Hid.out (p := Hid _) v3; clear v3
            go_wp2_with fail
            go_roundw
            case rel => exact ⟨k + 1, n * 16 + d, by omega, by go_num, int_i64 (or16 n d ((c : Int) - 48) (by have := V3.out; omega) (by omega) hd), hn1, by omega, by have := H1.out; rwa [show p + k + 1 = p + (k + 1) by omega] at this, K1.out, hst.out⟩
            case measure => simp [intOf]; omega
          · have d0 : decide (48 ≤ (c : Int)) = true := by simp; omega
            have d1 : decide ((c : Int) ≤ 57) = false := by simp; omega
            have d2 : decide (97 ≤ (c : Int)) = true := by simp; omega
            have d3 : decide ((c : Int) ≤ 102) = true := by simp; omega
            have V3 := Hid.out (p := Hid _) v3; clear v3
            go_wp2_with fail
            go_roundw
            case rel => exact ⟨k + 1, n * 16 + d, by omega, by go_num, int_i64 (or16 n d ((c : Int) - 97 + 10) (by have := V3.out; omega) (by omega) hd), hn1, by omega, by have := H1.out; rwa [show p + k + 1 = p + (k + 1) by omega] at this, K1.out, hst.out⟩
            case measure => simp [intOf]; omega
          · have d0 : decide (48 ≤ (c : Int)) = true := by simp; omega
            have d1 : decide ((c : Int) ≤ 57) = false := by simp; omega
            have d2 : decide (97 ≤ (c : Int)) = false := by simp; omega
            have d3 : decide (65 ≤ (c : Int)) = true := by simp; omega
            have d4 : decide ((c : Int) ≤ 70) = true := by simp; omega
            have V3 := Hid.out (p := Hid _) v3; clear v3
            go_wp2_with fail
            go_roundw
            case rel => exact ⟨k + 1, n * 16 + d, by omega, by go_num, int_i64 (or16 n d ((c : Int) - 65 + 10) (by have := V3.out; omega) (by omega) hd), hn1, by omega, by have := H1.out; rwa [show p + k + 1 = p + (k + 1) by omega] at this, K1.out, hst.out⟩
            case measure => simp [intOf]; omega
      · have hf : Hid (r = .error 2) := by
          rw [Hid, HR.out, fourR, J.out.2.2, e4.out, drop_end _ _ (by omega)]
          rfl
        go_wp2_with fail
        refine (next_end B b src (p + k) out wr J.out.1 (by omega) (by omega) (by omega)).mono ?_
        rintro e w1 ⟨hk1, rfl⟩
        have K1 : Hid (Keeps B b w w1) := J.out.2.1.trans hk1
        clear hk1
        go_wp2_with fail
        exact ⟨rfl, by rw [hf.out]; exact ⟨K1.out, rfl⟩⟩
    · obtain rfl : k = 4 := by omega
      have hf : Hid (r = .ok (.int .i64 n, p + 4, out)) := by
        rw [Hid, HR.out, fourR, J.out.2.2]
        rfl
      go_wp2_with fail
      go_ret
      rw [hf.out]
      exact ⟨J.out.2.1, rfl, J.out.1⟩
end Go.Proofs.YtbfkgddhpabioaaDoor.Quote
