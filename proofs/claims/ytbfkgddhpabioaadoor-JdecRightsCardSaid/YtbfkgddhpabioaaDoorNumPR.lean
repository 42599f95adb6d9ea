/- num.powerOf. -/
import Derived.Test.YtbfkgddhpabioaaDoorNumC
namespace Go.Proofs.YtbfkgddhpabioaaDoor.Num
open Go.RowKit
set_option linter.unusedVariables false
set_option linter.unusedSimpArgs false
set_option maxRecDepth 100000

theorem extract1 (s : ByteArray) : (s.extract 1 s.size).data.toList = s.data.toList.drop 1 := by
  simp [ByteArray.data_extract, Array.toList_extract, List.extract_eq_take_drop]
  rw [List.take_of_length_le (by simp)]
theorem foldl_drop (l : List UInt8) (t : ByteArray) (n i : Nat) (h : i < t.size) : (t.data.toList.drop i).foldl pstep n = (t.data.toList.drop (i + 1)).foldl pstep (pstep n t[i]) := by
  rw [drop_byte t i h]; rfl
theorem wrap_sub48 (c : Nat) (h : c < 256) : IntKind.u8.wrap ((c : Int) - 48) = (((c + 208) % 256 : Nat) : Int) := by
  simp [IntKind.wrap, IntKind.bits, IntKind.signed]; omega

set_option maxHeartbeats 2000000 in
theorem power_m (s : ByteArray) (w : World) (h : 0 < s.size) (hs : s.size ≤ 4611686018427387904) (hc : s[0].toNat = 45) :
    Calls Tryd.prog 84 #[.string s] w fun e w' => e = .returned (.int .i64 (power s.data.toList)) ∧ w = w' := by
  have hl0 : s.data.toList = s[0] :: s.data.toList.drop 1 := by have := drop_byte s 0 h; simpa using this
  obtain ⟨t, ht⟩ : ∃ t, t = s.extract 1 s.size := ⟨_, rfl⟩
  have htl : t.data.toList = s.data.toList.drop 1 := by rw [ht]; exact extract1 s
  have hts0 : s.size - 1 = t.size := by rw [ht, ByteArray.size_extract]; omega
  have hsz : t.size ≤ 4611686018427387904 := by omega
  have hts := Hid.out (p := Hid _) hts0; clear hts0
  have HP : Hid (power s.data.toList = -(pdigits t.data.toList : Int)) := by
    unfold Hid
    rw [hl0]; show (if s[0].toNat = 45 then _ else _) = _; rw [if_pos hc, ← htl]
  have q45 : ((s[0].toNat : Int) == 45) = true := by rw [beq_iff_eq]; omega
  clear hc hl0 htl
  go_enter Tryd.func84, Tryd.ntmps84
  go_wp2_with fail
  rw [← ht, hts.out]
  clear ht
  go_loop [4, 5, 19] (fun p4 p5 p19 => ∃ (i n : Nat), i ≤ t.size ∧ n ≤ 1099511627776 ∧ p4 = .int .i64 n ∧ p19 = .int .i64 i ∧ Hid (pdigits t.data.toList = (t.data.toList.drop i).foldl pstep n)) (fun p4 p5 p19 => t.size - (intOf p19).toNat)
  case atStart => exact ⟨0, 0, Nat.zero_le _, by omega, rfl, rfl, rfl⟩
  case round =>
    obtain ⟨i, n, hi, hn, rfl, rfl, hf⟩ := hrel
    by_cases hlt : i < t.size
    · have HS : Hid (pdigits t.data.toList = (t.data.toList.drop (i + 1)).foldl pstep (pstep n t[i])) := by rw [Hid, hf.out, foldl_drop s.data.toList t n i hlt]
      have hps := pstep_le n t[i]
      have hw8 := wrap_sub48 t[i].toNat (UInt8.toNat_lt _)
      have hdd : (t[i].toNat + 208) % 256 < 256 := Nat.mod_lt _ (by omega)
      have hmin : (if (1099511627776 : Int) < (n : Int) * 10 + (((t[i].toNat + 208) % 256 : Nat) : Int) then (1099511627776 : Int) else (n : Int) * 10 + (((t[i].toNat + 208) % 256 : Nat) : Int)) = (pstep n t[i] : Int) := by
        unfold pstep; split <;> omega
      generalize pstep n t[i] = m at *
      generalize (t[i].toNat + 208) % 256 = dd at *
      go_wp2_with fail
      go_round
      case rel => exact ⟨i + 1, m, by omega, hps, rfl, by go_num, HS.out⟩
      case measure => simp [intOf]; omega
    · obtain rfl : i = t.size := by omega
      have hfin : Hid (pdigits t.data.toList = n) := by rw [Hid, hf.out, List.drop_of_length_le (by simp)]; rfl
      go_wp2_with fail
      go_ret
      exact ⟨by rw [HP.out, hfin.out]; rfl, rfl⟩

set_option maxHeartbeats 2000000 in
theorem power_p (s : ByteArray) (w : World) (h : 0 < s.size) (hs : s.size ≤ 4611686018427387904) (hc : s[0].toNat = 43) :
    Calls Tryd.prog 84 #[.string s] w fun e w' => e = .returned (.int .i64 (power s.data.toList)) ∧ w = w' := by
  have hl0 : s.data.toList = s[0] :: s.data.toList.drop 1 := by have := drop_byte s 0 h; simpa using this
  obtain ⟨t, ht⟩ : ∃ t, t = s.extract 1 s.size := ⟨_, rfl⟩
  have htl : t.data.toList = s.data.toList.drop 1 := by rw [ht]; exact extract1 s
  have hts0 : s.size - 1 = t.size := by rw [ht, ByteArray.size_extract]; omega
  have hsz : t.size ≤ 4611686018427387904 := by omega
  have hts := Hid.out (p := Hid _) hts0; clear hts0
  have HP : Hid (power s.data.toList = (pdigits t.data.toList : Int)) := by
    unfold Hid
    rw [hl0]; show (if s[0].toNat = 45 then _ else if s[0].toNat = 43 then _ else _) = _; rw [if_neg (by omega), if_pos hc, ← htl]
  have q45 : ((s[0].toNat : Int) == 45) = false := by rw [beq_eq_false_iff_ne]; omega
  have q43 : ((s[0].toNat : Int) == 43) = true := by rw [beq_iff_eq]; omega
  clear hc hl0 htl
  go_enter Tryd.func84, Tryd.ntmps84
  go_wp2_with fail
  rw [← ht, hts.out]
  clear ht
  go_loop [4, 5, 19] (fun p4 p5 p19 => ∃ (i n : Nat), i ≤ t.size ∧ n ≤ 1099511627776 ∧ p4 = .int .i64 n ∧ p19 = .int .i64 i ∧ Hid (pdigits t.data.toList = (t.data.toList.drop i).foldl pstep n)) (fun p4 p5 p19 => t.size - (intOf p19).toNat)
  case atStart => exact ⟨0, 0, Nat.zero_le _, by omega, rfl, rfl, rfl⟩
  case round =>
    obtain ⟨i, n, hi, hn, rfl, rfl, hf⟩ := hrel
    by_cases hlt : i < t.size
    · have HS : Hid (pdigits t.data.toList = (t.data.toList.drop (i + 1)).foldl pstep (pstep n t[i])) := by rw [Hid, hf.out, foldl_drop s.data.toList t n i hlt]
      have hps := pstep_le n t[i]
      have hw8 := wrap_sub48 t[i].toNat (UInt8.toNat_lt _)
      have hdd : (t[i].toNat + 208) % 256 < 256 := Nat.mod_lt _ (by omega)
      have hmin : (if (1099511627776 : Int) < (n : Int) * 10 + (((t[i].toNat + 208) % 256 : Nat) : Int) then (1099511627776 : Int) else (n : Int) * 10 + (((t[i].toNat + 208) % 256 : Nat) : Int)) = (pstep n t[i] : Int) := by
        unfold pstep; split <;> omega
      generalize pstep n t[i] = m at *
      generalize (t[i].toNat + 208) % 256 = dd at *
      go_wp2_with fail
      go_round
      case rel => exact ⟨i + 1, m, by omega, hps, rfl, by go_num, HS.out⟩
      case measure => simp [intOf]; omega
    · obtain rfl : i = t.size := by omega
      have hfin : Hid (pdigits t.data.toList = n) := by rw [Hid, hf.out, List.drop_of_length_le (by simp)]; rfl
      go_wp2_with fail
      go_ret
      exact ⟨by rw [HP.out, hfin.out]; rfl, rfl⟩

set_option maxHeartbeats 2000000 in
theorem power_n (s : ByteArray) (w : World) (h : 0 < s.size) (hs : s.size ≤ 4611686018427387904) (hc : s[0].toNat ≠ 45 ∧ s[0].toNat ≠ 43) :
    Calls Tryd.prog 84 #[.string s] w fun e w' => e = .returned (.int .i64 (power s.data.toList)) ∧ w = w' := by
  have hl0 : s.data.toList = s[0] :: s.data.toList.drop 1 := by have := drop_byte s 0 h; simpa using this
  have hsz : s.size ≤ 4611686018427387904 := hs
  have HP : Hid (power s.data.toList = (pdigits s.data.toList : Int)) := by
    unfold Hid
    rw [hl0]; show (if s[0].toNat = 45 then _ else if s[0].toNat = 43 then _ else _) = _; rw [if_neg hc.1, if_neg hc.2, ← hl0]
  have q45 : ((s[0].toNat : Int) == 45) = false := by rw [beq_eq_false_iff_ne]; omega
  have q43 : ((s[0].toNat : Int) == 43) = false := by rw [beq_eq_false_iff_ne]; omega
  clear hc hl0
  go_enter Tryd.func84, Tryd.ntmps84
  go_wp2_with fail


  go_loop [4, 5, 19] (fun p4 p5 p19 => ∃ (i n : Nat), i ≤ s.size ∧ n ≤ 1099511627776 ∧ p4 = .int .i64 n ∧ p19 = .int .i64 i ∧ Hid (pdigits s.data.toList = (s.data.toList.drop i).foldl pstep n)) (fun p4 p5 p19 => s.size - (intOf p19).toNat)
  case atStart => exact ⟨0, 0, Nat.zero_le _, by omega, rfl, rfl, rfl⟩
  case round =>
    obtain ⟨i, n, hi, hn, rfl, rfl, hf⟩ := hrel
    by_cases hlt : i < s.size
    · have HS : Hid (pdigits s.data.toList = (s.data.toList.drop (i + 1)).foldl pstep (pstep n s[i])) := by rw [Hid, hf.out, foldl_drop s.data.toList s n i hlt]
      have hps := pstep_le n s[i]
      have hw8 := wrap_sub48 s[i].toNat (UInt8.toNat_lt _)
      have hdd : (s[i].toNat + 208) % 256 < 256 := Nat.mod_lt _ (by omega)
      have hmin : (if (1099511627776 : Int) < (n : Int) * 10 + (((s[i].toNat + 208) % 256 : Nat) : Int) then (1099511627776 : Int) else (n : Int) * 10 + (((s[i].toNat + 208) % 256 : Nat) : Int)) = (pstep n s[i] : Int) := by
        unfold pstep; split <;> omega
      generalize pstep n s[i] = m at *
      generalize (s[i].toNat + 208) % 256 = dd at *
      go_wp2_with fail
      go_round
      case rel => exact ⟨i + 1, m, by omega, hps, rfl, by go_num, HS.out⟩
      case measure => simp [intOf]; omega
    · obtain rfl : i = s.size := by omega
      have hfin : Hid (pdigits s.data.toList = n) := by rw [Hid, hf.out, List.drop_of_length_le (by simp)]; rfl
      go_wp2_with fail
      go_ret
      exact ⟨by rw [HP.out, hfin.out]; rfl, rfl⟩

theorem power_any (s : ByteArray) (w : World) (h : 0 < s.size) (hs : s.size ≤ 4611686018427387904) :
    Calls Tryd.prog 84 #[.string s] w fun e w' => e = .returned (.int .i64 (power s.data.toList)) ∧ w = w' := by
  by_cases c1 : s[0].toNat = 45
  · exact power_m s w h hs c1
  by_cases c2 : s[0].toNat = 43
  · exact power_p s w h hs c2
  · exact power_n s w h hs ⟨c1, c2⟩
end Go.Proofs.YtbfkgddhpabioaaDoor.Num
/- num.Right. -/
namespace Go.Proofs.YtbfkgddhpabioaaDoor.Num
open Go.RowKit
set_option linter.unusedVariables false
set_option linter.unusedSimpArgs false
set_option maxRecDepth 100000

theorem bool_ret {a b : Bool} (h : a = b) : Ending.returned (.bool a) = .returned (.bool b) := by rw [h]
theorem getLastD_byte (d : ByteArray) (h : 0 < d.size) : d.data.toList.getLastD 48 = d[d.size - 1] := by
  rw [List.getLastD_eq_getLast?, List.getLast?_eq_getElem?]
  have : d.data.toList.length = d.size := by simp
  rw [this, List.getElem?_eq_getElem (by omega)]
  rfl
theorem headD_byte (d : ByteArray) (h : 0 < d.size) : d.data.toList.headD 48 = d[0] := by
  have := drop_byte d 0 h
  rw [List.drop_zero] at this
  rw [this]; rfl
theorem u8_ne (c : UInt8) : ((c.toNat : Int) != 48) = (c != 48) := by
  by_cases h : c = 48
  · subst h; rfl
  · have h2 : c.toNat ≠ 48 := fun e => h (UInt8.toNat_inj.1 e)
    have e1 : ((c.toNat : Int) != 48) = true := by rw [bne_iff_ne]; omega
    have e2 : (c != 48) = true := by rw [bne_iff_ne]; exact h
    rw [e1, e2]

set_option maxHeartbeats 2000000 in
theorem right_et (d : ByteArray) (x : Int) (w : World) (hs : d.size ≤ 4611686018427387904) (h0 : d.size = 0) :
    Calls Tryd.prog 87 #[.agg #[.bool true, .string d, .int .i64 x]] w fun e w' => e = .returned (.bool (right true d.data.toList x)) ∧ Below w.heap.size w w' := by
  have hl : d.data.toList = [] := List.eq_nil_of_length_eq_zero (by simpa using h0)
  have HR : Hid (right true d.data.toList x = (!true && x == 0)) := by rw [Hid, hl]; rfl
  clear hl
  have q0 : ((d.size : Int) == 0) = true := by rw [beq_iff_eq]; omega
  generalize hx : (x == 0) = xb at HR
  go_enter Tryd.func87, Tryd.ntmps87
  go_wp2_with fail
  go_ret
  exact ⟨bool_ret (by rw [HR.out]; rfl), (Below.refl _ _).alloc (Nat.le_refl _) _⟩

set_option maxHeartbeats 2000000 in
theorem right_ef (d : ByteArray) (x : Int) (w : World) (hs : d.size ≤ 4611686018427387904) (h0 : d.size = 0) :
    Calls Tryd.prog 87 #[.agg #[.bool false, .string d, .int .i64 x]] w fun e w' => e = .returned (.bool (right false d.data.toList x)) ∧ Below w.heap.size w w' := by
  have hl : d.data.toList = [] := List.eq_nil_of_length_eq_zero (by simpa using h0)
  have HR : Hid (right false d.data.toList x = (!false && x == 0)) := by rw [Hid, hl]; rfl
  clear hl
  have q0 : ((d.size : Int) == 0) = true := by rw [beq_iff_eq]; omega
  generalize hx : (x == 0) = xb at HR
  go_enter Tryd.func87, Tryd.ntmps87
  go_wp2_with fail
  go_ret
  exact ⟨bool_ret (by rw [HR.out]; rfl), (Below.refl _ _).alloc (Nat.le_refl _) _⟩

set_option maxHeartbeats 2000000 in
theorem right_long (neg : Bool) (d : ByteArray) (x : Int) (w : World) (hs : d.size ≤ 4611686018427387904) (h1 : 1000 < d.size) :
    Calls Tryd.prog 87 #[.agg #[.bool neg, .string d, .int .i64 x]] w fun e w' => e = .returned (.bool (right neg d.data.toList x)) ∧ Below w.heap.size w w' := by
  have q0 : ((d.size : Int) == 0) = false := by rw [beq_eq_false_iff_ne]; omega
  have hl : ¬ d.data.toList = [] := List.ne_nil_of_length_pos (by simp; omega)
  have HR : Hid (right neg d.data.toList x = false) := by
    rw [Hid, right, if_neg hl, if_pos (by have : d.data.toList.length = d.size := by simp
                                          omega)]
  clear hl
  have d1 : decide (1000 < (d.size : Int)) = true := by simp; omega
  go_enter Tryd.func87, Tryd.ntmps87
  go_wp2_with fail
  go_ret
  exact ⟨bool_ret (by rw [HR.out]), (Below.refl _ _).alloc (Nat.le_refl _) _⟩

set_option maxHeartbeats 2000000 in
theorem right_low (neg : Bool) (d : ByteArray) (x : Int) (w : World) (hs : d.size ≤ 4611686018427387904) (h0 : 0 < d.size) (h1 : d.size ≤ 1000) (h2 : x < -10000) :
    Calls Tryd.prog 87 #[.agg #[.bool neg, .string d, .int .i64 x]] w fun e w' => e = .returned (.bool (right neg d.data.toList x)) ∧ Below w.heap.size w w' := by
  have q0 : ((d.size : Int) == 0) = false := by rw [beq_eq_false_iff_ne]; omega
  have hl : ¬ d.data.toList = [] := List.ne_nil_of_length_pos (by simp; omega)
  have HR : Hid (right neg d.data.toList x = false) := by
    rw [Hid, right, if_neg hl, if_pos (by have : d.data.toList.length = d.size := by simp
                                          omega)]
  clear hl
  have d1 : decide (1000 < (d.size : Int)) = false := by simp; omega
  have d2 : decide (x < -10000) = true := by simp; omega
  go_enter Tryd.func87, Tryd.ntmps87
  go_wp2_with fail
  go_ret
  exact ⟨bool_ret (by rw [HR.out]), (Below.refl _ _).alloc (Nat.le_refl _) _⟩

set_option maxHeartbeats 2000000 in
theorem right_high (neg : Bool) (d : ByteArray) (x : Int) (w : World) (hs : d.size ≤ 4611686018427387904) (h0 : 0 < d.size) (h1 : d.size ≤ 1000) (h2 : 10000 < x) :
    Calls Tryd.prog 87 #[.agg #[.bool neg, .string d, .int .i64 x]] w fun e w' => e = .returned (.bool (right neg d.data.toList x)) ∧ Below w.heap.size w w' := by
  have q0 : ((d.size : Int) == 0) = false := by rw [beq_eq_false_iff_ne]; omega
  have hl : ¬ d.data.toList = [] := List.ne_nil_of_length_pos (by simp; omega)
  have HR : Hid (right neg d.data.toList x = false) := by
    rw [Hid, right, if_neg hl, if_pos (by have : d.data.toList.length = d.size := by simp
                                          omega)]
  clear hl
  have d1 : decide (1000 < (d.size : Int)) = false := by simp; omega
  have d2 : decide (x < -10000) = false := by simp; omega
  have d3 : decide (10000 < x) = true := by simp; omega
  go_enter Tryd.func87, Tryd.ntmps87
  go_wp2_with fail
  go_ret
  exact ⟨bool_ret (by rw [HR.out]), (Below.refl _ _).alloc (Nat.le_refl _) _⟩

set_option maxHeartbeats 2000000 in
theorem right_loop (neg : Bool) (d : ByteArray) (x : Int) (w : World) (hs : d.size ≤ 4611686018427387904) (h0 : 0 < d.size) (h1 : d.size ≤ 1000) (h2 : -10000 ≤ x) (h3 : x ≤ 10000) :
    Calls Tryd.prog 87 #[.agg #[.bool neg, .string d, .int .i64 x]] w fun e w' => e = .returned (.bool (right neg d.data.toList x)) ∧ Below w.heap.size w w' := by
  have q0 : ((d.size : Int) == 0) = false := by rw [beq_eq_false_iff_ne]; omega
  have hl : ¬ d.data.toList = [] := List.ne_nil_of_length_pos (by simp; omega)
  have HR : Hid (right neg d.data.toList x = (d.data.toList.all isDigit && (d[0] != 48) && (d[d.size - 1] != 48))) := by
    rw [Hid, right, if_neg hl, if_neg (by have : d.data.toList.length = d.size := by simp
                                          omega), headD_byte d h0, getLastD_byte d h0]
  clear hl
  have d1 : decide (1000 < (d.size : Int)) = false := by simp; omega
  have d2 : decide (x < -10000) = false := by simp; omega
  have d3 : decide (10000 < x) = false := by simp; omega
  go_enter Tryd.func87, Tryd.ntmps87
  go_wp2_with fail
  go_loop [4, 31] (fun p4 p31 => ∃ i : Nat, i ≤ d.size ∧ p31 = .int .i64 i ∧ Hid (d.data.toList.all isDigit = (d.data.toList.drop i).all isDigit)) (fun p4 p31 => d.size - (intOf p31).toNat)
  case atStart => exact ⟨0, Nat.zero_le _, rfl, rfl⟩
  case round =>
    obtain ⟨i, hi, rfl, hf⟩ := hrel
    by_cases hlt : i < d.size
    · have HS : Hid ((d.data.toList.drop i).all isDigit = (isDigit d[i] && (d.data.toList.drop (i + 1)).all isDigit)) := by rw [Hid, drop_byte d i hlt, List.all_cons]
      by_cases c1 : d[i].toNat < 48
      · have e1 : decide ((d[i].toNat : Int) < 48) = true := by simp; omega
        have HF : Hid (right neg d.data.toList x = false) := by
          rw [Hid, HR.out, hf.out, HS.out, show isDigit d[i] = false by simp [isDigit]; omega]; rfl
        go_wp2_with fail
        go_ret
        exact ⟨bool_ret (by rw [HF.out]), (Below.refl _ _).alloc (Nat.le_refl _) _⟩
      by_cases c2 : 57 < d[i].toNat
      · have e1 : decide ((d[i].toNat : Int) < 48) = false := by simp; omega
        have e2 : decide (57 < (d[i].toNat : Int)) = true := by simp; omega
        have HF : Hid (right neg d.data.toList x = false) := by
          rw [Hid, HR.out, hf.out, HS.out, show isDigit d[i] = false by simp [isDigit]; omega]; rfl
        go_wp2_with fail
        go_ret
        exact ⟨bool_ret (by rw [HF.out]), (Below.refl _ _).alloc (Nat.le_refl _) _⟩
      · have e1 : decide ((d[i].toNat : Int) < 48) = false := by simp; omega
        have e2 : decide (57 < (d[i].toNat : Int)) = false := by simp; omega
        have HN : Hid (d.data.toList.all isDigit = (d.data.toList.drop (i + 1)).all isDigit) := by
          rw [Hid, hf.out, HS.out, show isDigit d[i] = true by simp [isDigit]; omega]; rfl
        go_wp2_with fail
        go_round
        case rel => exact ⟨i + 1, by omega, by go_num, HN.out⟩
        case measure => simp [intOf]; omega
    · obtain rfl : i = d.size := by omega
      have ha : d.data.toList.all isDigit = true := by rw [hf.out, List.drop_of_length_le (by simp)]; rfl
      have HF : Hid (right neg d.data.toList x = (((d[0].toNat : Int) != 48) && ((d[d.size - 1].toNat : Int) != 48))) := by
        rw [Hid, HR.out, ha, u8_ne, u8_ne]; rfl
      clear ha
      have hsub : d.size - 1 < d.size := by omega
      have hcst : ((d.size : Int) - 1) = ((d.size - 1 : Nat) : Int) := by omega
      cases hb1 : ((d[0].toNat : Int) != 48)
      · go_wp2_with fail
        go_ret
        exact ⟨bool_ret (by rw [HF.out, hb1]; rfl), (Below.refl _ _).alloc (Nat.le_refl _) _⟩
      · go_wp2_with fail
        go_ret
        refine ⟨bool_ret ?_, (Below.refl _ _).alloc (Nat.le_refl _) _⟩
        rw [HF.out, hb1]; rfl

theorem right_any (neg : Bool) (d : ByteArray) (x : Int) (w : World) (hs : d.size ≤ 4611686018427387904) :
    Calls Tryd.prog 87 #[.agg #[.bool neg, .string d, .int .i64 x]] w fun e w' => e = .returned (.bool (right neg d.data.toList x)) ∧ Below w.heap.size w w' := by
  by_cases h0 : d.size = 0
  · cases neg
    · exact right_ef d x w hs h0
    · exact right_et d x w hs h0
  by_cases h1 : 1000 < d.size
  · exact right_long neg d x w hs h1
  by_cases h2 : x < -10000
  · exact right_low neg d x w hs (by omega) (by omega) h2
  by_cases h3 : 10000 < x
  · exact right_high neg d x w hs (by omega) (by omega) h3
  · exact right_loop neg d x w hs (by omega) (by omega) (by omega) (by omega)
end Go.Proofs.YtbfkgddhpabioaaDoor.Num
