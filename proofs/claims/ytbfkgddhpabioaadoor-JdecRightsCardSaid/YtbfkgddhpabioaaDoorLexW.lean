/- lex.letter, lex.digit, lex.ident. -/
import Derived.Test.YtbfkgddhpabioaaDoorLexS
namespace Go.Proofs.YtbfkgddhpabioaaDoor.Lex
open Go.RowKit Go.Proofs.YtbfkgddhpabioaaDoor.Utf
set_option linter.unusedVariables false
set_option linter.unusedSimpArgs false
set_option maxRecDepth 100000
theorem letter_0 (c : Nat) (w : World) (h : c < 65) : Calls Tryd.prog 67 #[.int .u8 c] w fun e w' => e = .returned (.bool false) ∧ w = w' := by
  have a : decide (65 ≤ (c : Int)) = false := by simp; omega
  have b : decide ((c : Int) ≤ 90) = true := by simp; omega
  have e : decide (97 ≤ (c : Int)) = false := by simp; omega
  have g : ((c : Int) == 95) = false := by rw [beq_eq_false_iff_ne]; omega
  clear h
  go_enter Tryd.func67, Tryd.ntmps67
  go_wp2_with fail
  go_ret
  exact ⟨rfl, rfl⟩
theorem letter_1 (c : Nat) (w : World) (h : 65 ≤ c ∧ c ≤ 90) : Calls Tryd.prog 67 #[.int .u8 c] w fun e w' => e = .returned (.bool true) ∧ w = w' := by
  have a : decide (65 ≤ (c : Int)) = true := by simp; omega
  have b : decide ((c : Int) ≤ 90) = true := by simp; omega
  clear h
  go_enter Tryd.func67, Tryd.ntmps67
  go_wp2_with fail
  go_ret
  exact ⟨rfl, rfl⟩
theorem letter_2 (c : Nat) (w : World) (h : 90 < c ∧ c < 95) : Calls Tryd.prog 67 #[.int .u8 c] w fun e w' => e = .returned (.bool false) ∧ w = w' := by
  have a : decide (65 ≤ (c : Int)) = true := by simp; omega
  have b : decide ((c : Int) ≤ 90) = false := by simp; omega
  have e : decide (97 ≤ (c : Int)) = false := by simp; omega
  have g : ((c : Int) == 95) = false := by rw [beq_eq_false_iff_ne]; omega
  clear h
  go_enter Tryd.func67, Tryd.ntmps67
  go_wp2_with fail
  go_ret
  exact ⟨rfl, rfl⟩
theorem letter_3 (c : Nat) (w : World) (h : c = 95) : Calls Tryd.prog 67 #[.int .u8 c] w fun e w' => e = .returned (.bool true) ∧ w = w' := by
  have a : decide (65 ≤ (c : Int)) = true := by simp; omega
  have b : decide ((c : Int) ≤ 90) = false := by simp; omega
  have e : decide (97 ≤ (c : Int)) = false := by simp; omega
  have g : ((c : Int) == 95) = true := by rw [beq_iff_eq]; omega
  clear h
  go_enter Tryd.func67, Tryd.ntmps67
  go_wp2_with fail
  go_ret
  exact ⟨rfl, rfl⟩
theorem letter_4 (c : Nat) (w : World) (h : c = 96) : Calls Tryd.prog 67 #[.int .u8 c] w fun e w' => e = .returned (.bool false) ∧ w = w' := by
  have a : decide (65 ≤ (c : Int)) = true := by simp; omega
  have b : decide ((c : Int) ≤ 90) = false := by simp; omega
  have e : decide (97 ≤ (c : Int)) = false := by simp; omega
  have g : ((c : Int) == 95) = false := by rw [beq_eq_false_iff_ne]; omega
  clear h
  go_enter Tryd.func67, Tryd.ntmps67
  go_wp2_with fail
  go_ret
  exact ⟨rfl, rfl⟩
theorem letter_5 (c : Nat) (w : World) (h : 97 ≤ c ∧ c ≤ 122) : Calls Tryd.prog 67 #[.int .u8 c] w fun e w' => e = .returned (.bool true) ∧ w = w' := by
  have a : decide (65 ≤ (c : Int)) = true := by simp; omega
  have b : decide ((c : Int) ≤ 90) = false := by simp; omega
  have e : decide (97 ≤ (c : Int)) = true := by simp; omega
  have f : decide ((c : Int) ≤ 122) = true := by simp; omega
  clear h
  go_enter Tryd.func67, Tryd.ntmps67
  go_wp2_with fail
  go_ret
  exact ⟨rfl, rfl⟩
theorem letter_6 (c : Nat) (w : World) (h : 122 < c) : Calls Tryd.prog 67 #[.int .u8 c] w fun e w' => e = .returned (.bool false) ∧ w = w' := by
  have a : decide (65 ≤ (c : Int)) = true := by simp; omega
  have b : decide ((c : Int) ≤ 90) = false := by simp; omega
  have e : decide (97 ≤ (c : Int)) = true := by simp; omega
  have f : decide ((c : Int) ≤ 122) = false := by simp; omega
  have g : ((c : Int) == 95) = false := by rw [beq_eq_false_iff_ne]; omega
  clear h
  go_enter Tryd.func67, Tryd.ntmps67
  go_wp2_with fail
  go_ret
  exact ⟨rfl, rfl⟩
theorem letter_any (c : Nat) (w : World) : Calls Tryd.prog 67 #[.int .u8 c] w fun e w' => e = .returned (.bool (letterB c)) ∧ w = w' := by
  by_cases h0 : c < 65
  · rw [show letterB c = false by simp [letterB]; omega]; exact letter_0 c w h0
  by_cases h1 : 65 ≤ c ∧ c ≤ 90
  · rw [show letterB c = true by simp [letterB]; omega]; exact letter_1 c w h1
  by_cases h2 : 90 < c ∧ c < 95
  · rw [show letterB c = false by simp [letterB]; omega]; exact letter_2 c w h2
  by_cases h3 : c = 95
  · rw [show letterB c = true by simp [letterB]; omega]; exact letter_3 c w h3
  by_cases h4 : c = 96
  · rw [show letterB c = false by simp [letterB]; omega]; exact letter_4 c w h4
  by_cases h5 : 97 ≤ c ∧ c ≤ 122
  · rw [show letterB c = true by simp [letterB]; omega]; exact letter_5 c w h5
  · rw [show letterB c = false by simp [letterB]; omega]; exact letter_6 c w (by omega)
theorem digit_0 (c : Nat) (w : World) (h : c < 48) : Calls Tryd.prog 69 #[.int .u8 c] w fun e w' => e = .returned (.bool false) ∧ w = w' := by
  have a : decide (48 ≤ (c : Int)) = false := by simp; omega
  clear h
  go_enter Tryd.func69, Tryd.ntmps69
  go_wp2_with fail
  go_ret
  exact ⟨rfl, rfl⟩
theorem digit_1 (c : Nat) (w : World) (h : 48 ≤ c ∧ c ≤ 57) : Calls Tryd.prog 69 #[.int .u8 c] w fun e w' => e = .returned (.bool true) ∧ w = w' := by
  have a : decide (48 ≤ (c : Int)) = true := by simp; omega
  have b : decide ((c : Int) ≤ 57) = true := by simp; omega
  clear h
  go_enter Tryd.func69, Tryd.ntmps69
  go_wp2_with fail
  go_ret
  exact ⟨rfl, rfl⟩
theorem digit_2 (c : Nat) (w : World) (h : 57 < c) : Calls Tryd.prog 69 #[.int .u8 c] w fun e w' => e = .returned (.bool false) ∧ w = w' := by
  have a : decide (48 ≤ (c : Int)) = true := by simp; omega
  have b : decide ((c : Int) ≤ 57) = false := by simp; omega
  clear h
  go_enter Tryd.func69, Tryd.ntmps69
  go_wp2_with fail
  go_ret
  exact ⟨rfl, rfl⟩
theorem digit_any (c : Nat) (w : World) : Calls Tryd.prog 69 #[.int .u8 c] w fun e w' => e = .returned (.bool (digitB c)) ∧ w = w' := by
  by_cases h0 : c < 48
  · rw [show digitB c = false by simp [digitB]; omega]; exact digit_0 c w h0
  by_cases h1 : 48 ≤ c ∧ c ≤ 57
  · rw [show digitB c = true by simp [digitB]; omega]; exact digit_1 c w h1
  · rw [show digitB c = false by simp [digitB]; omega]; exact digit_2 c w (by omega)
end Go.Proofs.YtbfkgddhpabioaaDoor.Lex
