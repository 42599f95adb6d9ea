/- num.signOf, num.isWhole, num.Scan. -/
import Derived.Test.YtbfkgddhpabioaaDoorPlainA
import Derived.Test.YtbfkgddhpabioaaDoorFrame
namespace Go.Proofs.YtbfkgddhpabioaaDoor.Num
open Go.RowKit
set_option linter.unusedVariables false
set_option linter.unusedSimpArgs false
set_option maxRecDepth 100000

theorem signOf_minus (c : Nat) (w : World) (hc : c = 45) : Calls Tryd.prog 80 #[.int .u8 c] w fun e w' => e = .returned (.int .i64 0) ∧ w = w' := by
  have q45 : ((c : Int) == 45) = true := by rw [beq_iff_eq]; omega
  clear hc
  go_enter Tryd.func80, Tryd.ntmps80
  go_wp2_with fail
  go_ret
  exact ⟨rfl, rfl⟩
theorem signOf_plus (c : Nat) (w : World) (hc : c = 43) : Calls Tryd.prog 80 #[.int .u8 c] w fun e w' => e = .returned (.int .i64 1) ∧ w = w' := by
  have q45 : ((c : Int) == 45) = false := by rw [beq_eq_false_iff_ne]; omega
  have q43 : ((c : Int) == 43) = true := by rw [beq_iff_eq]; omega
  clear hc
  go_enter Tryd.func80, Tryd.ntmps80
  go_wp2_with fail
  go_ret
  exact ⟨rfl, rfl⟩
theorem signOf_nought (c : Nat) (w : World) (hc : c = 48) : Calls Tryd.prog 80 #[.int .u8 c] w fun e w' => e = .returned (.int .i64 2) ∧ w = w' := by
  have q45 : ((c : Int) == 45) = false := by rw [beq_eq_false_iff_ne]; omega
  have q43 : ((c : Int) == 43) = false := by rw [beq_eq_false_iff_ne]; omega
  have q48 : ((c : Int) == 48) = true := by rw [beq_iff_eq]; omega
  clear hc
  go_enter Tryd.func80, Tryd.ntmps80
  go_wp2_with fail
  go_ret
  exact ⟨rfl, rfl⟩
theorem signOf_digit (c : Nat) (w : World) (hc : 49 ≤ c ∧ c ≤ 57) : Calls Tryd.prog 80 #[.int .u8 c] w fun e w' => e = .returned (.int .i64 3) ∧ w = w' := by
  have q45 : ((c : Int) == 45) = false := by rw [beq_eq_false_iff_ne]; omega
  have q43 : ((c : Int) == 43) = false := by rw [beq_eq_false_iff_ne]; omega
  have q48 : ((c : Int) == 48) = false := by rw [beq_eq_false_iff_ne]; omega
  have g1 : decide (49 ≤ (c : Int)) = true := by simp; omega
  have g2 : decide ((c : Int) ≤ 57) = true := by simp; omega
  clear hc
  go_enter Tryd.func80, Tryd.ntmps80
  go_wp2_with fail
  go_ret
  exact ⟨rfl, rfl⟩
theorem signOf_point (c : Nat) (w : World) (hc : c = 46) : Calls Tryd.prog 80 #[.int .u8 c] w fun e w' => e = .returned (.int .i64 4) ∧ w = w' := by
  have q45 : ((c : Int) == 45) = false := by rw [beq_eq_false_iff_ne]; omega
  have q43 : ((c : Int) == 43) = false := by rw [beq_eq_false_iff_ne]; omega
  have q48 : ((c : Int) == 48) = false := by rw [beq_eq_false_iff_ne]; omega
  have g1 : decide (49 ≤ (c : Int)) = false := by simp; omega
  have q46 : ((c : Int) == 46) = true := by rw [beq_iff_eq]; omega
  clear hc
  go_enter Tryd.func80, Tryd.ntmps80
  go_wp2_with fail
  go_ret
  exact ⟨rfl, rfl⟩
theorem signOf_marke (c : Nat) (w : World) (hc : c = 101) : Calls Tryd.prog 80 #[.int .u8 c] w fun e w' => e = .returned (.int .i64 5) ∧ w = w' := by
  have q45 : ((c : Int) == 45) = false := by rw [beq_eq_false_iff_ne]; omega
  have q43 : ((c : Int) == 43) = false := by rw [beq_eq_false_iff_ne]; omega
  have q48 : ((c : Int) == 48) = false := by rw [beq_eq_false_iff_ne]; omega
  have g1 : decide (49 ≤ (c : Int)) = true := by simp; omega
  have g2 : decide ((c : Int) ≤ 57) = false := by simp; omega
  have q46 : ((c : Int) == 46) = false := by rw [beq_eq_false_iff_ne]; omega
  have q101 : ((c : Int) == 101) = true := by rw [beq_iff_eq]; omega
  clear hc
  go_enter Tryd.func80, Tryd.ntmps80
  go_wp2_with fail
  go_ret
  exact ⟨rfl, rfl⟩
theorem signOf_markE (c : Nat) (w : World) (hc : c = 69) : Calls Tryd.prog 80 #[.int .u8 c] w fun e w' => e = .returned (.int .i64 5) ∧ w = w' := by
  have q45 : ((c : Int) == 45) = false := by rw [beq_eq_false_iff_ne]; omega
  have q43 : ((c : Int) == 43) = false := by rw [beq_eq_false_iff_ne]; omega
  have q48 : ((c : Int) == 48) = false := by rw [beq_eq_false_iff_ne]; omega
  have g1 : decide (49 ≤ (c : Int)) = true := by simp; omega
  have g2 : decide ((c : Int) ≤ 57) = false := by simp; omega
  have q46 : ((c : Int) == 46) = false := by rw [beq_eq_false_iff_ne]; omega
  have q101 : ((c : Int) == 101) = false := by rw [beq_eq_false_iff_ne]; omega
  have q69 : ((c : Int) == 69) = true := by rw [beq_iff_eq]; omega
  clear hc
  go_enter Tryd.func80, Tryd.ntmps80
  go_wp2_with fail
  go_ret
  exact ⟨rfl, rfl⟩
theorem signOf_low (c : Nat) (w : World) (hc : c < 49 ∧ c ≠ 45 ∧ c ≠ 43 ∧ c ≠ 48 ∧ c ≠ 46) : Calls Tryd.prog 80 #[.int .u8 c] w fun e w' => e = .returned (.int .i64 6) ∧ w = w' := by
  have q45 : ((c : Int) == 45) = false := by rw [beq_eq_false_iff_ne]; omega
  have q43 : ((c : Int) == 43) = false := by rw [beq_eq_false_iff_ne]; omega
  have q48 : ((c : Int) == 48) = false := by rw [beq_eq_false_iff_ne]; omega
  have g1 : decide (49 ≤ (c : Int)) = false := by simp; omega
  have q46 : ((c : Int) == 46) = false := by rw [beq_eq_false_iff_ne]; omega
  have q101 : ((c : Int) == 101) = false := by rw [beq_eq_false_iff_ne]; omega
  have q69 : ((c : Int) == 69) = false := by rw [beq_eq_false_iff_ne]; omega
  clear hc
  go_enter Tryd.func80, Tryd.ntmps80
  go_wp2_with fail
  go_ret
  exact ⟨rfl, rfl⟩
theorem signOf_high (c : Nat) (w : World) (hc : 57 < c ∧ c ≠ 101 ∧ c ≠ 69) : Calls Tryd.prog 80 #[.int .u8 c] w fun e w' => e = .returned (.int .i64 6) ∧ w = w' := by
  have q45 : ((c : Int) == 45) = false := by rw [beq_eq_false_iff_ne]; omega
  have q43 : ((c : Int) == 43) = false := by rw [beq_eq_false_iff_ne]; omega
  have q48 : ((c : Int) == 48) = false := by rw [beq_eq_false_iff_ne]; omega
  have g1 : decide (49 ≤ (c : Int)) = true := by simp; omega
  have g2 : decide ((c : Int) ≤ 57) = false := by simp; omega
  have q46 : ((c : Int) == 46) = false := by rw [beq_eq_false_iff_ne]; omega
  have q101 : ((c : Int) == 101) = false := by rw [beq_eq_false_iff_ne]; omega
  have q69 : ((c : Int) == 69) = false := by rw [beq_eq_false_iff_ne]; omega
  clear hc
  go_enter Tryd.func80, Tryd.ntmps80
  go_wp2_with fail
  go_ret
  exact ⟨rfl, rfl⟩
theorem signOf_any (c : Nat) (w : World) : Calls Tryd.prog 80 #[.int .u8 c] w fun e w' => e = .returned (.int .i64 (sgn c)) ∧ w = w' := by
  unfold sgn
  by_cases h1 : c = 45
  · rw [if_pos h1]; exact signOf_minus c w h1
  rw [if_neg h1]
  by_cases h2 : c = 43
  · rw [if_pos h2]; exact signOf_plus c w h2
  rw [if_neg h2]
  by_cases h3 : c = 48
  · rw [if_pos h3]; exact signOf_nought c w h3
  rw [if_neg h3]
  by_cases h4 : 49 ≤ c ∧ c ≤ 57
  · rw [if_pos h4]; exact signOf_digit c w h4
  rw [if_neg h4]
  by_cases h5 : c = 46
  · rw [if_pos h5]; exact signOf_point c w h5
  rw [if_neg h5]
  by_cases h6 : c = 101
  · rw [if_pos (Or.inl h6)]; exact signOf_marke c w h6
  by_cases h7 : c = 69
  · rw [if_pos (Or.inr h7)]; exact signOf_markE c w h7
  rw [if_neg (by omega)]
  by_cases h8 : c < 49
  · exact signOf_low c w ⟨h8, h1, h2, h3, h5⟩
  · exact signOf_high c w ⟨by omega, h6, h7⟩

theorem isWhole_0 (w : World) : Calls Tryd.prog 81 #[.int .i64 0] w fun e w' => e = .returned (.bool false) ∧ w = w' := by
  go_enter Tryd.func81, Tryd.ntmps81
  go_wp2_with fail
  go_ret
  exact ⟨rfl, rfl⟩
theorem isWhole_1 (w : World) : Calls Tryd.prog 81 #[.int .i64 1] w fun e w' => e = .returned (.bool false) ∧ w = w' := by
  go_enter Tryd.func81, Tryd.ntmps81
  go_wp2_with fail
  go_ret
  exact ⟨rfl, rfl⟩
theorem isWhole_2 (w : World) : Calls Tryd.prog 81 #[.int .i64 2] w fun e w' => e = .returned (.bool true) ∧ w = w' := by
  go_enter Tryd.func81, Tryd.ntmps81
  go_wp2_with fail
  go_ret
  exact ⟨rfl, rfl⟩
theorem isWhole_3 (w : World) : Calls Tryd.prog 81 #[.int .i64 3] w fun e w' => e = .returned (.bool true) ∧ w = w' := by
  go_enter Tryd.func81, Tryd.ntmps81
  go_wp2_with fail
  go_ret
  exact ⟨rfl, rfl⟩
theorem isWhole_4 (w : World) : Calls Tryd.prog 81 #[.int .i64 4] w fun e w' => e = .returned (.bool false) ∧ w = w' := by
  go_enter Tryd.func81, Tryd.ntmps81
  go_wp2_with fail
  go_ret
  exact ⟨rfl, rfl⟩
theorem isWhole_5 (w : World) : Calls Tryd.prog 81 #[.int .i64 5] w fun e w' => e = .returned (.bool true) ∧ w = w' := by
  go_enter Tryd.func81, Tryd.ntmps81
  go_wp2_with fail
  go_ret
  exact ⟨rfl, rfl⟩
theorem isWhole_6 (w : World) : Calls Tryd.prog 81 #[.int .i64 6] w fun e w' => e = .returned (.bool false) ∧ w = w' := by
  go_enter Tryd.func81, Tryd.ntmps81
  go_wp2_with fail
  go_ret
  exact ⟨rfl, rfl⟩
theorem isWhole_7 (w : World) : Calls Tryd.prog 81 #[.int .i64 7] w fun e w' => e = .returned (.bool false) ∧ w = w' := by
  go_enter Tryd.func81, Tryd.ntmps81
  go_wp2_with fail
  go_ret
  exact ⟨rfl, rfl⟩
theorem isWhole_8 (w : World) : Calls Tryd.prog 81 #[.int .i64 8] w fun e w' => e = .returned (.bool true) ∧ w = w' := by
  go_enter Tryd.func81, Tryd.ntmps81
  go_wp2_with fail
  go_ret
  exact ⟨rfl, rfl⟩
theorem isWhole_any (st : Nat) (h : st < 9) (w : World) : Calls Tryd.prog 81 #[.int .i64 st] w fun e w' => e = .returned (.bool (whole st)) ∧ w = w' := by
  match st, h with
  | 0, _ => exact isWhole_0 w
  | 1, _ => exact isWhole_1 w
  | 2, _ => exact isWhole_2 w
  | 3, _ => exact isWhole_3 w
  | 4, _ => exact isWhole_4 w
  | 5, _ => exact isWhole_5 w
  | 6, _ => exact isWhole_6 w
  | 7, _ => exact isWhole_7 w
  | 8, _ => exact isWhole_8 w

theorem drop_byte (s : ByteArray) (i : Nat) (h : i < s.size) : s.data.toList.drop i = s[i] :: s.data.toList.drop (i + 1) := by
  rw [List.drop_eq_getElem_cons (show i < s.data.toList.length by simpa using h)]; rfl
/-- num's table. -/
structure Steps (w : World) : Prop where
  cell : ∀ st sg, st < 9 → sg < 7 → w.cell? ⟨0, st * 7 + sg, none⟩ = some (.int .i64 (step st sg))
theorem Steps.lt {w : World} (T : Steps w) : 0 < w.heap.size := by
  have h := T.cell 0 0 (by omega) (by omega)
  unfold World.cell? at h
  split at h
  · rename_i h1; exact heap_lt h1
  · cases h
theorem Steps.kept {w w' : World} (T : Steps w) (h : w'.heap[0]? = w.heap[0]?) : Steps w' :=
  ⟨fun st sg h1 h2 => (World.cell?_of_block h).trans (T.cell st sg h1 h2)⟩
theorem Steps.stays {w w' : World} (T : Steps w) (h : Below w.heap.size w w') : Steps w' := T.kept (h.block _ T.lt)
end Go.Proofs.YtbfkgddhpabioaaDoor.Num
