/- quote.shortFor, quote.Print: a text's print. -/
import Derived.Test.YtehffmcfmdjknaaGreatDoorUtfW
import Derived.Test.YtehffmcfmdjknaaGreatDoorFrame
namespace Go.Proofs.YtehffmcfmdjknaaGreatDoor.Quote
open Go.RowKit Go.Proofs.YtehffmcfmdjknaaGreatDoor.Utf Go.Proofs.YtehffmcfmdjknaaGreatDoor.Strs
set_option linter.unusedVariables false
set_option linter.unusedSimpArgs false
set_option maxRecDepth 100000

/-- The byte that stands for another behind a backslash; 0: none does. -/
def short (c : Nat) : Nat := if c = 34 ∨ c = 92 then c else if c = 8 then 98 else if c = 12 then 102 else if c = 10 then 110 else if c = 13 then 114 else if c = 9 then 116 else 0
def hexd (n : Nat) : UInt8 := [48, 49, 50, 51, 52, 53, 54, 55, 56, 57, 97, 98, 99, 100, 101, 102].getD n 0
/-- A byte's print. -/
def qp (c : UInt8) : List UInt8 := if short c.toNat ≠ 0 then [92, UInt8.ofNat (short c.toNat)] else if c.toNat < 32 then [92, 117, 48, 48, hexd (c.toNat / 16), hexd (c.toNat % 16)] else [c]
/-- A text's print. -/
def qprint (l : List UInt8) : List UInt8 := 34 :: l.flatMap qp ++ [34]
theorem qp_len (c : UInt8) : (qp c).length ≤ 6 := by unfold qp; (repeat' split) <;> simp
theorem qps_len (l : List UInt8) : (l.flatMap qp).length ≤ 6 * l.length := by
  induction l with
  | nil => simp
  | cons c t ih => have := qp_len c; simp only [List.flatMap_cons, List.length_append, List.length_cons]; omega

set_option maxHeartbeats 2000000 in
theorem shortFor_any (c : Nat) (hc : c < 256) (w : World) : Calls Tryz.prog 109 #[.int .u8 c] w fun e w' => e = .returned (.int .u8 (short c : Nat)) ∧ w = w' := by
  by_cases h34 : c = 34
  · subst h34
    go_enter Tryz.func109, Tryz.ntmps109
    go_wp2_with fail
    go_ret
    exact ⟨rfl, rfl⟩
  by_cases h92 : c = 92
  · subst h92
    go_enter Tryz.func109, Tryz.ntmps109
    go_wp2_with fail
    go_ret
    exact ⟨rfl, rfl⟩
  by_cases h8 : c = 8
  · subst h8
    go_enter Tryz.func109, Tryz.ntmps109
    go_wp2_with fail
    go_ret
    exact ⟨rfl, rfl⟩
  by_cases h12 : c = 12
  · subst h12
    go_enter Tryz.func109, Tryz.ntmps109
    go_wp2_with fail
    go_ret
    exact ⟨rfl, rfl⟩
  by_cases h10 : c = 10
  · subst h10
    go_enter Tryz.func109, Tryz.ntmps109
    go_wp2_with fail
    go_ret
    exact ⟨rfl, rfl⟩
  by_cases h13 : c = 13
  · subst h13
    go_enter Tryz.func109, Tryz.ntmps109
    go_wp2_with fail
    go_ret
    exact ⟨rfl, rfl⟩
  by_cases h9 : c = 9
  · subst h9
    go_enter Tryz.func109, Tryz.ntmps109
    go_wp2_with fail
    go_ret
    exact ⟨rfl, rfl⟩
  have hs : short c = 0 := by unfold short; rw [if_neg (by omega), if_neg h8, if_neg h12, if_neg h10, if_neg h13, if_neg h9]
  have HS := Hid.out (p := Hid _) hs
  have e34 : ((c : Int) == 34) = false := by rw [beq_eq_false_iff_ne]; omega
  have e92 : ((c : Int) == 92) = false := by rw [beq_eq_false_iff_ne]; omega
  have e8 : ((c : Int) == 8) = false := by rw [beq_eq_false_iff_ne]; omega
  have e12 : ((c : Int) == 12) = false := by rw [beq_eq_false_iff_ne]; omega
  have e10 : ((c : Int) == 10) = false := by rw [beq_eq_false_iff_ne]; omega
  have e13 : ((c : Int) == 13) = false := by rw [beq_eq_false_iff_ne]; omega
  have e9 : ((c : Int) == 9) = false := by rw [beq_eq_false_iff_ne]; omega
  clear hs
  go_enter Tryz.func109, Tryz.ntmps109
  go_wp2_with fail
  go_ret
  exact ⟨by rw [HS.out]; rfl, rfl⟩
theorem valid_any (s : ByteArray) (w : World) (hs : s.size ≤ 4611686018427387904) (T : Sizes w) : Calls Tryz.prog 82 #[.string s] w fun e w' => e = .returned (.bool (decide (badZ s.data.toList < 0))) ∧ w = w' := by
  have hc := bad_any s w hs T
  obtain ⟨z, hz⟩ : ∃ z, badZ s.data.toList = z := ⟨_, rfl⟩
  rw [hz] at hc ⊢
  clear hz
  go_enter Tryz.func82, Tryz.ntmps82
  go_wp2_with fail
  refine hc.mono ?_
  rintro e w' ⟨rfl, rfl⟩
  go_wp2_with fail
  go_ret
  exact ⟨rfl, rfl⟩
end Go.Proofs.YtehffmcfmdjknaaGreatDoor.Quote
