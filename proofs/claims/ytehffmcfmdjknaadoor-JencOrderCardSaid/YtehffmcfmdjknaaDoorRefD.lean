/- tabulariumref06.digit, run, Scan: the reference's number's text. -/
import Derived.Test.YtehffmcfmdjknaaDoorRefOB
import Derived.Test.YtehffmcfmdjknaaDoorPlainA
import Derived.Test.YtehffmcfmdjknaaDoorNumW
import Derived.Deep.DeepCutAuto
import Derived.WalkMore
namespace Go.Proofs.YtehffmcfmdjknaaDoor.Num
open Go.RowKit Go.Proofs.YtehffmcfmdjknaaDoor.Utf Go.Proofs.YtehffmcfmdjknaaDoor.Strs
set_option linter.unusedVariables false
set_option linter.unusedSimpArgs false
set_option maxRecDepth 100000

def dig (n : Nat) : Bool := decide (48 ≤ n) && decide (n ≤ 57)
def digitAt (l : List UInt8) (i : Nat) : Bool := dig (byt l i)
def rrun (l : List UInt8) (i : Nat) : Nat := i + ((l.drop i).takeWhile (fun c => dig c.toNat)).length
theorem byt_ge (l : List UInt8) (i : Nat) (h : l.length ≤ i) : byt l i = 0 := by
  unfold byt; rw [List.getD_eq_getElem?_getD, List.getElem?_eq_none h]; rfl
theorem byt_at (s : ByteArray) (i : Nat) (h : i < s.size) : byt s.data.toList i = s[i].toNat := by
  have := byt_drop s 0 i (by omega); simpa using this
theorem rrun_step (l : List UInt8) (i : Nat) (h : digitAt l i = true) : rrun l i = rrun l (i + 1) := by
  have hi : i < l.length := by
    rcases Nat.lt_or_ge i l.length with h1 | h1
    · exact h1
    · unfold digitAt at h; rw [byt_ge l i h1] at h; cases h
  unfold rrun
  rw [List.drop_eq_getElem_cons hi, List.takeWhile_cons, if_pos (by
    unfold digitAt byt at h; rw [List.getD_eq_getElem?_getD, List.getElem?_eq_getElem hi] at h; exact h)]
  simp; omega
theorem rrun_stop (l : List UInt8) (i : Nat) (h : digitAt l i = false) : rrun l i = i := by
  unfold rrun
  cases hd : l.drop i with
  | nil => rfl
  | cons c t =>
    have hi : i < l.length := by
      rcases Nat.lt_or_ge i l.length with h1 | h1
      · exact h1
      · rw [List.drop_of_length_le h1] at hd; cases hd
    rw [List.drop_eq_getElem_cons hi] at hd
    injection hd with h1 h2
    have : dig c.toNat = false := by
      unfold digitAt byt at h; rw [List.getD_eq_getElem?_getD, List.getElem?_eq_getElem hi] at h; rw [← h1]; exact h
    rw [List.takeWhile_cons, if_neg (by rw [this]; decide)]; rfl
theorem rrun_le (l : List UInt8) (i : Nat) (h : i ≤ l.length) : i ≤ rrun l i ∧ rrun l i ≤ l.length := by
  unfold rrun
  have := (List.takeWhile_prefix (p := fun c : UInt8 => dig c.toNat) (l := l.drop i)).length_le
  rw [List.length_drop] at this
  omega

theorem rdigit_any (s : ByteArray) (i : Nat) (w : World) (hi : i ≤ 4611686018427387904) (hs : s.size ≤ 4611686018427387904) :
    Calls Tryd.prog 32 #[.string s, .int .i64 i] w fun e w' => e = .returned (.bool (digitAt s.data.toList i)) ∧ w = w' := by
  by_cases hlt : i < s.size
  · have hb := byt_at s i hlt
    have HB : Hid (digitAt s.data.toList i = (decide (48 ≤ s[i].toNat) && decide (s[i].toNat ≤ 57))) := by rw [Hid, digitAt, hb, dig]
    clear hb
    by_cases h1 : 48 ≤ s[i].toNat
    · have HR : Hid (digitAt s.data.toList i = decide ((s[i].toNat : Int) ≤ 57)) := by
        rw [Hid, HB.out, decide_eq_true h1, Bool.true_and]; congr 1; exact propext ⟨fun h => by omega, fun h => by omega⟩
      go_enter Tryd.func32, Tryd.ntmps32
      go_wp2_with fail
      go_ret
      exact ⟨by rw [HR.out]; rfl, rfl⟩
    · have HR : Hid (digitAt s.data.toList i = false) := by rw [Hid, HB.out]; simp [h1]
      go_enter Tryd.func32, Tryd.ntmps32
      go_wp2_with fail
      go_ret
      exact ⟨by rw [HR.out]; rfl, rfl⟩
  · have HR : Hid (digitAt s.data.toList i = false) := by rw [Hid, digitAt, byt_ge _ _ (by simp; omega)]; rfl
    go_enter Tryd.func32, Tryd.ntmps32
    go_wp2_with fail
    go_ret
    exact ⟨by rw [HR.out]; rfl, rfl⟩

theorem digitAt_lt {s : ByteArray} {i : Nat} (h : digitAt s.data.toList i = true) : i < s.size := by
  rcases Nat.lt_or_ge i s.size with h1 | h1
  · exact h1
  · unfold digitAt at h; rw [byt_ge _ _ (by simp; omega)] at h; cases h
def e0 (l : List UInt8) : Nat := if byt l 0 = 45 then 1 else 0
def e1 (l : List UInt8) (i : Nat) : Nat := if byt l i = 48 then i + 1 else rrun l i
def e2 (l : List UInt8) (i : Nat) : Nat := if byt l i = 46 ∧ digitAt l (i + 1) = true then rrun l (i + 1) else i
def e3 (l : List UInt8) (k : Nat) : Nat := if byt l k = 43 ∨ byt l k = 45 then k + 1 else k
def e4 (l : List UInt8) (i : Nat) : Nat := if (byt l i = 101 ∨ byt l i = 69) ∧ digitAt l (e3 l (i + 1)) = true then rrun l (e3 l (i + 1)) else i
/-- How many bytes the longest number's text has, as the reference reads. -/
def rscan (l : List UInt8) : Nat := if digitAt l (e0 l) = true then e4 l (e2 l (e1 l (e0 l))) else 0

theorem bool_int (n k : Nat) : Value.bool ((n : Int) == (k : Int)) = Value.bool (n == k) := by
  congr 1; rw [Bool.eq_iff_iff, beq_iff_eq, beq_iff_eq]; omega
end Go.Proofs.YtehffmcfmdjknaaDoor.Num
/- tabulariumref06.Right. -/
namespace Go.Proofs.YtehffmcfmdjknaaDoor.Num
open Go.RowKit
set_option linter.unusedVariables false
set_option linter.unusedSimpArgs false
set_option maxRecDepth 100000

set_option maxHeartbeats 2000000 in
theorem rright_et (d : ByteArray) (x : Int) (w : World) (hs : d.size ≤ 4611686018427387904) (h0 : d.size = 0) :
    Calls Tryd.prog 23 #[.agg #[.bool true, .string d, .int .i64 x]] w fun e w' => e = .returned (.bool (right true d.data.toList x)) ∧ Below w.heap.size w w' := by
  have hl : d.data.toList = [] := List.eq_nil_of_length_eq_zero (by simpa using h0)
  have HR : Hid (right true d.data.toList x = (!true && x == 0)) := by rw [Hid, hl]; rfl
  clear hl
  have q0 : ((d.size : Int) == 0) = true := by rw [beq_iff_eq]; omega
  generalize hx : (x == 0) = xb at HR
  go_enter Tryd.func23, Tryd.ntmps23
  go_wp2_with fail
  go_ret
  exact ⟨bool_ret (by rw [HR.out]; rfl), (Below.refl _ _).alloc (Nat.le_refl _) _⟩

set_option maxHeartbeats 2000000 in
theorem rright_ef (d : ByteArray) (x : Int) (w : World) (hs : d.size ≤ 4611686018427387904) (h0 : d.size = 0) :
    Calls Tryd.prog 23 #[.agg #[.bool false, .string d, .int .i64 x]] w fun e w' => e = .returned (.bool (right false d.data.toList x)) ∧ Below w.heap.size w w' := by
  have hl : d.data.toList = [] := List.eq_nil_of_length_eq_zero (by simpa using h0)
  have HR : Hid (right false d.data.toList x = (!false && x == 0)) := by rw [Hid, hl]; rfl
  clear hl
  have q0 : ((d.size : Int) == 0) = true := by rw [beq_iff_eq]; omega
  generalize hx : (x == 0) = xb at HR
  go_enter Tryd.func23, Tryd.ntmps23
  go_wp2_with fail
  go_ret
  exact ⟨bool_ret (by rw [HR.out]; rfl), (Below.refl _ _).alloc (Nat.le_refl _) _⟩

set_option maxHeartbeats 2000000 in
theorem rright_long (neg : Bool) (d : ByteArray) (x : Int) (w : World) (hs : d.size ≤ 4611686018427387904) (h1 : 1000 < d.size) :
    Calls Tryd.prog 23 #[.agg #[.bool neg, .string d, .int .i64 x]] w fun e w' => e = .returned (.bool (right neg d.data.toList x)) ∧ Below w.heap.size w w' := by
  have q0 : ((d.size : Int) == 0) = false := by rw [beq_eq_false_iff_ne]; omega
  have hl : ¬ d.data.toList = [] := List.ne_nil_of_length_pos (by simp; omega)
  have HR : Hid (right neg d.data.toList x = false) := by
    rw [Hid, right, if_neg hl, if_pos (by have : d.data.toList.length = d.size := by simp
                                          omega)]
  clear hl
  have d1 : decide (1000 < (d.size : Int)) = true := by simp; omega
  go_enter Tryd.func23, Tryd.ntmps23
  go_wp2_with fail
  go_ret
  exact ⟨bool_ret (by rw [HR.out]), (Below.refl _ _).alloc (Nat.le_refl _) _⟩

set_option maxHeartbeats 2000000 in
theorem rright_low (neg : Bool) (d : ByteArray) (x : Int) (w : World) (hs : d.size ≤ 4611686018427387904) (h0 : 0 < d.size) (h1 : d.size ≤ 1000) (h2 : x < -10000) :
    Calls Tryd.prog 23 #[.agg #[.bool neg, .string d, .int .i64 x]] w fun e w' => e = .returned (.bool (right neg d.data.toList x)) ∧ Below w.heap.size w w' := by
  have q0 : ((d.size : Int) == 0) = false := by rw [beq_eq_false_iff_ne]; omega
  have hl : ¬ d.data.toList = [] := List.ne_nil_of_length_pos (by simp; omega)
  have HR : Hid (right neg d.data.toList x = false) := by
    rw [Hid, right, if_neg hl, if_pos (by have : d.data.toList.length = d.size := by simp
                                          omega)]
  clear hl
  have d1 : decide (1000 < (d.size : Int)) = false := by simp; omega
  have d2 : decide (x < -10000) = true := by simp; omega
  go_enter Tryd.func23, Tryd.ntmps23
  go_wp2_with fail
  go_ret
  exact ⟨bool_ret (by rw [HR.out]), (Below.refl _ _).alloc (Nat.le_refl _) _⟩

set_option maxHeartbeats 2000000 in
theorem rright_high (neg : Bool) (d : ByteArray) (x : Int) (w : World) (hs : d.size ≤ 4611686018427387904) (h0 : 0 < d.size) (h1 : d.size ≤ 1000) (h2 : 10000 < x) :
    Calls Tryd.prog 23 #[.agg #[.bool neg, .string d, .int .i64 x]] w fun e w' => e = .returned (.bool (right neg d.data.toList x)) ∧ Below w.heap.size w w' := by
  have q0 : ((d.size : Int) == 0) = false := by rw [beq_eq_false_iff_ne]; omega
  have hl : ¬ d.data.toList = [] := List.ne_nil_of_length_pos (by simp; omega)
  have HR : Hid (right neg d.data.toList x = false) := by
    rw [Hid, right, if_neg hl, if_pos (by have : d.data.toList.length = d.size := by simp
                                          omega)]
  clear hl
  have d1 : decide (1000 < (d.size : Int)) = false := by simp; omega
  have d2 : decide (x < -10000) = false := by simp; omega
  have d3 : decide (10000 < x) = true := by simp; omega
  go_enter Tryd.func23, Tryd.ntmps23
  go_wp2_with fail
  go_ret
  exact ⟨bool_ret (by rw [HR.out]), (Below.refl _ _).alloc (Nat.le_refl _) _⟩

set_option maxHeartbeats 2000000 in
theorem rright_loop (neg : Bool) (d : ByteArray) (x : Int) (w : World) (hs : d.size ≤ 4611686018427387904) (h0 : 0 < d.size) (h1 : d.size ≤ 1000) (h2 : -10000 ≤ x) (h3 : x ≤ 10000) :
    Calls Tryd.prog 23 #[.agg #[.bool neg, .string d, .int .i64 x]] w fun e w' => e = .returned (.bool (right neg d.data.toList x)) ∧ Below w.heap.size w w' := by
  have q0 : ((d.size : Int) == 0) = false := by rw [beq_eq_false_iff_ne]; omega
  have hl : ¬ d.data.toList = [] := List.ne_nil_of_length_pos (by simp; omega)
  have HR : Hid (right neg d.data.toList x = (d.data.toList.all isDigit && (d[0] != 48) && (d[d.size - 1] != 48))) := by
    rw [Hid, right, if_neg hl, if_neg (by have : d.data.toList.length = d.size := by simp
                                          omega), headD_byte d h0, getLastD_byte d h0]
  clear hl
  have d1 : decide (1000 < (d.size : Int)) = false := by simp; omega
  have d2 : decide (x < -10000) = false := by simp; omega
  have d3 : decide (10000 < x) = false := by simp; omega
  go_enter Tryd.func23, Tryd.ntmps23
  go_wp2_with fail
  have hdg : ∀ i, i < d.size → digitAt d.data.toList i = isDigit (d.data.toList.getD i 0) := fun i h => rfl
  go_loop [3] (fun p3 => ∃ i : Nat, i ≤ d.size ∧ p3 = .int .i64 i ∧ Hid (d.data.toList.all isDigit = (d.data.toList.drop i).all isDigit)) (fun p3 => d.size - (intOf p3).toNat)
  case atStart => exact ⟨0, Nat.zero_le _, rfl, rfl⟩
  case round =>
    obtain ⟨i, hi, rfl, hf⟩ := hrel
    clear hdg
    by_cases hlt : i < d.size
    · have HS : Hid ((d.data.toList.drop i).all isDigit = (isDigit d[i] && (d.data.toList.drop (i + 1)).all isDigit)) := by rw [Hid, drop_byte d i hlt, List.all_cons]
      have HD : Hid (digitAt d.data.toList i = isDigit d[i]) := by
        rw [Hid, digitAt, Utf.byt, List.getD_eq_getElem?_getD, List.getElem?_eq_getElem (by simpa using hlt)]; rfl
      go_wp2_with fail
      refine (rdigit_any d i _ (by omega) (by omega)).mono ?_
      rintro e w' ⟨rfl, rfl⟩
      rw [HD.out]
      cases hdi : isDigit d[i]
      · have HF : Hid (right neg d.data.toList x = false) := by rw [Hid, HR.out, hf.out, HS.out, hdi]; rfl
        clear hdi
        go_wp2_with fail
        go_ret
        exact ⟨bool_ret (by rw [HF.out]), (Below.refl _ _).alloc (Nat.le_refl _) _⟩
      · have HN : Hid (d.data.toList.all isDigit = (d.data.toList.drop (i + 1)).all isDigit) := by rw [Hid, hf.out, HS.out, hdi]; rfl
        clear hdi
        go_wp2_with fail
        go_round
        case rel => exact ⟨i + 1, by omega, by go_num, HN.out⟩
        case measure => simp [intOf]; omega
    · obtain rfl : i = d.size := by omega
      have ha : d.data.toList.all isDigit = true := by rw [hf.out, List.drop_of_length_le (by simp)]; rfl
      have HF : Hid (right neg d.data.toList x = (((d[0].toNat : Int) != 48) && ((d[d.size - 1].toNat : Int) != 48))) := by
        rw [Hid, HR.out, ha, u8_ne, u8_ne]; rfl
      clear ha
      have hsub : d.size - 1 < d.size := by omega
      have hcst : ((d.size : Int) - 1) = ((d.size - 1 : Nat) : Int) := by omega
      cases hb1 : ((d[0].toNat : Int) != 48)
      · go_wp2_with fail
        go_ret
        exact ⟨bool_ret (by rw [HF.out, hb1]; rfl), (Below.refl _ _).alloc (Nat.le_refl _) _⟩
      · go_wp2_with fail
        go_ret
        refine ⟨bool_ret ?_, (Below.refl _ _).alloc (Nat.le_refl _) _⟩
        rw [HF.out, hb1]; rfl

theorem rright_any (neg : Bool) (d : ByteArray) (x : Int) (w : World) (hs : d.size ≤ 4611686018427387904) :
    Calls Tryd.prog 23 #[.agg #[.bool neg, .string d, .int .i64 x]] w fun e w' => e = .returned (.bool (right neg d.data.toList x)) ∧ Below w.heap.size w w' := by
  by_cases h0 : d.size = 0
  · cases neg
    · exact rright_ef d x w hs h0
    · exact rright_et d x w hs h0
  by_cases h1 : 1000 < d.size
  · exact rright_long neg d x w hs h1
  by_cases h2 : x < -10000
  · exact rright_low neg d x w hs (by omega) (by omega) h2
  by_cases h3 : 10000 < x
  · exact rright_high neg d x w hs (by omega) (by omega) h3
  · exact rright_loop neg d x w hs (by omega) (by omega) (by omega) (by omega)
end Go.Proofs.YtehffmcfmdjknaaDoor.Num
