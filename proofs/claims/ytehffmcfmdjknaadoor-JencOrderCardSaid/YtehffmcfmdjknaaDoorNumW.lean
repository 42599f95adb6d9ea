/- num.signOf, num.isWhole, num.Scan. -/
import Derived.Test.YtehffmcfmdjknaaDoorPlainA
import Derived.Test.YtehffmcfmdjknaaDoorFrame
namespace Go.Proofs.YtehffmcfmdjknaaDoor.Num
open Go.RowKit
set_option linter.unusedVariables false
set_option linter.unusedSimpArgs false
set_option maxRecDepth 100000

theorem drop_byte (s : ByteArray) (i : Nat) (h : i < s.size) : s.data.toList.drop i = s[i] :: s.data.toList.drop (i + 1) := by
  rw [List.drop_eq_getElem_cons (show i < s.data.toList.length by simpa using h)]; rfl
end Go.Proofs.YtehffmcfmdjknaaDoor.Num
/- num.Scan. -/
namespace Go.Proofs.YtehffmcfmdjknaaDoor.Num
open Go.RowKit
set_option linter.unusedVariables false
set_option linter.unusedSimpArgs false
set_option maxRecDepth 100000

end Go.Proofs.YtehffmcfmdjknaaDoor.Num
/- num.powerOf. -/
namespace Go.Proofs.YtehffmcfmdjknaaDoor.Num
open Go.RowKit
set_option linter.unusedVariables false
set_option linter.unusedSimpArgs false
set_option maxRecDepth 100000

theorem extract1 (s : ByteArray) : (s.extract 1 s.size).data.toList = s.data.toList.drop 1 := by
  simp [ByteArray.data_extract, Array.toList_extract, List.extract_eq_take_drop]
  rw [List.take_of_length_le (by simp)]
theorem foldl_drop (l : List UInt8) (t : ByteArray) (n i : Nat) (h : i < t.size) : (t.data.toList.drop i).foldl pstep n = (t.data.toList.drop (i + 1)).foldl pstep (pstep n t[i]) := by
  rw [drop_byte t i h]; rfl
theorem wrap_sub48 (c : Nat) (h : c < 256) : IntKind.u8.wrap ((c : Int) - 48) = (((c + 208) % 256 : Nat) : Int) := by
  simp [IntKind.wrap, IntKind.bits, IntKind.signed]; omega

end Go.Proofs.YtehffmcfmdjknaaDoor.Num
/- num.Right. -/
namespace Go.Proofs.YtehffmcfmdjknaaDoor.Num
open Go.RowKit
set_option linter.unusedVariables false
set_option linter.unusedSimpArgs false
set_option maxRecDepth 100000

theorem bool_ret {a b : Bool} (h : a = b) : Ending.returned (.bool a) = .returned (.bool b) := by rw [h]
theorem getLastD_byte (d : ByteArray) (h : 0 < d.size) : d.data.toList.getLastD 48 = d[d.size - 1] := by
  rw [List.getLastD_eq_getLast?, List.getLast?_eq_getElem?]
  have : d.data.toList.length = d.size := by simp
  rw [this, List.getElem?_eq_getElem (by omega)]
  rfl
theorem headD_byte (d : ByteArray) (h : 0 < d.size) : d.data.toList.headD 48 = d[0] := by
  have := drop_byte d 0 h
  rw [List.drop_zero] at this
  rw [this]; rfl
theorem u8_ne (c : UInt8) : ((c.toNat : Int) != 48) = (c != 48) := by
  by_cases h : c = 48
  · subst h; rfl
  · have h2 : c.toNat ≠ 48 := fun e => h (UInt8.toNat_inj.1 e)
    have e1 : ((c.toNat : Int) != 48) = true := by rw [bne_iff_ne]; omega
    have e2 : (c != 48) = true := by rw [bne_iff_ne]; exact h
    rw [e1, e2]

set_option maxHeartbeats 2000000 in
theorem right_et (d : ByteArray) (x : Int) (w : World) (hs : d.size ≤ 4611686018427387904) (h0 : d.size = 0) :
    Calls Tryd.prog 35 #[.agg #[.bool true, .string d, .int .i64 x]] w fun e w' => e = .returned (.bool (right true d.data.toList x)) ∧ Below w.heap.size w w' := by
  have hl : d.data.toList = [] := List.eq_nil_of_length_eq_zero (by simpa using h0)
  have HR : Hid (right true d.data.toList x = (!true && x == 0)) := by rw [Hid, hl]; rfl
  clear hl
  have q0 : ((d.size : Int) == 0) = true := by rw [beq_iff_eq]; omega
  generalize hx : (x == 0) = xb at HR
  go_enter Tryd.func35, Tryd.ntmps35
  go_wp2_with fail
  go_ret
  exact ⟨bool_ret (by rw [HR.out]; rfl), (Below.refl _ _).alloc (Nat.le_refl _) _⟩

set_option maxHeartbeats 2000000 in
theorem right_ef (d : ByteArray) (x : Int) (w : World) (hs : d.size ≤ 4611686018427387904) (h0 : d.size = 0) :
    Calls Tryd.prog 35 #[.agg #[.bool false, .string d, .int .i64 x]] w fun e w' => e = .returned (.bool (right false d.data.toList x)) ∧ Below w.heap.size w w' := by
  have hl : d.data.toList = [] := List.eq_nil_of_length_eq_zero (by simpa using h0)
  have HR : Hid (right false d.data.toList x = (!false && x == 0)) := by rw [Hid, hl]; rfl
  clear hl
  have q0 : ((d.size : Int) == 0) = true := by rw [beq_iff_eq]; omega
  generalize hx : (x == 0) = xb at HR
  go_enter Tryd.func35, Tryd.ntmps35
  go_wp2_with fail
  go_ret
  exact ⟨bool_ret (by rw [HR.out]; rfl), (Below.refl _ _).alloc (Nat.le_refl _) _⟩

set_option maxHeartbeats 2000000 in
theorem right_long (neg : Bool) (d : ByteArray) (x : Int) (w : World) (hs : d.size ≤ 4611686018427387904) (h1 : 1000 < d.size) :
    Calls Tryd.prog 35 #[.agg #[.bool neg, .string d, .int .i64 x]] w fun e w' => e = .returned (.bool (right neg d.data.toList x)) ∧ Below w.heap.size w w' := by
  have q0 : ((d.size : Int) == 0) = false := by rw [beq_eq_false_iff_ne]; omega
  have hl : ¬ d.data.toList = [] := List.ne_nil_of_length_pos (by simp; omega)
  have HR : Hid (right neg d.data.toList x = false) := by
    rw [Hid, right, if_neg hl, if_pos (by have : d.data.toList.length = d.size := by simp
                                          omega)]
  clear hl
  have d1 : decide (1000 < (d.size : Int)) = true := by simp; omega
  go_enter Tryd.func35, Tryd.ntmps35
  go_wp2_with fail
  go_ret
  exact ⟨bool_ret (by rw [HR.out]), (Below.refl _ _).alloc (Nat.le_refl _) _⟩

set_option maxHeartbeats 2000000 in
theorem right_low (neg : Bool) (d : ByteArray) (x : Int) (w : World) (hs : d.size ≤ 4611686018427387904) (h0 : 0 < d.size) (h1 : d.size ≤ 1000) (h2 : x < -10000) :
    Calls Tryd.prog 35 #[.agg #[.bool neg, .string d, .int .i64 x]] w fun e w' => e = .returned (.bool (right neg d.data.toList x)) ∧ Below w.heap.size w w' := by
  have q0 : ((d.size : Int) == 0) = false := by rw [beq_eq_false_iff_ne]; omega
  have hl : ¬ d.data.toList = [] := List.ne_nil_of_length_pos (by simp; omega)
  have HR : Hid (right neg d.data.toList x = false) := by
    rw [Hid, right, if_neg hl, if_pos (by have : d.data.toList.length = d.size := by simp
                                          omega)]
  clear hl
  have d1 : decide (1000 < (d.size : Int)) = false := by simp; omega
  have d2 : decide (x < -10000) = true := by simp; omega
  go_enter Tryd.func35, Tryd.ntmps35
  go_wp2_with fail
  go_ret
  exact ⟨bool_ret (by rw [HR.out]), (Below.refl _ _).alloc (Nat.le_refl _) _⟩

set_option maxHeartbeats 2000000 in
theorem right_high (neg : Bool) (d : ByteArray) (x : Int) (w : World) (hs : d.size ≤ 4611686018427387904) (h0 : 0 < d.size) (h1 : d.size ≤ 1000) (h2 : 10000 < x) :
    Calls Tryd.prog 35 #[.agg #[.bool neg, .string d, .int .i64 x]] w fun e w' => e = .returned (.bool (right neg d.data.toList x)) ∧ Below w.heap.size w w' := by
  have q0 : ((d.size : Int) == 0) = false := by rw [beq_eq_false_iff_ne]; omega
  have hl : ¬ d.data.toList = [] := List.ne_nil_of_length_pos (by simp; omega)
  have HR : Hid (right neg d.data.toList x = false) := by
    rw [Hid, right, if_neg hl, if_pos (by have : d.data.toList.length = d.size := by simp
                                          omega)]
  clear hl
  have d1 : decide (1000 < (d.size : Int)) = false := by simp; omega
  have d2 : decide (x < -10000) = false := by simp; omega
  have d3 : decide (10000 < x) = true := by simp; omega
  go_enter Tryd.func35, Tryd.ntmps35
  go_wp2_with fail
  go_ret
  exact ⟨bool_ret (by rw [HR.out]), (Below.refl _ _).alloc (Nat.le_refl _) _⟩

set_option maxHeartbeats 2000000 in
theorem right_loop (neg : Bool) (d : ByteArray) (x : Int) (w : World) (hs : d.size ≤ 4611686018427387904) (h0 : 0 < d.size) (h1 : d.size ≤ 1000) (h2 : -10000 ≤ x) (h3 : x ≤ 10000) :
    Calls Tryd.prog 35 #[.agg #[.bool neg, .string d, .int .i64 x]] w fun e w' => e = .returned (.bool (right neg d.data.toList x)) ∧ Below w.heap.size w w' := by
  have q0 : ((d.size : Int) == 0) = false := by rw [beq_eq_false_iff_ne]; omega
  have hl : ¬ d.data.toList = [] := List.ne_nil_of_length_pos (by simp; omega)
  have HR : Hid (right neg d.data.toList x = (d.data.toList.all isDigit && (d[0] != 48) && (d[d.size - 1] != 48))) := by
    rw [Hid, right, if_neg hl, if_neg (by have : d.data.toList.length = d.size := by simp
                                          omega), headD_byte d h0, getLastD_byte d h0]
  clear hl
  have d1 : decide (1000 < (d.size : Int)) = false := by simp; omega
  have d2 : decide (x < -10000) = false := by simp; omega
  have d3 : decide (10000 < x) = false := by simp; omega
  go_enter Tryd.func35, Tryd.ntmps35
  go_wp2_with fail
  go_loop [4, 31] (fun p4 p31 => ∃ i : Nat, i ≤ d.size ∧ p31 = .int .i64 i ∧ Hid (d.data.toList.all isDigit = (d.data.toList.drop i).all isDigit)) (fun p4 p31 => d.size - (intOf p31).toNat)
  case atStart => exact ⟨0, Nat.zero_le _, rfl, rfl⟩
  case round =>
    obtain ⟨i, hi, rfl, hf⟩ := hrel
    by_cases hlt : i < d.size
    · have HS : Hid ((d.data.toList.drop i).all isDigit = (isDigit d[i] && (d.data.toList.drop (i + 1)).all isDigit)) := by rw [Hid, drop_byte d i hlt, List.all_cons]
      by_cases c1 : d[i].toNat < 48
      · have e1 : decide ((d[i].toNat : Int) < 48) = true := by simp; omega
        have HF : Hid (right neg d.data.toList x = false) := by
          rw [Hid, HR.out, hf.out, HS.out, show isDigit d[i] = false by simp [isDigit]; omega]; rfl
        go_wp2_with fail
        go_ret
        exact ⟨bool_ret (by rw [HF.out]), (Below.refl _ _).alloc (Nat.le_refl _) _⟩
      by_cases c2 : 57 < d[i].toNat
      · have e1 : decide ((d[i].toNat : Int) < 48) = false := by simp; omega
        have e2 : decide (57 < (d[i].toNat : Int)) = true := by simp; omega
        have HF : Hid (right neg d.data.toList x = false) := by
          rw [Hid, HR.out, hf.out, HS.out, show isDigit d[i] = false by simp [isDigit]; omega]; rfl
        go_wp2_with fail
        go_ret
        exact ⟨bool_ret (by rw [HF.out]), (Below.refl _ _).alloc (Nat.le_refl _) _⟩
      · have e1 : decide ((d[i].toNat : Int) < 48) = false := by simp; omega
        have e2 : decide (57 < (d[i].toNat : Int)) = false := by simp; omega
        have HN : Hid (d.data.toList.all isDigit = (d.data.toList.drop (i + 1)).all isDigit) := by
          rw [Hid, hf.out, HS.out, show isDigit d[i] = true by simp [isDigit]; omega]; rfl
        go_wp2_with fail
        go_round
        case rel => exact ⟨i + 1, by omega, by go_num, HN.out⟩
        case measure => simp [intOf]; omega
    · obtain rfl : i = d.size := by omega
      have ha : d.data.toList.all isDigit = true := by rw [hf.out, List.drop_of_length_le (by simp)]; rfl
      have HF : Hid (right neg d.data.toList x = (((d[0].toNat : Int) != 48) && ((d[d.size - 1].toNat : Int) != 48))) := by
        rw [Hid, HR.out, ha, u8_ne, u8_ne]; rfl
      clear ha
      have hsub : d.size - 1 < d.size := by omega
      have hcst : ((d.size : Int) - 1) = ((d.size - 1 : Nat) : Int) := by omega
      cases hb1 : ((d[0].toNat : Int) != 48)
      · go_wp2_with fail
        go_ret
        exact ⟨bool_ret (by rw [HF.out, hb1]; rfl), (Below.refl _ _).alloc (Nat.le_refl _) _⟩
      · go_wp2_with fail
        go_ret
        refine ⟨bool_ret ?_, (Below.refl _ _).alloc (Nat.le_refl _) _⟩
        rw [HF.out, hb1]; rfl

theorem right_any (neg : Bool) (d : ByteArray) (x : Int) (w : World) (hs : d.size ≤ 4611686018427387904) :
    Calls Tryd.prog 35 #[.agg #[.bool neg, .string d, .int .i64 x]] w fun e w' => e = .returned (.bool (right neg d.data.toList x)) ∧ Below w.heap.size w w' := by
  by_cases h0 : d.size = 0
  · cases neg
    · exact right_ef d x w hs h0
    · exact right_et d x w hs h0
  by_cases h1 : 1000 < d.size
  · exact right_long neg d x w hs h1
  by_cases h2 : x < -10000
  · exact right_low neg d x w hs (by omega) (by omega) h2
  by_cases h3 : 10000 < x
  · exact right_high neg d x w hs (by omega) (by omega) h3
  · exact right_loop neg d x w hs (by omega) (by omega) (by omega) (by omega)
end Go.Proofs.YtehffmcfmdjknaaDoor.Num
/- num.Parse. -/
namespace Go.Proofs.YtehffmcfmdjknaaDoor.Num
open Go.RowKit Go.Proofs.YtehffmcfmdjknaaDoor.Strs
set_option linter.unusedVariables false
set_option linter.unusedSimpArgs false
set_option maxRecDepth 100000

/-- The digits and the power at last. -/
def fin (neg : Bool) (d : List UInt8) (x : Int) : Except Nat (Bool × List UInt8 × Int) :=
  let d3 := d.dropWhile (· == 48)
  let cut := (d3.reverse.dropWhile (· == 48)).reverse
  if cut = [] then .ok (false, [], 0)
  else if right neg cut (x + ((d3.length : Int) - cut.length)) then .ok (neg, cut, x + ((d3.length : Int) - cut.length)) else .error 4
def point (neg : Bool) (d : List UInt8) (x : Int) : Except Nat (Bool × List UInt8 × Int) :=
  match d.findIdx? (· == 46) with
  | none => fin neg d x
  | some j => fin neg (d.take j ++ d.drop (j + 1)) (x - ((d.length : Int) - j - 1))
def mant (neg : Bool) (d : List UInt8) : Except Nat (Bool × List UInt8 × Int) :=
  match d.findIdx? ([101, 69].contains ·) with
  | none => point neg d 0
  | some i => point neg (d.take i) (power (d.drop (i + 1)))
def parse (l : List UInt8) : Except Nat (Bool × List UInt8 × Int) :=
  if l = [] ∨ scan l ≠ l.length then .error 3
  else mant (l.head? == some 45) (if l.head? == some 45 then l.drop 1 else l)
/-- .. as the program tells it. -/
def parseV (l : List UInt8) : Value :=
  match parse l with
  | .error k => .tuple #[.agg #[.bool false, .string ⟨#[]⟩, .int .i64 0], .int .i64 k]
  | .ok (n, d, x) => .tuple #[.agg #[.bool n, .string ⟨d.toArray⟩, .int .i64 x], .int .i64 0]

theorem pdigits_le (l : List UInt8) : pdigits l ≤ 1099511627776 := by
  have : ∀ (l : List UInt8) (n : Nat), n ≤ 1099511627776 → l.foldl pstep n ≤ 1099511627776 := by
    intro l
    induction l with
    | nil => intro n h; exact h
    | cons c l ih => intro n h; exact ih _ (pstep_le n c)
  exact this l 0 (by omega)
theorem power_le (l : List UInt8) : -1099511627776 ≤ power l ∧ power l ≤ 1099511627776 := by
  unfold power
  split
  · omega
  · rename_i c t
    have h1 := pdigits_le t
    have h2 := pdigits_le (c :: t)
    split
    · omega
    · split <;> omega
theorem dropWhile_le {p : UInt8 → Bool} : ∀ l : List UInt8, (l.dropWhile p).length ≤ l.length
  | [] => Nat.le_refl _
  | c :: l => by
    rw [List.dropWhile_cons]
    split
    · have := dropWhile_le (p := p) l; simp; omega
    · exact Nat.le_refl _
theorem mk_str {d : ByteArray} {l : List UInt8} (h : d.data.toList = l) : (⟨l.toArray⟩ : ByteArray) = d := by
  subst h; simp

theorem nil_size {d : ByteArray} : d.data.toList = [] ↔ d.size = 0 := by
  rw [← List.length_eq_zero_iff]; simp
theorem fin_zero {neg : Bool} {d : List UInt8} {x : Int} {d3 cut : ByteArray} (h3 : d3.data.toList = d.dropWhile (· == 48)) (hc : cut.data.toList = (d3.data.toList.reverse.dropWhile (· == 48)).reverse) (hz : cut.size = 0) :
    fin neg d x = .ok (false, [], 0) := by
  unfold fin
  simp only []
  rw [← h3, ← hc, if_pos (nil_size.2 hz)]
theorem fin_bad {neg : Bool} {d : List UInt8} {x : Int} {d3 cut : ByteArray} (h3 : d3.data.toList = d.dropWhile (· == 48)) (hc : cut.data.toList = (d3.data.toList.reverse.dropWhile (· == 48)).reverse) (hz : ¬ cut.size = 0)
    (y : Int) (hy : y = x + ((d3.size : Int) - cut.size)) (hr : right neg cut.data.toList y = false) : fin neg d x = .error 4 := by
  unfold fin
  simp only []
  rw [← h3, ← hc, if_neg (fun e => hz (nil_size.1 e)), show ((d3.data.toList.length : Nat) : Int) - (cut.data.toList.length : Nat) = (d3.size : Int) - cut.size by simp, ← hy, if_neg (by rw [hr]; decide)]
theorem fin_ok {neg : Bool} {d : List UInt8} {x : Int} {d3 cut : ByteArray} (h3 : d3.data.toList = d.dropWhile (· == 48)) (hc : cut.data.toList = (d3.data.toList.reverse.dropWhile (· == 48)).reverse) (hz : ¬ cut.size = 0)
    (y : Int) (hy : y = x + ((d3.size : Int) - cut.size)) (hr : right neg cut.data.toList y = true) : fin neg d x = .ok (neg, cut.data.toList, y) := by
  unfold fin
  simp only []
  rw [← h3, ← hc, if_neg (fun e => hz (nil_size.1 e)), show ((d3.data.toList.length : Nat) : Int) - (cut.data.toList.length : Nat) = (d3.size : Int) - cut.size by simp, ← hy, if_pos hr]

/-- A text that is a number's: what the walk is to know of it. -/
structure Whole (s : ByteArray) (d0 : ByteArray) (neg : Bool) : Prop where
  parse : parseV s.data.toList = (match mant neg d0.data.toList with
    | .error k => .tuple #[.agg #[.bool false, .string ⟨#[]⟩, .int .i64 0], .int .i64 k]
    | .ok (n, d, x) => .tuple #[.agg #[.bool n, .string ⟨d.toArray⟩, .int .i64 x], .int .i64 0])
  ascii : ∀ c ∈ d0.data.toList, c.toNat < 128
  more : ∀ i, d0.data.toList.findIdx? ([101, 69].contains ·) = some i → i + 1 < d0.size
  size : d0.size ≤ s.size
theorem whole_of (s d0 : ByteArray) (neg : Bool) (h0 : s.data.toList ≠ []) (hsc : scan s.data.toList = s.data.toList.length) (hn : neg = (s.data.toList.head? == some 45)) (hd : d0.data.toList = if s.data.toList.head? == some 45 then s.data.toList.drop 1 else s.data.toList) : Whole s d0 neg := by
  have hr := (scan_full _ h0).1 hsc
  have hsuf : ∃ a, s.data.toList = a ++ d0.data.toList := by
    rw [hd]
    split
    · exact ⟨s.data.toList.take 1, (List.take_append_drop 1 _).symm⟩
    · exact ⟨[], rfl⟩
  obtain ⟨a, ha⟩ := hsuf
  refine ⟨?_, ?_, ?_, ?_⟩
  · unfold parseV parse
    rw [if_neg (by simp [h0, hsc]), hd, hn]
  · intro c hc
    exact sgn_ascii _ (run_signs _ 0 (by omega) hr.1 c (by rw [ha]; exact List.mem_append_right _ hc))
  · intro i hi
    obtain ⟨hlt, hp, _⟩ := List.findIdx?_eq_some_iff_getElem.1 hi
    have hl : d0.data.toList.length = d0.size := by simp
    have hc : sgn (d0.data.toList[i]).toNat = 5 := by
      have : d0.data.toList[i] = 101 ∨ d0.data.toList[i] = 69 := by simpa using hp
      rcases this with h | h <;> rw [h] <;> rfl
    have hsp : s.data.toList = (a ++ d0.data.toList.take i) ++ d0.data.toList[i] :: d0.data.toList.drop (i + 1) := by
      rw [ha, List.append_assoc, ← List.drop_eq_getElem_cons hlt, List.take_append_drop]
    rw [hsp] at hr
    have := mark_more _ _ _ hc hr.1 hr.2
    have h2 := List.length_pos_iff.2 this
    rw [List.length_drop] at h2
    omega
  · have := congrArg List.length ha
    simp at this
    omega

/-- What lies behind the call. -/
def PPost (s : ByteArray) (w : World) (e : Ending) (w' : World) : Prop := e = .returned (parseV s.data.toList) ∧ Below w.heap.size w w'

theorem set3 {w : World} {b : Nat} {x y z : Value} {T : TypeId} (h : w.heap[b]? = some (.cells #[x, y, z] T (0, 0))) (a c d : Value) :
    (((w.setCell ⟨b, 0, none⟩ a).setCell ⟨b, 1, none⟩ c).setCell ⟨b, 2, none⟩ d).heap[b]? = some (.cells #[a, c, d] T (0, 0)) :=
  heap_set_same (heap_set_same (heap_set_same h a) c) d
theorem below_set3 {w w' : World} {b : Nat} (h : Below b w w') (a c d : Value) : Below b w (((w'.setCell ⟨b, 0, none⟩ a).setCell ⟨b, 1, none⟩ c).setCell ⟨b, 2, none⟩ d) :=
  ((h.setCell (p := ⟨b, 0, none⟩) (Nat.le_refl _) _).setCell (p := ⟨b, 1, none⟩) (Nat.le_refl _) _).setCell (p := ⟨b, 2, none⟩) (Nat.le_refl _) _
end Go.Proofs.YtehffmcfmdjknaaDoor.Num
