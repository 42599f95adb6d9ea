/- Contracts of package utf over the seat's program. -/
import Derived.Test.YtbfkgddhpabioaaDoorProg
import Derived.Test.YtbfkgddhpabioaaDoorPlainA
import Derived.Test.YtbfkgddhpabioaaDoorBits
import Derived.WalkKit
import Derived.BigQuiet
import Derived.Deep.QuietTactic
import Derived.Deep.LoopGhost
import Derived.Outline
namespace Go.Proofs.YtbfkgddhpabioaaDoor.Utf
open Go.RowKit
set_option linter.unusedVariables false
set_option linter.unusedSimpArgs false

theorem isScalar_any (c : Nat) (w : World) : Calls Tryd.prog 139 #[.int .i64 c] w fun e w' => e = .returned (.bool (scalarB c)) ∧ w = w' := by
  have h0 : decide (0 ≤ (c : Int)) = true := by simp
  by_cases h1 : c ≤ 1114111
  · have d1 : decide ((c : Int) ≤ 1114111) = true := by simp; omega
    by_cases h2 : c < 55296
    · have d2 : decide ((c : Int) < 55296) = true := by simp; omega
      have H : Hid (scalarB c = true) := by unfold Hid scalarB; simp [h1, h2]
      go_enter Tryd.func139, Tryd.ntmps139
      go_wp2
      go_ret
      rw [H.out]
      exact ⟨rfl, rfl⟩
    · have d2 : decide ((c : Int) < 55296) = false := by simp; omega
      by_cases h3 : 57343 < c
      · have d3 : decide (57343 < (c : Int)) = true := by simp; omega
        have H : Hid (scalarB c = true) := by unfold Hid scalarB; simp [h1, h3]
        go_enter Tryd.func139, Tryd.ntmps139
        go_wp2
        go_ret
        rw [H.out]
        exact ⟨rfl, rfl⟩
      · have d3 : decide (57343 < (c : Int)) = false := by simp; omega
        have H : Hid (scalarB c = false) := by unfold Hid scalarB; simp [h1, h2, h3]
        go_enter Tryd.func139, Tryd.ntmps139
        go_wp2
        go_ret
        rw [H.out]
        exact ⟨rfl, rfl⟩
  · have d1 : decide ((c : Int) ≤ 1114111) = false := by simp; omega
    have H : Hid (scalarB c = false) := by unfold Hid scalarB; simp [h1]
    go_enter Tryd.func139, Tryd.ntmps139
    go_wp2
    go_ret
    rw [H.out]
    exact ⟨rfl, rfl⟩

theorem width_any (c : Nat) (w : World) : Calls Tryd.prog 140 #[.int .i64 c] w fun e w' => e = .returned (.int .i64 (width c)) ∧ w = w' := by
  by_cases h1 : c < 128
  · have dh1 : decide ((c : Int) < 128) = true := by simp; omega
    have H : Hid (width c = 1) := by unfold Hid width; (repeat' split) <;> omega
    go_enter Tryd.func140, Tryd.ntmps140
    go_wp2
    go_ret
    rw [H.out]
    exact ⟨rfl, rfl⟩
  · have dh1 : decide ((c : Int) < 128) = false := by simp; omega
    by_cases h2 : c < 2048
    · have dh2 : decide ((c : Int) < 2048) = true := by simp; omega
      have H : Hid (width c = 2) := by unfold Hid width; (repeat' split) <;> omega
      go_enter Tryd.func140, Tryd.ntmps140
      go_wp2
      go_ret
      rw [H.out]
      exact ⟨rfl, rfl⟩
    · have dh2 : decide ((c : Int) < 2048) = false := by simp; omega
      by_cases h3 : c < 65536
      · have dh3 : decide ((c : Int) < 65536) = true := by simp; omega
        have H : Hid (width c = 3) := by unfold Hid width; (repeat' split) <;> omega
        go_enter Tryd.func140, Tryd.ntmps140
        go_wp2
        go_ret
        rw [H.out]
        exact ⟨rfl, rfl⟩
      · have dh3 : decide ((c : Int) < 65536) = false := by simp; omega
        have H : Hid (width c = 4) := by unfold Hid width; (repeat' split) <;> omega
        go_enter Tryd.func140, Tryd.ntmps140
        go_wp2
        go_ret
        rw [H.out]
        exact ⟨rfl, rfl⟩

theorem isScalar_eq (c : Nat) (b : Bool) (h : scalarB c = b) (w : World) : Calls Tryd.prog 139 #[.int .i64 c] w fun e w' => e = .returned (.bool b) ∧ w = w' := by rw [← h]; exact isScalar_any c w
theorem width_eq (c k : Nat) (h : width c = k) (w : World) : Calls Tryd.prog 140 #[.int .i64 c] w fun e w' => e = .returned (.int .i64 k) ∧ w = w' := by rw [← h]; exact width_any c w

/-- What the walk is told of utf's table: its cell at a place. -/
structure Sizes (w : World) : Prop where
  cell : ∀ n, n < 256 → w.cell? ⟨3, n / 8, none⟩ = some (.int .i64 (sizeAt n))

/-- What 'first' tells: the scalar and its size; the world as it was. -/
def First (s : ByteArray) (i : Nat) (w : World) (e : Ending) (w' : World) : Prop :=
  e = .returned (.tuple #[.int .i64 (one (s.data.toList.drop i)).1, .int .i64 (one (s.data.toList.drop i)).2]) ∧ w = w'

theorem byt_drop (s : ByteArray) (i j : Nat) (h : i + j < s.size) : byt (s.data.toList.drop i) j = s[i + j].toNat := by
  unfold byt
  rw [List.getD_eq_getElem?_getD, List.getElem?_drop, List.getElem?_eq_getElem (by simpa using h)]
  rfl
theorem byt_drop0 (s : ByteArray) (i : Nat) (h : i < s.size) : byt (s.data.toList.drop i) 0 = s[i].toNat := byt_drop s i 0 h
theorem len_drop (s : ByteArray) (i : Nat) : (s.data.toList.drop i).length = s.size - i := by simp
theorem one_none {l : List UInt8} (h : stands l (sizeAt (byt l 0)) = false) : one l = (0, 0) := by unfold one; rw [h]; rfl
theorem one_some {l : List UInt8} (k c : Nat) (hk : sizeAt (byt l 0) = k) (hc : val l k = c) (h : stands l k = true) : one l = (c, k) := by unfold one; rw [hk, h, hc]; rfl
theorem first_of {s : ByteArray} {i : Nat} {w : World} (c k : Nat) (h : one (s.data.toList.drop i) = (c, k)) : First s i w (.returned (.tuple #[.int .i64 c, .int .i64 k])) w := by
  unfold First; rw [h]; exact ⟨rfl, rfl⟩

theorem first_end (s : ByteArray) (i : Nat) (w : World) (hi : s.size ≤ i) (hs : i ≤ 4611686018427387904) :
    Calls Tryd.prog 132 #[.string s, .int .i64 i] w (First s i w) := by
  have hn : one (s.data.toList.drop i) = (0, 0) := one_none (by
    unfold stands
    rw [len_drop]
    have : ¬ (1 ≤ sizeAt (byt (s.data.toList.drop i) 0) ∧ sizeAt (byt (s.data.toList.drop i) 0) ≤ s.size - i) := by omega
    rcases Decidable.not_and_iff_or_not.1 this with h | h <;> simp [h])
  have H := Hid.out (p := Hid _) hn; clear hn
  go_enter Tryd.func132, Tryd.ntmps132
  go_wp2
  go_ret2
  exact first_of 0 0 H

theorem first_ascii (s : ByteArray) (i : Nat) (w : World) (hi : i < s.size) (hs : s.size ≤ 4611686018427387904) (T : Sizes w) (hb : s[i].toNat < 128) :
    Calls Tryd.prog 132 #[.string s, .int .i64 i] w (First s i w) := by
  have hc := T.cell s[i].toNat (by omega)
  have hz : sizeAt s[i].toNat = 1 := by unfold sizeAt; rw [if_pos hb]
  have ho : one (s.data.toList.drop i) = (s[i].toNat, 1) := by
    have e0 := byt_drop0 s i hi
    refine one_some 1 _ (by rw [e0, hz]) (by unfold val; simp [e0]) ?_
    have hv : val (s.data.toList.drop i) 1 = s[i].toNat := by unfold val; simp [e0]
    have h1 : scalarB s[i].toNat = true := by simp [scalarB]; omega
    have h2 : width s[i].toNat = 1 := by simp [width, hb]
    simp [stands, e0, hz, hv, h1, h2, conts, len_drop]
    omega
  have H := Hid.out (p := Hid _) ho; clear ho
  rw [hz] at hc
  have h256 : s[i].toNat < 256 := by omega
  clear hz T
  go_enter Tryd.func132, Tryd.ntmps132
  go_wp2
  go_ret2
  exact first_of _ 1 H

theorem first_zero (s : ByteArray) (i : Nat) (w : World) (hi : i < s.size) (hs : s.size ≤ 4611686018427387904) (T : Sizes w) (hb : sizeAt s[i].toNat = 0 ∨ s.size - i < sizeAt s[i].toNat) :
    Calls Tryd.prog 132 #[.string s, .int .i64 i] w (First s i w) := by
  have h256 : s[i].toNat < 256 := UInt8.toNat_lt _
  have hc := T.cell s[i].toNat h256
  have ho : one (s.data.toList.drop i) = (0, 0) := one_none (by
    unfold stands
    rw [len_drop, byt_drop0 s i hi]
    rcases hb with h | h
    · simp [h]
    · have : ¬ sizeAt s[i].toNat ≤ s.size - i := by omega
      simp [this])
  have H := Hid.out (p := Hid _) ho; clear ho
  clear T
  have hle := sizeAt_le s[i].toNat
  generalize sizeAt s[i].toNat = z at *
  rcases hb with h | h
  · subst h
    go_enter Tryd.func132, Tryd.ntmps132
    go_wp2
    go_ret2
    exact first_of 0 0 H
  · by_cases hz : z = 0
    · subst hz; omega
    have hzb : ((z : Int) == 0) = false := by simp; omega
    go_enter Tryd.func132, Tryd.ntmps132
    go_wp2
    go_ret2
    exact first_of 0 0 H

theorem first_2_bad1 (s : ByteArray) (i : Nat) (w : World) (hi : i < s.size) (hs : s.size ≤ 4611686018427387904) (T : Sizes w) (hb : 192 ≤ s[i].toNat) (hb2 : s[i].toNat < 224) (hk : i + 1 < s.size)  (n1 : cont (s[i + 1]'(by omega)).toNat = false) :
    Calls Tryd.prog 132 #[.string s, .int .i64 i] w (First s i w) := by
  have hz : sizeAt s[i].toNat = 2 := by unfold sizeAt; (repeat' split) <;> omega
  have h256 : s[i].toNat < 256 := UInt8.toNat_lt _
  have hc := T.cell s[i].toNat h256
  rw [hz] at hc
  clear T
  have hj1 : i + 1 < s.size := by omega
  have b1 : s[i + 1].toNat < 256 := UInt8.toNat_lt _
  have ho : one (s.data.toList.drop i) = (0, 0) := one_none (by
    rw [byt_drop0 s i hi, hz]
    simp [stands, conts, byt_drop s i 1 hj1, n1])
  have H := Hid.out (p := Hid _) ho; clear ho
  have f1 : (bits .and .i64 (s[i + 1].toNat : Int) 192 != 128) = true := by rw [Bits.and192 _ b1]; unfold cont at n1; rw [n1]; rfl
  clear hz; clear n1
  go_enter Tryd.func132, Tryd.ntmps132
  go_wp2
  refine wp_loop_rounds 1 ?_
  rw [rounds_succ]
  go_wp2
  go_ret2
  exact first_of 0 0 H

theorem first_2_noscalar (s : ByteArray) (i : Nat) (w : World) (hi : i < s.size) (hs : s.size ≤ 4611686018427387904) (T : Sizes w) (hb : 192 ≤ s[i].toNat) (hb2 : s[i].toNat < 224) (hk : i + 1 < s.size) (g1 : cont (s[i + 1]'(by omega)).toNat = true) (c : Nat) (hcc : c = ((s[i].toNat % 32) * 64 + s[i + 1].toNat % 64)) (q : scalarB c = false) :
    Calls Tryd.prog 132 #[.string s, .int .i64 i] w (First s i w) := by
  have hz : sizeAt s[i].toNat = 2 := by unfold sizeAt; (repeat' split) <;> omega
  have h256 : s[i].toNat < 256 := UInt8.toNat_lt _
  have hc := T.cell s[i].toNat h256
  rw [hz] at hc
  clear T
  have hj1 : i + 1 < s.size := by omega
  have b1 : s[i + 1].toNat < 256 := UInt8.toNat_lt _
  have hv : val (s.data.toList.drop i) 2 = c := by
    have e0 := byt_drop0 s i hi
    have e1 := byt_drop s i 1 hj1
    have r1 := g1
    simp only [cont, Bool.and_eq_true, decide_eq_true_eq] at r1
    unfold val
    simp [e0, e1]
    omega
  have ho : one (s.data.toList.drop i) = (0, 0) := one_none (by rw [byt_drop0 s i hi, hz]; unfold stands; rw [hv, q]; simp)
  have H := Hid.out (p := Hid _) ho; clear ho
  have f1 : (bits .and .i64 (s[i + 1].toNat : Int) 192 != 128) = false := by rw [Bits.and192 _ b1]; unfold cont at g1; rw [g1]; rfl
  have Q := Hid.out (p := Hid _) q; clear q
  have HC := Hid.out (p := Hid _) hcc; clear hcc
  clear hz hv; clear g1
  go_enter Tryd.func132, Tryd.ntmps132
  go_wp2
  refine wp_loop_rounds 2 ?_
  rw [rounds_succ]
  go_wp2
  rw [rounds_succ]
  go_wp2_with fail
  rw [Bits.scalar2 _ _ h256 b1, ← HC.out]
  refine (isScalar_eq _ false Q.out w).mono ?_
  rintro e w' ⟨rfl, rfl⟩
  go_wp2_with fail
  go_ret2
  exact first_of 0 0 H

theorem first_2_nowidth (s : ByteArray) (i : Nat) (w : World) (hi : i < s.size) (hs : s.size ≤ 4611686018427387904) (T : Sizes w) (hb : 192 ≤ s[i].toNat) (hb2 : s[i].toNat < 224) (hk : i + 1 < s.size) (g1 : cont (s[i + 1]'(by omega)).toNat = true) (c : Nat) (hcc : c = ((s[i].toNat % 32) * 64 + s[i + 1].toNat % 64)) (q : scalarB c = true) (q2 : ¬ width c = 2) :
    Calls Tryd.prog 132 #[.string s, .int .i64 i] w (First s i w) := by
  have hz : sizeAt s[i].toNat = 2 := by unfold sizeAt; (repeat' split) <;> omega
  have h256 : s[i].toNat < 256 := UInt8.toNat_lt _
  have hc := T.cell s[i].toNat h256
  rw [hz] at hc
  clear T
  have hj1 : i + 1 < s.size := by omega
  have b1 : s[i + 1].toNat < 256 := UInt8.toNat_lt _
  have hv : val (s.data.toList.drop i) 2 = c := by
    have e0 := byt_drop0 s i hi
    have e1 := byt_drop s i 1 hj1
    have r1 := g1
    simp only [cont, Bool.and_eq_true, decide_eq_true_eq] at r1
    unfold val
    simp [e0, e1]
    omega
  have ho : one (s.data.toList.drop i) = (0, 0) := one_none (by rw [byt_drop0 s i hi, hz]; unfold stands; rw [hv]; simp [q2])
  have H := Hid.out (p := Hid _) ho; clear ho
  have f1 : (bits .and .i64 (s[i + 1].toNat : Int) 192 != 128) = false := by rw [Bits.and192 _ b1]; unfold cont at g1; rw [g1]; rfl
  have Q := Hid.out (p := Hid _) q; clear q
  have HC := Hid.out (p := Hid _) hcc; clear hcc
  have qb : (((width c : Nat) : Int) != 2) = true := by rw [bne_iff_ne]; omega
  clear hz hv; clear g1
  go_enter Tryd.func132, Tryd.ntmps132
  go_wp2
  refine wp_loop_rounds 2 ?_
  rw [rounds_succ]
  go_wp2
  rw [rounds_succ]
  go_wp2_with fail
  rw [Bits.scalar2 _ _ h256 b1, ← HC.out]
  refine (isScalar_eq _ true Q.out w).mono ?_
  rintro e w' ⟨rfl, rfl⟩
  go_wp2_with fail
  refine (width_any _ w).mono ?_
  rintro e w' ⟨rfl, rfl⟩
  go_wp2_with fail
  go_ret2
  exact first_of 0 0 H

theorem first_2_ok (s : ByteArray) (i : Nat) (w : World) (hi : i < s.size) (hs : s.size ≤ 4611686018427387904) (T : Sizes w) (hb : 192 ≤ s[i].toNat) (hb2 : s[i].toNat < 224) (hk : i + 1 < s.size) (g1 : cont (s[i + 1]'(by omega)).toNat = true) (c : Nat) (hcc : c = ((s[i].toNat % 32) * 64 + s[i + 1].toNat % 64)) (q : scalarB c = true) (q2 : width c = 2) :
    Calls Tryd.prog 132 #[.string s, .int .i64 i] w (First s i w) := by
  have hz : sizeAt s[i].toNat = 2 := by unfold sizeAt; (repeat' split) <;> omega
  have h256 : s[i].toNat < 256 := UInt8.toNat_lt _
  have hc := T.cell s[i].toNat h256
  rw [hz] at hc
  clear T
  have hj1 : i + 1 < s.size := by omega
  have b1 : s[i + 1].toNat < 256 := UInt8.toNat_lt _
  have hv : val (s.data.toList.drop i) 2 = c := by
    have e0 := byt_drop0 s i hi
    have e1 := byt_drop s i 1 hj1
    have r1 := g1
    simp only [cont, Bool.and_eq_true, decide_eq_true_eq] at r1
    unfold val
    simp [e0, e1]
    omega
  have ho : one (s.data.toList.drop i) = (c, 2) := one_some 2 _ (by rw [byt_drop0 s i hi, hz]) hv (by
    unfold stands
    rw [hv, byt_drop0 s i hi, hz, len_drop, q, q2]
    have q3 : 2 ≤ s.size - i := by omega
    simp [conts, byt_drop s i 1 hj1, g1]
    omega)
  have H := Hid.out (p := Hid _) ho; clear ho
  have f1 : (bits .and .i64 (s[i + 1].toNat : Int) 192 != 128) = false := by rw [Bits.and192 _ b1]; unfold cont at g1; rw [g1]; rfl
  have Q := Hid.out (p := Hid _) q; clear q
  have HC := Hid.out (p := Hid _) hcc; clear hcc
  have qb : (((width c : Nat) : Int) != 2) = false := by rw [q2]; rfl
  clear hz hv; clear g1
  go_enter Tryd.func132, Tryd.ntmps132
  go_wp2
  refine wp_loop_rounds 2 ?_
  rw [rounds_succ]
  go_wp2
  rw [rounds_succ]
  go_wp2_with fail
  rw [Bits.scalar2 _ _ h256 b1, ← HC.out]
  refine (isScalar_eq _ true Q.out w).mono ?_
  rintro e w' ⟨rfl, rfl⟩
  go_wp2_with fail
  refine (width_any _ w).mono ?_
  rintro e w' ⟨rfl, rfl⟩
  go_wp2_with fail
  go_ret2
  exact first_of c 2 H

theorem first_3_bad1 (s : ByteArray) (i : Nat) (w : World) (hi : i < s.size) (hs : s.size ≤ 4611686018427387904) (T : Sizes w) (hb : 224 ≤ s[i].toNat) (hb2 : s[i].toNat < 240) (hk : i + 2 < s.size)  (n1 : cont (s[i + 1]'(by omega)).toNat = false) :
    Calls Tryd.prog 132 #[.string s, .int .i64 i] w (First s i w) := by
  have hz : sizeAt s[i].toNat = 3 := by unfold sizeAt; (repeat' split) <;> omega
  have h256 : s[i].toNat < 256 := UInt8.toNat_lt _
  have hc := T.cell s[i].toNat h256
  rw [hz] at hc
  clear T
  have hj1 : i + 1 < s.size := by omega
  have b1 : s[i + 1].toNat < 256 := UInt8.toNat_lt _
  have hj2 : i + 2 < s.size := by omega
  have b2 : s[i + 2].toNat < 256 := UInt8.toNat_lt _
  have ho : one (s.data.toList.drop i) = (0, 0) := one_none (by
    rw [byt_drop0 s i hi, hz]
    simp [stands, conts, byt_drop s i 1 hj1, n1])
  have H := Hid.out (p := Hid _) ho; clear ho
  have f1 : (bits .and .i64 (s[i + 1].toNat : Int) 192 != 128) = true := by rw [Bits.and192 _ b1]; unfold cont at n1; rw [n1]; rfl
  clear hz; clear n1
  go_enter Tryd.func132, Tryd.ntmps132
  go_wp2
  refine wp_loop_rounds 1 ?_
  rw [rounds_succ]
  go_wp2
  go_ret2
  exact first_of 0 0 H

theorem first_3_bad2 (s : ByteArray) (i : Nat) (w : World) (hi : i < s.size) (hs : s.size ≤ 4611686018427387904) (T : Sizes w) (hb : 224 ≤ s[i].toNat) (hb2 : s[i].toNat < 240) (hk : i + 2 < s.size) (g1 : cont (s[i + 1]'(by omega)).toNat = true) (n2 : cont (s[i + 2]'(by omega)).toNat = false) :
    Calls Tryd.prog 132 #[.string s, .int .i64 i] w (First s i w) := by
  have hz : sizeAt s[i].toNat = 3 := by unfold sizeAt; (repeat' split) <;> omega
  have h256 : s[i].toNat < 256 := UInt8.toNat_lt _
  have hc := T.cell s[i].toNat h256
  rw [hz] at hc
  clear T
  have hj1 : i + 1 < s.size := by omega
  have b1 : s[i + 1].toNat < 256 := UInt8.toNat_lt _
  have hj2 : i + 2 < s.size := by omega
  have b2 : s[i + 2].toNat < 256 := UInt8.toNat_lt _
  have ho : one (s.data.toList.drop i) = (0, 0) := one_none (by
    rw [byt_drop0 s i hi, hz]
    simp [stands, conts, byt_drop s i 2 hj2, n2])
  have H := Hid.out (p := Hid _) ho; clear ho
  have f1 : (bits .and .i64 (s[i + 1].toNat : Int) 192 != 128) = false := by rw [Bits.and192 _ b1]; unfold cont at g1; rw [g1]; rfl
  have f2 : (bits .and .i64 (s[i + 2].toNat : Int) 192 != 128) = true := by rw [Bits.and192 _ b2]; unfold cont at n2; rw [n2]; rfl
  clear hz; clear g1; clear n2
  go_enter Tryd.func132, Tryd.ntmps132
  go_wp2
  refine wp_loop_rounds 2 ?_
  rw [rounds_succ]
  go_wp2
  rw [rounds_succ]
  go_wp2
  go_ret2
  exact first_of 0 0 H

theorem first_3_noscalar (s : ByteArray) (i : Nat) (w : World) (hi : i < s.size) (hs : s.size ≤ 4611686018427387904) (T : Sizes w) (hb : 224 ≤ s[i].toNat) (hb2 : s[i].toNat < 240) (hk : i + 2 < s.size) (g1 : cont (s[i + 1]'(by omega)).toNat = true) (g2 : cont (s[i + 2]'(by omega)).toNat = true) (c : Nat) (hcc : c = (((s[i].toNat % 16) * 64 + s[i + 1].toNat % 64) * 64 + s[i + 2].toNat % 64)) (q : scalarB c = false) :
    Calls Tryd.prog 132 #[.string s, .int .i64 i] w (First s i w) := by
  have hz : sizeAt s[i].toNat = 3 := by unfold sizeAt; (repeat' split) <;> omega
  have h256 : s[i].toNat < 256 := UInt8.toNat_lt _
  have hc := T.cell s[i].toNat h256
  rw [hz] at hc
  clear T
  have hj1 : i + 1 < s.size := by omega
  have b1 : s[i + 1].toNat < 256 := UInt8.toNat_lt _
  have hj2 : i + 2 < s.size := by omega
  have b2 : s[i + 2].toNat < 256 := UInt8.toNat_lt _
  have hv : val (s.data.toList.drop i) 3 = c := by
    have e0 := byt_drop0 s i hi
    have e1 := byt_drop s i 1 hj1
    have r1 := g1
    simp only [cont, Bool.and_eq_true, decide_eq_true_eq] at r1
    have e2 := byt_drop s i 2 hj2
    have r2 := g2
    simp only [cont, Bool.and_eq_true, decide_eq_true_eq] at r2
    unfold val
    simp [e0, e1, e2]
    omega
  have ho : one (s.data.toList.drop i) = (0, 0) := one_none (by rw [byt_drop0 s i hi, hz]; unfold stands; rw [hv, q]; simp)
  have H := Hid.out (p := Hid _) ho; clear ho
  have f1 : (bits .and .i64 (s[i + 1].toNat : Int) 192 != 128) = false := by rw [Bits.and192 _ b1]; unfold cont at g1; rw [g1]; rfl
  have f2 : (bits .and .i64 (s[i + 2].toNat : Int) 192 != 128) = false := by rw [Bits.and192 _ b2]; unfold cont at g2; rw [g2]; rfl
  have Q := Hid.out (p := Hid _) q; clear q
  have HC := Hid.out (p := Hid _) hcc; clear hcc
  clear hz hv; clear g1; clear g2
  go_enter Tryd.func132, Tryd.ntmps132
  go_wp2
  refine wp_loop_rounds 3 ?_
  rw [rounds_succ]
  go_wp2
  rw [rounds_succ]
  go_wp2
  rw [rounds_succ]
  go_wp2_with fail
  rw [Bits.scalar3 _ _ _ h256 b1 b2, ← HC.out]
  refine (isScalar_eq _ false Q.out w).mono ?_
  rintro e w' ⟨rfl, rfl⟩
  go_wp2_with fail
  go_ret2
  exact first_of 0 0 H

theorem first_3_nowidth (s : ByteArray) (i : Nat) (w : World) (hi : i < s.size) (hs : s.size ≤ 4611686018427387904) (T : Sizes w) (hb : 224 ≤ s[i].toNat) (hb2 : s[i].toNat < 240) (hk : i + 2 < s.size) (g1 : cont (s[i + 1]'(by omega)).toNat = true) (g2 : cont (s[i + 2]'(by omega)).toNat = true) (c : Nat) (hcc : c = (((s[i].toNat % 16) * 64 + s[i + 1].toNat % 64) * 64 + s[i + 2].toNat % 64)) (q : scalarB c = true) (q2 : ¬ width c = 3) :
    Calls Tryd.prog 132 #[.string s, .int .i64 i] w (First s i w) := by
  have hz : sizeAt s[i].toNat = 3 := by unfold sizeAt; (repeat' split) <;> omega
  have h256 : s[i].toNat < 256 := UInt8.toNat_lt _
  have hc := T.cell s[i].toNat h256
  rw [hz] at hc
  clear T
  have hj1 : i + 1 < s.size := by omega
  have b1 : s[i + 1].toNat < 256 := UInt8.toNat_lt _
  have hj2 : i + 2 < s.size := by omega
  have b2 : s[i + 2].toNat < 256 := UInt8.toNat_lt _
  have hv : val (s.data.toList.drop i) 3 = c := by
    have e0 := byt_drop0 s i hi
    have e1 := byt_drop s i 1 hj1
    have r1 := g1
    simp only [cont, Bool.and_eq_true, decide_eq_true_eq] at r1
    have e2 := byt_drop s i 2 hj2
    have r2 := g2
    simp only [cont, Bool.and_eq_true, decide_eq_true_eq] at r2
    unfold val
    simp [e0, e1, e2]
    omega
  have ho : one (s.data.toList.drop i) = (0, 0) := one_none (by rw [byt_drop0 s i hi, hz]; unfold stands; rw [hv]; simp [q2])
  have H := Hid.out (p := Hid _) ho; clear ho
  have f1 : (bits .and .i64 (s[i + 1].toNat : Int) 192 != 128) = false := by rw [Bits.and192 _ b1]; unfold cont at g1; rw [g1]; rfl
  have f2 : (bits .and .i64 (s[i + 2].toNat : Int) 192 != 128) = false := by rw [Bits.and192 _ b2]; unfold cont at g2; rw [g2]; rfl
  have Q := Hid.out (p := Hid _) q; clear q
  have HC := Hid.out (p := Hid _) hcc; clear hcc
  have qb : (((width c : Nat) : Int) != 3) = true := by rw [bne_iff_ne]; omega
  clear hz hv; clear g1; clear g2
  go_enter Tryd.func132, Tryd.ntmps132
  go_wp2
  refine wp_loop_rounds 3 ?_
  rw [rounds_succ]
  go_wp2
  rw [rounds_succ]
  go_wp2
  rw [rounds_succ]
  go_wp2_with fail
  rw [Bits.scalar3 _ _ _ h256 b1 b2, ← HC.out]
  refine (isScalar_eq _ true Q.out w).mono ?_
  rintro e w' ⟨rfl, rfl⟩
  go_wp2_with fail
  refine (width_any _ w).mono ?_
  rintro e w' ⟨rfl, rfl⟩
  go_wp2_with fail
  go_ret2
  exact first_of 0 0 H

theorem first_3_ok (s : ByteArray) (i : Nat) (w : World) (hi : i < s.size) (hs : s.size ≤ 4611686018427387904) (T : Sizes w) (hb : 224 ≤ s[i].toNat) (hb2 : s[i].toNat < 240) (hk : i + 2 < s.size) (g1 : cont (s[i + 1]'(by omega)).toNat = true) (g2 : cont (s[i + 2]'(by omega)).toNat = true) (c : Nat) (hcc : c = (((s[i].toNat % 16) * 64 + s[i + 1].toNat % 64) * 64 + s[i + 2].toNat % 64)) (q : scalarB c = true) (q2 : width c = 3) :
    Calls Tryd.prog 132 #[.string s, .int .i64 i] w (First s i w) := by
  have hz : sizeAt s[i].toNat = 3 := by unfold sizeAt; (repeat' split) <;> omega
  have h256 : s[i].toNat < 256 := UInt8.toNat_lt _
  have hc := T.cell s[i].toNat h256
  rw [hz] at hc
  clear T
  have hj1 : i + 1 < s.size := by omega
  have b1 : s[i + 1].toNat < 256 := UInt8.toNat_lt _
  have hj2 : i + 2 < s.size := by omega
  have b2 : s[i + 2].toNat < 256 := UInt8.toNat_lt _
  have hv : val (s.data.toList.drop i) 3 = c := by
    have e0 := byt_drop0 s i hi
    have e1 := byt_drop s i 1 hj1
    have r1 := g1
    simp only [cont, Bool.and_eq_true, decide_eq_true_eq] at r1
    have e2 := byt_drop s i 2 hj2
    have r2 := g2
    simp only [cont, Bool.and_eq_true, decide_eq_true_eq] at r2
    unfold val
    simp [e0, e1, e2]
    omega
  have ho : one (s.data.toList.drop i) = (c, 3) := one_some 3 _ (by rw [byt_drop0 s i hi, hz]) hv (by
    unfold stands
    rw [hv, byt_drop0 s i hi, hz, len_drop, q, q2]
    have q3 : 3 ≤ s.size - i := by omega
    simp [conts, byt_drop s i 1 hj1, g1, byt_drop s i 2 hj2, g2]
    omega)
  have H := Hid.out (p := Hid _) ho; clear ho
  have f1 : (bits .and .i64 (s[i + 1].toNat : Int) 192 != 128) = false := by rw [Bits.and192 _ b1]; unfold cont at g1; rw [g1]; rfl
  have f2 : (bits .and .i64 (s[i + 2].toNat : Int) 192 != 128) = false := by rw [Bits.and192 _ b2]; unfold cont at g2; rw [g2]; rfl
  have Q := Hid.out (p := Hid _) q; clear q
  have HC := Hid.out (p := Hid _) hcc; clear hcc
  have qb : (((width c : Nat) : Int) != 3) = false := by rw [q2]; rfl
  clear hz hv; clear g1; clear g2
  go_enter Tryd.func132, Tryd.ntmps132
  go_wp2
  refine wp_loop_rounds 3 ?_
  rw [rounds_succ]
  go_wp2
  rw [rounds_succ]
  go_wp2
  rw [rounds_succ]
  go_wp2_with fail
  rw [Bits.scalar3 _ _ _ h256 b1 b2, ← HC.out]
  refine (isScalar_eq _ true Q.out w).mono ?_
  rintro e w' ⟨rfl, rfl⟩
  go_wp2_with fail
  refine (width_any _ w).mono ?_
  rintro e w' ⟨rfl, rfl⟩
  go_wp2_with fail
  go_ret2
  exact first_of c 3 H

theorem first_4_bad1 (s : ByteArray) (i : Nat) (w : World) (hi : i < s.size) (hs : s.size ≤ 4611686018427387904) (T : Sizes w) (hb : 240 ≤ s[i].toNat) (hb2 : s[i].toNat < 248) (hk : i + 3 < s.size)  (n1 : cont (s[i + 1]'(by omega)).toNat = false) :
    Calls Tryd.prog 132 #[.string s, .int .i64 i] w (First s i w) := by
  have hz : sizeAt s[i].toNat = 4 := by unfold sizeAt; (repeat' split) <;> omega
  have h256 : s[i].toNat < 256 := UInt8.toNat_lt _
  have hc := T.cell s[i].toNat h256
  rw [hz] at hc
  clear T
  have hj1 : i + 1 < s.size := by omega
  have b1 : s[i + 1].toNat < 256 := UInt8.toNat_lt _
  have hj2 : i + 2 < s.size := by omega
  have b2 : s[i + 2].toNat < 256 := UInt8.toNat_lt _
  have hj3 : i + 3 < s.size := by omega
  have b3 : s[i + 3].toNat < 256 := UInt8.toNat_lt _
  have ho : one (s.data.toList.drop i) = (0, 0) := one_none (by
    rw [byt_drop0 s i hi, hz]
    simp [stands, conts, byt_drop s i 1 hj1, n1])
  have H := Hid.out (p := Hid _) ho; clear ho
  have f1 : (bits .and .i64 (s[i + 1].toNat : Int) 192 != 128) = true := by rw [Bits.and192 _ b1]; unfold cont at n1; rw [n1]; rfl
  clear hz; clear n1
  go_enter Tryd.func132, Tryd.ntmps132
  go_wp2
  refine wp_loop_rounds 1 ?_
  rw [rounds_succ]
  go_wp2
  go_ret2
  exact first_of 0 0 H

theorem first_4_bad2 (s : ByteArray) (i : Nat) (w : World) (hi : i < s.size) (hs : s.size ≤ 4611686018427387904) (T : Sizes w) (hb : 240 ≤ s[i].toNat) (hb2 : s[i].toNat < 248) (hk : i + 3 < s.size) (g1 : cont (s[i + 1]'(by omega)).toNat = true) (n2 : cont (s[i + 2]'(by omega)).toNat = false) :
    Calls Tryd.prog 132 #[.string s, .int .i64 i] w (First s i w) := by
  have hz : sizeAt s[i].toNat = 4 := by unfold sizeAt; (repeat' split) <;> omega
  have h256 : s[i].toNat < 256 := UInt8.toNat_lt _
  have hc := T.cell s[i].toNat h256
  rw [hz] at hc
  clear T
  have hj1 : i + 1 < s.size := by omega
  have b1 : s[i + 1].toNat < 256 := UInt8.toNat_lt _
  have hj2 : i + 2 < s.size := by omega
  have b2 : s[i + 2].toNat < 256 := UInt8.toNat_lt _
  have hj3 : i + 3 < s.size := by omega
  have b3 : s[i + 3].toNat < 256 := UInt8.toNat_lt _
  have ho : one (s.data.toList.drop i) = (0, 0) := one_none (by
    rw [byt_drop0 s i hi, hz]
    simp [stands, conts, byt_drop s i 2 hj2, n2])
  have H := Hid.out (p := Hid _) ho; clear ho
  have f1 : (bits .and .i64 (s[i + 1].toNat : Int) 192 != 128) = false := by rw [Bits.and192 _ b1]; unfold cont at g1; rw [g1]; rfl
  have f2 : (bits .and .i64 (s[i + 2].toNat : Int) 192 != 128) = true := by rw [Bits.and192 _ b2]; unfold cont at n2; rw [n2]; rfl
  clear hz; clear g1; clear n2
  go_enter Tryd.func132, Tryd.ntmps132
  go_wp2
  refine wp_loop_rounds 2 ?_
  rw [rounds_succ]
  go_wp2
  rw [rounds_succ]
  go_wp2
  go_ret2
  exact first_of 0 0 H

theorem first_4_bad3 (s : ByteArray) (i : Nat) (w : World) (hi : i < s.size) (hs : s.size ≤ 4611686018427387904) (T : Sizes w) (hb : 240 ≤ s[i].toNat) (hb2 : s[i].toNat < 248) (hk : i + 3 < s.size) (g1 : cont (s[i + 1]'(by omega)).toNat = true) (g2 : cont (s[i + 2]'(by omega)).toNat = true) (n3 : cont (s[i + 3]'(by omega)).toNat = false) :
    Calls Tryd.prog 132 #[.string s, .int .i64 i] w (First s i w) := by
  have hz : sizeAt s[i].toNat = 4 := by unfold sizeAt; (repeat' split) <;> omega
  have h256 : s[i].toNat < 256 := UInt8.toNat_lt _
  have hc := T.cell s[i].toNat h256
  rw [hz] at hc
  clear T
  have hj1 : i + 1 < s.size := by omega
  have b1 : s[i + 1].toNat < 256 := UInt8.toNat_lt _
  have hj2 : i + 2 < s.size := by omega
  have b2 : s[i + 2].toNat < 256 := UInt8.toNat_lt _
  have hj3 : i + 3 < s.size := by omega
  have b3 : s[i + 3].toNat < 256 := UInt8.toNat_lt _
  have ho : one (s.data.toList.drop i) = (0, 0) := one_none (by
    rw [byt_drop0 s i hi, hz]
    simp [stands, conts, byt_drop s i 3 hj3, n3])
  have H := Hid.out (p := Hid _) ho; clear ho
  have f1 : (bits .and .i64 (s[i + 1].toNat : Int) 192 != 128) = false := by rw [Bits.and192 _ b1]; unfold cont at g1; rw [g1]; rfl
  have f2 : (bits .and .i64 (s[i + 2].toNat : Int) 192 != 128) = false := by rw [Bits.and192 _ b2]; unfold cont at g2; rw [g2]; rfl
  have f3 : (bits .and .i64 (s[i + 3].toNat : Int) 192 != 128) = true := by rw [Bits.and192 _ b3]; unfold cont at n3; rw [n3]; rfl
  clear hz; clear g1; clear g2; clear n3
  go_enter Tryd.func132, Tryd.ntmps132
  go_wp2
  refine wp_loop_rounds 3 ?_
  rw [rounds_succ]
  go_wp2
  rw [rounds_succ]
  go_wp2
  rw [rounds_succ]
  go_wp2
  go_ret2
  exact first_of 0 0 H

theorem first_4_noscalar (s : ByteArray) (i : Nat) (w : World) (hi : i < s.size) (hs : s.size ≤ 4611686018427387904) (T : Sizes w) (hb : 240 ≤ s[i].toNat) (hb2 : s[i].toNat < 248) (hk : i + 3 < s.size) (g1 : cont (s[i + 1]'(by omega)).toNat = true) (g2 : cont (s[i + 2]'(by omega)).toNat = true) (g3 : cont (s[i + 3]'(by omega)).toNat = true) (c : Nat) (hcc : c = ((((s[i].toNat % 8) * 64 + s[i + 1].toNat % 64) * 64 + s[i + 2].toNat % 64) * 64 + s[i + 3].toNat % 64)) (q : scalarB c = false) :
    Calls Tryd.prog 132 #[.string s, .int .i64 i] w (First s i w) := by
  have hz : sizeAt s[i].toNat = 4 := by unfold sizeAt; (repeat' split) <;> omega
  have h256 : s[i].toNat < 256 := UInt8.toNat_lt _
  have hc := T.cell s[i].toNat h256
  rw [hz] at hc
  clear T
  have hj1 : i + 1 < s.size := by omega
  have b1 : s[i + 1].toNat < 256 := UInt8.toNat_lt _
  have hj2 : i + 2 < s.size := by omega
  have b2 : s[i + 2].toNat < 256 := UInt8.toNat_lt _
  have hj3 : i + 3 < s.size := by omega
  have b3 : s[i + 3].toNat < 256 := UInt8.toNat_lt _
  have hv : val (s.data.toList.drop i) 4 = c := by
    have e0 := byt_drop0 s i hi
    have e1 := byt_drop s i 1 hj1
    have r1 := g1
    simp only [cont, Bool.and_eq_true, decide_eq_true_eq] at r1
    have e2 := byt_drop s i 2 hj2
    have r2 := g2
    simp only [cont, Bool.and_eq_true, decide_eq_true_eq] at r2
    have e3 := byt_drop s i 3 hj3
    have r3 := g3
    simp only [cont, Bool.and_eq_true, decide_eq_true_eq] at r3
    unfold val
    simp [e0, e1, e2, e3]
    omega
  have ho : one (s.data.toList.drop i) = (0, 0) := one_none (by rw [byt_drop0 s i hi, hz]; unfold stands; rw [hv, q]; simp)
  have H := Hid.out (p := Hid _) ho; clear ho
  have f1 : (bits .and .i64 (s[i + 1].toNat : Int) 192 != 128) = false := by rw [Bits.and192 _ b1]; unfold cont at g1; rw [g1]; rfl
  have f2 : (bits .and .i64 (s[i + 2].toNat : Int) 192 != 128) = false := by rw [Bits.and192 _ b2]; unfold cont at g2; rw [g2]; rfl
  have f3 : (bits .and .i64 (s[i + 3].toNat : Int) 192 != 128) = false := by rw [Bits.and192 _ b3]; unfold cont at g3; rw [g3]; rfl
  have Q := Hid.out (p := Hid _) q; clear q
  have HC := Hid.out (p := Hid _) hcc; clear hcc
  clear hz hv; clear g1; clear g2; clear g3
  go_enter Tryd.func132, Tryd.ntmps132
  go_wp2
  refine wp_loop_rounds 4 ?_
  rw [rounds_succ]
  go_wp2
  rw [rounds_succ]
  go_wp2
  rw [rounds_succ]
  go_wp2
  rw [rounds_succ]
  go_wp2_with fail
  rw [Bits.scalar4 _ _ _ _ h256 b1 b2 b3, ← HC.out]
  refine (isScalar_eq _ false Q.out w).mono ?_
  rintro e w' ⟨rfl, rfl⟩
  go_wp2_with fail
  go_ret2
  exact first_of 0 0 H

theorem first_4_nowidth (s : ByteArray) (i : Nat) (w : World) (hi : i < s.size) (hs : s.size ≤ 4611686018427387904) (T : Sizes w) (hb : 240 ≤ s[i].toNat) (hb2 : s[i].toNat < 248) (hk : i + 3 < s.size) (g1 : cont (s[i + 1]'(by omega)).toNat = true) (g2 : cont (s[i + 2]'(by omega)).toNat = true) (g3 : cont (s[i + 3]'(by omega)).toNat = true) (c : Nat) (hcc : c = ((((s[i].toNat % 8) * 64 + s[i + 1].toNat % 64) * 64 + s[i + 2].toNat % 64) * 64 + s[i + 3].toNat % 64)) (q : scalarB c = true) (q2 : ¬ width c = 4) :
    Calls Tryd.prog 132 #[.string s, .int .i64 i] w (First s i w) := by
  have hz : sizeAt s[i].toNat = 4 := by unfold sizeAt; (repeat' split) <;> omega
  have h256 : s[i].toNat < 256 := UInt8.toNat_lt _
  have hc := T.cell s[i].toNat h256
  rw [hz] at hc
  clear T
  have hj1 : i + 1 < s.size := by omega
  have b1 : s[i + 1].toNat < 256 := UInt8.toNat_lt _
  have hj2 : i + 2 < s.size := by omega
  have b2 : s[i + 2].toNat < 256 := UInt8.toNat_lt _
  have hj3 : i + 3 < s.size := by omega
  have b3 : s[i + 3].toNat < 256 := UInt8.toNat_lt _
  have hv : val (s.data.toList.drop i) 4 = c := by
    have e0 := byt_drop0 s i hi
    have e1 := byt_drop s i 1 hj1
    have r1 := g1
    simp only [cont, Bool.and_eq_true, decide_eq_true_eq] at r1
    have e2 := byt_drop s i 2 hj2
    have r2 := g2
    simp only [cont, Bool.and_eq_true, decide_eq_true_eq] at r2
    have e3 := byt_drop s i 3 hj3
    have r3 := g3
    simp only [cont, Bool.and_eq_true, decide_eq_true_eq] at r3
    unfold val
    simp [e0, e1, e2, e3]
    omega
  have ho : one (s.data.toList.drop i) = (0, 0) := one_none (by rw [byt_drop0 s i hi, hz]; unfold stands; rw [hv]; simp [q2])
  have H := Hid.out (p := Hid _) ho; clear ho
  have f1 : (bits .and .i64 (s[i + 1].toNat : Int) 192 != 128) = false := by rw [Bits.and192 _ b1]; unfold cont at g1; rw [g1]; rfl
  have f2 : (bits .and .i64 (s[i + 2].toNat : Int) 192 != 128) = false := by rw [Bits.and192 _ b2]; unfold cont at g2; rw [g2]; rfl
  have f3 : (bits .and .i64 (s[i + 3].toNat : Int) 192 != 128) = false := by rw [Bits.and192 _ b3]; unfold cont at g3; rw [g3]; rfl
  have Q := Hid.out (p := Hid _) q; clear q
  have HC := Hid.out (p := Hid _) hcc; clear hcc
  have qb : (((width c : Nat) : Int) != 4) = true := by rw [bne_iff_ne]; omega
  clear hz hv; clear g1; clear g2; clear g3
  go_enter Tryd.func132, Tryd.ntmps132
  go_wp2
  refine wp_loop_rounds 4 ?_
  rw [rounds_succ]
  go_wp2
  rw [rounds_succ]
  go_wp2
  rw [rounds_succ]
  go_wp2
  rw [rounds_succ]
  go_wp2_with fail
  rw [Bits.scalar4 _ _ _ _ h256 b1 b2 b3, ← HC.out]
  refine (isScalar_eq _ true Q.out w).mono ?_
  rintro e w' ⟨rfl, rfl⟩
  go_wp2_with fail
  refine (width_any _ w).mono ?_
  rintro e w' ⟨rfl, rfl⟩
  go_wp2_with fail
  go_ret2
  exact first_of 0 0 H

theorem first_4_ok (s : ByteArray) (i : Nat) (w : World) (hi : i < s.size) (hs : s.size ≤ 4611686018427387904) (T : Sizes w) (hb : 240 ≤ s[i].toNat) (hb2 : s[i].toNat < 248) (hk : i + 3 < s.size) (g1 : cont (s[i + 1]'(by omega)).toNat = true) (g2 : cont (s[i + 2]'(by omega)).toNat = true) (g3 : cont (s[i + 3]'(by omega)).toNat = true) (c : Nat) (hcc : c = ((((s[i].toNat % 8) * 64 + s[i + 1].toNat % 64) * 64 + s[i + 2].toNat % 64) * 64 + s[i + 3].toNat % 64)) (q : scalarB c = true) (q2 : width c = 4) :
    Calls Tryd.prog 132 #[.string s, .int .i64 i] w (First s i w) := by
  have hz : sizeAt s[i].toNat = 4 := by unfold sizeAt; (repeat' split) <;> omega
  have h256 : s[i].toNat < 256 := UInt8.toNat_lt _
  have hc := T.cell s[i].toNat h256
  rw [hz] at hc
  clear T
  have hj1 : i + 1 < s.size := by omega
  have b1 : s[i + 1].toNat < 256 := UInt8.toNat_lt _
  have hj2 : i + 2 < s.size := by omega
  have b2 : s[i + 2].toNat < 256 := UInt8.toNat_lt _
  have hj3 : i + 3 < s.size := by omega
  have b3 : s[i + 3].toNat < 256 := UInt8.toNat_lt _
  have hv : val (s.data.toList.drop i) 4 = c := by
    have e0 := byt_drop0 s i hi
    have e1 := byt_drop s i 1 hj1
    have r1 := g1
    simp only [cont, Bool.and_eq_true, decide_eq_true_eq] at r1
    have e2 := byt_drop s i 2 hj2
    have r2 := g2
    simp only [cont, Bool.and_eq_true, decide_eq_true_eq] at r2
    have e3 := byt_drop s i 3 hj3
    have r3 := g3
    simp only [cont, Bool.and_eq_true, decide_eq_true_eq] at r3
    unfold val
    simp [e0, e1, e2, e3]
    omega
  have ho : one (s.data.toList.drop i) = (c, 4) := one_some 4 _ (by rw [byt_drop0 s i hi, hz]) hv (by
    unfold stands
    rw [hv, byt_drop0 s i hi, hz, len_drop, q, q2]
    have q3 : 4 ≤ s.size - i := by omega
    simp [conts, byt_drop s i 1 hj1, g1, byt_drop s i 2 hj2, g2, byt_drop s i 3 hj3, g3]
    omega)
  have H := Hid.out (p := Hid _) ho; clear ho
  have f1 : (bits .and .i64 (s[i + 1].toNat : Int) 192 != 128) = false := by rw [Bits.and192 _ b1]; unfold cont at g1; rw [g1]; rfl
  have f2 : (bits .and .i64 (s[i + 2].toNat : Int) 192 != 128) = false := by rw [Bits.and192 _ b2]; unfold cont at g2; rw [g2]; rfl
  have f3 : (bits .and .i64 (s[i + 3].toNat : Int) 192 != 128) = false := by rw [Bits.and192 _ b3]; unfold cont at g3; rw [g3]; rfl
  have Q := Hid.out (p := Hid _) q; clear q
  have HC := Hid.out (p := Hid _) hcc; clear hcc
  have qb : (((width c : Nat) : Int) != 4) = false := by rw [q2]; rfl
  clear hz hv; clear g1; clear g2; clear g3
  go_enter Tryd.func132, Tryd.ntmps132
  go_wp2
  refine wp_loop_rounds 4 ?_
  rw [rounds_succ]
  go_wp2
  rw [rounds_succ]
  go_wp2
  rw [rounds_succ]
  go_wp2
  rw [rounds_succ]
  go_wp2_with fail
  rw [Bits.scalar4 _ _ _ _ h256 b1 b2 b3, ← HC.out]
  refine (isScalar_eq _ true Q.out w).mono ?_
  rintro e w' ⟨rfl, rfl⟩
  go_wp2_with fail
  refine (width_any _ w).mono ?_
  rintro e w' ⟨rfl, rfl⟩
  go_wp2_with fail
  go_ret2
  exact first_of c 4 H
end Go.Proofs.YtbfkgddhpabioaaDoor.Utf
