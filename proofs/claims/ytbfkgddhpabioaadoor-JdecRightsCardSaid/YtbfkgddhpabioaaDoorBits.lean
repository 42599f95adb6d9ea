/- Small facts on the bits of ints. -/
import Derived.Laws.BitsAllLaws
import Derived.WalkKit
namespace Go.Proofs.YtbfkgddhpabioaaDoor.Bits
open Go.RowKit
theorem and192 : ∀ n : Nat, n < 256 → (bits .and .i64 (n : Int) 192 != 128) = !(decide (128 ≤ n) && decide (n < 192)) := by decide +kernel
theorem and31 : ∀ n : Nat, n < 256 → bits .and .i64 (n : Int) 31 = ((n % 32 : Nat) : Int) := by decide +kernel
theorem and15 : ∀ n : Nat, n < 256 → bits .and .i64 (n : Int) 15 = ((n % 16 : Nat) : Int) := by decide +kernel
theorem and7 : ∀ n : Nat, n < 256 → bits .and .i64 (n : Int) 7 = ((n % 8 : Nat) : Int) := by decide +kernel
theorem and63 : ∀ n : Nat, n < 256 → bits .and .i64 (n : Int) 63 = ((n % 64 : Nat) : Int) := by decide +kernel
theorem ofInt64 (a : Nat) (ha : a < 2 ^ 64) : (BitVec.ofInt 64 (a : Int)).toNat = a := by
  rw [BitVec.ofInt_natCast, BitVec.toNat_ofNat]; exact Nat.mod_eq_of_lt (by omega)
theorem wrap_i64_nat (n : Nat) (h : n < 9223372036854775808) : IntKind.i64.wrap (n : Int) = n := by
  simp [IntKind.wrap, IntKind.bits, IntKind.signed]; omega
theorem or_nat (a b : Nat) (ha : a < 9223372036854775808) (hb : b < 9223372036854775808) : bits .or .i64 (a : Int) (b : Int) = ((a ||| b : Nat) : Int) := by
  show IntKind.i64.wrap ((BitVec.ofInt 64 (a : Int) ||| BitVec.ofInt 64 (b : Int)).toNat : Int) = _
  rw [BitVec.toNat_or, ofInt64 _ (by omega), ofInt64 _ (by omega)]
  exact wrap_i64_nat _ (by have := Nat.or_lt_two_pow (n := 63) (x := a) (y := b) (by omega) (by omega); omega)
theorem and_nat (a b : Nat) (ha : a < 9223372036854775808) (hb : b < 9223372036854775808) : bits .and .i64 (a : Int) (b : Int) = ((a &&& b : Nat) : Int) := by
  show IntKind.i64.wrap ((BitVec.ofInt 64 (a : Int) &&& BitVec.ofInt 64 (b : Int)).toNat : Int) = _
  rw [BitVec.toNat_and, ofInt64 _ (by omega), ofInt64 _ (by omega)]
  exact wrap_i64_nat _ (by have := Nat.and_le_left (n := a) (m := b); omega)
theorem or_add64 (c x : Nat) (hx : x < 64) : c * 64 ||| x = c * 64 + x := by
  have := Nat.shiftLeft_add_eq_or_of_lt (i := 6) (b := x) (by omega) c
  rw [Nat.shiftLeft_eq] at this
  exact this.symm
/-- 'c<<6 | b&63'. -/
theorem or_step (c x : Nat) (hc : c < 1099511627776) (hx : x < 256) : bits .or .i64 (wrap64 ((c : Int) * 64)) (bits .and .i64 (x : Int) 63) = ((c * 64 + x % 64 : Nat) : Int) := by
  rw [and63 x hx, IntWalk.wrap64_in _ (by omega)]
  have e : ((c : Int) * 64) = ((c * 64 : Nat) : Int) := by omega
  rw [e, or_nat _ _ (by omega) (by omega), or_add64 _ _ (by omega)]
theorem scalar2 (a b : Nat) (ha : a < 256) (hb : b < 256) : bits .or .i64 (wrap64 (bits .and .i64 (a : Int) 31 * 64)) (bits .and .i64 (b : Int) 63) = ((a % 32 * 64 + b % 64 : Nat) : Int) := by
  rw [and31 a ha]; exact or_step _ _ (by omega) hb
theorem scalar3 (a b c : Nat) (ha : a < 256) (hb : b < 256) (hc : c < 256) : bits .or .i64 (wrap64 (bits .or .i64 (wrap64 (bits .and .i64 (a : Int) 15 * 64)) (bits .and .i64 (b : Int) 63) * 64)) (bits .and .i64 (c : Int) 63) = (((a % 16 * 64 + b % 64) * 64 + c % 64 : Nat) : Int) := by
  rw [and15 a ha, or_step _ _ (by omega) hb]; exact or_step _ _ (by omega) hc
theorem scalar4 (a b c d : Nat) (ha : a < 256) (hb : b < 256) (hc : c < 256) (hd : d < 256) : bits .or .i64 (wrap64 (bits .or .i64 (wrap64 (bits .or .i64 (wrap64 (bits .and .i64 (a : Int) 7 * 64)) (bits .and .i64 (b : Int) 63) * 64)) (bits .and .i64 (c : Int) 63) * 64)) (bits .and .i64 (d : Int) 63) = ((((a % 8 * 64 + b % 64) * 64 + c % 64) * 64 + d % 64 : Nat) : Int) := by
  rw [and7 a ha, or_step _ _ (by omega) hb, or_step _ _ (by omega) hc]; exact or_step _ _ (by omega) hd
end Go.Proofs.YtbfkgddhpabioaaDoor.Bits
