/- Addresses in plain Lean: prints, what is read of a text; a print is read as what it was. -/
import Derived.Test.YtehghladpnpcoaaGreatDoorUAdF
import Derived.Test.YtehghladpnpcoaaGreatDoorURtC
import Derived.Lib.ParseIntB
import Derived.Lib.IndexBytes
import Derived.Lib.IndexMore
import Derived.Lib.Split
set_option linter.unusedVariables false
set_option linter.unusedSimpArgs false
namespace Go.Proofs.YtehghladpnpcoaaGreatDoor.Addr
open Go.RowKit Utf Lex
def numR : Nat -> List UInt8 -> Option Nat
 | n, [] => some n
 | n, c :: r => if 48 <= c.toNat /\ c.toNat <= 57 then (if 18446744073709551615 < n * 10 + (c.toNat - 48) then none else numR (n * 10 + (c.toNat - 48)) r) else none
def noughts (l : List UInt8) : Bool := l.isEmpty || (l.head? == some 48 && decide (1 < l.length))
def numB (l : List UInt8) : Option Nat := if noughts l then none else numR 0 l
def digitsP (l : List UInt8) : Option Nat :=
 if noughts l then none
 else if l.all Num.isDigit then (match Lib.parseUintB 64 l with | .ok u => some u | _ => none) else none
def modL (k : ByteArray) : List UInt8 := moduleL ++ 46 :: (k.data.toList ++ [46])
def pathL (ks : List ByteArray) : List UInt8 := ks.flatMap modL
def headL (ks : List ByteArray) (ty nm : List UInt8) : List UInt8 := pathL ks ++ (ty ++ 46 :: nm)
def keyL (a : Adr) : List UInt8 :=
 if a.key = 1 then 91 :: (Lib.decDigits a.place ++ [93])
 else if a.key = 2 then 91 :: (Quote.qprint a.word.data.toList ++ [93])
 else []
def printR (a : Adr) : List UInt8 := headL a.path a.type.data.toList a.name.data.toList ++ keyL a
def printA (a : Adr) : List UInt8 := if rightA a then printR a else []
def keyR : List UInt8 -> Option (Int × Nat × ByteArray)
 | [] => some (0, 0, ⟨#[]⟩)
 | _ :: m => if m.getLast? = some 93 then (match numB m.dropLast with
   | some n => some (1, n, ⟨#[]⟩)
   | none => match Quote.scan m.dropLast with
    | .ok (s, k) => if k = m.dropLast.length then some (2, 0, ⟨s.toArray⟩) else none
    | .error _ => none)
  else none
def innerP (m : List UInt8) : Option (Int × Nat × ByteArray) :=
 if byt m 0 = 34 then (match Quote.scan m with
  | .ok (s, k) => if k < m.length then none else some (2, 0, ⟨s.toArray⟩)
  | .error _ => none)
 else match digitsP m with
  | some n => some (1, n, ⟨#[]⟩)
  | none => none
def keyP (t : List UInt8) : Option (Int × Nat × ByteArray) :=
 if t = [] then some (0, 0, ⟨#[]⟩)
 else if t.length < 3 ∨ byt t 0 ≠ 91 ∨ byt t (t.length - 1) ≠ 93 then none
 else innerP ((t.drop 1).dropLast)
structure Parts (a : Adr) : Prop where
 len : a.path.length <= 20
 path : ∀ k ∈ a.path, identB k.data.toList = true
 type : identB a.type.data.toList = true
 name : identB a.name.data.toList = true
 mod : a.type.data.toList ≠ moduleL
 key : keyA a = true
theorem right_parts {a : Adr} (h : rightA a = true) : Parts a := by
 unfold rightA at h;simp only [Bool.and_eq_true, Bool.not_eq_true', dtQ, bnQ] at h
 obtain ⟨⟨⟨⟨h1, h2⟩, h3⟩, h4⟩, h5⟩ := h;unfold identsB at h3 h4;simp only [List.all_cons, List.all_nil, Bool.and_true, Bool.and_eq_true] at h3
 exact ⟨h2, fun k hk => List.all_eq_true.1 h4 k hk, h3.1, h3.2, fun e => h1 (by rw [ByteArray.toList_eq]; exact e), h5⟩
theorem compare_neg : ∀ a b : List UInt8, Lib.compareBytes b a = -Lib.compareBytes a b := by
 intro a
 induction a with
 | nil => intro b; cases b <;> simp [Lib.compareBytes]
 | cons x a ih =>
  intro b
  cases b with
  | nil => simp [Lib.compareBytes]
  | cons y b =>
   rw [Lib.compareBytes, Lib.compareBytes];by_cases h1 : x < y
   ·have h2 : ¬ y < x := fun h => by have h1' := UInt8.lt_iff_toNat_lt.1 h1; have h' := UInt8.lt_iff_toNat_lt.1 h; omega
    rw [if_neg h2, if_pos h1, if_pos h1]; rfl
   ·by_cases h2 : y < x
    ·rw [if_pos h2, if_neg h1, if_pos h2]
    ·rw [if_neg h2, if_neg h1, if_neg h1, if_neg h2, ih b]
end Go.Proofs.YtehghladpnpcoaaGreatDoor.Addr
