/- How deep brackets stand, in plain Lean; and how deep what is read is. -/
import Derived.Test.YtckflnibkglheaaGreatDoorZJdecU
import Derived.Test.YtckflnibkglheaaGreatDoorZJdecP
import Derived.Test.YtckflnibkglheaaGreatDoorZRefOB
import Derived.Test.YtckflnibkglheaaGreatDoorZRefD
import Derived.Test.YtckflnibkglheaaGreatDoorZJenF
import Derived.Test.YtckflnibkglheaaGreatDoorZShelf
import Derived.Test.YtckflnibkglheaaGreatDoorZNumW
import Derived.Laws.StructEq
import Derived.Lib.Bytealg
import Derived.Lib.LaidTab
import Derived.Lib.ItoaLen
import Derived.Lib.Repeat
import Derived.Shelf.Unicode.PredsPay
namespace Go.Proofs.YtckflnibkglheaaGreatDoor.Jdec
set_option linter.unusedVariables false
set_option linter.unusedSimpArgs false

/-- How many brackets are open at most, from a place on: whether in a quoted text, how many are open, how many were at most. -/
def deep : List UInt8 → Bool → Nat → Nat → Nat
  | [], _, _, m => m
  | [c], true, _, m => m
  | c :: d :: t, true, o, m => if c = 92 then deep t true o m else if c = 34 then deep (d :: t) false o m else deep (d :: t) true o m
  | c :: t, false, o, m =>
    if c = 34 then deep t true o m
    else if c = 91 ∨ c = 123 then deep t false (o + 1) (max m (o + 1))
    else if c = 93 ∨ c = 125 then (if o = 0 then m else deep t false (o - 1) m)
    else deep t false o m
theorem at_cons {l : List UInt8} {p : Nat} {c : UInt8} (h : l[p]? = some c) : l.drop p = c :: l.drop (p + 1) := by
  obtain ⟨hp, rfl⟩ := List.getElem?_eq_some_iff.1 h
  exact List.drop_eq_getElem_cons hp
theorem byt_cons {l : List UInt8} {n : Nat} (h0 : l.length ≠ 0) (h : Utf.byt l 0 = n) (hn : n < 256) : l = UInt8.ofNat n :: l.drop 1 := by
  cases l with
  | nil => simp at h0
  | cons c t =>
    unfold Utf.byt at h
    simp only [List.getD_cons_zero] at h
    rw [List.drop_succ_cons, List.drop_zero, ← h, UInt8.ofNat_toNat]
theorem byt_at {l : List UInt8} {i n : Nat} (h0 : i < l.length) (h : Utf.byt l i = n) (hn : n < 256) : l.drop i = UInt8.ofNat n :: l.drop (i + 1) := by
  have := byt_cons (l := l.drop i) (n := n) (by rw [List.length_drop]; omega) (by unfold Utf.byt at h ⊢; rw [← h]; simp [List.getD_eq_getElem?_getD]) hn
  rw [List.drop_drop] at this
  exact this
end Go.Proofs.YtckflnibkglheaaGreatDoor.Jdec
/- How deep what is read is: its brackets', or one more. -/
namespace Go.Proofs.YtckflnibkglheaaGreatDoor.Jdec
set_option linter.unusedVariables false
set_option linter.unusedSimpArgs false

mutual
/-- How deep a value is. -/
def JV.deepN : JV → Nat
  | .mk k _ _ _ _ _ _ kids => (if k = 5 ∨ k = 6 then deepNs kids else 0) + 1
def deepNs : List JV → Nat
  | [] => 0
  | v :: t => max v.deepN (deepNs t)
end
mutual
/-- How many of its brackets are open at the same time at most. -/
def JV.brk : JV → Nat
  | .mk k _ _ _ _ _ _ kids => if k = 5 ∨ k = 6 then brks kids + 1 else 0
def brks : List JV → Nat
  | [] => 0
  | v :: t => max v.brk (brks t)
end
theorem deepNs_cons (v : JV) (t : List JV) : deepNs (v :: t) = max v.deepN (deepNs t) := by rw [deepNs]
theorem deepNs_nil : deepNs [] = 0 := by rw [deepNs]
end Go.Proofs.YtckflnibkglheaaGreatDoor.Jdec
/- What is read is right. -/
namespace Go.Proofs.YtckflnibkglheaaGreatDoor.Utf
set_option linter.unusedVariables false
set_option linter.unusedSimpArgs false
open Go.Proofs.YtckflnibkglheaaGreatDoor.Quote

/-- A text: scalars, one behind the other. -/
inductive Txt : List UInt8 → Prop where
  | nil : Txt []
  | scal (c : Nat) (l : List UInt8) : scalarB c = true → Txt l → Txt (put c ++ l)
theorem Txt.put (c : Nat) : Txt (put c) := by
  by_cases h : scalarB c = true
  · have := Txt.scal c [] h .nil
    rwa [List.append_nil] at this
  · unfold Quote.put; rw [if_neg h]; exact .nil
theorem Txt.ascii (c : Nat) (h : c < 128) : Txt [UInt8.ofNat c] := by
  have hs : scalarB c = true := by unfold scalarB; simp; omega
  have hp : Quote.put c = [UInt8.ofNat c] := by
    unfold Quote.put
    rw [if_pos hs, if_pos (by unfold width; rw [if_pos h])]
  rw [← hp]; exact Txt.put c
theorem one_of (l : List UInt8) (k c : Nat) (h1 : 1 ≤ k) (h2 : k ≤ l.length) (h3 : sizeAt (byt l 0) = k) (h4 : conts l k = true) (h5 : val l k = c) (h6 : scalarB c = true) (h7 : width c = k) : one l = (c, k) := by
  unfold one
  rw [h3, if_pos, h5]
  unfold stands
  rw [h3, h5]
  simp [h1, h2, h4, h6, h7]
theorem byt_zero (c : UInt8) (l : List UInt8) : byt (c :: l) 0 = c.toNat := rfl
theorem ofNat_lt {n : Nat} (h : n < 256) : (UInt8.ofNat n).toNat = n := by rw [UInt8.toNat_ofNat']; omega
theorem one_put_app (c : Nat) (l : List UInt8) (h : scalarB c = true) : one (put c ++ l) = (c, (put c).length) ∧ 1 ≤ (put c).length := by
  have hc : c ≤ 1114111 := by unfold scalarB at h; simp only [Bool.and_eq_true, decide_eq_true_eq] at h; exact h.1
  unfold Quote.put
  rw [if_pos h]
  by_cases w1 : c < 128
  · have hw : width c = 1 := by unfold width; rw [if_pos w1]
    rw [if_pos hw]
    refine ⟨one_of _ 1 c (Nat.le_refl _) (by simp) ?_ ?_ ?_ h hw, by simp⟩
    · show sizeAt (UInt8.ofNat c).toNat = 1
      rw [ofNat_lt (by omega)]; unfold sizeAt; rw [if_pos w1]
    · rfl
    · unfold val; rw [if_pos (by omega)]
      exact ofNat_lt (by omega)
  by_cases w2 : c < 2048
  · have hw : width c = 2 := by unfold width; rw [if_neg w1, if_pos w2]
    rw [if_neg (by omega), if_pos hw]
    have b0 : byt ([UInt8.ofNat (192 + c / 64), UInt8.ofNat (128 + c % 64)] ++ l) 0 = 192 + c / 64 := ofNat_lt (by omega)
    have b1 : byt ([UInt8.ofNat (192 + c / 64), UInt8.ofNat (128 + c % 64)] ++ l) 1 = 128 + c % 64 := ofNat_lt (by omega)
    refine ⟨one_of _ 2 c (by omega) (by simp) ?_ ?_ ?_ h hw, by simp⟩
    · rw [b0]; unfold sizeAt; rw [if_neg (by omega), if_neg (by omega), if_pos (by omega)]
    · unfold conts cont; rw [if_neg (by omega), if_pos rfl, b1]; simp; omega
    · unfold val; rw [if_neg (by omega), if_pos rfl, b0, b1]; omega
  by_cases w3 : c < 65536
  · have hw : width c = 3 := by unfold width; rw [if_neg w1, if_neg w2, if_pos w3]
    rw [if_neg (by omega), if_neg (by omega), if_pos hw]
    have b0 : byt ([UInt8.ofNat (224 + c / 4096), UInt8.ofNat (128 + c / 64 % 64), UInt8.ofNat (128 + c % 64)] ++ l) 0 = 224 + c / 4096 := ofNat_lt (by omega)
    have b1 : byt ([UInt8.ofNat (224 + c / 4096), UInt8.ofNat (128 + c / 64 % 64), UInt8.ofNat (128 + c % 64)] ++ l) 1 = 128 + c / 64 % 64 := ofNat_lt (by omega)
    have b2 : byt ([UInt8.ofNat (224 + c / 4096), UInt8.ofNat (128 + c / 64 % 64), UInt8.ofNat (128 + c % 64)] ++ l) 2 = 128 + c % 64 := ofNat_lt (by omega)
    refine ⟨one_of _ 3 c (by omega) (by simp) ?_ ?_ ?_ h hw, by simp⟩
    · rw [b0]; unfold sizeAt; rw [if_neg (by omega), if_neg (by omega), if_neg (by omega), if_pos (by omega)]
    · unfold conts cont; rw [if_neg (by omega), if_neg (by omega), if_pos rfl, b1, b2]; simp; omega
    · unfold val; rw [if_neg (by omega), if_neg (by omega), if_pos rfl, b0, b1, b2]; omega
  · have hw : width c = 4 := by unfold width; rw [if_neg w1, if_neg w2, if_neg w3]
    rw [if_neg (by omega), if_neg (by omega), if_neg (by omega)]
    have b0 : byt ([UInt8.ofNat (240 + c / 262144), UInt8.ofNat (128 + c / 4096 % 64), UInt8.ofNat (128 + c / 64 % 64), UInt8.ofNat (128 + c % 64)] ++ l) 0 = 240 + c / 262144 := ofNat_lt (by omega)
    have b1 : byt ([UInt8.ofNat (240 + c / 262144), UInt8.ofNat (128 + c / 4096 % 64), UInt8.ofNat (128 + c / 64 % 64), UInt8.ofNat (128 + c % 64)] ++ l) 1 = 128 + c / 4096 % 64 := ofNat_lt (by omega)
    have b2 : byt ([UInt8.ofNat (240 + c / 262144), UInt8.ofNat (128 + c / 4096 % 64), UInt8.ofNat (128 + c / 64 % 64), UInt8.ofNat (128 + c % 64)] ++ l) 2 = 128 + c / 64 % 64 := ofNat_lt (by omega)
    have b3 : byt ([UInt8.ofNat (240 + c / 262144), UInt8.ofNat (128 + c / 4096 % 64), UInt8.ofNat (128 + c / 64 % 64), UInt8.ofNat (128 + c % 64)] ++ l) 3 = 128 + c % 64 := ofNat_lt (by omega)
    refine ⟨one_of _ 4 c (by omega) (by simp) ?_ ?_ ?_ h hw, by simp⟩
    · rw [b0]; unfold sizeAt; rw [if_neg (by omega), if_neg (by omega), if_neg (by omega), if_neg (by omega), if_pos (by omega)]
    · unfold conts cont; rw [if_neg (by omega), if_neg (by omega), if_neg (by omega), b1, b2, b3]; simp; omega
    · unfold val; rw [if_neg (by omega), if_neg (by omega), if_neg (by omega), b0, b1, b2, b3]; omega
theorem Txt.good {l : List UInt8} (h : Txt l) : ∀ (n p : Nat), bad n l p = none := by
  induction h with
  | nil =>
    intro n p
    cases n <;> simp [bad]
  | scal c l hc _ ih =>
    intro n p
    cases n with
    | zero => rfl
    | succ n =>
      obtain ⟨h1, h2⟩ := one_put_app c l hc
      unfold bad
      rw [if_neg (by intro e; have := congrArg List.length e; rw [List.length_append, List.length_nil] at this; omega), h1]
      simp only
      rw [if_neg (by omega), List.drop_left]
      exact ih n _
end Go.Proofs.YtckflnibkglheaaGreatDoor.Utf
namespace Go.Proofs.YtckflnibkglheaaGreatDoor.Jdec
set_option linter.unusedVariables false
set_option linter.unusedSimpArgs false
open Go.Proofs.YtckflnibkglheaaGreatDoor.Utf (Txt)
/-- A value is right, but for its kids and how deep it is. -/
structure OwnP (N : Nat) (k : Int) (is neg : Bool) (dig : ByteArray) (exp : Int) (str : ByteArray) (keys : List ByteArray) (n : Nat) : Prop where
  k1 : 1 ≤ k
  k6 : k ≤ 6
  is : k ≠ 2 → is = false
  num : k ≠ 3 → neg = false ∧ dig = ⟨#[]⟩ ∧ exp = 0
  text : k ≠ 4 → str = ⟨#[]⟩
  kids : k < 5 → n = 0
  noKeys : k ≠ 6 → keys = []
  right : Num.right neg dig.data.toList exp = true
  valid : Txt str.data.toList
  size : str.size ≤ N
  both : k = 6 → keys.length = n
  words : ∀ x ∈ keys, Txt x.data.toList ∧ x.size ≤ N
  apart : keys.Nodup
inductive Good (N : Nat) : JV → Prop where
  | mk (k : Int) (i n : Bool) (d : ByteArray) (e : Int) (s : ByteArray) (ks : List ByteArray) (vs : List JV) : OwnP N k i n d e s ks vs.length → (∀ j (h : j < vs.length), Good N vs[j]) → Good N (.mk k i n d e s ks vs)
end Go.Proofs.YtckflnibkglheaaGreatDoor.Jdec
/- tabulariumref08.room, Great: how great a value is. -/
namespace Go.Proofs.YtckflnibkglheaaGreatDoor.Jdec
open Go.RowKit Go.Proofs.YtckflnibkglheaaGreatDoor.Strs
set_option linter.unusedVariables false
set_option linter.unusedSimpArgs false
set_option maxRecDepth 100000

/-- What the keys leave; nothing, if one of them is too long. -/
def keysRoom : List ByteArray → Int → Option Int
  | [], l => some l
  | k :: t, l => if l < 0 then some l else if 2000 < k.size then none else keysRoom t (l - ((k.size / 50 : Nat) : Int))
mutual
/-- How much more a value may be. -/
def JV.room : JV → Int → Int → Int
  | .mk k is ng d e s ks vs, dp, l =>
    if 70 < dp ∨ 2000 < s.size ∨ 1200 < d.size then -1
    else match keysRoom ks (l - 1 - (ks.length : Int) - (((s.size + d.size) / 50 : Nat) : Int)) with
      | none => -1
      | some l2 => roomsL vs (dp + 1) l2
def roomsL : List JV → Int → Int → Int
  | [], _, l => l
  | v :: t, dp, l => if l < 0 then l else roomsL t dp (v.room dp l)
end
theorem roomsL_nil (dp l : Int) : roomsL [] dp l = l := by rw [roomsL]
theorem roomsL_neg (vs : List JV) (dp l : Int) (h : l < 0) : roomsL vs dp l = l := by
  cases vs with
  | nil => exact roomsL_nil dp l
  | cons v t => rw [roomsL, if_pos h]
theorem roomsL_next (v : JV) (t : List JV) (dp l : Int) (h : 0 ≤ l) : roomsL (v :: t) dp l = roomsL t dp (v.room dp l) := by rw [roomsL, if_neg (by omega)]
theorem keysRoom_le : ∀ (ks : List ByteArray) (l r : Int), keysRoom ks l = some r → r ≤ l
  | [], l, r, h => by injection h with h; omega
  | k :: t, l, r, h => by
    unfold keysRoom at h
    split at h
    · injection h with h; omega
    · split at h
      · cases h
      · have := keysRoom_le t _ r h; omega
/-- Its lists aren't longer, and its texts no greater, than what lies in memory is. -/
inductive Held (N : Nat) : JV → Prop where
  | mk (k : Int) (i n : Bool) (d : ByteArray) (e : Int) (s : ByteArray) (ks : List ByteArray) (vs : List JV) : d.size ≤ N → s.size ≤ N → ks.length ≤ N → vs.length ≤ N → (∀ x ∈ ks, x.size ≤ N) → (∀ j (h : j < vs.length), Held N vs[j]) → Held N (.mk k i n d e s ks vs)
mutual
theorem room_le (v : JV) (dp l : Int) (h : 0 ≤ l) : v.room dp l ≤ l := by
  cases v with
  | mk k is ng d e s ks vs =>
    rw [JV.room]
    split
    · omega
    · cases hk : keysRoom ks (l - 1 - (ks.length : Int) - (((s.size + d.size) / 50 : Nat) : Int)) with
      | none => simp only; omega
      | some r =>
        simp only
        have h1 := keysRoom_le _ _ _ hk
        have h2 := rooms_le vs (dp + 1) r
        omega
theorem rooms_le (vs : List JV) (dp l : Int) : roomsL vs dp l ≤ l := by
  cases vs with
  | nil => rw [roomsL_nil]; exact Int.le_refl _
  | cons v t =>
    by_cases h : l < 0
    · rw [roomsL_neg _ _ _ h]; exact Int.le_refl _
    · rw [roomsL_next _ _ _ _ (by omega)]
      have h1 := room_le v dp l (by omega)
      have h2 := rooms_le t dp (v.room dp l)
      omega
end

end Go.Proofs.YtckflnibkglheaaGreatDoor.Jdec
/- tabulariumref08.own of any value. (Written by gen/jenb.py.) -/
namespace Go.Proofs.YtckflnibkglheaaGreatDoor.Jdec
open Go.RowKit Go.Proofs.YtckflnibkglheaaGreatDoor.Strs
set_option linter.unusedVariables false
set_option linter.unusedSimpArgs false
set_option maxRecDepth 100000

/-- A call that tells yes or no; where it says yes something holds. -/
def BPost (P : Prop) (w : World) (x : Ending) (w' : World) : Prop := ∃ b, x = .returned (.bool b) ∧ (b = true → P) ∧ Below w.heap.size w w'
theorem BPost.mk {P : Prop} {w w' : World} {x : Ending} (b : Bool) (hx : x = .returned (.bool b)) (hb : b = true → P) (hB : Below w.heap.size w w') : BPost P w x w' := ⟨b, hx, hb, hB⟩
/-- A value is right, but for its kids and how deep it is. -/
structure OwnQ (k : Int) (is neg : Bool) (dig : ByteArray) (exp : Int) (str : ByteArray) (keys : List ByteArray) (n : Nat) : Prop where
  k1 : 1 ≤ k
  k6 : k ≤ 6
  is : k ≠ 2 → is = false
  num : k ≠ 3 → neg = false ∧ dig = ⟨#[]⟩ ∧ exp = 0
  text : k ≠ 4 → str = ⟨#[]⟩
  kids : k < 5 → n = 0
  noKeys : k ≠ 6 → keys = []
  right : Num.right neg dig.data.toList exp = true
  valid : Utf.validB str.data.toList = true
  both : k = 6 → keys.length = n
  words : ∀ x ∈ keys, Utf.validB x.data.toList = true
  apart : keys.Nodup
end Go.Proofs.YtckflnibkglheaaGreatDoor.Jdec
/- tabulariumref08.whole, Right of any value. -/
namespace Go.Proofs.YtckflnibkglheaaGreatDoor.Jdec
open Go.RowKit Go.Proofs.YtckflnibkglheaaGreatDoor.Strs
set_option linter.unusedVariables false
set_option linter.unusedSimpArgs false
set_option maxRecDepth 100000

/-- Right, all of it. -/
inductive GoodQ : JV → Prop where
  | mk (k : Int) (i n : Bool) (d : ByteArray) (e : Int) (s : ByteArray) (ks : List ByteArray) (vs : List JV) : OwnQ k i n d e s ks vs.length → (∀ j (h : j < vs.length), GoodQ vs[j]) → GoodQ (.mk k i n d e s ks vs)
theorem BPost.to {P : Prop} {w : World} {x : Ending} {w' : World} (h : BPost P w x w') : ∃ b, x = .returned (.bool b) ∧ (b = true → P) ∧ Below w.heap.size w w' := h

end Go.Proofs.YtckflnibkglheaaGreatDoor.Jdec
/- What is not too great: how deep, how many, how long, in plain Lean. -/
namespace Go.Proofs.YtckflnibkglheaaGreatDoor.Jdec
set_option linter.unusedVariables false
set_option linter.unusedSimpArgs false

/-- Texts that aren't too long. -/
inductive Fine : JV → Prop where
  | mk (k : Int) (i n : Bool) (d : ByteArray) (e : Int) (s : ByteArray) (ks : List ByteArray) (vs : List JV) : d.size ≤ 1200 → s.size ≤ 2000 → (∀ x ∈ ks, x.size ≤ 2000) → (∀ j (h : j < vs.length), Fine vs[j]) → Fine (.mk k i n d e s ks vs)
mutual
/-- How many values and keys there are. -/
def JV.mass : JV → Nat
  | .mk _ _ _ _ _ _ ks vs => 1 + ks.length + masses vs
def masses : List JV → Nat
  | [] => 0
  | v :: t => v.mass + masses t
end
theorem masses_nil : masses [] = 0 := by rw [masses]
theorem masses_cons (v : JV) (t : List JV) : masses (v :: t) = v.mass + masses t := by rw [masses]
theorem mass_mk (k : Int) (i n : Bool) (d : ByteArray) (e : Int) (s : ByteArray) (ks : List ByteArray) (vs : List JV) : (JV.mk k i n d e s ks vs).mass = 1 + ks.length + masses vs := by rw [JV.mass]
theorem deepN_mk (k : Int) (i n : Bool) (d : ByteArray) (e : Int) (s : ByteArray) (ks : List ByteArray) (vs : List JV) : (JV.mk k i n d e s ks vs).deepN = (if k = 5 ∨ k = 6 then deepNs vs else 0) + 1 := by rw [JV.deepN]
theorem keysRoom_fine : ∀ (ks : List ByteArray) (l r : Int), keysRoom ks l = some r → 0 ≤ r → ∀ x ∈ ks, x.size ≤ 2000
  | [], l, r, h, hr, x, hx => by cases hx
  | k :: t, l, r, h, hr, x, hx => by
    unfold keysRoom at h
    split at h
    · injection h with h; omega
    · split at h
      · cases h
      · rcases List.mem_cons.1 hx with rfl | hx
        · omega
        · exact keysRoom_fine t _ r h hr x hx
mutual
theorem room_fine (v : JV) (dp l : Int) (hl : 0 ≤ l) (h : 0 ≤ v.room dp l) : Fine v ∧ (v.mass : Int) + v.room dp l ≤ l ∧ dp ≤ 70 ∧ (v.deepN : Int) + dp ≤ 71 := by
  cases v with
  | mk k is ng d e s ks vs =>
    rw [JV.room] at h ⊢
    by_cases hc : 70 < dp ∨ 2000 < s.size ∨ 1200 < d.size
    · rw [if_pos hc] at h; omega
    · rw [if_neg hc] at h ⊢
      cases hk : keysRoom ks (l - 1 - (ks.length : Int) - (((s.size + d.size) / 50 : Nat) : Int)) with
      | none => rw [hk] at h; simp only at h; omega
      | some r =>
        rw [hk] at h
        simp only at h ⊢
        have h1 := keysRoom_le _ _ _ hk
        have hr0 : 0 ≤ r := by
          by_cases hr : r < 0
          · rw [roomsL_neg _ _ _ hr] at h; exact h
          · omega
        have hkf := keysRoom_fine _ _ _ hk hr0
        obtain ⟨f1, f2, f3⟩ := rooms_fine vs (dp + 1) r hr0 h
        refine ⟨.mk k is ng d e s ks vs (by omega) (by omega) hkf f1, ?_, by omega, ?_⟩
        · rw [mass_mk]; omega
        · rw [deepN_mk]
          split
          · rcases f3 with f3 | f3
            · rw [f3, deepNs_nil]; omega
            · omega
          · omega
theorem rooms_fine (vs : List JV) (dp l : Int) (hl : 0 ≤ l) (h : 0 ≤ roomsL vs dp l) : (∀ j (hj : j < vs.length), Fine vs[j]) ∧ (masses vs : Int) + roomsL vs dp l ≤ l ∧ (vs = [] ∨ (deepNs vs : Int) + dp ≤ 71) := by
  cases vs with
  | nil => rw [roomsL_nil]; exact ⟨fun j hj => absurd hj (Nat.not_lt_zero _), by rw [masses_nil]; omega, .inl rfl⟩
  | cons v t =>
    rw [roomsL_next _ _ _ _ hl] at h ⊢
    have hv0 : 0 ≤ v.room dp l := by
      by_cases hr : v.room dp l < 0
      · rw [roomsL_neg _ _ _ hr] at h; exact h
      · omega
    obtain ⟨a1, a2, a3, a4⟩ := room_fine v dp l hl hv0
    obtain ⟨b1, b2, b3⟩ := rooms_fine t dp _ hv0 h
    refine ⟨fun j hj => ?_, by rw [masses_cons]; omega, .inr ?_⟩
    · cases j with
      | zero => exact a1
      | succ j => exact b1 j (by simpa using hj)
    · rw [deepNs_cons]
      rcases b3 with b3 | b3
      · rw [b3, deepNs_nil]; omega
      · omega
end
end Go.Proofs.YtckflnibkglheaaGreatDoor.Jdec
/- Values with their keys in order, in plain Lean. -/
namespace Go.Proofs.YtckflnibkglheaaGreatDoor.Jdec
set_option linter.unusedVariables false
set_option linter.unusedSimpArgs false

/-- Does one text come ahead of another? -/
def blt (a b : ByteArray) : Bool := decide (Lib.compareBytes a.data.toList b.data.toList < 0)
/-- A key and its value. -/
abbrev Fld := ByteArray × JV
def fle (x y : Fld) : Bool := !blt y.1 x.1
mutual
/-- A value, all keys rising. -/
def JV.sort : JV → JV
  | .mk k i n d e s ks vs => if k = 6 then .mk k i n d e s (((ks.zip (sorts vs)).mergeSort fle).map (·.1)) (((ks.zip (sorts vs)).mergeSort fle).map (·.2))
    else .mk k i n d e s ks (sorts vs)
def sorts : List JV → List JV
  | [] => []
  | v :: t => v.sort :: sorts t
end
/-! What sorting keeps. -/
theorem deepNs_le (vs : List JV) (d : Nat) : deepNs vs ≤ d ↔ ∀ v ∈ vs, v.deepN ≤ d := by
  induction vs with
  | nil => rw [deepNs_nil]; simp
  | cons v t ih => rw [deepNs_cons, Nat.max_le, ih]; simp
end Go.Proofs.YtckflnibkglheaaGreatDoor.Jdec
/- num.Print of what is right. -/
namespace Go.Proofs.YtckflnibkglheaaGreatDoor.Jdec
open Go.RowKit Go.Proofs.YtckflnibkglheaaGreatDoor.Strs
set_option linter.unusedVariables false
set_option linter.unusedSimpArgs false
set_option maxRecDepth 100000

/-- The table of tens. -/
def Pow10 (w : World) : Prop := Lib.TabIs Tryz.prog w "internal/strconv.uint64pow10" .u64 Lib.pow10Tab
theorem Pow10.stays {w w' : World} (T : Pow10 w) (h : Below w.heap.size w w') : Pow10 w' := TabIs_below (g := 2) (by kernel_rfl) T h
/-- A number's sign. -/
def nfront (neg : Bool) : List UInt8 := if neg then [45] else []
/-- A number's print. -/
def nprint (neg : Bool) (d : List UInt8) (x : Int) : List UInt8 :=
  if d = [] then [48]
  else if 0 ≤ x ∧ x ≤ 20 then nfront neg ++ d ++ List.replicate x.toNat 48
  else if x < -20 ∨ 20 < x then nfront neg ++ d ++ 101 :: Lib.itoa x
  else if -x < (d.length : Int) then nfront neg ++ d.take ((d.length : Int) + x).toNat ++ 46 :: d.drop ((d.length : Int) + x).toNat
  else nfront neg ++ [48, 46] ++ List.replicate (-x - (d.length : Int)).toNat 48 ++ d
/-- Where num.Print ends. -/
def NPost (n : Bool) (d : List UInt8) (x : Int) (w : World) (e : Ending) (w' : World) : Prop := ∃ s : ByteArray, e = .returned (.string s) ∧ s.data.toList = nprint n d x ∧ Below w.heap.size w w'
theorem NPost.mk {n : Bool} {d : List UInt8} {x : Int} {w w' : World} {e : Ending} (s : ByteArray) (h1 : e = .returned (.string s)) (h2 : s.data.toList = nprint n d x) (h3 : Below w.heap.size w w') : NPost n d x w e w' := ⟨s, h1, h2, h3⟩

/-- A text of so many noughts. -/
def RepP (c : Nat) (w : World) (e : Ending) (w' : World) : Prop := ∃ r : ByteArray, e = .returned (.string r) ∧ r.data.toList = List.replicate c 48 ∧ Below w.heap.size w w'
theorem RepP.to {c : Nat} {w w' : World} {e : Ending} (h : RepP c w e w') : ∃ r : ByteArray, e = .returned (.string r) ∧ Hid (r.data.toList = List.replicate c 48) ∧ r.size = c ∧ Below w.heap.size w w' := by
  obtain ⟨r, h1, h2, h3⟩ := h
  exact ⟨r, h1, h2, by have := congrArg List.length h2; simpa using this, h3⟩
/-- A number's decimal text. -/
def ItoP (x : Int) (w : World) (e : Ending) (w' : World) : Prop := ∃ r : ByteArray, e = .returned (.string r) ∧ r.data.toList = Lib.itoa x ∧ Below w.heap.size w w'
theorem ItoP.to {x : Int} (h1 : -10000 ≤ x) (h2 : x ≤ 10000) {w w' : World} {e : Ending} (h : ItoP x w e w') : ∃ r : ByteArray, e = .returned (.string r) ∧ Hid (r.data.toList = Lib.itoa x) ∧ r.size ≤ 21 ∧ Below w.heap.size w w' := by
  obtain ⟨r, h3, h4, h5⟩ := h
  refine ⟨r, h3, h4, ?_, h5⟩
  have e1 := congrArg List.length h4
  have e2 := Lib.itoa_length_le x (by omega) (by omega)
  have e3 : r.data.toList.length = r.size := by simp
  omega
end Go.Proofs.YtckflnibkglheaaGreatDoor.Jdec
/- A value's print, in plain Lean. -/
namespace Go.Proofs.YtckflnibkglheaaGreatDoor.Jdec
set_option linter.unusedVariables false
set_option linter.unusedSimpArgs false

/-- The end of a line, and blanks; nothing, if it isn't wide. -/
def lineP (wd : Bool) (dp : Nat) : List UInt8 := if wd then 10 :: List.replicate (2 * dp) 32 else []
/-- What stands behind a key. -/
def colonP (wd : Bool) : List UInt8 := if wd then [58, 32] else [58]
def firstP (obj : Bool) : List UInt8 := if obj then [123] else [91]
def lastP (obj : Bool) : List UInt8 := if obj then [125] else [93]
def keyP (wd obj : Bool) (ks : List ByteArray) (i : Nat) : List UInt8 := if obj then Quote.qprint (ks.getD i ⟨#[]⟩).data.toList ++ colonP wd else []
mutual
/-- A value's print. -/
def JV.print (wd : Bool) (dp : Nat) : JV → List UInt8
  | .mk k i n d e s ks vs =>
    if k = 1 then [110, 117, 108, 108]
    else if k = 2 then (if i then [116, 114, 117, 101] else [102, 97, 108, 115, 101])
    else if k = 3 then nprint n d.data.toList e
    else if k = 4 then Quote.qprint s.data.toList
    else if vs.length = 0 then firstP (decide (k = 6)) ++ lastP (decide (k = 6))
    else kidsP wd dp (decide (k = 6)) ks 0 vs ++ lineP wd dp ++ lastP (decide (k = 6))
/-- A list's or an object's things, from a place on. -/
def kidsP (wd : Bool) (dp : Nat) (obj : Bool) (ks : List ByteArray) (i : Nat) : List JV → List UInt8
  | [] => []
  | v :: t => (if i = 0 then firstP obj else [44]) ++ lineP wd (dp + 1) ++ keyP wd obj ks i ++ v.print wd (dp + 1) ++ kidsP wd dp obj ks (i + 1) t
end
theorem kidsP_nil (wd : Bool) (dp : Nat) (obj : Bool) (ks : List ByteArray) (i : Nat) : kidsP wd dp obj ks i [] = [] := by rw [kidsP]
theorem kidsP_cons (wd : Bool) (dp : Nat) (obj : Bool) (ks : List ByteArray) (i : Nat) (v : JV) (t : List JV) : kidsP wd dp obj ks i (v :: t) = (if i = 0 then firstP obj else [44]) ++ lineP wd (dp + 1) ++ keyP wd obj ks i ++ v.print wd (dp + 1) ++ kidsP wd dp obj ks (i + 1) t := by rw [kidsP]
theorem print_mk (wd : Bool) (dp : Nat) (k : Int) (i n : Bool) (d : ByteArray) (e : Int) (s : ByteArray) (ks : List ByteArray) (vs : List JV) : (JV.mk k i n d e s ks vs).print wd dp =
    if k = 1 then [110, 117, 108, 108]
    else if k = 2 then (if i then [116, 114, 117, 101] else [102, 97, 108, 115, 101])
    else if k = 3 then nprint n d.data.toList e
    else if k = 4 then Quote.qprint s.data.toList
    else if vs.length = 0 then firstP (decide (k = 6)) ++ lastP (decide (k = 6))
    else kidsP wd dp (decide (k = 6)) ks 0 vs ++ lineP wd dp ++ lastP (decide (k = 6)) := by rw [JV.print]
theorem firstP_len (b : Bool) : (firstP b).length = 1 := by cases b <;> rfl
end Go.Proofs.YtckflnibkglheaaGreatDoor.Jdec
/- A text's print, read again, is the text. -/
namespace Go.Proofs.YtckflnibkglheaaGreatDoor.Quote
open Go.Proofs.YtckflnibkglheaaGreatDoor.Utf
set_option linter.unusedVariables false
set_option linter.unusedSimpArgs false

theorem put_of_one (l : List UInt8) (h : (one l).2 ≠ 0) : put (one l).1 = l.take (one l).2 ∧ scalarB (one l).1 = true := by
  refine ⟨?_, (one_put l h).2⟩
  unfold one at h ⊢
  split
  · rename_i hs
    exact (stands_hit _ _ hs).2
  · rename_i hs
    rw [if_neg hs] at h; exact absurd rfl h
theorem txt_of : ∀ (n : Nat) (l : List UInt8) (p : Nat), l.length < n → bad n l p = none → Txt l
  | 0, l, p, h, _ => absurd h (Nat.not_lt_zero _)
  | n + 1, l, p, h, hb => by
    rw [bad] at hb
    by_cases h0 : l = []
    · subst h0; exact .nil
    · rw [if_neg h0] at hb
      by_cases h1 : (one l).2 = 0
      · rw [if_pos h1] at hb; cases hb
      · rw [if_neg h1] at hb
        obtain ⟨e, hs⟩ := put_of_one l h1
        have hl := (one_size_le l).1
        have := txt_of n (l.drop (one l).2) _ (by rw [List.length_drop]; omega) hb
        have h2 := Txt.scal _ _ hs this
        rw [e, List.take_append_drop] at h2
        exact h2
theorem txt_valid' {l : List UInt8} (h : validB l = true) : Txt l := by
  unfold validB at h
  exact txt_of _ l 0 (Nat.lt_succ_self _) (by simpa using h)
theorem qp_big {c : UInt8} (h : 128 ≤ c.toNat) : qp c = [c] := by
  unfold qp short
  rw [if_neg (by rw [if_neg (by omega), if_neg (by omega), if_neg (by omega), if_neg (by omega), if_neg (by omega), if_neg (by omega)]; simp), if_neg (by omega)]
theorem put_small (c : Nat) (h : c < 128) : put c = [UInt8.ofNat c] := by
  have hs : scalarB c = true := by simp [scalarB]; omega
  unfold put
  rw [if_pos hs]
  unfold width
  rw [if_pos h]; rfl
theorem put_big (c : Nat) (h : ¬ c < 128) : ∀ b ∈ put c, 128 ≤ b.toNat := by
  intro b hb
  unfold put at hb
  split at hb
  case isFalse => cases hb
  case isTrue hs =>
    have hc : c ≤ 1114111 := by unfold scalarB at hs; simp only [Bool.and_eq_true, decide_eq_true_eq] at hs; exact hs.1
    unfold width at hb
    rw [if_neg h] at hb
    repeat' split at hb
    all_goals simp only [List.mem_cons, List.mem_nil_iff, or_false] at hb
    all_goals first | omega | skip
    · rcases hb with rfl | rfl <;> rw [ofNat_lt (by omega)] <;> omega
    · rcases hb with rfl | rfl | rfl <;> rw [ofNat_lt (by omega)] <;> omega
    · rcases hb with rfl | rfl | rfl | rfl <;> rw [ofNat_lt (by omega)] <;> omega
theorem qps_big : ∀ l : List UInt8, (∀ b ∈ l, 128 ≤ b.toNat) → l.flatMap qp = l
  | [], _ => rfl
  | c :: t, h => by
    rw [List.flatMap_cons, qp_big (h c (List.mem_cons_self ..)), qps_big t fun b hb => h b (List.mem_cons_of_mem _ hb)]; rfl
theorem qp_pos (c : UInt8) : 1 ≤ (qp c).length := by unfold qp; (repeat' split) <;> simp
theorem qps_ge : ∀ l : List UInt8, l.length ≤ (l.flatMap qp).length
  | [] => Nat.zero_le _
  | c :: t => by
    have := qp_pos c
    have := qps_ge t
    simp only [List.flatMap_cons, List.length_append, List.length_cons]; omega
theorem hexd_val : ∀ n, n < 16 → hexv (hexd n).toNat = some n := by decide
theorem part_asis (c : UInt8) (post : List UInt8) (h1 : c.toNat ≠ 34) (h2 : c.toNat ≠ 92) (h3 : ¬ c.toNat < 32) (h4 : c.toNat < 128) : part (c :: post) = .ok ([c], 1, true) := by
  unfold part
  rw [if_neg (by simp), if_neg (by rw [byt_zero]; exact h1), if_neg (by rw [byt_zero]; exact h2), if_neg (by rw [byt_zero]; exact h3), if_pos (by rw [byt_zero]; exact h4), byt_zero, UInt8.ofNat_toNat]
theorem part_bs (o post : List UInt8) (n : Nat) (h : escape post = .ok (o, n)) : part (92 :: post) = .ok (o, n + 1, true) := by
  unfold part
  rw [if_neg (by simp), if_neg (by rw [byt_zero]; decide), if_pos (by rw [byt_zero]; decide), List.drop_one, List.tail_cons, h]
theorem four_low (n : Nat) (h : n < 32) (post : List UInt8) : four 4 0 (48 :: 48 :: hexd (n / 16) :: hexd (n % 16) :: post) = .ok n := by
  have h0 : hexv (48 : UInt8).toNat = some 0 := by decide
  have h1 := hexd_val (n / 16) (by omega)
  have h2 := hexd_val (n % 16) (by omega)
  simp only [four, h0, h1, h2]
  congr 1
  omega
/-- A small byte's print is one part. -/
theorem part_small (c : Nat) (h : c < 128) (post : List UInt8) : part (qp (UInt8.ofNat c) ++ post) = .ok ([UInt8.ofNat c], (qp (UInt8.ofNat c)).length, true) := by
  have hn : (UInt8.ofNat c).toNat = c := ofNat_lt (by omega)
  unfold qp
  rw [hn]
  by_cases hs : short c = 0
  · rw [if_neg (by simpa using hs)]
    have h34 : c ≠ 34 := fun e => by subst e; exact absurd hs (by decide)
    have h92 : c ≠ 92 := fun e => by subst e; exact absurd hs (by decide)
    by_cases h32 : c < 32
    · rw [if_pos h32]
      refine part_bs _ _ 5 ?_
      show escape (117 :: 48 :: 48 :: hexd (c / 16) :: hexd (c % 16) :: post) = _
      have hnum : number (48 :: 48 :: hexd (c / 16) :: hexd (c % 16) :: post) = .ok (put c, 4) := by
        unfold number
        rw [four_low c h32 post]
        simp only
        rw [if_neg (by omega), if_neg (by omega)]
      unfold escape
      rw [if_neg (by simp), byt_zero, if_neg (by decide), if_neg (by decide), if_neg (by decide), if_neg (by decide), if_neg (by decide), if_neg (by decide), if_pos (by decide), List.drop_one, List.tail_cons, hnum, put_small c h]
    · rw [if_neg h32]
      exact part_asis _ post (by rw [hn]; exact h34) (by rw [hn]; exact h92) (by rw [hn]; exact h32) (by rw [hn]; exact h)
  · rw [if_pos (by simpa using hs)]
    have hc : c = 34 ∨ c = 92 ∨ c = 8 ∨ c = 12 ∨ c = 10 ∨ c = 13 ∨ c = 9 := by
      unfold short at hs
      repeat' split at hs
      all_goals omega
    refine part_bs _ _ 1 ?_
    rcases hc with rfl | rfl | rfl | rfl | rfl | rfl | rfl <;> rfl
theorem part_put (c : Nat) (hs : scalarB c = true) (post : List UInt8) : part ((put c).flatMap qp ++ post) = .ok (put c, ((put c).flatMap qp).length, true) := by
  by_cases h : c < 128
  · rw [put_small c h]
    simp only [List.flatMap_cons, List.flatMap_nil, List.append_nil]
    exact part_small c h post
  · rw [qps_big _ (put_big c h)]
    obtain ⟨h1, h2⟩ := one_put_app c post hs
    obtain ⟨b, t, hb⟩ : ∃ b t, put c = b :: t := by
      cases hp : put c with
      | nil => rw [hp] at h2; simp at h2
      | cons b t => exact ⟨b, t, rfl⟩
    have hb128 : 128 ≤ b.toNat := put_big c h b (by rw [hb]; exact List.mem_cons_self ..)
    have hz : byt (put c ++ post) 0 = b.toNat := by rw [hb]; rfl
    unfold part
    rw [if_neg (by rw [List.length_append]; omega), hz, if_neg (by omega), if_neg (by omega), if_neg (by omega), if_neg (by omega), h1]
    simp only
    rw [if_neg (by omega)]
theorem parts_print {l : List UInt8} (h : Txt l) : ∀ (n p : Nat) (out post : List UInt8), l.length < n → parts n (l.flatMap qp ++ 34 :: post) p out = .ok (out ++ l, p + (l.flatMap qp).length + 1) := by
  induction h with
  | nil =>
    intro n p out post hn
    cases n with
    | zero => exact absurd hn (Nat.not_lt_zero _)
    | succ n =>
      have e : part (34 :: post) = .ok ([], 1, false) := by
        unfold part
        rw [if_neg (by simp), if_pos (by rw [byt_zero]; decide)]
      simp only [List.flatMap_nil, List.nil_append, parts, e, List.append_nil, List.length_nil, Nat.add_zero]
  | scal c l hc _ ih =>
    intro n p out post hn
    have hp := (one_put_app c [] hc).2
    rw [List.length_append] at hn
    cases n with
    | zero => exact absurd hn (Nat.not_lt_zero _)
    | succ n =>
      rw [List.flatMap_append, List.append_assoc, parts, part_put c hc]
      simp only
      rw [List.drop_left, ih n _ _ post (by omega), List.append_assoc, List.length_append]
      congr 2
      omega
theorem scan_print {l : List UInt8} (h : validB l = true) (post : List UInt8) : scan (qprint l ++ post) = .ok (l, (qprint l).length) := by
  have ht := txt_valid' h
  have hg := qps_ge l
  unfold scan qprint
  have e : (34 :: l.flatMap qp ++ [34]) ++ post = 34 :: (l.flatMap qp ++ 34 :: post) := by simp
  rw [e, if_neg (by simp), if_neg (by rw [byt_zero]; decide), List.drop_one, List.tail_cons, parts_print ht _ _ _ _ (by simp only [List.length_cons, List.length_append]; omega)]
  congr 2
  simp only [List.length_append, List.length_cons, List.length_nil]; omega
end Go.Proofs.YtckflnibkglheaaGreatDoor.Quote
/- A number's print, read again, is the number. -/
namespace Go.Proofs.YtckflnibkglheaaGreatDoor.Num
open Go.Proofs.YtckflnibkglheaaGreatDoor.Jdec (nprint nfront)
open Go.Lib (decDigits)
set_option linter.unusedVariables false
set_option linter.unusedSimpArgs false

/-- What stands behind a number's text goes not on with it. -/
def Stops (post : List UInt8) : Prop := ∀ c t, post = c :: t → sgn c.toNat = 6
theorem stops_nil : Stops [] := fun c t h => by cases h
theorem from_stop (post : List UInt8) (hp : Stops post) : ∀ (l : List UInt8) (st i k : Nat), l ≠ [] → run st l ≠ 9 → st < 9 → whole (run st l) = true → from_ st i k (l ++ post) = i + l.length
  | [], _, _, _, h, _, _, _ => absurd rfl h
  | c :: l, st, i, k, _, h9, hst, hw => by
    rw [run_cons] at h9 hw
    by_cases hs : step st (sgn c.toNat) = 9
    · rw [if_pos hs] at h9; exact absurd rfl h9
    · rw [if_neg hs] at h9 hw
      have hlt := step_ne st hst _ (sgn_lt c.toNat) hs
      rw [List.cons_append, from_, if_neg hs]
      by_cases h0 : l = []
      · subst h0
        rw [run] at hw
        rw [if_pos hw, List.nil_append]
        cases post with
        | nil => rfl
        | cons d t =>
          rw [from_, hp d t rfl, if_pos (step_6 _ hlt)]; rfl
      · rw [from_stop post hp l _ _ _ h0 h9 hlt hw, List.length_cons]; omega
theorem scan_stop {l post : List UInt8} (hp : Stops post) (h0 : l ≠ []) (h9 : run 0 l ≠ 9) (hw : whole (run 0 l) = true) : scan (l ++ post) = l.length := by
  unfold scan
  rw [from_stop post hp l 0 0 0 h0 h9 (by omega) hw, Nat.zero_add]
theorem sgn_digit {c : UInt8} (h : isDigit c = true) : sgn c.toNat = 2 ∨ sgn c.toNat = 3 := by
  unfold isDigit at h
  simp only [Bool.and_eq_true, decide_eq_true_eq] at h
  unfold sgn
  by_cases h1 : c.toNat = 48
  · left; rw [if_neg (by omega), if_neg (by omega), if_pos h1]
  · right; rw [if_neg (by omega), if_neg (by omega), if_neg h1, if_pos (by omega)]
theorem run_all (st : Nat) (h2 : step st 2 = st) (h3 : step st 3 = st) (hst : st ≠ 9) : ∀ l : List UInt8, (∀ c ∈ l, isDigit c = true) → run st l = st
  | [], _ => rfl
  | c :: l, h => by
    have hs : step st (sgn c.toNat) = st := by rcases sgn_digit (h c (List.mem_cons_self ..)) with e | e <;> rw [e] <;> assumption
    rw [run_cons, hs, if_neg hst]
    exact run_all st h2 h3 hst l fun x hx => h x (List.mem_cons_of_mem _ hx)
/-- Behind a first digit, too. -/
theorem run_some (st st' : Nat) (a2 : step st 2 = st') (a3 : step st 3 = st') (h2 : step st' 2 = st') (h3 : step st' 3 = st') (hst : st' ≠ 9) (l : List UInt8) (h0 : l ≠ []) (h : ∀ c ∈ l, isDigit c = true) : run st l = st' := by
  cases l with
  | nil => exact absurd rfl h0
  | cons c l =>
    have hs : step st (sgn c.toNat) = st' := by rcases sgn_digit (h c (List.mem_cons_self ..)) with e | e <;> rw [e] <;> assumption
    rw [run_cons, hs, if_neg hst]
    exact run_all st' h2 h3 hst l fun x hx => h x (List.mem_cons_of_mem _ hx)
theorem run_front (neg : Bool) : run 0 (nfront neg) = if neg then 1 else 0 := by cases neg <;> rfl
/-- Digits, of which the first is no nought. -/
structure Digs (d : List UInt8) : Prop where
  all : ∀ c ∈ d, isDigit c = true
  ne : d ≠ []
  head : d.headD 48 ≠ 48
theorem run_digs (neg : Bool) {d : List UInt8} (h : Digs d) (r : List UInt8) : run 0 (nfront neg ++ d ++ r) = run 3 r := by
  have e : run (if neg then 1 else 0) d = 3 := by
    obtain ⟨h1, h2, h3⟩ := h
    cases d with
    | nil => exact absurd rfl h2
    | cons c t =>
      have hc := h1 c (List.mem_cons_self ..)
      have hs : sgn c.toNat = 3 := by
        unfold isDigit at hc
        simp only [Bool.and_eq_true, decide_eq_true_eq] at hc
        have hn : c.toNat ≠ 48 := fun e => h3 (by rw [List.headD_cons]; exact UInt8.toNat_inj.1 e)
        unfold sgn
        rw [if_neg (by omega), if_neg (by omega), if_neg hn, if_pos (by omega)]
      have hst : step (if neg then 1 else 0) 3 = 3 := by cases neg <;> rfl
      rw [run_cons, hs, hst, if_neg (by omega)]
      exact run_all 3 rfl rfl (by omega) t fun x hx => h1 x (List.mem_cons_of_mem _ hx)
  have hf : (if neg then 1 else 0) ≠ 9 := by cases neg <;> decide
  rw [run_append, run_append, run_front, if_neg hf, e, if_neg (by omega)]
theorem dec_digit : ∀ u, (∀ c ∈ decDigits u, isDigit c = true) ∧ decDigits u ≠ [] := by
  intro u
  induction u using Nat.strongRecOn with
  | _ u ih =>
    have one : ∀ n, n < 10 → isDigit (UInt8.ofNat (48 + n)) = true := by decide
    by_cases h : u < 10
    · rw [decDigits, dif_pos h]
      exact ⟨fun c hc => by rw [List.mem_singleton.1 hc]; exact one u h, by simp⟩
    · rw [decDigits, dif_neg h]
      obtain ⟨h1, h2⟩ := ih (u / 10) (by omega)
      refine ⟨fun c hc => ?_, by simp⟩
      rcases List.mem_append.1 hc with hc | hc
      · exact h1 c hc
      · rw [List.mem_singleton.1 hc]; exact one _ (by omega)
theorem pdigits_dec : ∀ u, u ≤ 1000000 → pdigits (decDigits u) = u := by
  intro u
  induction u using Nat.strongRecOn with
  | _ u ih =>
    intro hu
    have one : ∀ n, n < 10 → ((UInt8.ofNat (48 + n)).toNat + 208) % 256 = n := by decide
    by_cases h : u < 10
    · rw [decDigits, dif_pos h]
      show pstep 0 _ = u
      unfold pstep
      rw [one u h]; omega
    · rw [decDigits, dif_neg h]
      have := ih (u / 10) (by omega) (by omega)
      unfold pdigits at this ⊢
      rw [List.foldl_append, this]
      show pstep (u / 10) _ = u
      unfold pstep
      rw [one _ (by omega)]; omega
theorem power_itoa (x : Int) (h1 : -1000000 ≤ x) (h2 : x ≤ 1000000) : power (Lib.itoa x) = x := by
  unfold Lib.itoa
  by_cases h : x < 0
  · rw [if_pos h]
    unfold power
    simp only
    rw [if_pos (by decide), pdigits_dec _ (by omega)]; omega
  · rw [if_neg h]
    obtain ⟨hd, hn⟩ := dec_digit x.toNat
    have hp := pdigits_dec x.toNat (by omega)
    cases hc : decDigits x.toNat with
    | nil => exact absurd hc hn
    | cons c t =>
      rw [hc] at hd hp
      have := hd c (List.mem_cons_self ..)
      unfold isDigit at this
      simp only [Bool.and_eq_true, decide_eq_true_eq] at this
      unfold power
      simp only
      rw [if_neg (by omega), if_neg (by omega), hp]; omega
/-- A number's print behind its sign. -/
def nbody (d : List UInt8) (x : Int) : List UInt8 :=
  if 0 ≤ x ∧ x ≤ 20 then d ++ List.replicate x.toNat 48
  else if x < -20 ∨ 20 < x then d ++ 101 :: Lib.itoa x
  else if -x < (d.length : Int) then d.take ((d.length : Int) + x).toNat ++ 46 :: d.drop ((d.length : Int) + x).toNat
  else [48, 46] ++ List.replicate (-x - (d.length : Int)).toNat 48 ++ d
theorem nprint_body (neg : Bool) (d : List UInt8) (x : Int) (h : d ≠ []) : nprint neg d x = nfront neg ++ nbody d x := by
  unfold nprint nbody
  rw [if_neg h]
  repeat' split
  all_goals simp [List.append_assoc]
structure Fine (d : List UInt8) (x : Int) : Prop extends Digs d where
  last : d.getLastD 48 ≠ 48
  lo : -10000 ≤ x
  hi : x ≤ 10000
theorem fine_of {n : Bool} {d : List UInt8} {x : Int} (h : right n d x = true) (h0 : d ≠ []) : Fine d x := by
  unfold right at h
  rw [if_neg h0] at h
  split at h
  · cases h
  · simp only [Bool.and_eq_true, List.all_eq_true, bne_iff_ne] at h
    exact ⟨⟨h.1.1, h0, h.1.2⟩, h.2, by omega, by omega⟩
theorem rep_digit (m : Nat) : ∀ c ∈ List.replicate m (48 : UInt8), isDigit c = true := fun c hc => by rw [(List.mem_replicate.1 hc).2]; rfl
theorem Fine.run {d : List UInt8} {x : Int} (h : Fine d x) (n : Bool) : Num.run 0 (nfront n ++ nbody d x) ≠ 9 ∧ whole (Num.run 0 (nfront n ++ nbody d x)) = true := by
  unfold nbody
  split
  · rw [← List.append_assoc, run_digs n h.toDigs, run_all 3 rfl rfl (by omega) _ (rep_digit _)]; decide
  split
  · rw [← List.append_assoc, run_digs n h.toDigs]
    have hs : Num.run 3 (101 :: Lib.itoa x) = Num.run 6 (Lib.itoa x) := rfl
    have h8 : Num.run 6 (Lib.itoa x) = 8 := by
      unfold Lib.itoa
      split
      · show Num.run 7 _ = 8
        exact run_some 7 8 rfl rfl rfl rfl (by omega) _ (dec_digit _).2 (dec_digit _).1
      · exact run_some 6 8 rfl rfl rfl rfl (by omega) _ (dec_digit _).2 (dec_digit _).1
    rw [hs, h8]; decide
  split
  · rename_i h1 h2 h3
    obtain ⟨k, hk⟩ : ∃ k : Nat, ((d.length : Int) + x).toNat = k ∧ 1 ≤ k ∧ k < d.length := ⟨_, rfl, by omega, by omega⟩
    rw [hk.1]
    have ht : Digs (d.take k) := ⟨fun c hc => h.all c (List.mem_of_mem_take hc), fun e => by have := congrArg List.length e; rw [List.length_take, List.length_nil] at this; omega, by
      have := h.head
      cases d with
      | nil => exact absurd rfl h.ne
      | cons c t =>
        obtain ⟨j, rfl⟩ : ∃ j, k = j + 1 := ⟨k - 1, by omega⟩
        exact this⟩
    rw [← List.append_assoc, run_digs n ht]
    have hs : Num.run 3 (46 :: d.drop k) = Num.run 4 (d.drop k) := rfl
    rw [hs, run_some 4 5 rfl rfl rfl rfl (by omega) _ (fun e => by have := congrArg List.length e; rw [List.length_drop, List.length_nil] at this; omega) fun c hc => h.all c (List.mem_of_mem_drop hc)]
    decide
  · have hr : Num.run (if n then 1 else 0) ([48, 46] ++ List.replicate (-x - (d.length : Int)).toNat 48 ++ d) = Num.run 4 (List.replicate (-x - (d.length : Int)).toNat 48 ++ d) := by cases n <;> rfl
    have hf : (if n then 1 else 0) ≠ 9 := by cases n <;> decide
    rw [run_append, run_front, if_neg hf, hr, run_some 4 5 rfl rfl rfl rfl (by omega) _ (by simp [h.ne]) fun c hc => by
      rcases List.mem_append.1 hc with hc | hc
      · exact rep_digit _ c hc
      · exact h.all c hc]
    decide
theorem run_nprint {n : Bool} {d : List UInt8} {x : Int} (h : right n d x = true) : nprint n d x ≠ [] ∧ run 0 (nprint n d x) ≠ 9 ∧ whole (run 0 (nprint n d x)) = true := by
  by_cases h0 : d = []
  · subst h0
    have e : nprint n [] x = [48] := rfl
    rw [e]
    exact ⟨by decide, by decide, by decide⟩
  · rw [nprint_body n d x h0]
    refine ⟨?_, (fine_of h h0).run n⟩
    unfold nbody
    repeat' split
    all_goals simp [h0]
theorem scan_nprint {n : Bool} {d : List UInt8} {x : Int} (h : right n d x = true) (post : List UInt8) (hp : Stops post) : scan (nprint n d x ++ post) = (nprint n d x).length := by
  obtain ⟨h1, h2, h3⟩ := run_nprint h
  exact scan_stop hp h1 h2 h3

theorem drop_noughts (e : List UInt8) (he : e.headD 48 ≠ 48) : ∀ a : Nat, (List.replicate a (48 : UInt8) ++ e).dropWhile (· == 48) = e
  | 0 => by
    cases e with
    | nil => rfl
    | cons c t =>
      have : (c == 48) = false := by rw [beq_eq_false_iff_ne]; exact he
      rw [List.replicate_zero, List.nil_append, List.dropWhile_cons, this]; rfl
  | a + 1 => by
    rw [List.replicate_succ, List.cons_append, List.dropWhile_cons]
    exact drop_noughts e he a
theorem last_head (d : List UInt8) : d.reverse.headD 48 = d.getLastD 48 := by
  rw [List.headD_eq_head?_getD, List.head?_reverse, List.getLastD_eq_getLast?]
theorem fin_digits {n : Bool} {d : List UInt8} {x : Int} (h : right n d x = true) (h0 : d ≠ []) (a z : Nat) (y : Int) (hy : y + z = x) : fin n (List.replicate a 48 ++ (d ++ List.replicate z 48)) y = .ok (n, d, x) := by
  have hf := fine_of h h0
  have e1 : (List.replicate a (48 : UInt8) ++ (d ++ List.replicate z 48)).dropWhile (· == 48) = d ++ List.replicate z 48 := drop_noughts _ (by
    cases d with
    | nil => exact absurd rfl h0
    | cons c t => exact hf.head) a
  have e2 : ((d ++ List.replicate z (48 : UInt8)).reverse.dropWhile (· == 48)).reverse = d := by
    rw [List.reverse_append, List.reverse_replicate, drop_noughts _ (by rw [last_head]; exact hf.last), List.reverse_reverse]
  unfold fin
  simp only []
  rw [e1, e2, if_neg h0]
  have e3 : y + (((d ++ List.replicate z (48 : UInt8)).length : Int) - (d.length : Int)) = x := by
    rw [List.length_append, List.length_replicate]; omega
  rw [e3, if_pos h]
theorem find_none {p : UInt8 → Bool} : ∀ l : List UInt8, (∀ c ∈ l, p c = false) → l.findIdx? p = none := fun l h => by
  rw [List.findIdx?_eq_none_iff]; exact h
theorem find_at {p : UInt8 → Bool} (m : UInt8) (hm : p m = true) (b : List UInt8) : ∀ a : List UInt8, (∀ c ∈ a, p c = false) → (a ++ m :: b).findIdx? p = some a.length
  | [], _ => by rw [List.nil_append, List.findIdx?_cons, hm]; rfl
  | c :: a, h => by
    rw [List.cons_append, List.findIdx?_cons, h c (List.mem_cons_self ..), find_at m hm b a fun x hx => h x (List.mem_cons_of_mem _ hx)]
    simp
theorem dig_noE {c : UInt8} (h : isDigit c = true) : ([101, 69] : List UInt8).contains c = false := by
  unfold isDigit at h
  simp only [Bool.and_eq_true, decide_eq_true_eq] at h
  have h1 : c ≠ 101 := fun e => by subst e; exact absurd h.2 (by decide)
  have h2 : c ≠ 69 := fun e => by subst e; exact absurd h.2 (by decide)
  simp [h1, h2]
theorem dig_noP {c : UInt8} (h : isDigit c = true) : (c == 46) = false := by
  unfold isDigit at h
  simp only [Bool.and_eq_true, decide_eq_true_eq] at h
  rw [beq_eq_false_iff_ne]
  intro e; subst e; exact absurd h.1 (by decide)
theorem point_none {n : Bool} {d : List UInt8} (h : ∀ c ∈ d, isDigit c = true) (x : Int) : point n d x = fin n d x := by
  unfold point
  rw [find_none d fun c hc => dig_noP (h c hc)]
theorem mant_none {n : Bool} {d : List UInt8} (h : ∀ c ∈ d, ([101, 69] : List UInt8).contains c = false) : mant n d = point n d 0 := by
  unfold mant
  rw [find_none d h]
theorem mant_body {n : Bool} {d : List UInt8} {x : Int} (h : right n d x = true) (h0 : d ≠ []) : mant n (nbody d x) = .ok (n, d, x) := by
  have hf := fine_of h h0
  unfold nbody
  split
  · rename_i h1
    have hall : ∀ c ∈ d ++ List.replicate x.toNat (48 : UInt8), isDigit c = true := fun c hc => by
      rcases List.mem_append.1 hc with hc | hc
      · exact hf.all c hc
      · exact rep_digit _ c hc
    rw [mant_none fun c hc => dig_noE (hall c hc), point_none hall]
    have := fin_digits h h0 0 x.toNat 0 (by omega)
    rw [List.replicate_zero, List.nil_append] at this
    exact this
  split
  · unfold mant
    rw [find_at 101 (by decide) _ d fun c hc => dig_noE (hf.all c hc)]
    simp only
    rw [List.take_left, show (d ++ 101 :: Lib.itoa x).drop (d.length + 1) = Lib.itoa x by rw [show d ++ 101 :: Lib.itoa x = (d ++ [101]) ++ Lib.itoa x by simp, List.drop_left' (by simp)], power_itoa x (by have := hf.lo; omega) (by have := hf.hi; omega), point_none hf.all]
    have := fin_digits h h0 0 0 x (by omega)
    rw [List.replicate_zero, List.nil_append, List.append_nil] at this
    exact this
  split
  · rename_i h1 h2 h3
    obtain ⟨k, hk⟩ : ∃ k : Nat, ((d.length : Int) + x).toNat = k ∧ 1 ≤ k ∧ k < d.length ∧ (d.length : Int) + x = k := ⟨_, rfl, by omega, by omega, by omega⟩
    rw [hk.1]
    have ht : ∀ c ∈ d.take k, isDigit c = true := fun c hc => hf.all c (List.mem_of_mem_take hc)
    have hd : ∀ c ∈ d.drop k, isDigit c = true := fun c hc => hf.all c (List.mem_of_mem_drop hc)
    have hlk : (d.take k).length = k := by rw [List.length_take]; omega
    rw [mant_none fun c hc => by
      rcases List.mem_append.1 hc with hc | hc
      · exact dig_noE (ht c hc)
      · rcases List.mem_cons.1 hc with rfl | hc
        · decide
        · exact dig_noE (hd c hc)]
    unfold point
    rw [find_at 46 (by decide) _ _ fun c hc => dig_noP (ht c hc)]
    simp only
    rw [List.take_left, show (d.take k ++ 46 :: d.drop k).drop ((d.take k).length + 1) = d.drop k by rw [show d.take k ++ 46 :: d.drop k = (d.take k ++ [46]) ++ d.drop k by simp, List.drop_left' (by simp)], List.take_append_drop]
    have := fin_digits h h0 0 0 (0 - (((d.take k ++ 46 :: d.drop k).length : Int) - ((d.take k).length : Int) - 1)) (by
      rw [List.length_append, List.length_cons, List.length_drop, hlk]; omega)
    rw [List.replicate_zero, List.nil_append, List.append_nil] at this
    exact this
  · rename_i h1 h2 h3
    obtain ⟨m, hm⟩ : ∃ m : Nat, (-x - (d.length : Int)).toNat = m ∧ (m : Int) = -x - (d.length : Int) := ⟨_, rfl, by omega⟩
    rw [hm.1]
    have hall : ∀ c ∈ List.replicate m (48 : UInt8) ++ d, isDigit c = true := fun c hc => by
      rcases List.mem_append.1 hc with hc | hc
      · exact rep_digit _ c hc
      · exact hf.all c hc
    have e : [48, 46] ++ List.replicate m (48 : UInt8) ++ d = [48] ++ 46 :: (List.replicate m (48 : UInt8) ++ d) := by simp
    rw [e, mant_none fun c hc => by
      rcases List.mem_append.1 hc with hc | hc
      · rw [List.mem_singleton.1 hc]; decide
      · rcases List.mem_cons.1 hc with rfl | hc
        · decide
        · exact dig_noE (hall c hc)]
    unfold point
    rw [find_at 46 (by decide) _ [48] fun c hc => by rw [List.mem_singleton.1 hc]; decide]
    simp only
    have e2 : ([48] ++ 46 :: (List.replicate m (48 : UInt8) ++ d)).take ([48] : List UInt8).length ++ ([48] ++ 46 :: (List.replicate m (48 : UInt8) ++ d)).drop (([48] : List UInt8).length + 1) = List.replicate (m + 1) 48 ++ (d ++ List.replicate 0 48) := by
      simp [List.replicate_succ]
    rw [e2]
    refine fin_digits h h0 (m + 1) 0 _ ?_
    simp only [List.length_append, List.length_cons, List.length_nil, List.length_replicate]
    omega
theorem body_head {d : List UInt8} {x : Int} (h : Fine d x) : ∃ c t, nbody d x = c :: t ∧ isDigit c = true := by
  obtain ⟨c, t, hd⟩ : ∃ c t, d = c :: t := by
    cases hd : d with
    | nil => exact absurd hd h.ne
    | cons c t => exact ⟨c, t, rfl⟩
  have hc := h.all c (by rw [hd]; exact List.mem_cons_self ..)
  unfold nbody
  split
  · exact ⟨c, _, by rw [hd]; rfl, hc⟩
  split
  · exact ⟨c, _, by rw [hd]; rfl, hc⟩
  split
  · rename_i h1 h2 h3
    obtain ⟨k, hk⟩ : ∃ k : Nat, ((d.length : Int) + x).toNat = k + 1 := ⟨((d.length : Int) + x).toNat - 1, by omega⟩
    rw [hk, hd]
    exact ⟨c, _, rfl, hc⟩
  · exact ⟨48, _, rfl, by decide⟩
theorem parse_nprint {n : Bool} {d : List UInt8} {x : Int} (h : right n d x = true) : parse (nprint n d x) = .ok (n, d, x) := by
  have hs := scan_nprint h [] stops_nil
  rw [List.append_nil] at hs
  by_cases h0 : d = []
  · subst h0
    unfold right at h
    simp at h
    obtain ⟨rfl, rfl⟩ := h
    rfl
  · have hf := fine_of h h0
    obtain ⟨c, t, hb, hc⟩ := body_head hf
    unfold parse
    rw [if_neg (by
      rintro (e | e)
      · exact (run_nprint h).1 e
      · exact e hs), nprint_body n d x h0, ← mant_body h h0]
    have h45 : ((c :: t).head? == some 45) = false := by
      rw [List.head?_cons, beq_eq_false_iff_ne]
      intro e
      injection e with e
      subst e
      exact absurd hc (by decide)
    cases n with
    | false =>
      show mant ((nbody d x).head? == some 45) _ = _
      have e : nfront false ++ nbody d x = nbody d x := rfl
      rw [e, hb, h45]; rfl
    | true => rfl
end Go.Proofs.YtckflnibkglheaaGreatDoor.Num
/- A value's print, read again, is the value. -/
namespace Go.Proofs.YtckflnibkglheaaGreatDoor.Jdec
set_option linter.unusedVariables false
set_option linter.unusedSimpArgs false

theorem get_at {l : List UInt8} {p : Nat} {c : UInt8} {t : List UInt8} (h : l.drop p = c :: t) : l[p]? = some c := by
  have := congrArg (·[0]?) h
  simpa using this
theorem drop_at {l : List UInt8} {p : Nat} {x y : List UInt8} (h : l.drop p = x ++ y) : l.drop (p + x.length) = y := by
  rw [← List.drop_drop, h, List.drop_left]
theorem drop_one_at {l : List UInt8} {p : Nat} {c : UInt8} {t : List UInt8} (h : l.drop p = c :: t) : l.drop (p + 1) = t := drop_at (x := [c]) h
theorem skip_at {l : List UInt8} {p : Nat} {c : UInt8} {t : List UInt8} (h : l.drop p = c :: t) (hb : blankJ c = false) : skip l p = p := by
  unfold skip
  rw [h, List.takeWhile_cons, hb]; rfl
theorem skip_out {l : List UInt8} {p : Nat} (h : l.drop p = []) : skip l p = p := by
  unfold skip
  rw [h]; rfl
theorem word_at (l : List UInt8) : ∀ (w post : List UInt8) (p : Nat), l.drop p = w ++ post → word l w p = .ok (p + w.length)
  | [], _, p, _ => rfl
  | c :: w, post, p, h => by
    rw [word, if_pos (get_at h), word_at l w post (p + 1) (drop_one_at h), List.length_cons]
    congr 1; omega
theorem str_back (d : ByteArray) : (⟨d.data.toList.toArray⟩ : ByteArray) = d := by simp
theorem quoted_at {l post : List UInt8} {p : Nat} {s : ByteArray} (h : l.drop p = Quote.qprint s.data.toList ++ post) (hv : Utf.validB s.data.toList = true) : quoted l p = .ok (s, p + (Quote.qprint s.data.toList).length) := by
  unfold quoted
  rw [h, Quote.scan_print hv]
set_option maxRecDepth 100000 in
theorem way_num : ∀ n : Fin 256, n.val = 45 ∨ (48 ≤ n.val ∧ n.val ≤ 57) → way (UInt8.ofNat n.val) = 2 ∧ blankJ (UInt8.ofNat n.val) = false := by decide
theorem nprint_head {n : Bool} {d : List UInt8} {x : Int} (h : Num.right n d x = true) : ∃ c t, nprint n d x = c :: t ∧ way c = 2 ∧ blankJ c = false := by
  by_cases h0 : d = []
  · subst h0; exact ⟨48, [], rfl, by decide, by decide⟩
  · rw [Num.nprint_body n d x h0]
    cases n with
    | true => exact ⟨45, _, rfl, by decide, by decide⟩
    | false =>
      obtain ⟨c, t, hb, hc⟩ := Num.body_head (Num.fine_of h h0)
      unfold Num.isDigit at hc
      simp only [Bool.and_eq_true, decide_eq_true_eq] at hc
      have := way_num ⟨c.toNat, UInt8.toNat_lt c⟩ (.inr hc)
      rw [UInt8.ofNat_toNat] at this
      exact ⟨c, t, by rw [hb]; rfl, this.1, this.2⟩
/-- The first byte of a print is no blank. -/
theorem print_head (t : JV) (hg : GoodQ t) (dp : Nat) : ∃ c r, t.print false dp = c :: r ∧ blankJ c = false ∧ way c ≠ 0 := by
  cases hg with
  | mk k i n d e s ks vs O hv =>
  rw [print_mk]
  split
  · exact ⟨110, _, rfl, by decide, by decide⟩
  split
  · cases i
    · exact ⟨102, _, rfl, by decide, by decide⟩
    · exact ⟨116, _, rfl, by decide, by decide⟩
  split
  · obtain ⟨c, t, h1, h3, h2⟩ := nprint_head O.right
    exact ⟨c, t, h1, h2, by omega⟩
  split
  · exact ⟨34, _, rfl, by decide, by decide⟩
  split
  · cases hk : decide (k = 6)
    · exact ⟨91, _, rfl, by decide, by decide⟩
    · exact ⟨123, _, rfl, by decide, by decide⟩
  · rename_i h0
    cases vs with
    | nil => exact absurd rfl h0
    | cons v vs =>
      rw [kidsP_cons]
      cases hk : decide (k = 6)
      · exact ⟨91, _, rfl, by decide, by decide⟩
      · exact ⟨123, _, rfl, by decide, by decide⟩
theorem stops_byte (c : UInt8) (t : List UInt8) (h : Num.sgn c.toNat = 6) : Num.Stops (c :: t) := fun d u e => by injection e with e1 e2; subst e1; exact h
theorem ends_stop {l post : List UInt8} {last : UInt8} {q : Nat} (h : l.drop q = last :: post) (hb : blankJ last = false) : ends l last q = .ok (true, q + 1) := by
  unfold ends
  rw [skip_at h hb, if_pos (get_at h)]
theorem ends_next {l post : List UInt8} {last c : UInt8} {q : Nat} (h : l.drop q = 44 :: c :: post) (hl : last ≠ 44) (hb : blankJ c = false) : ends l last q = .ok (false, q + 1) := by
  unfold ends
  rw [skip_at h (by decide), get_at h, if_neg (fun e => hl (by injection e with e; exact e.symm)), if_pos rfl, skip_at (drop_one_at h) hb]
theorem kids_ge (wd : Bool) (dp : Nat) (obj : Bool) (ks : List ByteArray) : ∀ (vs : List JV) (i : Nat), vs.length ≤ (kidsP wd dp obj ks i vs).length
  | [], i => Nat.zero_le _
  | v :: t, i => by
    have := kids_ge wd dp obj ks t (i + 1)
    have h1 := firstP_len obj
    rw [kidsP_cons]
    simp only [List.length_append, List.length_cons]
    split
    · omega
    · simp only [List.length_cons, List.length_nil]; omega
/-- What a reader of kids finds at a kid's print. -/
def ReadsV (l : List UInt8) (val : Val) (dp : Nat) (v : JV) : Prop := ∀ (p : Nat) (post : List UInt8), l.drop p = v.print false dp ++ post → Num.Stops post → val p = .ok (v, p + (v.print false dp).length)
theorem items_print (l : List UInt8) (val : Val) (dp : Nat) (post : List UInt8) : ∀ (vs : List JV) (v : JV) (i n q : Nat) (acc : List JV), vs.length < n → (∀ u ∈ v :: vs, GoodQ u ∧ ReadsV l val (dp + 1) u) →
    l.drop q = v.print false (dp + 1) ++ (kidsP false dp false [] (i + 1) vs ++ 93 :: post) → items l val n q acc = .ok (acc ++ v :: vs, q + (v.print false (dp + 1)).length + (kidsP false dp false [] (i + 1) vs).length + 1)
  | [], v, i, n, q, acc, hn, hr, h => by
    obtain ⟨n, rfl⟩ : ∃ m, n = m + 1 := ⟨n - 1, by simp at hn; omega⟩
    rw [kidsP_nil, List.nil_append] at h
    rw [items, (hr v (List.mem_cons_self ..)).2 q _ h (stops_byte 93 _ (by decide))]
    simp only
    rw [ends_stop (drop_at h) (by decide), kidsP_nil]
    rfl
  | u :: us, v, i, n, q, acc, hn, hr, h => by
    obtain ⟨n, rfl⟩ : ∃ m, n = m + 1 := ⟨n - 1, by simp at hn; omega⟩
    have hu := hr u (List.mem_cons_of_mem _ (List.mem_cons_self ..))
    obtain ⟨c, r, hc, hb, _⟩ := print_head u hu.1 (dp + 1)
    have hk : kidsP false dp false [] (i + 1) (u :: us) = 44 :: (u.print false (dp + 1) ++ kidsP false dp false [] (i + 1 + 1) us) := by
      rw [kidsP_cons, if_neg (by omega)]
      rfl
    have h44 : l.drop q = v.print false (dp + 1) ++ 44 :: (u.print false (dp + 1) ++ (kidsP false dp false [] (i + 1 + 1) us ++ 93 :: post)) := by
      rw [h, hk]; simp
    rw [items, (hr v (List.mem_cons_self ..)).2 q _ h44 (stops_byte 44 _ (by decide))]
    simp only
    have hd := drop_at h44
    have he : ends l 93 (q + (v.print false (dp + 1)).length) = .ok (false, q + (v.print false (dp + 1)).length + 1) := by
      rw [hc] at hd
      exact ends_next hd (by decide) hb
    rw [he]
    simp only
    rw [items_print l val dp post us u (i + 1) n _ _ (by simp at hn; omega) (fun x hx => hr x (List.mem_cons_of_mem _ hx)) (drop_one_at hd), hk]
    simp only [List.length_cons, List.length_append, List.append_assoc, List.singleton_append]
    congr 2
    omega
theorem key_at {l post : List UInt8} {q : Nat} {k : ByteArray} {ks : List ByteArray} (h : l.drop q = Quote.qprint k.data.toList ++ post) (hv : Utf.validB k.data.toList = true) (hn : k ∉ ks) : key l ks q = .ok (k, q + (Quote.qprint k.data.toList).length) := by
  unfold key
  have h34 : l[q]? = some 34 := get_at (t := k.data.toList.flatMap Quote.qp ++ [34] ++ post) (by rw [h]; unfold Quote.qprint; simp)
  rw [if_pos h34, quoted_at h hv]
  simp only
  rw [if_neg]
  intro he
  rw [List.any_eq_true] at he
  obtain ⟨x, hx, e⟩ := he
  rw [decide_eq_true_eq] at e
  exact hn (e ▸ hx)
theorem colon_at {l post : List UInt8} {q : Nat} {c : UInt8} (h : l.drop q = 58 :: c :: post) (hb : blankJ c = false) : colon l q = .ok (q + 1) := by
  unfold colon
  rw [skip_at h (by decide), if_pos (get_at h), skip_at (drop_one_at h) hb]
theorem members_print (l : List UInt8) (val : Val) (dp : Nat) (post : List UInt8) (ks : List ByteArray) (hnd : ks.Nodup) (hval : ∀ k ∈ ks, Utf.validB k.data.toList = true) : ∀ (vs : List JV) (v : JV) (i n q : Nat) (acc : List JV), i + vs.length + 1 = ks.length → vs.length < n → (∀ u ∈ v :: vs, GoodQ u ∧ ReadsV l val (dp + 1) u) →
    l.drop q = keyP false true ks i ++ (v.print false (dp + 1) ++ (kidsP false dp true ks (i + 1) vs ++ 125 :: post)) → members l val n q (ks.take i) acc = .ok (ks, acc ++ v :: vs, q + (keyP false true ks i).length + (v.print false (dp + 1)).length + (kidsP false dp true ks (i + 1) vs).length + 1)
  | vs, v, i, n, q, acc, hl, hn, hr, h => by
    obtain ⟨n, rfl⟩ : ∃ m, n = m + 1 := ⟨n - 1, by omega⟩
    have hi : i < ks.length := by omega
    have hkey : ks.getD i ⟨#[]⟩ = ks[i] := by simp [List.getD, hi]
    have hkp : keyP false true ks i = Quote.qprint (ks[i]).data.toList ++ [58] := by unfold keyP; rw [hkey]; rfl
    have hnot : ks[i] ∉ ks.take i := by
      intro hm
      obtain ⟨j, hj, e⟩ := List.getElem_of_mem hm
      rw [List.length_take] at hj
      rw [List.getElem_take] at e
      exact List.pairwise_iff_getElem.1 hnd j i (by omega) hi (by omega) e
    have hv := hr v (List.mem_cons_self ..)
    obtain ⟨c, r, hc, hb, _⟩ := print_head v hv.1 (dp + 1)
    have h1 : l.drop q = Quote.qprint (ks[i]).data.toList ++ 58 :: (v.print false (dp + 1) ++ (kidsP false dp true ks (i + 1) vs ++ 125 :: post)) := by
      rw [h, hkp]; simp
    have h2 := drop_at h1
    have h3 := drop_one_at h2
    have htk : ks.take i ++ [ks[i]] = ks.take (i + 1) := by rw [List.take_add_one, List.getElem?_eq_getElem hi]; rfl
    rw [members, key_at h1 (hval _ (List.getElem_mem hi)) hnot]
    simp only
    rw [colon_at (c := c) (post := r ++ (kidsP false dp true ks (i + 1) vs ++ 125 :: post)) (by rw [h2, hc]; rfl) hb]
    simp only
    cases vs with
    | nil =>
      rw [kidsP_nil, List.nil_append] at h3
      rw [hv.2 _ _ h3 (stops_byte 125 _ (by decide))]
      simp only
      rw [ends_stop (drop_at h3) (by decide)]
      simp only
      have : ks.take (i + 1) = ks := List.take_of_length_le (by simp at hl; omega)
      rw [htk, this, kidsP_nil, hkp]
      simp only [List.length_append, List.length_cons, List.length_nil]
      congr 3
    | cons u us =>
      have hu := hr u (List.mem_cons_of_mem _ (List.mem_cons_self ..))
      have hk : kidsP false dp true ks (i + 1) (u :: us) = 44 :: (keyP false true ks (i + 1) ++ (u.print false (dp + 1) ++ kidsP false dp true ks (i + 1 + 1) us)) := by
        rw [kidsP_cons, if_neg (by omega)]
        simp [lineP]
      have h4 : l.drop (q + (Quote.qprint (ks[i]).data.toList).length + 1) = v.print false (dp + 1) ++ 44 :: (keyP false true ks (i + 1) ++ (u.print false (dp + 1) ++ (kidsP false dp true ks (i + 1 + 1) us ++ 125 :: post))) := by
        rw [h3, hk]; simp
      rw [hv.2 _ _ h4 (stops_byte 44 _ (by decide))]
      simp only
      have h5 := drop_at h4
      have he : ends l 125 (q + (Quote.qprint (ks[i]).data.toList).length + 1 + (v.print false (dp + 1)).length) = .ok (false, q + (Quote.qprint (ks[i]).data.toList).length + 1 + (v.print false (dp + 1)).length + 1) := by
        refine ends_next (c := 34) (post := (keyP false true ks (i + 1)).tail ++ (u.print false (dp + 1) ++ (kidsP false dp true ks (i + 1 + 1) us ++ 125 :: post))) ?_ (by decide) (by decide)
        rw [h5]; rfl
      rw [he]
      simp only
      rw [htk, members_print l val dp post ks hnd hval us u (i + 1) n _ _ (by simp at hl; omega) (by simp at hn; omega) (fun x hx => hr x (List.mem_cons_of_mem _ hx)) (drop_one_at h5), hk, hkp]
      simp only [List.length_cons, List.length_append, List.append_assoc, List.singleton_append, List.length_nil]
      congr 3
      omega
/-- A value's print is read as the value. -/
theorem value_print (t : JV) (hg : GoodQ t) : ∀ (l : List UInt8) (d dp : Nat), t.deepN ≤ d → ReadsV l (value l d) dp t := by
  induction hg with
  | mk k i n dg e s ks vs O hv ih =>
  intro l d dp hd p post h hp
  have hdn : 1 ≤ (JV.mk k i n dg e s ks vs).deepN := by rw [deepN_mk]; omega
  obtain ⟨d, rfl⟩ : ∃ d', d = d' + 1 := ⟨d - 1, by omega⟩
  rw [print_mk] at h ⊢
  have hk := O.k1
  have hk6 := O.k6
  by_cases k1 : k = 1
  · rw [if_pos k1] at h ⊢
    have i1 := O.is (by omega)
    obtain ⟨i2, i3, i4⟩ := O.num (by omega)
    have i5 := O.text (by omega)
    have i6 := O.noKeys (by omega)
    have i7 := List.length_eq_zero_iff.1 (O.kids (by omega))
    subst i1 i2 i3 i4 i5 i6 i7
    subst k1
    have hw : way 110 = 7 := by decide
    rw [value, get_at h]
    simp only [hw]
    unfold wordV
    rw [word_at l _ _ _ h]; rfl
  rw [if_neg k1] at h ⊢
  by_cases k2 : k = 2
  · rw [if_pos k2] at h ⊢
    obtain ⟨i2, i3, i4⟩ := O.num (by omega)
    have i5 := O.text (by omega)
    have i6 := O.noKeys (by omega)
    have i7 := List.length_eq_zero_iff.1 (O.kids (by omega))
    subst i2 i3 i4 i5 i6 i7
    subst k2
    cases i with
    | true =>
      rw [if_pos rfl] at h ⊢
      have hw : way 116 = 5 := by decide
      rw [value, get_at h]
      simp only [hw]
      unfold wordV
      rw [word_at l _ _ _ h]; rfl
    | false =>
      rw [if_neg (by decide)] at h ⊢
      have hw : way 102 = 6 := by decide
      rw [value, get_at h]
      simp only [hw]
      unfold wordV
      rw [word_at l _ _ _ h]; rfl
  rw [if_neg k2] at h ⊢
  by_cases k3 : k = 3
  · rw [if_pos k3] at h ⊢
    have i1 := O.is (by omega)
    have i5 := O.text (by omega)
    have i6 := O.noKeys (by omega)
    have i7 := List.length_eq_zero_iff.1 (O.kids (by omega))
    subst i1 i5 i6 i7
    subst k3
    obtain ⟨c, t, hc, hw, hb⟩ := nprint_head O.right
    have hs := Num.scan_nprint O.right post hp
    have h1 : l[p]? = some c := get_at (t := t ++ post) (by rw [h, hc]; rfl)
    rw [value, h1]
    simp only [hw]
    unfold number
    have hne : (nprint n dg.data.toList e).length ≠ 0 := by rw [hc]; simp
    rw [h, hs, if_neg hne, List.take_left, Num.parse_nprint O.right]
  rw [if_neg k3] at h ⊢
  by_cases k4 : k = 4
  · rw [if_pos k4] at h ⊢
    have i1 := O.is (by omega)
    obtain ⟨i2, i3, i4⟩ := O.num (by omega)
    have i6 := O.noKeys (by omega)
    have i7 := List.length_eq_zero_iff.1 (O.kids (by omega))
    subst i1 i2 i3 i4 i6 i7
    subst k4
    have h1 : l[p]? = some 34 := get_at (t := s.data.toList.flatMap Quote.qp ++ [34] ++ post) (by rw [h]; unfold Quote.qprint; simp)
    have hw : way 34 = 1 := by decide
    rw [value, h1]
    simp only [hw]
    unfold text
    rw [quoted_at h O.valid]
  rw [if_neg k4] at h ⊢
  have i1 := O.is (by omega)
  obtain ⟨i2, i3, i4⟩ := O.num (by omega)
  have i5 := O.text (by omega)
  subst i1 i2 i3 i4 i5
  have hrd : ∀ u ∈ vs, GoodQ u ∧ ReadsV l (value l d) (dp + 1) u := fun u hu => by
    obtain ⟨j, hj, rfl⟩ := List.getElem_of_mem hu
    refine ⟨hv j hj, ih j hj l d (dp + 1) ?_⟩
    rw [deepN_mk, if_pos (by omega)] at hd
    exact (deepNs_le vs d).1 (by omega) _ hu
  have hlen : vs.length ≤ l.length := by
    by_cases h0 : vs.length = 0
    · omega
    rw [if_neg h0] at h
    have h1 := congrArg List.length h
    have h2 := kids_ge false dp (decide (k = 6)) ks vs 0
    simp only [List.length_append, List.length_drop] at h1
    omega
  by_cases k6 : k = 6
  · subst k6
    have hw : way 123 = 3 := by decide
    have hkl := O.both rfl
    by_cases h0 : vs.length = 0
    · rw [if_pos h0] at h ⊢
      have e1 := List.length_eq_zero_iff.1 h0
      have e2 : ks = [] := List.length_eq_zero_iff.1 (by omega)
      subst e1 e2
      have h' : l.drop p = 123 :: 125 :: post := h
      rw [value, get_at h']
      simp only [hw]
      unfold object
      rw [skip_at (drop_one_at h') (by decide), if_pos (get_at (drop_one_at h'))]
      rfl
    · rw [if_neg h0] at h ⊢
      cases vs with
      | nil => exact absurd rfl h0
      | cons v vs =>
        have hk : kidsP false dp true ks 0 (v :: vs) = 123 :: (keyP false true ks 0 ++ (v.print false (dp + 1) ++ kidsP false dp true ks (0 + 1) vs)) := by
          rw [kidsP_cons, if_pos rfl]
          simp [lineP, firstP]
        have h' : l.drop p = 123 :: (keyP false true ks 0 ++ (v.print false (dp + 1) ++ (kidsP false dp true ks (0 + 1) vs ++ 125 :: post))) := by
          rw [h]
          simp only [decide_true]
          rw [hk]
          simp [lineP, lastP]
        have h1 := drop_one_at h'
        have h34 : ∃ r, keyP false true ks 0 = 34 :: r := ⟨_, rfl⟩
        obtain ⟨r, hr⟩ := h34
        have hsk : skip l (p + 1) = p + 1 := skip_at (c := 34) (t := r ++ (v.print false (dp + 1) ++ (kidsP false dp true ks (0 + 1) vs ++ 125 :: post))) (by rw [h1, hr]; rfl) (by decide)
        have hg1 : l[p + 1]? = some 34 := get_at (t := r ++ (v.print false (dp + 1) ++ (kidsP false dp true ks (0 + 1) vs ++ 125 :: post))) (by rw [h1, hr]; rfl)
        have hm := members_print l (value l d) dp post ks O.apart O.words vs v 0 (l.length + 1) (p + 1) [] (by simp at hkl; omega) (by simp at hlen; omega) hrd h1
        rw [List.take_zero] at hm
        rw [value, get_at h']
        simp only [hw]
        unfold object
        rw [hsk, hg1, if_neg (by decide), hm]
        simp only [decide_true, List.nil_append]
        rw [hk]
        unfold objectOf
        simp only [lineP, lastP, List.length_cons, List.length_append, List.length_nil]
        congr 2
        simp
        omega
  · have k5 : k = 5 := by omega
    subst k5
    have hw : way 91 = 4 := by decide
    have i6 := O.noKeys (by omega)
    subst i6
    by_cases h0 : vs.length = 0
    · rw [if_pos h0] at h ⊢
      have e1 := List.length_eq_zero_iff.1 h0
      subst e1
      have h' : l.drop p = 91 :: 93 :: post := h
      rw [value, get_at h']
      simp only [hw]
      unfold list
      rw [skip_at (drop_one_at h') (by decide), if_pos (get_at (drop_one_at h'))]
      rfl
    · rw [if_neg h0] at h ⊢
      cases vs with
      | nil => exact absurd rfl h0
      | cons v vs =>
        have hk : kidsP false dp false [] 0 (v :: vs) = 91 :: (v.print false (dp + 1) ++ kidsP false dp false [] (0 + 1) vs) := by
          rw [kidsP_cons, if_pos rfl]
          simp [lineP, firstP, keyP]
        have h' : l.drop p = 91 :: (v.print false (dp + 1) ++ (kidsP false dp false [] (0 + 1) vs ++ 93 :: post)) := by
          rw [h]
          have : decide ((5 : Int) = 6) = false := by decide
          rw [this, hk]
          simp [lineP, lastP]
        have h1 := drop_one_at h'
        obtain ⟨c, r, hc, hb, hw0⟩ := print_head v (hrd v (List.mem_cons_self ..)).1 (dp + 1)
        have hsk : skip l (p + 1) = p + 1 := skip_at (c := c) (t := r ++ (kidsP false dp false [] (0 + 1) vs ++ 93 :: post)) (by rw [h1, hc]; rfl) hb
        have hm := items_print l (value l d) dp post vs v 0 (l.length + 1) (p + 1) [] (by simp at hlen; omega) hrd h1
        have hn93 : ¬ l[p + 1]? = some 93 := by
          rw [get_at (c := c) (t := r ++ (kidsP false dp false [] (0 + 1) vs ++ 93 :: post)) (by rw [h1, hc]; rfl)]
          intro e
          injection e with e
          subst e
          exact hw0 (by decide)
        rw [value, get_at h']
        simp only [hw]
        unfold list
        rw [hsk, if_neg hn93, hm]
        have : decide ((5 : Int) = 6) = false := by decide
        rw [this, hk]
        unfold listOf
        simp only [List.nil_append, lineP, lastP, List.length_cons, List.length_append, List.length_nil]
        congr 2
        simp
        omega
theorem parse_print (t : JV) (hg : GoodQ t) (hd : t.deepN ≤ 64) (hl : (t.print false 0).length ≤ 1048576) : parse (t.print false 0) = (t, -1, 0) := by
  obtain ⟨c, r, hc, hb, _⟩ := print_head t hg 0
  have h0 : (t.print false 0).drop 0 = t.print false 0 ++ [] := by simp
  have hs : skip (t.print false 0) 0 = 0 := skip_at (by rw [List.drop_zero, hc]) hb
  have hv := value_print t hg (t.print false 0) 64 0 hd 0 [] h0 Num.stops_nil
  have he : skip (t.print false 0) (0 + (t.print false 0).length) = 0 + (t.print false 0).length := skip_out (by simp)
  unfold parse
  rw [if_neg (by omega), hs, hv]
  simp only
  rw [he, if_neg (by omega)]
end Go.Proofs.YtckflnibkglheaaGreatDoor.Jdec
/- What is read of a text: how many values it has, and how long its print is; sorted, it stays as it is. -/
namespace Go.Proofs.YtckflnibkglheaaGreatDoor.Num
set_option linter.unusedVariables false
end Go.Proofs.YtckflnibkglheaaGreatDoor.Num
namespace Go.Proofs.YtckflnibkglheaaGreatDoor.Jdec
set_option linter.unusedVariables false
set_option linter.unusedSimpArgs false

/-- Keys' weight. -/
def keysW : List ByteArray → Nat
  | [] => 0
  | k :: t => 6 * k.size + 4 + keysW t
mutual
/-- A print is no longer. -/
def JV.weigh : JV → Nat
  | .mk _ _ _ d _ s ks vs => 103 + d.size + 6 * s.size + keysW ks + weighs vs
def weighs : List JV → Nat
  | [] => 0
  | v :: t => v.weigh + 1 + weighs t
end
/-! Sorted, it stays as it is. -/
end Go.Proofs.YtckflnibkglheaaGreatDoor.Jdec
