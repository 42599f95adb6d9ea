/- Library contracts in words of this program. -/
import Derived.Test.YtbfkgddhpabioaaDoorShelf
import Derived.Test.YtbfkgddhpabioaaDoorFrame
import Derived.Shelf.Strings.SlTrimAscii
namespace Go.Proofs.YtbfkgddhpabioaaDoor.Strs
open Go.RowKit
set_option linter.unusedVariables false
set_option linter.unusedSimpArgs false

theorem beq_bytes (a b : ByteArray) : (a == b) = (a.data.toList == b.data.toList) := by
  show ByteArray.beq a b = _
  obtain ⟨⟨a⟩⟩ := a
  obtain ⟨⟨b⟩⟩ := b
  show ByteArray.beq _ _ = (a == b)
  by_cases h : a = b
  · subst h
    have h1 : (a == a) = true := by simp
    rw [h1]
    simp [ByteArray.beq]
  · have h1 : (a == b) = false := by simp [h]
    rw [h1]
    simp [ByteArray.beq, h]
theorem beq_empty (a : ByteArray) : (a == ⟨#[]⟩) = decide (a.size = 0) := by
  rw [beq_bytes]
  by_cases h : a.data.toList = []
  · rw [h]; have : a.size = 0 := by have := congrArg List.length h; simpa using this
    simp [this]
  · have h2 : a.size ≠ 0 := fun e => h (List.eq_nil_of_length_eq_zero (by simpa using e))
    rw [decide_eq_false h2]
    exact beq_eq_false_iff_ne.2 h
theorem isEmpty_size (a : ByteArray) : a.toList.isEmpty = decide (a.size = 0) := by
  rw [Lib.toList_data, Lib.size_eq]
  cases a.data.toList <;> simp
/-- An index, or -1. -/
def zidx : Option Nat → Int
  | none => -1
  | some i => i
theorem zidx_succ (o : Option Nat) : (if zidx o == -1 then (-1 : Int) else zidx o + 1) = zidx (o.map (· + 1)) := by
  cases o with
  | none => rfl
  | some i =>
    have : (((i : Nat) : Int) == -1) = false := by rw [beq_eq_false_iff_ne]; omega
    show (if ((i : Nat) : Int) == -1 then (-1 : Int) else (i : Int) + 1) = ((i + 1 : Nat) : Int)
    rw [this]; simp
theorem indexByte_find (c : UInt8) : ∀ l : List UInt8, Lib.indexByte l c = zidx (l.findIdx? (· == c))
  | [] => rfl
  | b :: l => by
    rw [Lib.indexByte, indexByte_find c l, List.findIdx?_cons]
    cases h : (b == c)
    · simp only [Bool.false_eq_true, if_false]; exact zidx_succ _
    · rfl
theorem indexAny_find (cs : List UInt8) : ∀ l : List UInt8, Lib.indexAny l cs = zidx (l.findIdx? (cs.contains ·))
  | [] => rfl
  | b :: l => by
    rw [Lib.indexAny, indexAny_find cs l, List.findIdx?_cons]
    cases h : (cs.contains b)
    · simp only [Bool.false_eq_true, if_false]; exact zidx_succ _
    · rfl
theorem indexByte_any (s : ByteArray) (c : Nat) (w : World) (hc : c < 256) :
    Calls Tryd.prog 45 #[.string s, .int .u8 c] w fun e w' => e = .returned (.int .i64 (zidx (s.data.toList.findIdx? (· == UInt8.ofNat c)))) ∧ w = w' := by
  refine (Tryd.strings_IndexByte s c w).mono ?_
  rintro e w' ⟨rfl, rfl⟩
  refine ⟨?_, rfl⟩
  rw [indexByte_find]
  rfl
theorem str_data (l : List UInt8) : (⟨l.toArray⟩ : ByteArray).data.toList = l := by simp
theorem trimLeft_any (s : ByteArray) (c : UInt8) (hc : c.toNat < 128) (w : World) :
    Calls Tryd.prog 85 #[.string s, .string ⟨#[c]⟩] w fun e w' => ∃ d : ByteArray, e = .returned (.string d) ∧ d.data.toList = s.data.toList.dropWhile (· == c) ∧ w = w' := by
  refine (Tryd.strings_TrimLeft_one s c hc w).mono ?_
  rintro e w' ⟨rfl, rfl⟩
  exact ⟨_, rfl, str_data _, rfl⟩
theorem trimRight_any (s : ByteArray) (c : UInt8) (hc : c.toNat < 128) (w : World) (hs : s.size ≤ 9223372036854775807) :
    Calls Tryd.prog 86 #[.string s, .string ⟨#[c]⟩] w fun e w' => ∃ d : ByteArray, e = .returned (.string d) ∧ d.data.toList = (s.data.toList.reverse.dropWhile (· == c)).reverse ∧ w = w' := by
  refine (Tryd.strings_TrimRight_one s c hc w hs).mono ?_
  rintro e w' ⟨rfl, rfl⟩
  exact ⟨_, rfl, str_data _, rfl⟩
theorem trimRightS_any (s cs : ByteArray) (w : World) (hs : s.size ≤ 9223372036854775807) (hcs : cs.size < 4294967281) (ha : cs.data.toList.all (fun b => decide (b.toNat < 128)) = true) :
    Calls Tryd.prog 86 #[.string s, .string cs] w fun e w' => ∃ d : ByteArray, e = .returned (.string d) ∧ d.data.toList = (s.data.toList.reverse.dropWhile (cs.data.toList.contains ·)).reverse ∧ Below w.heap.size w w' := by
  refine (Any.strings_TrimRight_laid Tryd.lays162 (by kernel_rfl) s cs w hs hcs (ascii_of_all ha)).mono ?_
  rintro e w' ⟨rfl, hb⟩
  exact ⟨_, rfl, str_data _, hb⟩
theorem indexAny_any (s cs : ByteArray) (w : World) (hs : s.size < 4294967281) (hcs : cs.size < 4294967281) (hsa : ∀ c ∈ s.data.toList, c.toNat < 128) (ha : cs.data.toList.all (fun b => decide (b.toNat < 128)) = true) :
    Calls Tryd.prog 83 #[.string s, .string cs] w fun e w' => e = .returned (.int .i64 (zidx (s.data.toList.findIdx? (cs.data.toList.contains ·)))) ∧ Below w.heap.size w w' := by
  refine (Tryd.strings_IndexAny_laid s cs w hs hcs (fun j b hb => hsa b (List.mem_of_getElem? hb)) (ascii_of_all ha)).mono ?_
  rintro e w' ⟨rfl, hb⟩
  exact ⟨by rw [indexAny_find], hb⟩
theorem cut1_any (s : ByteArray) (c : UInt8) (w : World) :
    Calls Tryd.prog 82 #[.string s, .string ⟨#[c]⟩] w fun e w' => ∃ (d : ByteArray) (g : Bool), e = .returned (.tuple #[.string d, .bool g]) ∧
      g = (s.data.toList.head? == some c) ∧ d.data.toList = (if s.data.toList.head? == some c then s.data.toList.drop 1 else s.data.toList) ∧ w = w' := by
  refine (Tryd.strings_CutPrefix s ⟨#[c]⟩ w).mono ?_
  rintro e w' ⟨rfl, rfl⟩
  have h : Lib.hasPrefix s.data.toList (⟨#[c]⟩ : ByteArray).data.toList = (s.data.toList.head? == some c) := by
    show List.isPrefixOf [c] s.data.toList = _
    cases s.data.toList with
    | nil => rfl
    | cons b l =>
      show (c == b && true) = (some b == some c)
      rw [Bool.and_true]
      show _ = (b == c)
      exact BEq.comm
  refine ⟨_, _, rfl, h, ?_, rfl⟩
  rw [str_data, Lib.trimPrefix, h]
  rfl
theorem hasPrefix_any (s p : ByteArray) (w : World) :
    Calls Tryd.prog 72 #[.string s, .string p] w fun e w' => e = .returned (.bool (p.data.toList.isPrefixOf s.data.toList)) ∧ w = w' := by
  refine (Tryd.strings_HasPrefix s p w).mono ?_
  rintro e w' ⟨rfl, rfl⟩
  exact ⟨rfl, rfl⟩
theorem clone_any (s : ByteArray) (w : World) (hs : s.size ≤ 281474976710656) :
    Calls Tryd.prog 88 #[.string s] w fun e w' => e = .returned (.string s) ∧ Below w.heap.size w w' := by
  go_enter Tryd.func88, Tryd.ntmps88
  go_wp2_with fail
  refine (Tryd.stringslite_Clone s w hs).mono ?_
  rintro e w' ⟨rfl, hb⟩
  go_wp2_with fail
  go_ret
  exact ⟨rfl, hb⟩
end Go.Proofs.YtbfkgddhpabioaaDoor.Strs
