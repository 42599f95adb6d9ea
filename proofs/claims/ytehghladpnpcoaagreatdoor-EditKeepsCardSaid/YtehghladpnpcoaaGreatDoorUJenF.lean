/- quote.shortFor, quote.Print: a text's print. -/
import Derived.Test.YtehghladpnpcoaaGreatDoorUUtfW
set_option linter.unusedVariables false
set_option linter.unusedSimpArgs false
set_option maxRecDepth 100000
set_option maxHeartbeats 8000000
namespace Go.Proofs.YtehghladpnpcoaaGreatDoor.Quote
open Go.RowKit Utf Strs
def short (c : Nat) : Nat := if c = 34 ∨ c = 92 then c else if c = 8 then 98 else if c = 12 then 102 else if c = 10 then 110 else if c = 13 then 114 else if c = 9 then 116 else 0
def hexd (n : Nat) : UInt8 := [48, 49, 50, 51, 52, 53, 54, 55, 56, 57, 97, 98, 99, 100, 101, 102].getD n 0
def qp (c : UInt8) : List UInt8 := if short c.toNat ≠ 0 then [92, UInt8.ofNat (short c.toNat)] else if c.toNat < 32 then [92, 117, 48, 48, hexd (c.toNat / 16), hexd (c.toNat % 16)] else [c]
def qprint (l : List UInt8) : List UInt8 := 34 :: l.flatMap qp ++ [34]
theorem qp_len (c : UInt8) : (qp c).length <= 6 := by unfold qp; (repeat' split) <;> simp
theorem qps_len (l : List UInt8) : (l.flatMap qp).length <= 6 * l.length := by
 induction l with
 | nil => simp
 | cons c t ih => have := qp_len c; simp only [List.flatMap_cons, List.length_append, List.length_cons]; omega
theorem shortFor_any (c : Nat) (hc : c < 256) (w : World) : Calls Tryz.prog 106 #[.int .u8 c] w fun e w' => e = .returned (.int .u8 (short c : Nat)) /\ w = w' := by
 by_cases h34 : c = 34
 ·subst h34;go_enter Tryz.func106, Tryz.ntmps106
  go_wp2_with fail
  go_ret
  exact ⟨rfl, rfl⟩
 by_cases h92 : c = 92
 ·subst h92;go_enter Tryz.func106, Tryz.ntmps106
  go_wp2_with fail
  go_ret
  exact ⟨rfl, rfl⟩
 by_cases h8 : c = 8
 ·subst h8;go_enter Tryz.func106, Tryz.ntmps106
  go_wp2_with fail
  go_ret
  exact ⟨rfl, rfl⟩
 by_cases h12 : c = 12
 ·subst h12;go_enter Tryz.func106, Tryz.ntmps106
  go_wp2_with fail
  go_ret
  exact ⟨rfl, rfl⟩
 by_cases h10 : c = 10
 ·subst h10;go_enter Tryz.func106, Tryz.ntmps106
  go_wp2_with fail
  go_ret
  exact ⟨rfl, rfl⟩
 by_cases h13 : c = 13
 ·subst h13;go_enter Tryz.func106, Tryz.ntmps106
  go_wp2_with fail
  go_ret
  exact ⟨rfl, rfl⟩
 by_cases h9 : c = 9
 ·subst h9;go_enter Tryz.func106, Tryz.ntmps106
  go_wp2_with fail
  go_ret
  exact ⟨rfl, rfl⟩
 have hs : short c = 0 := by unfold short; rw [if_neg (by omega), if_neg h8, if_neg h12, if_neg h10, if_neg h13, if_neg h9]
 have HS := hdQ hs;have e34 : ((c : Int) == 34) = false := by rw [bnQ]; omega
 have e92 : ((c : Int) == 92) = false := by rw [bnQ]; omega
 have e8 : ((c : Int) == 8) = false := by rw [bnQ]; omega
 have e12 : ((c : Int) == 12) = false := by rw [bnQ]; omega
 have e10 : ((c : Int) == 10) = false := by rw [bnQ]; omega
 have e13 : ((c : Int) == 13) = false := by rw [bnQ]; omega
 have e9 : ((c : Int) == 9) = false := by rw [bnQ]; omega
 clear hs;go_enter Tryz.func106, Tryz.ntmps106
 go_wp2_with fail
 go_ret
 exact ⟨by rw [HS.out]; rfl, rfl⟩
theorem valid_any (s : ByteArray) (w : World) (hs : s.size <= 4611686018427387904) (T : Sizes w) : Calls Tryz.prog 37 #[.string s] w fun e w' => e = .returned (.bool (decide (badZ s.data.toList < 0))) /\ w = w' := by
 have hc := bad_any s w hs T;obtain ⟨z, hz⟩ : ∃ z, badZ s.data.toList = z := ⟨_, rfl⟩;rw [hz] at hc ⊢;clear hz;go_enter Tryz.func37, Tryz.ntmps37
 go_wp2_with fail
 refine hc.mono ?_;rintro e w' ⟨rfl, rfl⟩;go_wp2_with fail
 go_ret
 exact ⟨rfl, rfl⟩
def BB (n : Nat) (W : World) (bs : List UInt8) : Prop := ∃ cs, Bl W n n 0 111 cs bs
theorem bb_new (w : World) : ∃ w1, w.alloc (.cells #[.pointer none, .slice none 0 0] 111) = w1 /\ Hid (BB w.heap.size w1 []) /\ Hid (Below w.heap.size w w1) :=
 ⟨_, rfl, ⟨#[.pointer none, .slice none 0 0], Nat.le_refl _, heap_alloc_new _ _, by decide, .inl rfl, ⟨_, rfl, World.ownsRow_nil _ _ _ _⟩, by decide, by kernel_rfl⟩, (Below.refl _ _).alloc (Nat.le_refl _) _⟩
theorem bb_byte (n : Nat) (W : World) (bs : List UInt8) (c : Nat) (hc : c < 256) (h : BB n W bs) (hl : bs.length + 1 <= 140737488355328) (hn : n <= W.heap.size) : Calls Tryz.prog 105 #[.pointer (some ⟨n, 0, none⟩), .int .u8 c] W fun e W' => e = .returned .nilIface /\ BB n W' (bs ++ [UInt8.ofNat c]) /\ Below n W W' := by
 obtain ⟨cs, h⟩ := h;have := writeByte_any n n 0 111 cs bs (UInt8.ofNat c) W h hl hn;rw [UInt8.toNat_ofNat', Nat.mod_eq_of_lt hc] at this;exact this.mono fun e W' ⟨h1, cs', h2, _, _, h3⟩ => ⟨h1, ⟨cs', h2⟩, h3.below⟩
theorem bb_text (n : Nat) (W : World) (bs : List UInt8) (s : ByteArray) (h : BB n W bs) (hl : bs.length + s.size <= 140737488355328) (hn : n <= W.heap.size) : Calls Tryz.prog 103 #[.pointer (some ⟨n, 0, none⟩), .string s] W fun e W' => e = .returned (.tuple #[.int .i64 s.size, .nilIface]) /\ BB n W' (bs ++ s.data.toList) /\ Below n W W' := by
 obtain ⟨cs, h⟩ := h;exact (writeString_any n n 0 111 cs bs s W h hl hn).mono fun e W' ⟨h1, cs', h2, _, _, h3⟩ => ⟨h1, ⟨cs', h2⟩, h3.below⟩
theorem bb_string (n : Nat) (W : World) (bs : List UInt8) (h : BB n W bs) (hn : n <= W.heap.size) : Calls Tryz.prog 76 #[.pointer (some ⟨n, 0, none⟩)] W fun e W' => e = .returned (.string ⟨bs.toArray⟩) /\ Below n W W' := by
 obtain ⟨cs, h⟩ := h;exact (string_any n n 0 111 cs bs W h hn).mono fun e W' ⟨h1, h2, _⟩ => ⟨h1, h2.below⟩
theorem hexb_ : ∀ n : Fin 16, UInt8.ofNat ((⟨#[48, 49, 50, 51, 52, 53, 54, 55, 56, 57, 97, 98, 99, 100, 101, 102]⟩ : ByteArray)[n.val]'(by exact n.isLt)).toNat = hexd n.val := by decide
theorem hexb (n : Nat) (h : n < 16) : UInt8.ofNat ((⟨#[48, 49, 50, 51, 52, 53, 54, 55, 56, 57, 97, 98, 99, 100, 101, 102]⟩ : ByteArray)[n]'(by exact h)).toNat = hexd n := hexb_ ⟨n, h⟩
theorem take_flat {l : List UInt8} {i : Nat} (h : i < l.length) : (l.take (i + 1)).flatMap qp = (l.take i).flatMap qp ++ qp l[i] := by
 rw [show l.take (i + 1) = l.take i ++ [l[i]] from by rw [List.take_add_one, List.getElem?_eq_getElem h]; rfl, List.flatMap_append];simp
theorem qprint_any (s : ByteArray) (w : World) (hs : s.size <= 1000000) (T : Sizes w) (hv : badZ s.data.toList < 0) : Calls Tryz.prog 75 #[.string s] w fun e w' => e = .returned (.tuple #[.string ⟨(qprint s.data.toList).toArray⟩, .int .i64 0]) /\ Below w.heap.size w w' := by
 have hva := valid_any s w (by omega) T;rw [decide_eq_true hv] at hva;have HVA := hdQ hva;have hl : s.data.toList.length = s.size := by simp
 have HL := hdQ hl;obtain ⟨w1, hw1, K1, B1⟩ := bb_new w;have HW1 := hdQ hw1;clear hva hv T hl hw1;go_enter Tryz.func75, Tryz.ntmps75
 go_wp2_with fail
 refine (Calls.mono HVA.out ?_);rintro e w' ⟨rfl, rfl⟩;have hw1 := HW1.out;go_wp2_with fail
 clear hw1;refine (bb_byte w.heap.size w1 [] 34 (by decide) K1.out (by simp) B1.out.size).mono ?_;rintro e w2 ⟨rfl, k2, b2⟩;have K2 := hdQ k2;have B2 := hdQ (B1.out.trans b2);clear k2 b2 K1 B1 HW1 HVA;go_wp2_with fail
 go_loopw [14] (fun p wr => ∃ i : Nat, p = .int .i64 i /\ i <= s.size /\ Hid (BB w.heap.size wr ([34] ++ (s.data.toList.take i).flatMap qp)) /\ Hid (Below w.heap.size w wr)) (fun p _ => s.size - (intOf p).toNat)
 case atStart => exact ⟨0, rfl, Nat.zero_le _, K2.out, B2.out⟩
 case round =>
  obtain ⟨i, rfl, hi, hK, hB⟩ := hrel;by_cases hlt : i < s.size
  ·have hlen : i < s.data.toList.length := by rw [HL.out]; exact hlt
   have htf := take_flat hlen;have hqi : (s.data.toList[i]'hlen) = s[i] := rfl;rw [hqi] at htf;have hpl := qps_len (s.data.toList.take i);rw [List.length_take, HL.out] at hpl;have hpre : ([34] ++ (s.data.toList.take i).flatMap qp).length <= 6000001 := by rw [List.length_append]; simp only [List.length_singleton]; omega
   have hnx : [34] ++ (s.data.toList.take (i + 1)).flatMap qp = ([34] ++ (s.data.toList.take i).flatMap qp) ++ qp s[i] := by rw [htf, List.append_assoc]
   have HNX := hdQ hnx;generalize [34] ++ (s.data.toList.take i).flatMap qp = pre at *;have hc256 := UInt8.toNat_lt s[i];have hqc : qp s[i] = if short s[i].toNat ≠ 0 then [92, UInt8.ofNat (short s[i].toNat)] else if s[i].toNat < 32 then [92, 117, 48, 48, hexd (s[i].toNat / 16), hexd (s[i].toNat % 16)] else [s[i]] := rfl
   have HQC := hdQ hqc;have hse : s[i] = UInt8.ofNat s[i].toNat := (UInt8.ofNat_toNat).symm;have HSE := hdQ hse;clear htf hqi hpl hnx hqc hse;go_wp2_with fail
   refine (shortFor_any s[i].toNat hc256 wr).mono ?_;rintro e w' ⟨rfl, rfl⟩;have hshort : short s[i].toNat < 256 := by unfold short; (repeat' split) <;> omega
   by_cases h0 : short s[i].toNat = 0
   ·rw [h0];by_cases h32 : s[i].toNat < 32
    ·have f1 : decide ((s[i].toNat : Int) < 32) = true := by rw [dtQ]; omega
     have f2 : decide (s[i].toNat < 32) = true := by rw [dtQ]; exact h32
     have HF : Hid ([34] ++ (s.data.toList.take (i + 1)).flatMap qp = ((pre ++ [92, 117, 48, 48]) ++ [hexd (s[i].toNat / 16)]) ++ [hexd (s[i].toNat % 16)]) := by
      rw [Hid, HNX.out, HQC.out, if_neg (by rw [h0]; simp), if_pos h32]; simp
     clear h0 hshort HNX HQC HSE;generalize s[i].toNat = c at *;go_wp2_with fail
     refine (bb_text w.heap.size wr pre ⟨#[92, 117, 48, 48]⟩ hK.out (by have : (⟨#[92, 117, 48, 48]⟩ : ByteArray).size = 4 := rfl; omega) hB.out.size).mono ?_;rintro e w5 ⟨rfl, k5, b5⟩;have K5 := hdQ k5;have B5 := hdQ (hB.out.trans b5);clear k5 b5;go_wp2_with fail
     refine (bb_byte w.heap.size w5 (pre ++ (⟨#[92, 117, 48, 48]⟩ : ByteArray).data.toList) _ (UInt8.toNat_lt _) K5.out (by rw [List.length_append]; have : (⟨#[92, 117, 48, 48]⟩ : ByteArray).data.toList.length = 4 := rfl; omega) B5.out.size).mono ?_;rintro e w6 ⟨rfl, k6, b6⟩;rw [hexb (c / 16) (by omega)] at k6;have K6 : Hid (BB w.heap.size w6 ((pre ++ [92, 117, 48, 48]) ++ [hexd (c / 16)])) := k6;have B6 := hdQ (B5.out.trans b6);clear k6 b6 K5 B5;go_wp2_with fail
     refine (bb_byte w.heap.size w6 ((pre ++ [92, 117, 48, 48]) ++ [hexd (c / 16)]) _ (UInt8.toNat_lt _) K6.out (by rw [List.length_append, List.length_append]; simp only [List.length_cons, List.length_nil]; omega) B6.out.size).mono ?_;rintro e w7 ⟨rfl, k7, b7⟩;rw [hexb (c % 16) (by omega), <-HF.out] at k7;have K7 := hdQ k7;have B7 := hdQ (B6.out.trans b7);clear k7 b7 K6 B6;go_wp2_with fail
     go_roundw
     case rel => exact ⟨i + 1, by go_num, by omega, K7.out, B7.out⟩
     case measure => simp [intOf]; omega
    ·have f1 : decide ((s[i].toNat : Int) < 32) = false := by rw [dfQ]; omega
     have f2 : decide (s[i].toNat < 32) = false := by rw [dfQ]; exact h32
     have HF : Hid ([34] ++ (s.data.toList.take (i + 1)).flatMap qp = pre ++ [UInt8.ofNat s[i].toNat]) := by
      rw [Hid, HNX.out, HQC.out, if_neg (by rw [h0]; simp), if_neg h32, <-HSE.out]
     clear h0 h32 hshort;go_wp2_with fail
     refine (bb_byte w.heap.size wr pre s[i].toNat hc256 hK.out (by omega) hB.out.size).mono ?_;rintro e w5 ⟨rfl, k5, b5⟩;have K5 : Hid (BB w.heap.size w5 ([34] ++ (s.data.toList.take (i + 1)).flatMap qp)) := by rw [Hid, HF.out]; exact k5
     have B5 := hdQ (hB.out.trans b5);clear k5 b5;go_wp2_with fail
     go_roundw
     case rel => exact ⟨i + 1, by go_num, by omega, K5.out, B5.out⟩
     case measure => simp [intOf]; omega
   ·have f1 : ((short s[i].toNat : Int) != 0) = true := by rw [bne_iff_ne]; omega
    have HF : Hid ([34] ++ (s.data.toList.take (i + 1)).flatMap qp = (pre ++ [UInt8.ofNat 92]) ++ [UInt8.ofNat (short s[i].toNat)]) := by
     rw [Hid, HNX.out, HQC.out, if_pos h0, List.append_assoc]; rfl
    generalize short s[i].toNat = sc at *;clear h0;go_wp2_with fail
    refine (bb_byte w.heap.size wr pre 92 (by decide) hK.out (by omega) hB.out.size).mono ?_;rintro e w5 ⟨rfl, k5, b5⟩;have K5 := hdQ k5;have B5 := hdQ (hB.out.trans b5);clear k5 b5;go_wp2_with fail
    refine (bb_byte w.heap.size w5 (pre ++ [UInt8.ofNat 92]) sc hshort K5.out (by rw [List.length_append]; simp only [List.length_singleton]; omega) B5.out.size).mono ?_;rintro e w6 ⟨rfl, k6, b6⟩;have K6 : Hid (BB w.heap.size w6 ([34] ++ (s.data.toList.take (i + 1)).flatMap qp)) := by rw [Hid, HF.out]; exact k6
    have B6 := hdQ (B5.out.trans b6);clear k6 b6;go_wp2_with fail
    go_roundw
    case rel => exact ⟨i + 1, by go_num, by omega, K6.out, B6.out⟩
    case measure => simp [intOf]; omega
  ·obtain rfl : i = s.size := by omega
   rw [show s.data.toList.take s.size = s.data.toList from by rw [List.take_of_length_le (by simp)]] at hK;have hpl := qps_len s.data.toList;rw [HL.out] at hpl;have hq : qprint s.data.toList = ([34] ++ s.data.toList.flatMap qp) ++ [UInt8.ofNat 34] := rfl;have HQ := hdQ hq;have hpre : ([34] ++ s.data.toList.flatMap qp).length <= 6000001 := by rw [List.length_append]; simp only [List.length_singleton]; omega
   generalize [34] ++ s.data.toList.flatMap qp = pre at *;clear hpl hq;go_wp2_with fail
   refine (bb_byte w.heap.size wr pre 34 (by decide) hK.out (by omega) hB.out.size).mono ?_;rintro e w5 ⟨rfl, k5, b5⟩;have K5 := hdQ k5;have B5 := hdQ (hB.out.trans b5);clear k5 b5;go_wp2_with fail
   refine (bb_string w.heap.size w5 (pre ++ [UInt8.ofNat 34]) K5.out B5.out.size).mono ?_;rintro e w6 ⟨rfl, b6⟩;have B6 := hdQ (B5.out.trans b6);clear b6;go_wp2_with fail
   go_ret2
   exact ⟨by rw [HQ.out]; rfl, B6.out⟩
end Go.Proofs.YtehghladpnpcoaaGreatDoor.Quote
