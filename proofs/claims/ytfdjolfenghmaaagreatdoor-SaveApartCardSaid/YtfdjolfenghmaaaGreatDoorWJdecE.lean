/- quote.Print. -/
import Derived.Test.YtfdjolfenghmaaaGreatDoorWAdF
import Derived.Test.YtfdjolfenghmaaaGreatDoorWJdecU
import Derived.Test.YtfdjolfenghmaaaGreatDoorWQuoteC
import Derived.Lib.AppendIntMem
import Derived.Deep.RegionHeld3
set_option linter.unusedVariables false
set_option linter.unusedSimpArgs false
set_option maxRecDepth 100000
set_option maxHeartbeats 8000000
namespace Go.Proofs.YtfdjolfenghmaaaGreatDoor.Quote
open Go.RowKit Utf Strs
def BB (n : Nat) (W : World) (bs : List UInt8) : Prop := ∃ cs, Bl W n n 0 72 cs bs
theorem bb_new (w : World) : ∃ w1, w.alloc (.cells #[.pointer none, .slice none 0 0] 72) = w1 /\ Hid (BB w.heap.size w1 []) /\ Hid (Below w.heap.size w w1) :=
  ⟨_, rfl, ⟨#[.pointer none, .slice none 0 0], Nat.le_refl _, heap_alloc_new _ _, by decide, .inl rfl, ⟨_, rfl, World.ownsRow_nil _ _ _ _⟩, by decide, by kernel_rfl⟩, (Below.refl _ _).alloc (Nat.le_refl _) _⟩
theorem bb_byte (n : Nat) (W : World) (bs : List UInt8) (c : Nat) (hc : c < 256) (h : BB n W bs) (hl : bs.length + 1 <= 140737488355328) (hn : n <= W.heap.size) : Calls Tryz.prog 71 #[.pointer (some ⟨n, 0, none⟩), .int .u8 c] W fun e W' => e = .returned .nilIface /\ BB n W' (bs ++ [UInt8.ofNat c]) /\ Below n W W' := by
  obtain ⟨cs, h⟩ := h;have := writeByte_any n n 0 72 cs bs (UInt8.ofNat c) W h hl hn;rw [UInt8.toNat_ofNat', Nat.mod_eq_of_lt hc] at this;exact this.mono fun e W' ⟨h1, cs', h2, _, _, h3⟩ => ⟨h1, ⟨cs', h2⟩, h3.below⟩
theorem bb_text (n : Nat) (W : World) (bs : List UInt8) (s : ByteArray) (h : BB n W bs) (hl : bs.length + s.size <= 140737488355328) (hn : n <= W.heap.size) : Calls Tryz.prog 41 #[.pointer (some ⟨n, 0, none⟩), .string s] W fun e W' => e = .returned (.tuple #[.int .i64 s.size, .nilIface]) /\ BB n W' (bs ++ s.data.toList) /\ Below n W W' := by
  obtain ⟨cs, h⟩ := h;exact (writeString_any n n 0 72 cs bs s W h hl hn).mono fun e W' ⟨h1, cs', h2, _, _, h3⟩ => ⟨h1, ⟨cs', h2⟩, h3.below⟩
theorem bb_string (n : Nat) (W : World) (bs : List UInt8) (h : BB n W bs) (hn : n <= W.heap.size) : Calls Tryz.prog 42 #[.pointer (some ⟨n, 0, none⟩)] W fun e W' => e = .returned (.string ⟨bs.toArray⟩) /\ Below n W W' := by
  obtain ⟨cs, h⟩ := h;exact (string_any n n 0 72 cs bs W h hn).mono fun e W' ⟨h1, h2, _⟩ => ⟨h1, h2.below⟩
theorem hexb_ : ∀ n : Fin 16, UInt8.ofNat ((⟨#[48, 49, 50, 51, 52, 53, 54, 55, 56, 57, 97, 98, 99, 100, 101, 102]⟩ : ByteArray)[n.val]'(by exact n.isLt)).toNat = hexd n.val := by decide
theorem hexb (n : Nat) (h : n < 16) : UInt8.ofNat ((⟨#[48, 49, 50, 51, 52, 53, 54, 55, 56, 57, 97, 98, 99, 100, 101, 102]⟩ : ByteArray)[n]'(by exact h)).toNat = hexd n := hexb_ ⟨n, h⟩
theorem take_flat {l : List UInt8} {i : Nat} (h : i < l.length) : (l.take (i + 1)).flatMap qp = (l.take i).flatMap qp ++ qp l[i] := by
  rw [show l.take (i + 1) = l.take i ++ [l[i]] from by rw [List.take_add_one, List.getElem?_eq_getElem h]; rfl, List.flatMap_append];simp
theorem qprint_any (s : ByteArray) (w : World) (hs : s.size <= 1000000) (T : Sizes w) (hv : badZ s.data.toList < 0) : Calls Tryz.prog 56 #[.string s] w fun e w' => e = .returned (.tuple #[.string ⟨(qprint s.data.toList).toArray⟩, .int .i64 0]) /\ Below w.heap.size w w' := by
  have hva := valid_any s w (by omega) T;rw [decide_eq_true hv] at hva;have HVA := hZz hva;have hl : s.data.toList.length = s.size := by simp
  have HL := hZz hl;obtain ⟨w1, hw1, K1, B1⟩ := bb_new w;have HW1 := hZz hw1;clear hva hv T hl hw1;go_enter Tryz.func56, Tryz.ntmps56
  go_wp2_with fail
  refine (Calls.mono HVA.out ?_);rintro e w' ⟨rfl, rfl⟩;have hw1 := HW1.out;go_wp2_with fail
  clear hw1;refine (bb_byte w.heap.size w1 [] 34 (by decide) K1.out (by simp) B1.out.size).mono ?_;rintro e w2 ⟨rfl, k2, b2⟩;have K2 := hZz k2;have B2 := hZz (B1.out.trans b2);clear k2 b2 K1 B1 HW1 HVA;go_wp2_with fail
  go_loopw [14] (fun p wr => ∃ i : Nat, p = .int .i64 i /\ i <= s.size /\ Hid (BB w.heap.size wr ([34] ++ (s.data.toList.take i).flatMap qp)) /\ Hid (Below w.heap.size w wr)) (fun p _ => s.size - (intOf p).toNat)
  case atStart => exact ⟨0, rfl, Nat.zero_le _, K2.out, B2.out⟩
  case round =>
    obtain ⟨i, rfl, hi, hK, hB⟩ := hrel;by_cases hlt : i < s.size
    · have hlen : i < s.data.toList.length := by rw [HL.out]; exact hlt
      have htf := take_flat hlen;have hqi : (s.data.toList[i]'hlen) = s[i] := rfl;rw [hqi] at htf;have hpl := qps_len (s.data.toList.take i);rw [List.length_take, HL.out] at hpl;have hpre : ([34] ++ (s.data.toList.take i).flatMap qp).length <= 6000001 := by rw [List.length_append]; simp only [List.length_singleton]; omega
      have hnx : [34] ++ (s.data.toList.take (i + 1)).flatMap qp = ([34] ++ (s.data.toList.take i).flatMap qp) ++ qp s[i] := by rw [htf, List.append_assoc]
      have HNX := hZz hnx;generalize [34] ++ (s.data.toList.take i).flatMap qp = pre at *;have hc256 := UInt8.toNat_lt s[i];have hqc : qp s[i] = if short s[i].toNat ≠ 0 then [92, UInt8.ofNat (short s[i].toNat)] else if s[i].toNat < 32 then [92, 117, 48, 48, hexd (s[i].toNat / 16), hexd (s[i].toNat % 16)] else [s[i]] := rfl
      have HQC := hZz hqc;have hse : s[i] = UInt8.ofNat s[i].toNat := (UInt8.ofNat_toNat).symm;have HSE := hZz hse;clear htf hqi hpl hnx hqc hse;go_wp2_with fail
      refine (shortFor_any s[i].toNat hc256 wr).mono ?_;rintro e w' ⟨rfl, rfl⟩;have hshort : short s[i].toNat < 256 := by unfold short; (repeat' split) <;> omega
      by_cases h0 : short s[i].toNat = 0
      · rw [h0];by_cases h32 : s[i].toNat < 32
        · have f1 : decide ((s[i].toNat : Int) < 32) = true := by rw [decide_eq_true_eq]; omega
          have f2 : decide (s[i].toNat < 32) = true := by rw [decide_eq_true_eq]; exact h32
          have HF : Hid ([34] ++ (s.data.toList.take (i + 1)).flatMap qp = ((pre ++ [92, 117, 48, 48]) ++ [hexd (s[i].toNat / 16)]) ++ [hexd (s[i].toNat % 16)]) := by
            rw [Hid, HNX.out, HQC.out, if_neg (by rw [h0]; simp), if_pos h32]; simp
          clear h0 hshort HNX HQC HSE;generalize s[i].toNat = c at *;go_wp2_with fail
          refine (bb_text w.heap.size wr pre ⟨#[92, 117, 48, 48]⟩ hK.out (by have : (⟨#[92, 117, 48, 48]⟩ : ByteArray).size = 4 := rfl; omega) hB.out.size).mono ?_;rintro e w5 ⟨rfl, k5, b5⟩;have K5 := hZz k5;have B5 := hZz (hB.out.trans b5);clear k5 b5;go_wp2_with fail
          refine (bb_byte w.heap.size w5 (pre ++ (⟨#[92, 117, 48, 48]⟩ : ByteArray).data.toList) _ (UInt8.toNat_lt _) K5.out (by rw [List.length_append]; have : (⟨#[92, 117, 48, 48]⟩ : ByteArray).data.toList.length = 4 := rfl; omega) B5.out.size).mono ?_;rintro e w6 ⟨rfl, k6, b6⟩;rw [hexb (c / 16) (by omega)] at k6;have K6 : Hid (BB w.heap.size w6 ((pre ++ [92, 117, 48, 48]) ++ [hexd (c / 16)])) := k6;have B6 := hZz (B5.out.trans b6);clear k6 b6 K5 B5;go_wp2_with fail
          refine (bb_byte w.heap.size w6 ((pre ++ [92, 117, 48, 48]) ++ [hexd (c / 16)]) _ (UInt8.toNat_lt _) K6.out (by rw [List.length_append, List.length_append]; simp only [List.length_cons, List.length_nil]; omega) B6.out.size).mono ?_;rintro e w7 ⟨rfl, k7, b7⟩;rw [hexb (c % 16) (by omega), <-HF.out] at k7;have K7 := hZz k7;have B7 := hZz (B6.out.trans b7);clear k7 b7 K6 B6;go_wp2_with fail
          go_roundw
          case rel => exact ⟨i + 1, by go_num, by omega, K7.out, B7.out⟩
          case measure => simp [intOf]; omega
        · have f1 : decide ((s[i].toNat : Int) < 32) = false := by rw [decide_eq_false_iff_not]; omega
          have f2 : decide (s[i].toNat < 32) = false := by rw [decide_eq_false_iff_not]; exact h32
          have HF : Hid ([34] ++ (s.data.toList.take (i + 1)).flatMap qp = pre ++ [UInt8.ofNat s[i].toNat]) := by
            rw [Hid, HNX.out, HQC.out, if_neg (by rw [h0]; simp), if_neg h32, <-HSE.out]
          clear h0 h32 hshort;go_wp2_with fail
          refine (bb_byte w.heap.size wr pre s[i].toNat hc256 hK.out (by omega) hB.out.size).mono ?_;rintro e w5 ⟨rfl, k5, b5⟩;have K5 : Hid (BB w.heap.size w5 ([34] ++ (s.data.toList.take (i + 1)).flatMap qp)) := by rw [Hid, HF.out]; exact k5
          have B5 := hZz (hB.out.trans b5);clear k5 b5;go_wp2_with fail
          go_roundw
          case rel => exact ⟨i + 1, by go_num, by omega, K5.out, B5.out⟩
          case measure => simp [intOf]; omega
      · have f1 : ((short s[i].toNat : Int) != 0) = true := by rw [bne_iff_ne]; omega
        have HF : Hid ([34] ++ (s.data.toList.take (i + 1)).flatMap qp = (pre ++ [UInt8.ofNat 92]) ++ [UInt8.ofNat (short s[i].toNat)]) := by
          rw [Hid, HNX.out, HQC.out, if_pos h0, List.append_assoc]; rfl
        generalize short s[i].toNat = sc at *;clear h0;go_wp2_with fail
        refine (bb_byte w.heap.size wr pre 92 (by decide) hK.out (by omega) hB.out.size).mono ?_;rintro e w5 ⟨rfl, k5, b5⟩;have K5 := hZz k5;have B5 := hZz (hB.out.trans b5);clear k5 b5;go_wp2_with fail
        refine (bb_byte w.heap.size w5 (pre ++ [UInt8.ofNat 92]) sc hshort K5.out (by rw [List.length_append]; simp only [List.length_singleton]; omega) B5.out.size).mono ?_;rintro e w6 ⟨rfl, k6, b6⟩;have K6 : Hid (BB w.heap.size w6 ([34] ++ (s.data.toList.take (i + 1)).flatMap qp)) := by rw [Hid, HF.out]; exact k6
        have B6 := hZz (B5.out.trans b6);clear k6 b6;go_wp2_with fail
        go_roundw
        case rel => exact ⟨i + 1, by go_num, by omega, K6.out, B6.out⟩
        case measure => simp [intOf]; omega
    · obtain rfl : i = s.size := by omega
      rw [show s.data.toList.take s.size = s.data.toList from by rw [List.take_of_length_le (by simp)]] at hK;have hpl := qps_len s.data.toList;rw [HL.out] at hpl;have hq : qprint s.data.toList = ([34] ++ s.data.toList.flatMap qp) ++ [UInt8.ofNat 34] := rfl;have HQ := hZz hq;have hpre : ([34] ++ s.data.toList.flatMap qp).length <= 6000001 := by rw [List.length_append]; simp only [List.length_singleton]; omega
      generalize [34] ++ s.data.toList.flatMap qp = pre at *;clear hpl hq;go_wp2_with fail
      refine (bb_byte w.heap.size wr pre 34 (by decide) hK.out (by omega) hB.out.size).mono ?_;rintro e w5 ⟨rfl, k5, b5⟩;have K5 := hZz k5;have B5 := hZz (hB.out.trans b5);clear k5 b5;go_wp2_with fail
      refine (bb_string w.heap.size w5 (pre ++ [UInt8.ofNat 34]) K5.out B5.out.size).mono ?_;rintro e w6 ⟨rfl, b6⟩;have B6 := hZz (B5.out.trans b6);clear b6;go_wp2_with fail
      go_ret2
      exact ⟨by rw [HQ.out]; rfl, B6.out⟩
end Go.Proofs.YtfdjolfenghmaaaGreatDoor.Quote
set_option maxHeartbeats 4000000
namespace Go.Proofs.YtfdjolfenghmaaaGreatDoor.Addr
open Go.RowKit Go.Shelf Utf Strs Lex Quote
open Jdec (IsTexts)
theorem bb_write (n : Nat) (W : World) (bs : List UInt8) (s : ByteArray) (h : BB n W bs) (hl : bs.length + s.size <= 140737488355328) (hn : n <= W.heap.size) : Calls Tryz.prog 41 #[.pointer (some ⟨n, 0, none⟩), .string s] W fun e W' => e = .returned (.tuple #[.int .i64 s.size, .nilIface]) /\ BB n W' (bs ++ s.data.toList) /\ Keeps n n W W' := by
  obtain ⟨cs, h⟩ := h;exact (writeString_any n n 0 72 cs bs s W h hl hn).mono fun e W' ⟨h1, cs', h2, _, _, h3⟩ => ⟨h1, ⟨cs', h2⟩, h3⟩
def textsL (ks : List ByteArray) : List UInt8 := ks.flatMap fun k => k.data.toList
theorem texts_take {ks : List ByteArray} {i : Nat} (h : i < ks.length) : textsL (ks.take (i + 1)) = textsL (ks.take i) ++ ks[i].data.toList := by
  unfold textsL;rw [List.take_add_one, List.getElem?_eq_getElem h, List.flatMap_append];simp
theorem texts_le {ks : List ByteArray} {i : Nat} (h : i < ks.length) : (textsL (ks.take i)).length + ks[i].size <= (textsL ks).length := by
  have h1 := texts_take h;have h2 : textsL ks = textsL (ks.take (i + 1)) ++ textsL (ks.drop (i + 1)) := by
    unfold textsL;rw [<-List.flatMap_append, List.take_append_drop]
  have h3 : ks[i].data.toList.length = ks[i].size := by simp
  rw [h2, h1];simp only [List.length_append]
  omega
theorem join_any (n : Nat) (bs : List UInt8) (ks : List ByteArray) (ka : Option Addr) (kc : Nat) (w : World) (hB : BB n w bs) (hn : n <= w.heap.size) (ht : ∀ W', Keeps n n w W' -> IsTexts W' (fun _ => True) ka ks) (hk : ks.length <= 3000) (hl : bs.length + (textsL ks).length <= 1000000) : Calls Tryz.prog 55 #[.pointer (some ⟨n, 0, none⟩), .slice ka ks.length kc] w fun e w' => e = .returned (.tuple #[]) /\ BB n w' (bs ++ textsL ks) /\ Keeps n n w w' := by
  have HB : Hid (BB n w bs) := hB;have HTX := hZz ht;clear hB ht;go_enter Tryz.func55, Tryz.ntmps55
  go_wp2_with fail
  go_loopw [8] (fun p wr => ∃ i : Nat, p = .int .i64 i /\ i <= ks.length /\ Hid (BB n wr (bs ++ textsL (ks.take i))) /\ Hid (Keeps n n w wr)) (fun p _ => ks.length - (intOf p).toNat)
  case atStart => exact ⟨0, rfl, Nat.zero_le _, by unfold Hid; rw [List.take_zero]; unfold textsL; simpa using HB.out, Keeps.refl _ _ _⟩
  case round =>
    obtain ⟨i, rfl, hi, hR, hK⟩ := hrel;by_cases hlt : i < ks.length
    · obtain ⟨b, o, rfl, _, hb, hc⟩ := (HTX.out wr hK.out).resolve_left (by intro e; rw [e] at hlt; simp at hlt);have k0 := hc i hlt;have hle := texts_le hlt;have hsz := hK.out.below.size;have hcall := bb_write n wr (bs ++ textsL (ks.take i)) ks[i] hR.out (by rw [List.length_append]; omega) (by omega);rw [List.append_assoc, <-texts_take hlt] at hcall;have HCL := hZz hcall;obtain ⟨x, hx⟩ : ∃ x, ks[i] = x := ⟨_, rfl⟩;rw [hx] at HCL k0;clear hcall hc hx hle;go_wp2_with fail
      refine (Calls.mono HCL.out ?_);rintro z w2 ⟨rfl, hb2, hk2⟩;have K2 : Hid (Keeps n n w w2) := hK.out.trans hk2;have R2 := hZz hb2;clear hb2 hk2 k0 HCL;go_wp2_with fail
      go_roundw
      case rel => exact ⟨i + 1, by go_num, by omega, R2.out, K2.out⟩
      case measure => simp [intOf]; omega
    · obtain rfl : i = ks.length := by omega
      have HR : Hid (BB n wr (bs ++ textsL ks)) := by
        have := hR.out;rw [List.take_length] at this;exact this
      go_wp2_with fail
      go_end0
      exact ⟨rfl, HR.out, hK.out⟩
open Go.RowKit Go.Shelf Utf Strs
set_option maxHeartbeats 6400000
theorem below_grow (w : World) (n : Nat) (os : Array Obj) : Below w.heap.size w (Sort.grow (w.drewN n) os) :=
  ⟨rfl, rfl, rfl, by simp [Sort.grow], fun k hk => by simp only [Sort.grow]; exact Array.getElem?_append_left hk⟩
theorem formatUint_in (u : Nat) (hu64 : u < 18446744073709551616) (w : World) (htab : Lib.TabIs Tryz.prog w "internal/strconv.uint64pow10" .u64 Lib.pow10Tab) : Calls Tryz.prog 59 #[.int .u64 u, .int .i64 10] w fun e w' => e = .returned (.string ⟨(Lib.decDigits u).toArray⟩) /\ Below w.heap.size w w' := by
  by_cases hs : u < 100
  · have q1 : decide ((u : Int) < 100) = true := by rw [decide_eq_true_eq]; omega
    have q2 : decide (u < 100) = true := by rw [decide_eq_true_eq]; omega
    go_enter Tryz.func59, Tryz.ntmps59
    go_wp2_with fail
    refine (Tryz.internal_strconv_small u hs w).mono ?_;rintro e w' ⟨rfl, rfl⟩;go_wp2_with fail
    go_ret
    exact ⟨rfl, Below.refl _ _⟩
  · have q1 : decide ((u : Int) < 100) = false := by rw [decide_eq_false_iff_not]; omega
    have q2 : decide (u < 100) = false := by rw [decide_eq_false_iff_not]; omega
    have hu1 : 1 <= u := by omega
    have hnd20 : Lib.nDigits u <= 20 := by have := Lib.numDigits_eq u hu1 hu64; split at this <;> omega
    have hH0 := Lib.holds_zero0 w 123 (Lib.nDigits u) (by omega);have hfmt := Tryz.internal_strconv_formatBase10 w.heap.size 0 24 u (Array.replicate (Lib.nDigits u) 0) (w.alloc (.cells Lib.zeros24 123)) hH0 (by rw [Array.size_replicate]; exact Lib.lt_pow_nDigits u) hu64 (by rw [Array.size_replicate]; omega);rw [Array.size_replicate] at hfmt;have hal : (Tryz.prog).arrayLen 123 = 24 := by kernel_rfl
    have hsl : ∀ W, (Instr.sliceAt 123 (.pointer (some ⟨w.heap.size, 0, none⟩)) none (some (.int .i64 (Lib.nDigits u : Int))) none).run Tryz.prog W = .ok (.slice (some ⟨w.heap.size, 0, none⟩) (Lib.nDigits u) 24) W := fun W => by
      rw [run_sliceAt_array_h W 123 ⟨w.heap.size, 0, none⟩ (by kernel_rfl) .i64 (Lib.nDigits u : Int) (by omega) (by rw [hal]; omega)]
      go_simp
    have HH0 := Lib.hid hH0;have HF := hZz hfmt;clear hH0 hal hfmt;go_enter Tryz.func59, Tryz.ntmps59
    go_wp2_with fail
    refine (Tryz.internal_strconv_numDigits u hu1 hu64 _ (Lib.tabIs_alloc htab _)).mono ?_;rintro e w' ⟨rfl, rfl⟩;go_wp2_with fail
    refine (Calls.mono HF.out ?_);rintro e w' ⟨rfl, k, v', dk, rfl, hF⟩;have hcv : (convert 70 9 (.slice (some ⟨w.heap.size, 0, none⟩) (Lib.nDigits u) 24)).run Tryz.prog ((Sort.putRow (fun (b : UInt8) => Value.int .u8 (b.toNat : Int)) (w.alloc (.cells Lib.zeros24 123)) w.heap.size 0 dk).drewN k) = .ok (.string ⟨(Lib.decDigits u).toArray⟩) ((Sort.putRow (fun (b : UInt8) => Value.int .u8 (b.toNat : Int)) (w.alloc (.cells Lib.zeros24 123)) w.heap.size 0 dk).drewN k) := by
      have h := run_convert_bytes_back (P := Tryz.prog) ((Sort.putRow (fun (b : UInt8) => Value.int .u8 (b.toNat : Int)) (w.alloc (.cells Lib.zeros24 123)) w.heap.size 0 dk).drewN k) 70 9 5 ⟨w.heap.size, 0, none⟩ 24 (Lib.decDigits u) Tryz.underlying70 Tryz.underlying5 Tryz.underlying9 (fun j hj => by
        rw [Lib.row_is_numeral hF j hj, Lib.add_plain, World.cell?_drewN];exact Sort.cell?_putRow (fun (b : UInt8) => Value.int .u8 (b.toNat : Int)) _ w.heap.size 0 _ dk HH0.out (by rw [hF.size, Array.size_replicate]) j (by rw [hF.size]; rw [Lib.decDigits_length] at hj; exact hj))
      rw [Lib.decDigits_length] at h;exact h
    obtain ⟨os, eo⟩ := Lib.fin_at w (.cells Lib.zeros24 123) dk k 0;have HB : Hid (Below w.heap.size w ((Sort.putRow (fun (b : UInt8) => Value.int .u8 (b.toNat : Int)) (w.alloc (.cells Lib.zeros24 123)) w.heap.size 0 dk).drewN k)) := by
      rw [Hid, eo]; exact below_grow w k os
    clear eo hF HF HH0;go_wp2_with fail
    go_ret
    exact ⟨rfl, HB.out⟩
theorem formatUint_any (u : Nat) (hu64 : u < 18446744073709551616) (w : World) (htab : Lib.TabIs Tryz.prog w "internal/strconv.uint64pow10" .u64 Lib.pow10Tab) : Calls Tryz.prog 43 #[.int .u64 u, .int .i64 10] w fun e w' => e = .returned (.string ⟨(Lib.decDigits u).toArray⟩) /\ Below w.heap.size w w' := by
  have hc := formatUint_in u hu64 w htab;have HC := hZz hc;clear hc;go_enter Tryz.func43, Tryz.ntmps43
  go_wp2_with fail
  refine (Calls.mono HC.out ?_);rintro e w' ⟨rfl, hb⟩;have HB := hZz hb;clear hb;go_wp2_with fail
  go_ret
  exact ⟨rfl, HB.out⟩
end Go.Proofs.YtfdjolfenghmaaaGreatDoor.Addr
namespace Go.Proofs.YtfdjolfenghmaaaGreatDoor.Jdec
mutual
def JV.deepN : JV -> Nat
  | .mk k _ _ _ _ _ _ kids => (if k = 5 ∨ k = 6 then deepNs kids else 0) + 1
def deepNs : List JV -> Nat
  | [] => 0
  | v :: t => max v.deepN (deepNs t)
end
mutual
def JV.brk : JV -> Nat
  | .mk k _ _ _ _ _ _ kids => if k = 5 ∨ k = 6 then brks kids + 1 else 0
def brks : List JV -> Nat
  | [] => 0
  | v :: t => max v.brk (brks t)
end
theorem deepNs_cons (v : JV) (t : List JV) : deepNs (v :: t) = max v.deepN (deepNs t) := by rw [deepNs]
theorem deepNs_nil : deepNs [] = 0 := by rw [deepNs]
theorem list_n (ks : List JV) : (listOf ks).deepN = deepNs ks + 1 /\ (listOf ks).brk = brks ks + 1 := by simp [listOf, JV.deepN, JV.brk]
theorem object_n (keys : List ByteArray) (ks : List JV) : (objectOf keys ks).deepN = deepNs ks + 1 /\ (objectOf keys ks).brk = brks ks + 1 := by simp [objectOf, JV.deepN, JV.brk]
end Go.Proofs.YtfdjolfenghmaaaGreatDoor.Jdec
namespace Go.Proofs.YtfdjolfenghmaaaGreatDoor.Utf
open Quote
inductive Txt : List UInt8 -> Prop where
  | nil : Txt []
  | scal (c : Nat) (l : List UInt8) : scalarB c = true -> Txt l -> Txt (put c ++ l)
theorem one_of (l : List UInt8) (k c : Nat) (h1 : 1 <= k) (h2 : k <= l.length) (h3 : sizeAt (byt l 0) = k) (h4 : conts l k = true) (h5 : val l k = c) (h6 : scalarB c = true) (h7 : width c = k) : one l = (c, k) := by
  unfold one;rw [h3, if_pos, h5];unfold stands;rw [h3, h5];simp [h1, h2, h4, h6, h7]
theorem byt_zero (c : UInt8) (l : List UInt8) : byt (c :: l) 0 = c.toNat := rfl
theorem ofNat_lt {n : Nat} (h : n < 256) : (UInt8.ofNat n).toNat = n := by rw [UInt8.toNat_ofNat']; omega
theorem one_put_app (c : Nat) (l : List UInt8) (h : scalarB c = true) : one (put c ++ l) = (c, (put c).length) /\ 1 <= (put c).length := by
  have hc : c <= 1114111 := by unfold scalarB at h; simp only [Bool.and_eq_true, decide_eq_true_eq] at h; exact h.1
  unfold Quote.put;rw [if_pos h];by_cases w1 : c < 128
  · have hw : width c = 1 := by unfold width; rw [if_pos w1]
    rw [if_pos hw];refine ⟨one_of _ 1 c (Nat.le_refl _) (by simp) ?_ ?_ ?_ h hw, by simp⟩
    · show sizeAt (UInt8.ofNat c).toNat = 1;rw [ofNat_lt (by omega)]; unfold sizeAt; rw [if_pos w1]
    · rfl
    · unfold val; rw [if_pos (by omega)];exact ofNat_lt (by omega)
  by_cases w2 : c < 2048
  · have hw : width c = 2 := by unfold width; rw [if_neg w1, if_pos w2]
    rw [if_neg (by omega), if_pos hw];have b0 : byt ([UInt8.ofNat (192 + c / 64), UInt8.ofNat (128 + c % 64)] ++ l) 0 = 192 + c / 64 := ofNat_lt (by omega);have b1 : byt ([UInt8.ofNat (192 + c / 64), UInt8.ofNat (128 + c % 64)] ++ l) 1 = 128 + c % 64 := ofNat_lt (by omega);refine ⟨one_of _ 2 c (by omega) (by simp) ?_ ?_ ?_ h hw, by simp⟩
    · rw [b0]; unfold sizeAt; rw [if_neg (by omega), if_neg (by omega), if_pos (by omega)]
    · unfold conts cont; rw [if_neg (by omega), if_pos rfl, b1]; simp; omega
    · unfold val; rw [if_neg (by omega), if_pos rfl, b0, b1]; omega
  by_cases w3 : c < 65536
  · have hw : width c = 3 := by unfold width; rw [if_neg w1, if_neg w2, if_pos w3]
    rw [if_neg (by omega), if_neg (by omega), if_pos hw];have b0 : byt ([UInt8.ofNat (224 + c / 4096), UInt8.ofNat (128 + c / 64 % 64), UInt8.ofNat (128 + c % 64)] ++ l) 0 = 224 + c / 4096 := ofNat_lt (by omega);have b1 : byt ([UInt8.ofNat (224 + c / 4096), UInt8.ofNat (128 + c / 64 % 64), UInt8.ofNat (128 + c % 64)] ++ l) 1 = 128 + c / 64 % 64 := ofNat_lt (by omega);have b2 : byt ([UInt8.ofNat (224 + c / 4096), UInt8.ofNat (128 + c / 64 % 64), UInt8.ofNat (128 + c % 64)] ++ l) 2 = 128 + c % 64 := ofNat_lt (by omega);refine ⟨one_of _ 3 c (by omega) (by simp) ?_ ?_ ?_ h hw, by simp⟩
    · rw [b0]; unfold sizeAt; rw [if_neg (by omega), if_neg (by omega), if_neg (by omega), if_pos (by omega)]
    · unfold conts cont; rw [if_neg (by omega), if_neg (by omega), if_pos rfl, b1, b2]; simp; omega
    · unfold val; rw [if_neg (by omega), if_neg (by omega), if_pos rfl, b0, b1, b2]; omega
  · have hw : width c = 4 := by unfold width; rw [if_neg w1, if_neg w2, if_neg w3]
    rw [if_neg (by omega), if_neg (by omega), if_neg (by omega)];have b0 : byt ([UInt8.ofNat (240 + c / 262144), UInt8.ofNat (128 + c / 4096 % 64), UInt8.ofNat (128 + c / 64 % 64), UInt8.ofNat (128 + c % 64)] ++ l) 0 = 240 + c / 262144 := ofNat_lt (by omega);have b1 : byt ([UInt8.ofNat (240 + c / 262144), UInt8.ofNat (128 + c / 4096 % 64), UInt8.ofNat (128 + c / 64 % 64), UInt8.ofNat (128 + c % 64)] ++ l) 1 = 128 + c / 4096 % 64 := ofNat_lt (by omega);have b2 : byt ([UInt8.ofNat (240 + c / 262144), UInt8.ofNat (128 + c / 4096 % 64), UInt8.ofNat (128 + c / 64 % 64), UInt8.ofNat (128 + c % 64)] ++ l) 2 = 128 + c / 64 % 64 := ofNat_lt (by omega);have b3 : byt ([UInt8.ofNat (240 + c / 262144), UInt8.ofNat (128 + c / 4096 % 64), UInt8.ofNat (128 + c / 64 % 64), UInt8.ofNat (128 + c % 64)] ++ l) 3 = 128 + c % 64 := ofNat_lt (by omega);refine ⟨one_of _ 4 c (by omega) (by simp) ?_ ?_ ?_ h hw, by simp⟩
    · rw [b0]; unfold sizeAt; rw [if_neg (by omega), if_neg (by omega), if_neg (by omega), if_neg (by omega), if_pos (by omega)]
    · unfold conts cont; rw [if_neg (by omega), if_neg (by omega), if_neg (by omega), b1, b2, b3]; simp; omega
    · unfold val; rw [if_neg (by omega), if_neg (by omega), if_neg (by omega), b0, b1, b2, b3]; omega
theorem Txt.good {l : List UInt8} (h : Txt l) : ∀ (n p : Nat), bad n l p = none := by
  induction h with
  | nil =>
    intro n p
    cases n <;> simp [bad]
  | scal c l hc _ ih =>
    intro n p
    cases n with
    | zero => rfl
    | succ n =>
      obtain ⟨h1, h2⟩ := one_put_app c l hc;unfold bad;rw [if_neg (by intro e; have := congrArg List.length e; rw [List.length_append, List.length_nil] at this; omega), h1];simp only
      rw [if_neg (by omega), List.drop_left];exact ih n _
end Go.Proofs.YtfdjolfenghmaaaGreatDoor.Utf
namespace Go.Proofs.YtfdjolfenghmaaaGreatDoor.Jdec
open Utf (Txt)
structure OwnP (N : Nat) (k : Int) (is neg : Bool) (dig : ByteArray) (exp : Int) (str : ByteArray) (keys : List ByteArray) (n : Nat) : Prop where
  k1 : 1 <= k
  k6 : k <= 6
  is : k ≠ 2 -> is = false
  num : k ≠ 3 -> neg = false /\ dig = ⟨#[]⟩ /\ exp = 0
  text : k ≠ 4 -> str = ⟨#[]⟩
  kids : k < 5 -> n = 0
  noKeys : k ≠ 6 -> keys = []
  right : Num.right neg dig.data.toList exp = true
  valid : Txt str.data.toList
  size : str.size <= N
  both : k = 6 -> keys.length = n
  words : ∀ x ∈ keys, Txt x.data.toList /\ x.size <= N
  apart : keys.Nodup
inductive Good (N : Nat) : JV -> Prop where
  | mk (k : Int) (i n : Bool) (d : ByteArray) (e : Int) (s : ByteArray) (ks : List ByteArray) (vs : List JV) : OwnP N k i n d e s ks vs.length -> (∀ j (h : j < vs.length), Good N vs[j]) -> Good N (.mk k i n d e s ks vs)
open Go.RowKit Strs
theorem gb_refl (w : World) (r : Option Nat) : w.grownBy w r := ⟨rfl, rfl, rfl, Nat.le_refl _, fun _ _ _ => rfl⟩
theorem gb_set (w : World) (b i : Nat) (v : Value) : w.grownBy (w.setCell ⟨b, i, none⟩ v) (some b) := ⟨rfl, rfl, rfl, by simp [World.setCell], fun k _ hk => Below.heap_setCell _ _ _ _ (fun e => hk (by simp [e]))⟩
theorem gb_below {w w' : World} (h : Below w.heap.size w w') (r : Option Nat) : w.grownBy w' r := ⟨h.os, h.tape, h.output, h.size, fun k hk _ => h.block k hk⟩
section
variable {w w' : World} {P : Nat} {s : ByteArray} {k : Nat} {V : Value} {b e : Nat}
end
theorem infoVal : (Tryz.prog.info? 46).map (·.size) = some 8 := by kernel_rfl
def Raw.arr (a : Raw) : Array Value := #[.int .i64 a.kind, .bool a.is, .bool a.neg, .string a.dig, .int .i64 a.exp, .string a.str, .slice a.ka a.kn a.kc, .slice a.va a.vn a.vc]
theorem val_ret {F : Func} {p : Tmp} (hr : F.results = #[.cell p 46]) {tm : Array Value} {a : Raw} {R : Ending -> World -> Prop} {w' : World} {b : Nat}
    (hb : w'.heap[b]? = some (.cells a.arr 46 (0, 0))) (hp : tm.getD p undef = .pointer (some ⟨b, 0, none⟩)) (hR : R (.returned a.val) w') :
    bodyPost Tryz.prog F R Exit.ret { tmps := tm, defers := [] } w' :=
  bodyPost_ret (results_cell_row hr tm w' b _ _ _ _ hp hb Tryz.underlying46 rfl infoVal) rfl hR
theorem set8 {w : World} {b : Nat} {a : Raw} {T : TypeId} (h : w.heap[b]? = some (.cells a.arr T (0, 0))) (c : Raw) : ((((((((w.setCell ⟨b, 0, none⟩ (.int .i64 c.kind)).setCell ⟨b, 1, none⟩ (.bool c.is)).setCell ⟨b, 2, none⟩ (.bool c.neg)).setCell ⟨b, 3, none⟩ (.string c.dig)).setCell ⟨b, 4, none⟩ (.int .i64 c.exp)).setCell ⟨b, 5, none⟩ (.string c.str)).setCell ⟨b, 6, none⟩ (.slice c.ka c.kn c.kc)).setCell ⟨b, 7, none⟩ (.slice c.va c.vn c.vc)).heap[b]? = some (.cells c.arr T (0, 0)) := by
  have h0 := heap_set_same h (i := 0) (.int .i64 c.kind);have h1 := heap_set_same h0 (i := 1) (.bool c.is);have h2 := heap_set_same h1 (i := 2) (.bool c.neg);have h3 := heap_set_same h2 (i := 3) (.string c.dig);have h4 := heap_set_same h3 (i := 4) (.int .i64 c.exp);have h5 := heap_set_same h4 (i := 5) (.string c.str);have h6 := heap_set_same h5 (i := 6) (.slice c.ka c.kn c.kc);have h7 := heap_set_same h6 (i := 7) (.slice c.va c.vn c.vc);rw [h7];simp [Raw.arr]
theorem gb8 (w : World) (b : Nat) (x0 x1 x2 x3 x4 x5 x6 x7 : Value) : w.grownBy ((((((((w.setCell ⟨b, 0, none⟩ x0).setCell ⟨b, 1, none⟩ x1).setCell ⟨b, 2, none⟩ x2).setCell ⟨b, 3, none⟩ x3).setCell ⟨b, 4, none⟩ x4).setCell ⟨b, 5, none⟩ x5).setCell ⟨b, 6, none⟩ x6).setCell ⟨b, 7, none⟩ x7) (some b) :=
  ((((((((gb_set _ _ _ _).trans (gb_set _ _ _ _)).trans (gb_set _ _ _ _)).trans (gb_set _ _ _ _)).trans (gb_set _ _ _ _)).trans (gb_set _ _ _ _)).trans (gb_set _ _ _ _)).trans (gb_set _ _ _ _))
theorem val_cells {w : World} {b : Nat} {a : Raw} {T : TypeId} (h : w.heap[b]? = some (.cells a.arr T (0, 0))) :
    (w.cell? ⟨b, 0, none⟩ = some (.int .i64 a.kind) /\ w.cell? ⟨b, 1, none⟩ = some (.bool a.is) /\ w.cell? ⟨b, 2, none⟩ = some (.bool a.neg) /\ w.cell? ⟨b, 3, none⟩ = some (.string a.dig) /\ w.cell? ⟨b, 4, none⟩ = some (.int .i64 a.exp) /\ w.cell? ⟨b, 5, none⟩ = some (.string a.str) /\ w.cell? ⟨b, 6, none⟩ = some (.slice a.ka a.kn a.kc) /\ w.cell? ⟨b, 7, none⟩ = some (.slice a.va a.vn a.vc)) ∧
    (w.frozen? ⟨b, 0, none⟩ = false /\ w.frozen? ⟨b, 1, none⟩ = false /\ w.frozen? ⟨b, 2, none⟩ = false /\ w.frozen? ⟨b, 3, none⟩ = false /\ w.frozen? ⟨b, 4, none⟩ = false /\ w.frozen? ⟨b, 5, none⟩ = false /\ w.frozen? ⟨b, 6, none⟩ = false /\ w.frozen? ⟨b, 7, none⟩ = false) :=
  ⟨⟨cell_of h 0, cell_of h 1, cell_of h 2, cell_of h 3, cell_of h 4, cell_of h 5, cell_of h 6, cell_of h 7⟩, frozen_of h 0, frozen_of h 1, frozen_of h 2, frozen_of h 3, frozen_of h 4, frozen_of h 5, frozen_of h 6, frozen_of h 7⟩
theorem num_new {w w' : World} (hb : Below (w.drew.alloc (.cells #[.bool false, .string ⟨#[]⟩, .int .i64 0] 43)).heap.size (w.drew.alloc (.cells #[.bool false, .string ⟨#[]⟩, .int .i64 0] 43)) w') : w'.heap[w.heap.size]? = some (.cells #[.bool false, .string ⟨#[]⟩, .int .i64 0] 43 (0, 0)) :=
  (hb.block _ (by simp)).trans (heap_alloc_new w.drew _)
end Go.Proofs.YtfdjolfenghmaaaGreatDoor.Jdec
