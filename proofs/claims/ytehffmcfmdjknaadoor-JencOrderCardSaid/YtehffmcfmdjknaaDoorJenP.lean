/- The printers of package jenc: put, text, String. -/
import Derived.Test.YtehffmcfmdjknaaDoorJenW
import Derived.Test.YtehffmcfmdjknaaDoorJenF
namespace Go.Proofs.YtehffmcfmdjknaaDoor.Jdec
open Go.RowKit Go.Proofs.YtehffmcfmdjknaaDoor.Strs
set_option linter.unusedVariables false
set_option linter.unusedSimpArgs false
set_option maxRecDepth 100000

/-- A printer, whose block is n, that has written bs. -/
def PB (T : TypeId) (n : Nat) (W : World) (bs : List UInt8) : Prop := ∃ cs, Bl W n n 0 T cs bs
theorem PB.lt {T : TypeId} {n : Nat} {W : World} {bs : List UInt8} (h : PB T n W bs) : n < W.heap.size := by
  obtain ⟨cs, h⟩ := h
  exact heap_lt h.blk
/-- What has been written behind. -/
def PW (T : TypeId) (n : Nat) (w : World) (bs : List UInt8) (e : Ending) (w' : World) : Prop := e = .returned (.tuple #[]) ∧ PB T n w' bs ∧ Keeps n n w w'
theorem pb_text (T : TypeId) (n : Nat) (W : World) (bs : List UInt8) (s : ByteArray) (h : PB T n W bs) (hl : bs.length + s.size ≤ 140737488355328) :
    Calls Tryd.prog 61 #[.pointer (some ⟨n, 0, none⟩), .string s] W fun e W' => e = .returned (.tuple #[.int .i64 s.size, .nilIface]) ∧ PB T n W' (bs ++ s.data.toList) ∧ Keeps n n W W' := by
  have hn := h.lt
  obtain ⟨cs, h⟩ := h
  exact (writeString_any n n 0 T cs bs s W h hl (by omega)).mono fun e W' ⟨h1, cs', h2, _, _, h3⟩ => ⟨h1, ⟨cs', h2⟩, h3⟩
theorem pb_byte (T : TypeId) (n : Nat) (W : World) (bs : List UInt8) (c : Nat) (hc : c < 256) (h : PB T n W bs) (hl : bs.length + 1 ≤ 140737488355328) :
    Calls Tryd.prog 65 #[.pointer (some ⟨n, 0, none⟩), .int .u8 c] W fun e W' => e = .returned .nilIface ∧ PB T n W' (bs ++ [UInt8.ofNat c]) ∧ Keeps n n W W' := by
  have hn := h.lt
  obtain ⟨cs, h⟩ := h
  have := writeByte_any n n 0 T cs bs (UInt8.ofNat c) W h hl (by omega)
  rw [UInt8.toNat_ofNat', Nat.mod_eq_of_lt hc] at this
  exact this.mono fun e W' ⟨h1, cs', h2, _, _, h3⟩ => ⟨h1, ⟨cs', h2⟩, h3⟩
theorem pb_string (T : TypeId) (n : Nat) (W : World) (bs : List UInt8) (h : PB T n W bs) :
    Calls Tryd.prog 63 #[.pointer (some ⟨n, 0, none⟩)] W fun e W' => e = .returned (.string ⟨bs.toArray⟩) ∧ Below n W W' := by
  have hn := h.lt
  obtain ⟨cs, h⟩ := h
  exact (string_any n n 0 T cs bs W h (by omega)).mono fun e W' ⟨h1, h2, _⟩ => ⟨h1, h2.below⟩

set_option maxHeartbeats 1000000 in
/-- text, of either printer. -/
theorem ptext_any (T : TypeId) (n : Nat) (W : World) (bs : List UInt8) (s : ByteArray) (h : PB T n W bs) (hl : bs.length + s.size ≤ 140737488355328) :
    Calls Tryd.prog 115 #[.pointer (some ⟨n, 0, none⟩), .string s] W (PW T n W (bs ++ s.data.toList)) := by
  have hc := pb_text T n W bs s h hl
  have HC := Hid.out (p := Hid _) hc
  clear hc h hl
  go_enter Tryd.func115, Tryd.ntmps115
  go_wp2_with fail
  refine (Calls.mono HC.out ?_)
  rintro e w2 ⟨rfl, k2, b2⟩
  have K2 := Hid.out (p := Hid _) k2
  have B2 := Hid.out (p := Hid _) b2
  clear k2 b2
  go_wp2_with fail
  go_end0
  exact ⟨rfl, K2.out, B2.out⟩
set_option maxHeartbeats 1000000 in
theorem nput_any (T : TypeId) (n : Nat) (W : World) (bs : List UInt8) (s : ByteArray) (x y : Int) (h : PB T n W bs) (hl : bs.length + s.size ≤ 140737488355328) :
    Calls Tryd.prog 116 #[.pointer (some ⟨n, 0, none⟩), .string s, .int .i64 x, .int .i64 y] W (PW T n W (bs ++ s.data.toList)) := by
  have hc := pb_text T n W bs s h hl
  have HC := Hid.out (p := Hid _) hc
  clear hc h hl
  go_enter Tryd.func116, Tryd.ntmps116
  go_wp2_with fail
  refine (Calls.mono HC.out ?_)
  rintro e w2 ⟨rfl, k2, b2⟩
  have K2 := Hid.out (p := Hid _) k2
  have B2 := Hid.out (p := Hid _) b2
  clear k2 b2
  go_wp2_with fail
  go_end0
  exact ⟨rfl, K2.out, B2.out⟩

set_option maxHeartbeats 2000000 in
theorem wput_colon (T : TypeId) (n : Nat) (W : World) (bs : List UInt8) (s : ByteArray) (y : Int) (h : PB T n W bs) (hl : bs.length + s.size + 1 ≤ 140737488355328) :
    Calls Tryd.prog 114 #[.pointer (some ⟨n, 0, none⟩), .string s, .int .i64 1, .int .i64 y] W (PW T n W ((bs ++ s.data.toList) ++ [32])) := by
  have hc := pb_text T n W bs s h (by omega)
  have HC := Hid.out (p := Hid _) hc
  have hl2 : (bs ++ s.data.toList).length + 1 ≤ 140737488355328 := by rw [List.length_append]; have : s.data.toList.length = s.size := by simp
                                                                      omega
  clear hc h hl
  go_enter Tryd.func114, Tryd.ntmps114
  go_wp2_with fail
  refine (Calls.mono HC.out ?_)
  rintro e w2 ⟨rfl, k2, b2⟩
  have K2 := Hid.out (p := Hid _) k2
  have B2 := Hid.out (p := Hid _) b2
  clear k2 b2
  go_wp2_with fail
  refine (pb_byte T n w2 (bs ++ s.data.toList) 32 (by decide) K2.out hl2).mono ?_
  rintro e w3 ⟨rfl, k3, b3⟩
  have K3 := Hid.out (p := Hid _) k3
  have B3 := Hid.out (p := Hid _) (B2.out.trans b3)
  clear k3 b3
  go_wp2_with fail
  go_end0
  exact ⟨rfl, K3.out, B3.out⟩
theorem blanks_succ (i : Nat) : List.replicate (2 * (i + 1)) (32 : UInt8) = List.replicate (2 * i) 32 ++ [32, 32] := by
  rw [show 2 * (i + 1) = 2 * i + 2 by omega, ← List.replicate_append_replicate]; rfl
set_option maxHeartbeats 2000000 in
theorem wput_line (T : TypeId) (n : Nat) (W : World) (bs : List UInt8) (s : ByteArray) (y : Nat) (hy : y ≤ 10000) (h : PB T n W bs) (hl : bs.length + s.size + 30000 ≤ 140737488355328) :
    Calls Tryd.prog 114 #[.pointer (some ⟨n, 0, none⟩), .string s, .int .i64 0, .int .i64 y] W (PW T n W ((bs ++ s.data.toList) ++ lineP true y)) := by
  have hc := pb_text T n W bs s h (by omega)
  have HC := Hid.out (p := Hid _) hc
  have hl2 : (bs ++ s.data.toList).length + 30000 ≤ 140737488355328 := by rw [List.length_append]; have : s.data.toList.length = s.size := by simp
                                                                          omega
  clear hc h hl
  go_enter Tryd.func114, Tryd.ntmps114
  go_wp2_with fail
  refine (Calls.mono HC.out ?_)
  rintro e w2 ⟨rfl, k2, b2⟩
  have K2 := Hid.out (p := Hid _) k2
  have B2 := Hid.out (p := Hid _) b2
  clear k2 b2
  generalize bs ++ s.data.toList = pre at *
  go_wp2_with fail
  refine (pb_byte T n w2 pre 10 (by decide) K2.out (by omega)).mono ?_
  rintro e w3 ⟨rfl, k3, b3⟩
  have K3 : Hid (PB T n w3 (pre ++ [10])) := k3
  have B3 := Hid.out (p := Hid _) (B2.out.trans b3)
  clear k3 b3 K2 B2
  go_wp2_with fail
  go_loopw [27] (fun p wr => ∃ i : Nat, p = .int .i64 i ∧ i ≤ y ∧ Hid (PB T n wr ((pre ++ [10]) ++ List.replicate (2 * i) 32)) ∧ Hid (Keeps n n W wr)) (fun p _ => y - (intOf p).toNat)
  case atStart => exact ⟨0, rfl, Nat.zero_le _, by rw [Hid]; simpa using K3.out, B3.out⟩
  case round =>
    obtain ⟨i, rfl, hi, hK, hB⟩ := hrel
    by_cases hlt : i < y
    · have hn : (pre ++ [10]) ++ List.replicate (2 * (i + 1)) 32 = ((pre ++ [10]) ++ List.replicate (2 * i) 32) ++ [32, 32] := by rw [blanks_succ]; simp
      have HN := Hid.out (p := Hid _) hn
      have hl3 : ((pre ++ [10]) ++ List.replicate (2 * i) 32).length + (⟨#[32, 32]⟩ : ByteArray).size ≤ 140737488355328 := by
        have e : (⟨#[32, 32]⟩ : ByteArray).size = 2 := rfl
        rw [e, List.length_append, List.length_append, List.length_replicate, List.length_singleton]; omega
      clear hn
      generalize (pre ++ [10]) ++ List.replicate (2 * i) 32 = p2 at *
      have HL3 := Hid.out (p := Hid _) hl3
      clear hl3
      go_wp2_with fail
      refine (pb_text T n wr p2 ⟨#[32, 32]⟩ hK.out HL3.out).mono ?_
      rintro e w4 ⟨rfl, k4, b4⟩
      have K4 : Hid (PB T n w4 ((pre ++ [10]) ++ List.replicate (2 * (i + 1)) 32)) := by rw [Hid, HN.out]; exact k4
      have B4 := Hid.out (p := Hid _) (hB.out.trans b4)
      clear k4 b4
      go_wp2_with fail
      go_roundw
      case rel => exact ⟨i + 1, by go_num, by omega, K4.out, B4.out⟩
      case measure => simp [intOf]; omega
    · obtain rfl : i = y := by omega
      have HF : Hid (PB T n wr (pre ++ lineP true i)) := by
        have := hK.out
        rw [List.append_assoc] at this
        exact this
      clear hK
      go_wp2_with fail
      go_end0
      exact ⟨rfl, HF.out, hB.out⟩
end Go.Proofs.YtehffmcfmdjknaaDoor.Jdec
