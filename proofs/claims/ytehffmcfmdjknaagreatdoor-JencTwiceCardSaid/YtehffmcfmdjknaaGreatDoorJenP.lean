/- The printers of package jenc: put, text, String. -/
import Derived.Test.YtehffmcfmdjknaaGreatDoorJenW
import Derived.Test.YtehffmcfmdjknaaGreatDoorJenF
namespace Go.Proofs.YtehffmcfmdjknaaGreatDoor.Jdec
open Go.RowKit Go.Proofs.YtehffmcfmdjknaaGreatDoor.Strs
set_option linter.unusedVariables false
set_option linter.unusedSimpArgs false
set_option maxRecDepth 100000

/-- A printer, whose block is n, that has written bs. -/
def PB (T : TypeId) (n : Nat) (W : World) (bs : List UInt8) : Prop := ∃ cs, Bl W n n 0 T cs bs
theorem PB.lt {T : TypeId} {n : Nat} {W : World} {bs : List UInt8} (h : PB T n W bs) : n < W.heap.size := by
  obtain ⟨cs, h⟩ := h
  exact heap_lt h.blk
/-- What has been written behind. -/
def PW (T : TypeId) (n : Nat) (w : World) (bs : List UInt8) (e : Ending) (w' : World) : Prop := e = .returned (.tuple #[]) ∧ PB T n w' bs ∧ Keeps n n w w'
theorem pb_text (T : TypeId) (n : Nat) (W : World) (bs : List UInt8) (s : ByteArray) (h : PB T n W bs) (hl : bs.length + s.size ≤ 140737488355328) :
    Calls Tryz.prog 104 #[.pointer (some ⟨n, 0, none⟩), .string s] W fun e W' => e = .returned (.tuple #[.int .i64 s.size, .nilIface]) ∧ PB T n W' (bs ++ s.data.toList) ∧ Keeps n n W W' := by
  have hn := h.lt
  obtain ⟨cs, h⟩ := h
  exact (writeString_any n n 0 T cs bs s W h hl (by omega)).mono fun e W' ⟨h1, cs', h2, _, _, h3⟩ => ⟨h1, ⟨cs', h2⟩, h3⟩
theorem pb_byte (T : TypeId) (n : Nat) (W : World) (bs : List UInt8) (c : Nat) (hc : c < 256) (h : PB T n W bs) (hl : bs.length + 1 ≤ 140737488355328) :
    Calls Tryz.prog 108 #[.pointer (some ⟨n, 0, none⟩), .int .u8 c] W fun e W' => e = .returned .nilIface ∧ PB T n W' (bs ++ [UInt8.ofNat c]) ∧ Keeps n n W W' := by
  have hn := h.lt
  obtain ⟨cs, h⟩ := h
  have := writeByte_any n n 0 T cs bs (UInt8.ofNat c) W h hl (by omega)
  rw [UInt8.toNat_ofNat', Nat.mod_eq_of_lt hc] at this
  exact this.mono fun e W' ⟨h1, cs', h2, _, _, h3⟩ => ⟨h1, ⟨cs', h2⟩, h3⟩
theorem pb_string (T : TypeId) (n : Nat) (W : World) (bs : List UInt8) (h : PB T n W bs) :
    Calls Tryz.prog 106 #[.pointer (some ⟨n, 0, none⟩)] W fun e W' => e = .returned (.string ⟨bs.toArray⟩) ∧ Below n W W' := by
  have hn := h.lt
  obtain ⟨cs, h⟩ := h
  exact (string_any n n 0 T cs bs W h (by omega)).mono fun e W' ⟨h1, h2, _⟩ => ⟨h1, h2.below⟩

set_option maxHeartbeats 1000000 in
/-- text, of either printer. -/
theorem ptext_any (T : TypeId) (n : Nat) (W : World) (bs : List UInt8) (s : ByteArray) (h : PB T n W bs) (hl : bs.length + s.size ≤ 140737488355328) :
    Calls Tryz.prog 201 #[.pointer (some ⟨n, 0, none⟩), .string s] W (PW T n W (bs ++ s.data.toList)) := by
  have hc := pb_text T n W bs s h hl
  have HC := Hid.out (p := Hid _) hc
  clear hc h hl
  go_enter Tryz.func201, Tryz.ntmps201
  go_wp2_with fail
  refine (Calls.mono HC.out ?_)
  rintro e w2 ⟨rfl, k2, b2⟩
  have K2 := Hid.out (p := Hid _) k2
  have B2 := Hid.out (p := Hid _) b2
  clear k2 b2
  go_wp2_with fail
  go_end0
  exact ⟨rfl, K2.out, B2.out⟩
set_option maxHeartbeats 1000000 in
theorem nput_any (T : TypeId) (n : Nat) (W : World) (bs : List UInt8) (s : ByteArray) (x y : Int) (h : PB T n W bs) (hl : bs.length + s.size ≤ 140737488355328) :
    Calls Tryz.prog 200 #[.pointer (some ⟨n, 0, none⟩), .string s, .int .i64 x, .int .i64 y] W (PW T n W (bs ++ s.data.toList)) := by
  have hc := pb_text T n W bs s h hl
  have HC := Hid.out (p := Hid _) hc
  clear hc h hl
  go_enter Tryz.func200, Tryz.ntmps200
  go_wp2_with fail
  refine (Calls.mono HC.out ?_)
  rintro e w2 ⟨rfl, k2, b2⟩
  have K2 := Hid.out (p := Hid _) k2
  have B2 := Hid.out (p := Hid _) b2
  clear k2 b2
  go_wp2_with fail
  go_end0
  exact ⟨rfl, K2.out, B2.out⟩

theorem blanks_succ (i : Nat) : List.replicate (2 * (i + 1)) (32 : UInt8) = List.replicate (2 * i) 32 ++ [32, 32] := by
  rw [show 2 * (i + 1) = 2 * i + 2 by omega, ← List.replicate_append_replicate]; rfl
end Go.Proofs.YtehffmcfmdjknaaGreatDoor.Jdec
