/- tabulariumlaw09.JdecLong: a text of more bytes than may be isn't read. -/
import Derived.Test.YtbfkgddhpabioaaDoorJdecQ
namespace Go.Proofs.YtbfkgddhpabioaaDoor.Jdec
open Go.RowKit Go.Proofs.YtbfkgddhpabioaaDoor.Strs
set_option linter.unusedVariables false
set_option linter.unusedSimpArgs false
set_option maxRecDepth 100000

theorem infoByte : (Tryd.prog.info? 5).map (fun i => (i.zero, i.size, i.bytes)) = some (some (.int .u8 0), 1, 1) := by kernel_rfl
/-- A row of bytes that the call owns. -/
def BRow (w : World) (B g n : Nat) (l : List UInt8) : Prop := l.length = n ∧ w.ownsRow B 5 1 (.slice (some ⟨g, 0, none⟩) n n) n (l.map fun c => Value.int .u8 (c.toNat : Int))
theorem BRow.zero {w : World} {B g n : Nat} (h : w.ownsRow B 5 1 (.slice (some ⟨g, 0, none⟩) n n) n (madeCells #[Value.int .u8 0] n).toList) : BRow w B g n (List.replicate n 0) := by
  refine ⟨by simp, ?_⟩
  rw [List.map_replicate]
  rw [toList_madeCells_one] at h
  exact h
theorem BRow.put {w : World} {B g n : Nat} {l : List UInt8} (h : BRow w B g n l) (i : Nat) (c : UInt8) : BRow (w.setCell ⟨g, i, none⟩ (.int .u8 c.toNat)) B g n (l.set i c) := by
  refine ⟨by rw [List.length_set]; exact h.1, ?_⟩
  have := (h.2.stored i (.int .u8 c.toNat)).1
  rwa [List.map_set]
theorem BRow.at_ {w : World} {B g n : Nat} {l : List UInt8} (h : BRow w B g n l) (i : Nat) (hi : i < l.length) : w.cell? ⟨g, i, none⟩ = some (.int .u8 (l[i].toNat : Int)) := by
  have hn := h.1
  rw [h.2.cellAt i (by omega)]
  simp [hi]

set_option maxHeartbeats 4000000 in
theorem jdecLong_any (m : Nat) (c : UInt8) (w : World) (T : JTabs w) (hm : m < 256) :
    Calls Tryd.prog 4 #[.int .u8 m, .int .u8 c.toNat] w fun e w' => e = .returned (.bool true) ∧ Below w.heap.size w w' := by
  obtain ⟨i0, hi, hz0, hz1, hz2⟩ := info_parts infoByte
  have HI := Hid.out (p := Hid _) hi; clear hi
  have HZ := Hid.out (p := Hid _) hz0; clear hz0
  have hw := wakes_any w T
  have HT : Hid (JTabs w) := T
  clear T
  obtain ⟨n, hn⟩ : ∃ n : Nat, (n : Int) = 1048577 + (m : Int) := ⟨1048577 + m, by omega⟩
  have hnn : n ≤ 1048832 := by omega
  have hbig : 1048576 < n := by omega
  have HN : Hid ((n : Int) = 1048577 + (m : Int)) := hn
  clear hn
  go_enter Tryd.func4, Tryd.ntmps4
  go_wp2_with fail
  refine hw.mono ?_
  rintro e w1 ⟨rfl, hb1⟩
  have B1 : Hid (Below w.heap.size w w1) := hb1
  have T1 : Hid (JTabs w1) := JTabs.stays ⟨HT.out.z, HT.out.m⟩ hb1
  clear hb1 hw
  go_wp2_with (at_make; refine wpList_make_full _ rfl _ _ 22 rfl w1.heap.size 5 i0 (.int .u8 0) 1 Tryd.underlying22 HI.out HZ.out hz1 .i64 .i64 (1048577 + (m : Int)) (1048577 + (m : Int)) n rfl rfl HN.out.symm HN.out.symm (by rw [hz2]; omega) (by unfold maxLen; omega) (Nat.le_refl _) ?_)
  intro w2 hown hgrow
  have R2 : Hid (BRow w2 w1.heap.size w1.heap.size n (List.replicate n 0)) := BRow.zero hown
  have B12 : Hid (Below w1.heap.size w1 w2) := ⟨hgrow.os, hgrow.tape, hgrow.output, hgrow.size, fun k hk => hgrow.block k hk (by simp)⟩
  have hww : w.heap.size ≤ w1.heap.size := B1.out.size
  have HWW := Hid.out (p := Hid _) hww
  have B2 : Hid (Below w.heap.size w w2) := B1.out.trans (B12.out.mono hww)
  have T2 : Hid (JTabs w2) := JTabs.stays ⟨T1.out.z, T1.out.m⟩ B12.out
  obtain ⟨g, hg⟩ : ∃ g, w1.heap.size = g := ⟨_, rfl⟩
  rw [hg] at R2 HWW ⊢
  have hgT : Hid (w1.heap.size ≤ g) := by rw [Hid, hg]; exact Nat.le_refl _
  clear hown hgrow hg hww
  go_wp2_with fail
  go_loopw [18] (fun p18 wr => ∃ (i : Nat) (l : List UInt8), i ≤ n ∧ p18 = .int .i64 i ∧ Hid (BRow wr g g n l) ∧ Hid (Below g w2 wr)) (fun p18 _ => n - (intOf p18).toNat)
  case atStart => exact ⟨0, _, Nat.zero_le _, rfl, R2.out, Below.refl _ _⟩
  case round =>
    obtain ⟨i, l, hi, rfl, hR, hB⟩ := hrel
    by_cases hlt : i < n
    · have c0 := hR.out.at_ i (by rw [hR.out.1]; exact hlt)
      have f0 := hR.out.2.frozenAt i
      have RN := Hid.out (p := Hid _) (hR.out.put i c)
      have BN : Hid (Below g w2 (wr.setCell ⟨g, i, none⟩ (.int .u8 c.toNat))) := hB.out.setCell (p := ⟨g, i, none⟩) (Nat.le_refl _) _
      go_wp2_with fail
      go_roundw
      case rel => exact ⟨i + 1, _, by omega, by go_num, RN.out, BN.out⟩
      case measure => simp [intOf]; omega
    · have hcv := run_convert_bytes_back (P := Tryd.prog) wr 22 9 5 ⟨g, 0, none⟩ n l Tryd.underlying22 Tryd.underlying5 Tryd.underlying9 (fun j hj => by
        rw [Addr.add_lit, Nat.zero_add]; exact hR.out.at_ j hj)
      rw [hR.out.1] at hcv
      have hp : parse l = (.zero, 0, 4) := by rw [parse, if_pos (by rw [hR.out.1]; exact hbig)]
      have hsz : (⟨l.toArray⟩ : ByteArray).size ≤ 9223372036854775807 := by show l.toArray.size ≤ _; rw [List.size_toArray, hR.out.1]; omega
      have T3 : Hid (JTabs wr) := ⟨T1.out.z.stays (B12.out.trans (hB.out.mono hgT.out)), T1.out.m.stays (B12.out.trans (hB.out.mono hgT.out))⟩
      have B3 : Hid (Below w.heap.size w wr) := B2.out.trans (hB.out.mono HWW.out)
      have hcall := parse_says ⟨l.toArray⟩ wr 0 4 hsz ⟨T3.out.z, T3.out.m⟩ (by show (parse l).2 = _; rw [hp])
      have hz : (parse (⟨l.toArray⟩ : ByteArray).data.toList).1 = JV.zero := by show (parse l).1 = _; rw [hp]
      rw [hz] at hcall
      obtain ⟨D, hD⟩ : ∃ D, (⟨l.toArray⟩ : ByteArray) = D := ⟨_, rfl⟩
      rw [hD] at hcv hcall
      have HC := Hid.out (p := Hid _) hcall
      clear hcall hz hp hsz hD
      go_wp2_with fail
      refine (Calls.mono HC.out ?_)
      rintro x w4 ⟨a, rfl, hv, b4⟩
      have B4 := Hid.out (p := Hid _) (B3.out.trans (b4.mono B3.out.size))
      obtain ⟨ka, va, kc, vc, rfl⟩ := zero_words hv
      clear hv b4
      dsimp only [Raw.val]
      go_wp2_with fail
      refine (same_nil ka va none none kc vc 0 0 _).mono ?_
      rintro x w5 ⟨rfl, b5⟩
      have B5 := Hid.out (p := Hid _) ((B4.out.alloc B4.out.size _).trans (b5.mono (by have := B4.out.size; simp; omega)))
      clear b5
      go_wp2_with fail
      go_ret
      exact ⟨rfl, B5.out⟩
end Go.Proofs.YtbfkgddhpabioaaDoor.Jdec
