/- quote.reader: part. -/
import Derived.Test.YtbfkgddhpabioaaDoorQuoteC
namespace Go.Proofs.YtbfkgddhpabioaaDoor.Quote
open Go.RowKit Go.Proofs.YtbfkgddhpabioaaDoor.Utf
set_option linter.unusedVariables false
set_option linter.unusedSimpArgs false
set_option maxRecDepth 100000

/-- What 'part' comes to. -/
def partR (src : ByteArray) (p : Nat) (out : List UInt8) : Except Nat (Value × Nat × List UInt8) :=
  match part (src.data.toList.drop p) with
  | .error k => .error k
  | .ok (o, n, g) => .ok (.bool g, p + n, out ++ o)
theorem _root_.Go.Proofs.YtbfkgddhpabioaaDoor.Utf.Sizes.keeps {B b : Nat} {w w' : World} (T : Sizes w) (hk : Keeps B b w w') (hB : 3 < B) : Sizes w' := T.kept (hk.below.block _ hB)

set_option maxHeartbeats 2000000 in
theorem part_e0 (B b : Nat) (src : ByteArray) (p : Nat) (out : List UInt8) (w : World) (h : Rdr w B b src p out) (hp : p =  src.size) (hs : src.size ≤ 1099511627776) (hlen : out.length ≤ p) (T : Sizes w) (hTB : 3 < B)  :
    Calls Tryd.prog 94 #[.pointer (some ⟨b, 0, none⟩)] w (RPost B b src w (partR src p out)) := by
  obtain ⟨r, hr⟩ : ∃ r, r = partR src p out := ⟨_, rfl⟩
  rw [← hr]
  have HP := Hid.out (p := Hid _) h; clear h
  have HT := Hid.out (p := Hid _) T; clear T
  have HF : Hid (r = .error 2) := by rw [Hid, hr, partR]; simp [part, hp]
  clear hr
  go_enter Tryd.func94, Tryd.ntmps94
  go_wp2_with fail
  refine (next_no B b src p out w HP.out (by omega) (by omega) (by omega)).mono ?_
  rintro e w1 ⟨rfl, hk⟩
  have K1 : Hid (Keeps B b w w1) := hk
  clear hk
  go_wp2_with fail
  exact ⟨rfl, rpost_err HF K1.out⟩

set_option maxHeartbeats 2000000 in
theorem part_mark (B b : Nat) (src : ByteArray) (p : Nat) (out : List UInt8) (w : World) (h : Rdr w B b src p out) (hp : p < src.size) (hs : src.size ≤ 1099511627776) (hlen : out.length ≤ p) (T : Sizes w) (hTB : 3 < B) (hv : src[p].toNat = 34) :
    Calls Tryd.prog 94 #[.pointer (some ⟨b, 0, none⟩)] w (RPost B b src w (partR src p out)) := by
  obtain ⟨r, hr⟩ : ∃ r, r = partR src p out := ⟨_, rfl⟩
  rw [← hr]
  have HP := Hid.out (p := Hid _) h; clear h
  have HT := Hid.out (p := Hid _) T; clear T
  have hb0 : byt (src.data.toList.drop p) 0 = src[p].toNat := by rw [byt_drop src p 0 (by omega)]; rfl
  have hl0 : ¬ (src.data.toList.drop p).length = 0 := by rw [List.length_drop, show src.data.toList.length = src.size by simp]; omega
  have HO : Hid (r = .ok (.bool false, p + 1, out ++ [])) := by
    rw [Hid, hr, partR]; unfold part
    rw [hb0, if_neg hl0, if_pos (by omega)]
  clear hr
  have q34 : ((src[p].toNat : Int) == 34) = true := by rw [beq_iff_eq]; omega
  have hlt8 : src[p].toNat < 256 := UInt8.toNat_lt _
  clear hb0 hl0 hv
  go_enter Tryd.func94, Tryd.ntmps94
  go_wp2_with fail
  refine (next_yes B b src p out w HP.out (by omega) (by omega)).mono ?_
  rintro e w1 ⟨rfl, h1, hk⟩
  have K1 : Hid (Keeps B b w w1) := hk
  have R1 := Hid.out (p := Hid _) h1
  clear h1 hk
  go_wp2_with fail
  go_ret
  exact rpost_ok HO K1.out (by rw [List.append_nil]; exact R1.out)

set_option maxHeartbeats 2000000 in
theorem part_low (B b : Nat) (src : ByteArray) (p : Nat) (out : List UInt8) (w : World) (h : Rdr w B b src p out) (hp : p < src.size) (hs : src.size ≤ 1099511627776) (hlen : out.length ≤ p) (T : Sizes w) (hTB : 3 < B) (hv : src[p].toNat < 32) :
    Calls Tryd.prog 94 #[.pointer (some ⟨b, 0, none⟩)] w (RPost B b src w (partR src p out)) := by
  obtain ⟨r, hr⟩ : ∃ r, r = partR src p out := ⟨_, rfl⟩
  rw [← hr]
  have HP := Hid.out (p := Hid _) h; clear h
  have HT := Hid.out (p := Hid _) T; clear T
  have hb0 : byt (src.data.toList.drop p) 0 = src[p].toNat := by rw [byt_drop src p 0 (by omega)]; rfl
  have hl0 : ¬ (src.data.toList.drop p).length = 0 := by rw [List.length_drop, show src.data.toList.length = src.size by simp]; omega
  have HF : Hid (r = .error 3) := by
    rw [Hid, hr, partR]; unfold part
    rw [hb0, if_neg hl0, if_neg (by omega), if_neg (by omega), if_pos hv]
  clear hr
  have q34 : ((src[p].toNat : Int) == 34) = false := by rw [beq_eq_false_iff_ne]; omega
  have q92 : ((src[p].toNat : Int) == 92) = false := by rw [beq_eq_false_iff_ne]; omega
  have l32 : decide ((src[p].toNat : Int) < 32) = true := by simp; omega
  have hlt8 : src[p].toNat < 256 := UInt8.toNat_lt _
  clear hb0 hl0
  go_enter Tryd.func94, Tryd.ntmps94
  go_wp2_with fail
  refine (next_yes B b src p out w HP.out (by omega) (by omega)).mono ?_
  rintro e w1 ⟨rfl, h1, hk⟩
  have K1 : Hid (Keeps B b w w1) := hk
  have R1 := Hid.out (p := Hid _) h1
  clear h1 hk
  go_wp2_with fail
  refine (fail_any 3 _).mono ?_
  rintro e w' ⟨rfl, rfl⟩
  go_wp2_with fail
  exact ⟨rfl, rpost_err HF K1.out⟩

set_option maxHeartbeats 2000000 in
theorem part_plain (B b : Nat) (src : ByteArray) (p : Nat) (out : List UInt8) (w : World) (h : Rdr w B b src p out) (hp : p < src.size) (hs : src.size ≤ 1099511627776) (hlen : out.length ≤ p) (T : Sizes w) (hTB : 3 < B) (hv : 32 ≤ src[p].toNat) (hv2 : src[p].toNat < 128) (hv3 : src[p].toNat ≠ 34) (hv4 : src[p].toNat ≠ 92) :
    Calls Tryd.prog 94 #[.pointer (some ⟨b, 0, none⟩)] w (RPost B b src w (partR src p out)) := by
  obtain ⟨r, hr⟩ : ∃ r, r = partR src p out := ⟨_, rfl⟩
  rw [← hr]
  have HP := Hid.out (p := Hid _) h; clear h
  have HT := Hid.out (p := Hid _) T; clear T
  have hb0 : byt (src.data.toList.drop p) 0 = src[p].toNat := by rw [byt_drop src p 0 (by omega)]; rfl
  have hl0 : ¬ (src.data.toList.drop p).length = 0 := by rw [List.length_drop, show src.data.toList.length = src.size by simp]; omega
  have HO : Hid (r = .ok (.bool true, p + 1, out ++ [UInt8.ofNat src[p].toNat])) := by
    rw [Hid, hr, partR]; unfold part
    rw [hb0, if_neg hl0, if_neg hv3, if_neg hv4, if_neg (by omega), if_pos hv2]
  clear hr
  have q34 : ((src[p].toNat : Int) == 34) = false := by rw [beq_eq_false_iff_ne]; omega
  have q92 : ((src[p].toNat : Int) == 92) = false := by rw [beq_eq_false_iff_ne]; omega
  have l32 : decide ((src[p].toNat : Int) < 32) = false := by simp; omega
  have l128 : decide ((src[p].toNat : Int) < 128) = true := by simp; omega
  have hlt8 : src[p].toNat < 256 := UInt8.toNat_lt _
  clear hb0 hl0
  go_enter Tryd.func94, Tryd.ntmps94
  go_wp2_with fail
  refine (next_yes B b src p out w HP.out (by omega) (by omega)).mono ?_
  rintro e w1 ⟨rfl, h1, hk⟩
  have K1 : Hid (Keeps B b w w1) := hk
  have R1 := Hid.out (p := Hid _) h1
  clear h1 hk
  go_wp2_with fail
  refine (rWriteByteN B b src (p + 1) out src[p].toNat (by omega) _ R1.out (by omega)).mono ?_
  rintro e w2 ⟨rfl, h2, hk⟩
  have K2 : Hid (Keeps B b w w2) := K1.out.trans hk
  have R2 : Hid (Rdr w2 B b src (p + 1) (out ++ [UInt8.ofNat src[p].toNat])) := h2
  clear h2 hk
  go_wp2_with fail
  go_ret
  exact rpost_ok HO K2.out R2.out

set_option maxHeartbeats 2000000 in
theorem part_esc (B b : Nat) (src : ByteArray) (p : Nat) (out : List UInt8) (w : World) (h : Rdr w B b src p out) (hp : p < src.size) (hs : src.size ≤ 1099511627776) (hlen : out.length ≤ p) (T : Sizes w) (hTB : 3 < B) (hv : src[p].toNat = 92) :
    Calls Tryd.prog 94 #[.pointer (some ⟨b, 0, none⟩)] w (RPost B b src w (partR src p out)) := by
  obtain ⟨r, hr⟩ : ∃ r, r = partR src p out := ⟨_, rfl⟩
  rw [← hr]
  have HP := Hid.out (p := Hid _) h; clear h
  have HT := Hid.out (p := Hid _) T; clear T
  have hb0 : byt (src.data.toList.drop p) 0 = src[p].toNat := by rw [byt_drop src p 0 (by omega)]; rfl
  have hl0 : ¬ (src.data.toList.drop p).length = 0 := by rw [List.length_drop, show src.data.toList.length = src.size by simp]; omega
  have HN : Hid (r = match escapeR src (p + 1) out with | .error k => .error k | .ok (_, q, o) => .ok (.bool true, q, o)) := by
    rw [Hid, hr, partR, escapeR]; unfold part
    rw [hb0, if_neg hl0, if_neg (by omega), if_pos hv, List.drop_drop]
    cases escape (List.drop (p + 1) src.data.toList) with
    | error k => rfl
    | ok x => obtain ⟨o, n⟩ := x; simp; omega
  clear hr
  have q34 : ((src[p].toNat : Int) == 34) = false := by rw [beq_eq_false_iff_ne]; omega
  have q92 : ((src[p].toNat : Int) == 92) = true := by rw [beq_iff_eq]; omega
  have hlt8 : src[p].toNat < 256 := UInt8.toNat_lt _
  clear hb0 hl0 hv
  go_enter Tryd.func94, Tryd.ntmps94
  go_wp2_with fail
  refine (next_yes B b src p out w HP.out (by omega) (by omega)).mono ?_
  rintro e w1 ⟨rfl, h1, hk⟩
  have K1 : Hid (Keeps B b w w1) := hk
  have R1 := Hid.out (p := Hid _) h1
  clear h1 hk
  go_wp2_with fail
  refine (escape_any B b src (p + 1) out w1 R1.out (by omega) (by omega) (by omega)).mono ?_
  rintro e w2 ⟨hk, h2⟩
  have K2 : Hid (Keeps B b w w2) := K1.out.trans hk
  clear hk
  cases hnn : escapeR src (p + 1) out with
  | error k =>
    have HF : Hid (r = .error k) := by rw [Hid, HN.out, hnn]
    rw [hnn] at h2
    simp only [] at h2
    obtain rfl := h2
    clear hnn
    go_wp2_with fail
    exact ⟨rfl, rpost_err HF K2.out⟩
  | ok x =>
    obtain ⟨v, q, o⟩ := x
    have HO : Hid (r = .ok (.bool true, q, o)) := by rw [Hid, HN.out, hnn]
    have hvt : v = .tuple #[] := by
      rw [escapeR] at hnn
      split at hnn
      · cases hnn
      · injection hnn with h1; injection h1 with h1 h3; exact h1.symm
    subst hvt
    rw [hnn] at h2
    simp only [] at h2
    obtain ⟨rfl, hr2⟩ := h2
    have R2 : Hid (Rdr w2 B b src q o) := hr2
    clear hr2 hnn
    go_wp2_with fail
    go_ret
    exact rpost_ok HO K2.out R2.out

set_option maxHeartbeats 2000000 in
theorem part_scal (B b : Nat) (src : ByteArray) (p : Nat) (out : List UInt8) (w : World) (h : Rdr w B b src p out) (hp : p < src.size) (hs : src.size ≤ 1099511627776) (hlen : out.length ≤ p) (T : Sizes w) (hTB : 3 < B) (hv : 128 ≤ src[p].toNat) :
    Calls Tryd.prog 94 #[.pointer (some ⟨b, 0, none⟩)] w (RPost B b src w (partR src p out)) := by
  obtain ⟨r, hr⟩ : ∃ r, r = partR src p out := ⟨_, rfl⟩
  rw [← hr]
  have HP := Hid.out (p := Hid _) h; clear h
  have HT := Hid.out (p := Hid _) T; clear T
  have hb0 : byt (src.data.toList.drop p) 0 = src[p].toNat := by rw [byt_drop src p 0 (by omega)]; rfl
  have hl0 : ¬ (src.data.toList.drop p).length = 0 := by rw [List.length_drop, show src.data.toList.length = src.size by simp]; omega
  have HN : Hid (r = match scalarR src p out with | .error k => .error k | .ok (_, q, o) => .ok (.bool true, q, o)) := by
    rw [Hid, hr, partR, scalarR]; unfold part
    rw [hb0, if_neg hl0, if_neg (by omega), if_neg (by omega), if_neg (by omega), if_neg (by omega)]
    by_cases hz : (one (src.data.toList.drop p)).2 = 0
    · rw [if_pos hz, if_pos hz]
    · rw [if_neg hz, if_neg hz]
  clear hr
  have q34 : ((src[p].toNat : Int) == 34) = false := by rw [beq_eq_false_iff_ne]; omega
  have q92 : ((src[p].toNat : Int) == 92) = false := by rw [beq_eq_false_iff_ne]; omega
  have l32 : decide ((src[p].toNat : Int) < 32) = false := by simp; omega
  have l128 : decide ((src[p].toNat : Int) < 128) = false := by simp; omega
  have hlt8 : src[p].toNat < 256 := UInt8.toNat_lt _
  clear hb0 hl0
  go_enter Tryd.func94, Tryd.ntmps94
  go_wp2_with fail
  refine (next_yes B b src p out w HP.out (by omega) (by omega)).mono ?_
  rintro e w1 ⟨rfl, h1, hk⟩
  have K1 : Hid (Keeps B b w w1) := hk
  have R1 := Hid.out (p := Hid _) h1
  clear h1 hk
  have c11 := R1.out.c1
  have f11 := R1.out.f1
  have hsub : IntKind.i64.wrap (((p + 1 : Nat) : Int) - 1) = (p : Int) := by simp [IntKind.wrap, IntKind.bits, IntKind.signed]; omega
  go_wp2_with fail
  have R2 : Hid (Rdr (w1.setCell ⟨b, 1, none⟩ (.int .i64 p)) B b src p out) := R1.out.setAt p
  have K2 : Hid (Keeps B b w (w1.setCell ⟨b, 1, none⟩ (.int .i64 p))) := K1.out.setCell (p := ⟨b, 1, none⟩) rfl R1.out.hB _
  refine (scalar_any B b src p out _ R2.out (by omega) (by omega) (by omega) (HT.out.keeps K2.out hTB)).mono ?_
  rintro e w3 ⟨hk, h2⟩
  have K3 : Hid (Keeps B b w w3) := K2.out.trans hk
  clear hk
  cases hnn : scalarR src p out with
  | error k =>
    have HF : Hid (r = .error k) := by rw [Hid, HN.out, hnn]
    rw [hnn] at h2
    simp only [] at h2
    obtain rfl := h2
    clear hnn
    go_wp2_with fail
    exact ⟨rfl, rpost_err HF K3.out⟩
  | ok x =>
    obtain ⟨v, q, o⟩ := x
    have HO : Hid (r = .ok (.bool true, q, o)) := by rw [Hid, HN.out, hnn]
    have hvt : v = .tuple #[] := by
      rw [scalarR] at hnn
      split at hnn
      · cases hnn
      · injection hnn with h1; injection h1 with h1 h3; exact h1.symm
    subst hvt
    rw [hnn] at h2
    simp only [] at h2
    obtain ⟨rfl, hr2⟩ := h2
    have R2 : Hid (Rdr w3 B b src q o) := hr2
    clear hr2 hnn
    go_wp2_with fail
    go_ret
    exact rpost_ok HO K3.out R2.out

theorem part_any (B b : Nat) (src : ByteArray) (p : Nat) (out : List UInt8) (w : World) (h : Rdr w B b src p out) (hp : p ≤ src.size) (hs : src.size ≤ 1099511627776) (hlen : out.length ≤ p) (T : Sizes w) (hTB : 3 < B) :
    Calls Tryd.prog 94 #[.pointer (some ⟨b, 0, none⟩)] w (RPost B b src w (partR src p out)) := by
  by_cases h0 : p = src.size
  · exact part_e0 B b src p out w h h0 hs hlen T hTB
  have h1 : p < src.size := by omega
  by_cases c1 : src[p].toNat = 34
  · exact part_mark B b src p out w h h1 hs hlen T hTB c1
  by_cases c2 : src[p].toNat = 92
  · exact part_esc B b src p out w h h1 hs hlen T hTB c2
  by_cases c3 : src[p].toNat < 32
  · exact part_low B b src p out w h h1 hs hlen T hTB c3
  by_cases c4 : src[p].toNat < 128
  · exact part_plain B b src p out w h h1 hs hlen T hTB (by omega) c4 c1 c2
  · exact part_scal B b src p out w h h1 hs hlen T hTB (by omega)
end Go.Proofs.YtbfkgddhpabioaaDoor.Quote
