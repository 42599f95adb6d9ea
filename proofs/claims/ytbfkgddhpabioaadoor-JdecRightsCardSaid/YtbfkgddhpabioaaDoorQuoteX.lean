/- quote.reader: escape. -/
import Derived.Test.YtbfkgddhpabioaaDoorQuoteE
namespace Go.Proofs.YtbfkgddhpabioaaDoor.Quote
open Go.RowKit Go.Proofs.YtbfkgddhpabioaaDoor.Utf
set_option linter.unusedVariables false
set_option linter.unusedSimpArgs false
set_option maxRecDepth 100000

/-- What 'escape' comes to. -/
def escapeR (src : ByteArray) (p : Nat) (out : List UInt8) : Except Nat (Value × Nat × List UInt8) :=
  match escape (src.data.toList.drop p) with
  | .error k => .error k
  | .ok (o, n) => .ok (.tuple #[], p + n, out ++ o)

set_option maxHeartbeats 2000000 in
theorem escape_e0 (B b : Nat) (src : ByteArray) (p : Nat) (out : List UInt8) (w : World) (h : Rdr w B b src p out) (hp : p =  src.size) (hs : src.size ≤ 1099511627776) (hlen : out.length ≤ p)  :
    Calls Tryd.prog 114 #[.pointer (some ⟨b, 0, none⟩)] w (RPost B b src w (escapeR src p out)) := by
  obtain ⟨r, hr⟩ : ∃ r, r = escapeR src p out := ⟨_, rfl⟩
  rw [← hr]
  have HP := Hid.out (p := Hid _) h; clear h
  have HF : Hid (r = .error 2) := by rw [Hid, hr, escapeR]; simp [escape, hp]
  clear hr
  go_enter Tryd.func114, Tryd.ntmps114
  go_wp2_with fail
  refine (next_no B b src p out w HP.out (by omega) (by omega) (by omega)).mono ?_
  rintro e w1 ⟨rfl, hk⟩
  have K1 : Hid (Keeps B b w w1) := hk
  clear hk
  go_wp2_with fail
  exact ⟨rfl, rpost_err HF K1.out⟩

set_option maxHeartbeats 2000000 in
theorem escape_w34 (B b : Nat) (src : ByteArray) (p : Nat) (out : List UInt8) (w : World) (h : Rdr w B b src p out) (hp : p < src.size) (hs : src.size ≤ 1099511627776) (hlen : out.length ≤ p) (hv : src[p].toNat = 34) :
    Calls Tryd.prog 114 #[.pointer (some ⟨b, 0, none⟩)] w (RPost B b src w (escapeR src p out)) := by
  obtain ⟨r, hr⟩ : ∃ r, r = escapeR src p out := ⟨_, rfl⟩
  rw [← hr]
  have HP := Hid.out (p := Hid _) h; clear h
  have hb0 : byt (src.data.toList.drop p) 0 = src[p].toNat := by rw [byt_drop src p 0 (by omega)]; rfl
  have hl0 : ¬ (src.data.toList.drop p).length = 0 := by rw [List.length_drop, show src.data.toList.length = src.size by simp]; omega
  have HO : Hid (r = .ok (.tuple #[], p + 1, out ++ [UInt8.ofNat src[p].toNat])) := by
    rw [Hid, hr, escapeR]
    unfold escape
    rw [hb0, if_neg hl0, if_pos (by omega)]
  clear hr
  have q34 : ((src[p].toNat : Int) == 34) = true := by rw [beq_iff_eq]; omega
  have hlt8 : src[p].toNat < 256 := by omega
  clear hb0 hl0 hv
  go_enter Tryd.func114, Tryd.ntmps114
  go_wp2_with fail
  refine (next_yes B b src p out w HP.out (by omega) (by omega)).mono ?_
  rintro e w1 ⟨rfl, h1, hk⟩
  have K1 : Hid (Keeps B b w w1) := hk
  have R1 := Hid.out (p := Hid _) h1
  clear h1 hk
  go_wp2_with fail
  refine (rWriteByteN B b src (p + 1) out src[p].toNat (by omega) _ R1.out (by omega)).mono ?_
  rintro e w2 ⟨rfl, h2, hk⟩
  have K2 : Hid (Keeps B b w w2) := K1.out.trans hk
  have R2 : Hid (Rdr w2 B b src (p + 1) (out ++ [UInt8.ofNat src[p].toNat])) := h2
  clear h2 hk
  go_wp2_with fail
  go_end0
  exact rpost_ok HO K2.out R2.out

set_option maxHeartbeats 2000000 in
theorem escape_w92 (B b : Nat) (src : ByteArray) (p : Nat) (out : List UInt8) (w : World) (h : Rdr w B b src p out) (hp : p < src.size) (hs : src.size ≤ 1099511627776) (hlen : out.length ≤ p) (hv : src[p].toNat = 92) :
    Calls Tryd.prog 114 #[.pointer (some ⟨b, 0, none⟩)] w (RPost B b src w (escapeR src p out)) := by
  obtain ⟨r, hr⟩ : ∃ r, r = escapeR src p out := ⟨_, rfl⟩
  rw [← hr]
  have HP := Hid.out (p := Hid _) h; clear h
  have hb0 : byt (src.data.toList.drop p) 0 = src[p].toNat := by rw [byt_drop src p 0 (by omega)]; rfl
  have hl0 : ¬ (src.data.toList.drop p).length = 0 := by rw [List.length_drop, show src.data.toList.length = src.size by simp]; omega
  have HO : Hid (r = .ok (.tuple #[], p + 1, out ++ [UInt8.ofNat src[p].toNat])) := by
    rw [Hid, hr, escapeR]
    unfold escape
    rw [hb0, if_neg hl0, if_pos (by omega)]
  clear hr
  have q34 : ((src[p].toNat : Int) == 34) = false := by rw [beq_eq_false_iff_ne]; omega
  have q92 : ((src[p].toNat : Int) == 92) = true := by rw [beq_iff_eq]; omega
  have hlt8 : src[p].toNat < 256 := by omega
  clear hb0 hl0 hv
  go_enter Tryd.func114, Tryd.ntmps114
  go_wp2_with fail
  refine (next_yes B b src p out w HP.out (by omega) (by omega)).mono ?_
  rintro e w1 ⟨rfl, h1, hk⟩
  have K1 : Hid (Keeps B b w w1) := hk
  have R1 := Hid.out (p := Hid _) h1
  clear h1 hk
  go_wp2_with fail
  refine (rWriteByteN B b src (p + 1) out src[p].toNat (by omega) _ R1.out (by omega)).mono ?_
  rintro e w2 ⟨rfl, h2, hk⟩
  have K2 : Hid (Keeps B b w w2) := K1.out.trans hk
  have R2 : Hid (Rdr w2 B b src (p + 1) (out ++ [UInt8.ofNat src[p].toNat])) := h2
  clear h2 hk
  go_wp2_with fail
  go_end0
  exact rpost_ok HO K2.out R2.out

set_option maxHeartbeats 2000000 in
theorem escape_w47 (B b : Nat) (src : ByteArray) (p : Nat) (out : List UInt8) (w : World) (h : Rdr w B b src p out) (hp : p < src.size) (hs : src.size ≤ 1099511627776) (hlen : out.length ≤ p) (hv : src[p].toNat = 47) :
    Calls Tryd.prog 114 #[.pointer (some ⟨b, 0, none⟩)] w (RPost B b src w (escapeR src p out)) := by
  obtain ⟨r, hr⟩ : ∃ r, r = escapeR src p out := ⟨_, rfl⟩
  rw [← hr]
  have HP := Hid.out (p := Hid _) h; clear h
  have hb0 : byt (src.data.toList.drop p) 0 = src[p].toNat := by rw [byt_drop src p 0 (by omega)]; rfl
  have hl0 : ¬ (src.data.toList.drop p).length = 0 := by rw [List.length_drop, show src.data.toList.length = src.size by simp]; omega
  have HO : Hid (r = .ok (.tuple #[], p + 1, out ++ [UInt8.ofNat src[p].toNat])) := by
    rw [Hid, hr, escapeR]
    unfold escape
    rw [hb0, if_neg hl0, if_pos (by omega)]
  clear hr
  have q34 : ((src[p].toNat : Int) == 34) = false := by rw [beq_eq_false_iff_ne]; omega
  have q92 : ((src[p].toNat : Int) == 92) = false := by rw [beq_eq_false_iff_ne]; omega
  have q47 : ((src[p].toNat : Int) == 47) = true := by rw [beq_iff_eq]; omega
  have hlt8 : src[p].toNat < 256 := by omega
  clear hb0 hl0 hv
  go_enter Tryd.func114, Tryd.ntmps114
  go_wp2_with fail
  refine (next_yes B b src p out w HP.out (by omega) (by omega)).mono ?_
  rintro e w1 ⟨rfl, h1, hk⟩
  have K1 : Hid (Keeps B b w w1) := hk
  have R1 := Hid.out (p := Hid _) h1
  clear h1 hk
  go_wp2_with fail
  refine (rWriteByteN B b src (p + 1) out src[p].toNat (by omega) _ R1.out (by omega)).mono ?_
  rintro e w2 ⟨rfl, h2, hk⟩
  have K2 : Hid (Keeps B b w w2) := K1.out.trans hk
  have R2 : Hid (Rdr w2 B b src (p + 1) (out ++ [UInt8.ofNat src[p].toNat])) := h2
  clear h2 hk
  go_wp2_with fail
  go_end0
  exact rpost_ok HO K2.out R2.out

set_option maxHeartbeats 2000000 in
theorem escape_w98 (B b : Nat) (src : ByteArray) (p : Nat) (out : List UInt8) (w : World) (h : Rdr w B b src p out) (hp : p < src.size) (hs : src.size ≤ 1099511627776) (hlen : out.length ≤ p) (hv : src[p].toNat = 98) :
    Calls Tryd.prog 114 #[.pointer (some ⟨b, 0, none⟩)] w (RPost B b src w (escapeR src p out)) := by
  obtain ⟨r, hr⟩ : ∃ r, r = escapeR src p out := ⟨_, rfl⟩
  rw [← hr]
  have HP := Hid.out (p := Hid _) h; clear h
  have hb0 : byt (src.data.toList.drop p) 0 = src[p].toNat := by rw [byt_drop src p 0 (by omega)]; rfl
  have hl0 : ¬ (src.data.toList.drop p).length = 0 := by rw [List.length_drop, show src.data.toList.length = src.size by simp]; omega
  have HO : Hid (r = .ok (.tuple #[], p + 1, out ++ [UInt8.ofNat 8])) := by
    rw [Hid, hr, escapeR]
    unfold escape
    rw [hb0, if_neg hl0]
    simp [hv]
  clear hr
  obtain ⟨v, hvv⟩ : ∃ v : Nat, v = 8 := ⟨_, rfl⟩
  have q34 : ((src[p].toNat : Int) == 34) = false := by rw [beq_eq_false_iff_ne]; omega
  have q92 : ((src[p].toNat : Int) == 92) = false := by rw [beq_eq_false_iff_ne]; omega
  have q47 : ((src[p].toNat : Int) == 47) = false := by rw [beq_eq_false_iff_ne]; omega
  have q98 : ((src[p].toNat : Int) == 98) = true := by rw [beq_iff_eq]; omega
  clear hb0 hl0
  go_enter Tryd.func114, Tryd.ntmps114
  go_wp2_with fail
  refine (next_yes B b src p out w HP.out (by omega) (by omega)).mono ?_
  rintro e w1 ⟨rfl, h1, hk⟩
  have K1 : Hid (Keeps B b w w1) := hk
  have R1 := Hid.out (p := Hid _) h1
  clear h1 hk
  go_wp2_with fail
  refine (rWriteByteN B b src (p + 1) out 8 (by omega) _ R1.out (by omega)).mono ?_
  rintro e w2 ⟨rfl, h2, hk⟩
  have K2 : Hid (Keeps B b w w2) := K1.out.trans hk
  have R2 : Hid (Rdr w2 B b src (p + 1) (out ++ [UInt8.ofNat 8])) := h2
  clear h2 hk
  go_wp2_with fail
  go_end0
  exact rpost_ok HO K2.out R2.out

set_option maxHeartbeats 2000000 in
theorem escape_w102 (B b : Nat) (src : ByteArray) (p : Nat) (out : List UInt8) (w : World) (h : Rdr w B b src p out) (hp : p < src.size) (hs : src.size ≤ 1099511627776) (hlen : out.length ≤ p) (hv : src[p].toNat = 102) :
    Calls Tryd.prog 114 #[.pointer (some ⟨b, 0, none⟩)] w (RPost B b src w (escapeR src p out)) := by
  obtain ⟨r, hr⟩ : ∃ r, r = escapeR src p out := ⟨_, rfl⟩
  rw [← hr]
  have HP := Hid.out (p := Hid _) h; clear h
  have hb0 : byt (src.data.toList.drop p) 0 = src[p].toNat := by rw [byt_drop src p 0 (by omega)]; rfl
  have hl0 : ¬ (src.data.toList.drop p).length = 0 := by rw [List.length_drop, show src.data.toList.length = src.size by simp]; omega
  have HO : Hid (r = .ok (.tuple #[], p + 1, out ++ [UInt8.ofNat 12])) := by
    rw [Hid, hr, escapeR]
    unfold escape
    rw [hb0, if_neg hl0]
    simp [hv]
  clear hr
  obtain ⟨v, hvv⟩ : ∃ v : Nat, v = 12 := ⟨_, rfl⟩
  have q34 : ((src[p].toNat : Int) == 34) = false := by rw [beq_eq_false_iff_ne]; omega
  have q92 : ((src[p].toNat : Int) == 92) = false := by rw [beq_eq_false_iff_ne]; omega
  have q47 : ((src[p].toNat : Int) == 47) = false := by rw [beq_eq_false_iff_ne]; omega
  have q98 : ((src[p].toNat : Int) == 98) = false := by rw [beq_eq_false_iff_ne]; omega
  have q102 : ((src[p].toNat : Int) == 102) = true := by rw [beq_iff_eq]; omega
  clear hb0 hl0
  go_enter Tryd.func114, Tryd.ntmps114
  go_wp2_with fail
  refine (next_yes B b src p out w HP.out (by omega) (by omega)).mono ?_
  rintro e w1 ⟨rfl, h1, hk⟩
  have K1 : Hid (Keeps B b w w1) := hk
  have R1 := Hid.out (p := Hid _) h1
  clear h1 hk
  go_wp2_with fail
  refine (rWriteByteN B b src (p + 1) out 12 (by omega) _ R1.out (by omega)).mono ?_
  rintro e w2 ⟨rfl, h2, hk⟩
  have K2 : Hid (Keeps B b w w2) := K1.out.trans hk
  have R2 : Hid (Rdr w2 B b src (p + 1) (out ++ [UInt8.ofNat 12])) := h2
  clear h2 hk
  go_wp2_with fail
  go_end0
  exact rpost_ok HO K2.out R2.out

set_option maxHeartbeats 2000000 in
theorem escape_w110 (B b : Nat) (src : ByteArray) (p : Nat) (out : List UInt8) (w : World) (h : Rdr w B b src p out) (hp : p < src.size) (hs : src.size ≤ 1099511627776) (hlen : out.length ≤ p) (hv : src[p].toNat = 110) :
    Calls Tryd.prog 114 #[.pointer (some ⟨b, 0, none⟩)] w (RPost B b src w (escapeR src p out)) := by
  obtain ⟨r, hr⟩ : ∃ r, r = escapeR src p out := ⟨_, rfl⟩
  rw [← hr]
  have HP := Hid.out (p := Hid _) h; clear h
  have hb0 : byt (src.data.toList.drop p) 0 = src[p].toNat := by rw [byt_drop src p 0 (by omega)]; rfl
  have hl0 : ¬ (src.data.toList.drop p).length = 0 := by rw [List.length_drop, show src.data.toList.length = src.size by simp]; omega
  have HO : Hid (r = .ok (.tuple #[], p + 1, out ++ [UInt8.ofNat 10])) := by
    rw [Hid, hr, escapeR]
    unfold escape
    rw [hb0, if_neg hl0]
    simp [hv]
  clear hr
  obtain ⟨v, hvv⟩ : ∃ v : Nat, v = 10 := ⟨_, rfl⟩
  have q34 : ((src[p].toNat : Int) == 34) = false := by rw [beq_eq_false_iff_ne]; omega
  have q92 : ((src[p].toNat : Int) == 92) = false := by rw [beq_eq_false_iff_ne]; omega
  have q47 : ((src[p].toNat : Int) == 47) = false := by rw [beq_eq_false_iff_ne]; omega
  have q98 : ((src[p].toNat : Int) == 98) = false := by rw [beq_eq_false_iff_ne]; omega
  have q102 : ((src[p].toNat : Int) == 102) = false := by rw [beq_eq_false_iff_ne]; omega
  have q110 : ((src[p].toNat : Int) == 110) = true := by rw [beq_iff_eq]; omega
  clear hb0 hl0
  go_enter Tryd.func114, Tryd.ntmps114
  go_wp2_with fail
  refine (next_yes B b src p out w HP.out (by omega) (by omega)).mono ?_
  rintro e w1 ⟨rfl, h1, hk⟩
  have K1 : Hid (Keeps B b w w1) := hk
  have R1 := Hid.out (p := Hid _) h1
  clear h1 hk
  go_wp2_with fail
  refine (rWriteByteN B b src (p + 1) out 10 (by omega) _ R1.out (by omega)).mono ?_
  rintro e w2 ⟨rfl, h2, hk⟩
  have K2 : Hid (Keeps B b w w2) := K1.out.trans hk
  have R2 : Hid (Rdr w2 B b src (p + 1) (out ++ [UInt8.ofNat 10])) := h2
  clear h2 hk
  go_wp2_with fail
  go_end0
  exact rpost_ok HO K2.out R2.out

set_option maxHeartbeats 2000000 in
theorem escape_w114 (B b : Nat) (src : ByteArray) (p : Nat) (out : List UInt8) (w : World) (h : Rdr w B b src p out) (hp : p < src.size) (hs : src.size ≤ 1099511627776) (hlen : out.length ≤ p) (hv : src[p].toNat = 114) :
    Calls Tryd.prog 114 #[.pointer (some ⟨b, 0, none⟩)] w (RPost B b src w (escapeR src p out)) := by
  obtain ⟨r, hr⟩ : ∃ r, r = escapeR src p out := ⟨_, rfl⟩
  rw [← hr]
  have HP := Hid.out (p := Hid _) h; clear h
  have hb0 : byt (src.data.toList.drop p) 0 = src[p].toNat := by rw [byt_drop src p 0 (by omega)]; rfl
  have hl0 : ¬ (src.data.toList.drop p).length = 0 := by rw [List.length_drop, show src.data.toList.length = src.size by simp]; omega
  have HO : Hid (r = .ok (.tuple #[], p + 1, out ++ [UInt8.ofNat 13])) := by
    rw [Hid, hr, escapeR]
    unfold escape
    rw [hb0, if_neg hl0]
    simp [hv]
  clear hr
  obtain ⟨v, hvv⟩ : ∃ v : Nat, v = 13 := ⟨_, rfl⟩
  have q34 : ((src[p].toNat : Int) == 34) = false := by rw [beq_eq_false_iff_ne]; omega
  have q92 : ((src[p].toNat : Int) == 92) = false := by rw [beq_eq_false_iff_ne]; omega
  have q47 : ((src[p].toNat : Int) == 47) = false := by rw [beq_eq_false_iff_ne]; omega
  have q98 : ((src[p].toNat : Int) == 98) = false := by rw [beq_eq_false_iff_ne]; omega
  have q102 : ((src[p].toNat : Int) == 102) = false := by rw [beq_eq_false_iff_ne]; omega
  have q110 : ((src[p].toNat : Int) == 110) = false := by rw [beq_eq_false_iff_ne]; omega
  have q114 : ((src[p].toNat : Int) == 114) = true := by rw [beq_iff_eq]; omega
  clear hb0 hl0
  go_enter Tryd.func114, Tryd.ntmps114
  go_wp2_with fail
  refine (next_yes B b src p out w HP.out (by omega) (by omega)).mono ?_
  rintro e w1 ⟨rfl, h1, hk⟩
  have K1 : Hid (Keeps B b w w1) := hk
  have R1 := Hid.out (p := Hid _) h1
  clear h1 hk
  go_wp2_with fail
  refine (rWriteByteN B b src (p + 1) out 13 (by omega) _ R1.out (by omega)).mono ?_
  rintro e w2 ⟨rfl, h2, hk⟩
  have K2 : Hid (Keeps B b w w2) := K1.out.trans hk
  have R2 : Hid (Rdr w2 B b src (p + 1) (out ++ [UInt8.ofNat 13])) := h2
  clear h2 hk
  go_wp2_with fail
  go_end0
  exact rpost_ok HO K2.out R2.out

set_option maxHeartbeats 2000000 in
theorem escape_w116 (B b : Nat) (src : ByteArray) (p : Nat) (out : List UInt8) (w : World) (h : Rdr w B b src p out) (hp : p < src.size) (hs : src.size ≤ 1099511627776) (hlen : out.length ≤ p) (hv : src[p].toNat = 116) :
    Calls Tryd.prog 114 #[.pointer (some ⟨b, 0, none⟩)] w (RPost B b src w (escapeR src p out)) := by
  obtain ⟨r, hr⟩ : ∃ r, r = escapeR src p out := ⟨_, rfl⟩
  rw [← hr]
  have HP := Hid.out (p := Hid _) h; clear h
  have hb0 : byt (src.data.toList.drop p) 0 = src[p].toNat := by rw [byt_drop src p 0 (by omega)]; rfl
  have hl0 : ¬ (src.data.toList.drop p).length = 0 := by rw [List.length_drop, show src.data.toList.length = src.size by simp]; omega
  have HO : Hid (r = .ok (.tuple #[], p + 1, out ++ [UInt8.ofNat 9])) := by
    rw [Hid, hr, escapeR]
    unfold escape
    rw [hb0, if_neg hl0]
    simp [hv]
  clear hr
  obtain ⟨v, hvv⟩ : ∃ v : Nat, v = 9 := ⟨_, rfl⟩
  have q34 : ((src[p].toNat : Int) == 34) = false := by rw [beq_eq_false_iff_ne]; omega
  have q92 : ((src[p].toNat : Int) == 92) = false := by rw [beq_eq_false_iff_ne]; omega
  have q47 : ((src[p].toNat : Int) == 47) = false := by rw [beq_eq_false_iff_ne]; omega
  have q98 : ((src[p].toNat : Int) == 98) = false := by rw [beq_eq_false_iff_ne]; omega
  have q102 : ((src[p].toNat : Int) == 102) = false := by rw [beq_eq_false_iff_ne]; omega
  have q110 : ((src[p].toNat : Int) == 110) = false := by rw [beq_eq_false_iff_ne]; omega
  have q114 : ((src[p].toNat : Int) == 114) = false := by rw [beq_eq_false_iff_ne]; omega
  have q116 : ((src[p].toNat : Int) == 116) = true := by rw [beq_iff_eq]; omega
  clear hb0 hl0
  go_enter Tryd.func114, Tryd.ntmps114
  go_wp2_with fail
  refine (next_yes B b src p out w HP.out (by omega) (by omega)).mono ?_
  rintro e w1 ⟨rfl, h1, hk⟩
  have K1 : Hid (Keeps B b w w1) := hk
  have R1 := Hid.out (p := Hid _) h1
  clear h1 hk
  go_wp2_with fail
  refine (rWriteByteN B b src (p + 1) out 9 (by omega) _ R1.out (by omega)).mono ?_
  rintro e w2 ⟨rfl, h2, hk⟩
  have K2 : Hid (Keeps B b w w2) := K1.out.trans hk
  have R2 : Hid (Rdr w2 B b src (p + 1) (out ++ [UInt8.ofNat 9])) := h2
  clear h2 hk
  go_wp2_with fail
  go_end0
  exact rpost_ok HO K2.out R2.out

set_option maxHeartbeats 2000000 in
theorem escape_u (B b : Nat) (src : ByteArray) (p : Nat) (out : List UInt8) (w : World) (h : Rdr w B b src p out) (hp : p < src.size) (hs : src.size ≤ 1099511627776) (hlen : out.length ≤ p) (hv : src[p].toNat = 117) :
    Calls Tryd.prog 114 #[.pointer (some ⟨b, 0, none⟩)] w (RPost B b src w (escapeR src p out)) := by
  obtain ⟨r, hr⟩ : ∃ r, r = escapeR src p out := ⟨_, rfl⟩
  rw [← hr]
  have HP := Hid.out (p := Hid _) h; clear h
  have hb0 : byt (src.data.toList.drop p) 0 = src[p].toNat := by rw [byt_drop src p 0 (by omega)]; rfl
  have hl0 : ¬ (src.data.toList.drop p).length = 0 := by rw [List.length_drop, show src.data.toList.length = src.size by simp]; omega
  have hn : numberR src (p + 1) out = escapeR src p out := by
    rw [numberR, escapeR]
    unfold escape
    rw [hb0, if_neg hl0]
    simp only [hv, List.drop_drop]
    simp
    cases number (List.drop (p + 1) src.data.toList) with
    | error k => rfl
    | ok x => obtain ⟨o, n⟩ := x; simp; omega
  have HN : Hid (r = numberR src (p + 1) out) := by rw [Hid, hr, hn]
  clear hr hn
  have q34 : ((src[p].toNat : Int) == 34) = false := by rw [beq_eq_false_iff_ne]; omega
  have q92 : ((src[p].toNat : Int) == 92) = false := by rw [beq_eq_false_iff_ne]; omega
  have q47 : ((src[p].toNat : Int) == 47) = false := by rw [beq_eq_false_iff_ne]; omega
  have q98 : ((src[p].toNat : Int) == 98) = false := by rw [beq_eq_false_iff_ne]; omega
  have q102 : ((src[p].toNat : Int) == 102) = false := by rw [beq_eq_false_iff_ne]; omega
  have q110 : ((src[p].toNat : Int) == 110) = false := by rw [beq_eq_false_iff_ne]; omega
  have q114 : ((src[p].toNat : Int) == 114) = false := by rw [beq_eq_false_iff_ne]; omega
  have q116 : ((src[p].toNat : Int) == 116) = false := by rw [beq_eq_false_iff_ne]; omega
  have q117 : ((src[p].toNat : Int) == 117) = true := by rw [beq_iff_eq]; omega
  clear hb0 hl0
  go_enter Tryd.func114, Tryd.ntmps114
  go_wp2_with fail
  refine (next_yes B b src p out w HP.out (by omega) (by omega)).mono ?_
  rintro e w1 ⟨rfl, h1, hk⟩
  have K1 : Hid (Keeps B b w w1) := hk
  have R1 := Hid.out (p := Hid _) h1
  clear h1 hk
  go_wp2_with fail
  refine (number_any B b src (p + 1) out w1 R1.out (by omega) (by omega) (by omega)).mono ?_
  rintro e w2 ⟨hk, h2⟩
  have K2 : Hid (Keeps B b w w2) := K1.out.trans hk
  clear hk
  cases hnn : numberR src (p + 1) out with
  | error k =>
    have HF : Hid (r = .error k) := by rw [Hid, HN.out, hnn]
    rw [hnn] at h2
    simp only [] at h2
    obtain rfl := h2
    clear hnn
    go_wp2_with fail
    exact ⟨rfl, rpost_err HF K2.out⟩
  | ok x =>
    obtain ⟨v, q, o⟩ := x
    have HO : Hid (r = .ok (v, q, o)) := by rw [Hid, HN.out, hnn]
    have hvt : v = .tuple #[] := by
      rw [numberR] at hnn
      split at hnn
      · cases hnn
      · injection hnn with h1; injection h1 with h1 h3; exact h1.symm
    subst hvt
    rw [hnn] at h2
    simp only [] at h2
    obtain ⟨rfl, hr2⟩ := h2
    have R2 : Hid (Rdr w2 B b src q o) := hr2
    clear hr2 hnn
    go_wp2_with fail
    go_end0
    exact rpost_ok HO K2.out R2.out

set_option maxHeartbeats 2000000 in
theorem escape_x (B b : Nat) (src : ByteArray) (p : Nat) (out : List UInt8) (w : World) (h : Rdr w B b src p out) (hp : p < src.size) (hs : src.size ≤ 1099511627776) (hlen : out.length ≤ p) (hv : src[p].toNat ≠ 34 ∧ src[p].toNat ≠ 92 ∧ src[p].toNat ≠ 47 ∧ src[p].toNat ≠ 98 ∧ src[p].toNat ≠ 102 ∧ src[p].toNat ≠ 110 ∧ src[p].toNat ≠ 114 ∧ src[p].toNat ≠ 116 ∧ src[p].toNat ≠ 117) :
    Calls Tryd.prog 114 #[.pointer (some ⟨b, 0, none⟩)] w (RPost B b src w (escapeR src p out)) := by
  obtain ⟨r, hr⟩ : ∃ r, r = escapeR src p out := ⟨_, rfl⟩
  rw [← hr]
  have HP := Hid.out (p := Hid _) h; clear h
  have hb0 : byt (src.data.toList.drop p) 0 = src[p].toNat := by rw [byt_drop src p 0 (by omega)]; rfl
  have hl0 : ¬ (src.data.toList.drop p).length = 0 := by rw [List.length_drop, show src.data.toList.length = src.size by simp]; omega
  have HF : Hid (r = .error 3) := by
    rw [Hid, hr, escapeR]
    unfold escape
    rw [hb0, if_neg hl0]
    simp [hv]
  clear hr
  have q34 : ((src[p].toNat : Int) == 34) = false := by rw [beq_eq_false_iff_ne]; omega
  have q92 : ((src[p].toNat : Int) == 92) = false := by rw [beq_eq_false_iff_ne]; omega
  have q47 : ((src[p].toNat : Int) == 47) = false := by rw [beq_eq_false_iff_ne]; omega
  have q98 : ((src[p].toNat : Int) == 98) = false := by rw [beq_eq_false_iff_ne]; omega
  have q102 : ((src[p].toNat : Int) == 102) = false := by rw [beq_eq_false_iff_ne]; omega
  have q110 : ((src[p].toNat : Int) == 110) = false := by rw [beq_eq_false_iff_ne]; omega
  have q114 : ((src[p].toNat : Int) == 114) = false := by rw [beq_eq_false_iff_ne]; omega
  have q116 : ((src[p].toNat : Int) == 116) = false := by rw [beq_eq_false_iff_ne]; omega
  have q117 : ((src[p].toNat : Int) == 117) = false := by rw [beq_eq_false_iff_ne]; omega
  clear hb0 hl0
  go_enter Tryd.func114, Tryd.ntmps114
  go_wp2_with fail
  refine (next_yes B b src p out w HP.out (by omega) (by omega)).mono ?_
  rintro e w1 ⟨rfl, h1, hk⟩
  have K1 : Hid (Keeps B b w w1) := hk
  have R1 := Hid.out (p := Hid _) h1
  clear h1 hk
  go_wp2_with fail
  refine (fail_any 3 _).mono ?_
  rintro e w' ⟨rfl, rfl⟩
  go_wp2_with fail
  exact ⟨rfl, rpost_err HF K1.out⟩

theorem escape_any (B b : Nat) (src : ByteArray) (p : Nat) (out : List UInt8) (w : World) (h : Rdr w B b src p out) (hp : p ≤ src.size) (hs : src.size ≤ 1099511627776) (hlen : out.length ≤ p) :
    Calls Tryd.prog 114 #[.pointer (some ⟨b, 0, none⟩)] w (RPost B b src w (escapeR src p out)) := by
  by_cases h0 : p = src.size
  · exact escape_e0 B b src p out w h h0 hs hlen
  have h1 : p < src.size := by omega
  by_cases c34 : src[p].toNat = 34
  · exact escape_w34 B b src p out w h h1 hs hlen c34
  by_cases c92 : src[p].toNat = 92
  · exact escape_w92 B b src p out w h h1 hs hlen c92
  by_cases c47 : src[p].toNat = 47
  · exact escape_w47 B b src p out w h h1 hs hlen c47
  by_cases c98 : src[p].toNat = 98
  · exact escape_w98 B b src p out w h h1 hs hlen c98
  by_cases c102 : src[p].toNat = 102
  · exact escape_w102 B b src p out w h h1 hs hlen c102
  by_cases c110 : src[p].toNat = 110
  · exact escape_w110 B b src p out w h h1 hs hlen c110
  by_cases c114 : src[p].toNat = 114
  · exact escape_w114 B b src p out w h h1 hs hlen c114
  by_cases c116 : src[p].toNat = 116
  · exact escape_w116 B b src p out w h h1 hs hlen c116
  by_cases c117 : src[p].toNat = 117
  · exact escape_u B b src p out w h h1 hs hlen c117
  exact escape_x B b src p out w h h1 hs hlen ⟨c34, c92, c47, c98, c102, c110, c114, c116, c117⟩
end Go.Proofs.YtbfkgddhpabioaaDoor.Quote
