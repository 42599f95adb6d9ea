/- quote.reader: number and escape. -/
import Derived.Test.YtbfkgddhpabioaaDoorQuoteF
namespace Go.Proofs.YtbfkgddhpabioaaDoor.Quote
open Go.RowKit Go.Proofs.YtbfkgddhpabioaaDoor.Utf
set_option linter.unusedVariables false
set_option linter.unusedSimpArgs false
set_option maxRecDepth 100000

theorem Rdr.wrote {w w' : World} {B b : Nat} {src : ByteArray} {p : Nat} {out' : List UInt8} {cs : Array Value} (hs : cs.size = 4) (h0 : cs[0]? = some (.string src)) (h1 : cs[1]? = some (.int .i64 p))
    (hw : Wrote w B b 2 110 cs out' w') : Rdr w' B b src p out' ∧ Keeps B b w w' := by
  obtain ⟨cs', hb, _, hbe, hk⟩ := hw
  exact ⟨⟨cs', hb, hbe.1.trans hs, (hbe.2 0 (by omega) (by omega)).trans h0, (hbe.2 1 (by omega) (by omega)).trans h1⟩, hk⟩
theorem rWriteString (B b : Nat) (src : ByteArray) (p : Nat) (out : List UInt8) (s : ByteArray) (w : World) (h : Rdr w B b src p out) (hlen : out.length + s.size ≤ 140737488355328) :
    Calls Tryd.prog 130 #[.pointer (some ⟨b, 2, none⟩), .string s] w fun e w' => e = .returned (.tuple #[.int .i64 s.size, .nilIface]) ∧ Rdr w' B b src p (out ++ s.data.toList) ∧ Keeps B b w w' := by
  obtain ⟨cs, hb, hs, h0, h1⟩ := h.it
  refine (writeString_any B b 2 _ cs out s w hb hlen (by have := h.hB; have := h.lt; omega)).mono ?_
  rintro e w' ⟨rfl, hw⟩
  exact ⟨rfl, Rdr.wrote hs h0 h1 hw⟩
theorem rWriteByte (B b : Nat) (src : ByteArray) (p : Nat) (out : List UInt8) (c : UInt8) (w : World) (h : Rdr w B b src p out) (hlen : out.length + 1 ≤ 140737488355328) :
    Calls Tryd.prog 115 #[.pointer (some ⟨b, 2, none⟩), .int .u8 c.toNat] w fun e w' => e = .returned .nilIface ∧ Rdr w' B b src p (out ++ [c]) ∧ Keeps B b w w' := by
  obtain ⟨cs, hb, hs, h0, h1⟩ := h.it
  refine (writeByte_any B b 2 _ cs out c w hb hlen (by have := h.hB; have := h.lt; omega)).mono ?_
  rintro e w' ⟨rfl, hw⟩
  exact ⟨rfl, Rdr.wrote hs h0 h1 hw⟩
/-- A byte that is given as a number. -/
theorem rWriteByteN (B b : Nat) (src : ByteArray) (p : Nat) (out : List UInt8) (n : Nat) (hn : n < 256) (w : World) (h : Rdr w B b src p out) (hlen : out.length + 1 ≤ 140737488355328) :
    Calls Tryd.prog 115 #[.pointer (some ⟨b, 2, none⟩), .int .u8 n] w fun e w' => e = .returned .nilIface ∧ Rdr w' B b src p (out ++ [UInt8.ofNat n]) ∧ Keeps B b w w' := by
  have := rWriteByte B b src p out (UInt8.ofNat n) w h hlen
  rwa [ofNat_u8 n hn] at this

theorem four_yes (B b : Nat) (src : ByteArray) (p n : Nat) (out : List UInt8) (w : World) (h : Rdr w B b src p out) (hp : p ≤ src.size) (hs : src.size ≤ 1152921504606846976) (hf : four 4 0 (src.data.toList.drop p) = .ok n) :
    Calls Tryd.prog 137 #[.pointer (some ⟨b, 0, none⟩)] w fun e w' => e = .returned (.int .i64 n) ∧ Rdr w' B b src (p + 4) out ∧ Keeps B b w w' := by
  refine (four_any B b src p out w h hp hs).mono ?_
  intro e w' hr
  rw [fourR, hf] at hr
  exact ⟨hr.2.1, hr.2.2, hr.1⟩
theorem four_no (B b : Nat) (src : ByteArray) (p k : Nat) (out : List UInt8) (w : World) (h : Rdr w B b src p out) (hp : p ≤ src.size) (hs : src.size ≤ 1152921504606846976) (hf : four 4 0 (src.data.toList.drop p) = .error k) :
    Calls Tryd.prog 137 #[.pointer (some ⟨b, 0, none⟩)] w fun e w' => e = .panicked (thrown k) ∧ Keeps B b w w' := by
  refine (four_any B b src p out w h hp hs).mono ?_
  intro e w' hr
  rw [fourR, hf] at hr
  exact ⟨hr.2, hr.1⟩
theorem next_yes (B b : Nat) (src : ByteArray) (p : Nat) (out : List UInt8) (w : World) (h : Rdr w B b src p out) (hp : p < src.size) (hs : src.size ≤ 4611686018427387904) :
    Calls Tryd.prog 92 #[.pointer (some ⟨b, 0, none⟩)] w fun e w' => e = .returned (.int .u8 src[p].toNat) ∧ Rdr w' B b src (p + 1) out ∧ Keeps B b w w' :=
  (next_ok B b src p out w h hp hs).mono fun e w' hr => ⟨hr.2.1, hr.2.2, hr.1⟩
theorem next_no (B b : Nat) (src : ByteArray) (p : Nat) (out : List UInt8) (w : World) (h : Rdr w B b src p out) (hp : src.size ≤ p) (hp2 : p ≤ 4611686018427387904) (hs : src.size ≤ 4611686018427387904) :
    Calls Tryd.prog 92 #[.pointer (some ⟨b, 0, none⟩)] w fun e w' => e = .panicked (thrown 2) ∧ Keeps B b w w' :=
  (next_end B b src p out w h hp hp2 hs).mono fun e w' hr => ⟨hr.2, hr.1⟩

/-- What 'number' comes to. -/
def numberR (src : ByteArray) (p : Nat) (out : List UInt8) : Except Nat (Value × Nat × List UInt8) :=
  match number (src.data.toList.drop p) with
  | .error k => .error k
  | .ok (o, n) => .ok (.tuple #[], p + n, out ++ o)
theorem rpost_err {B b : Nat} {src : ByteArray} {w w' : World} {r : Except Nat (Value × Nat × List UInt8)} {k : Nat} (h : Hid (r = .error k)) (hk : Keeps B b w w') : RPost B b src w r (.panicked (thrown k)) w' := by
  rw [h.out]; exact ⟨hk, rfl⟩
theorem rpost_ok {B b : Nat} {src : ByteArray} {w w' : World} {r : Except Nat (Value × Nat × List UInt8)} {v : Value} {p : Nat} {out : List UInt8} (h : Hid (r = .ok (v, p, out))) (hk : Keeps B b w w') (hr : Rdr w' B b src p out) : RPost B b src w r (.returned v) w' := by
  rw [h.out]; exact ⟨hk, rfl, hr⟩

theorem number_e1 (B b : Nat) (src : ByteArray) (p : Nat) (out : List UInt8) (w : World) (h : Rdr w B b src p out) (hp : p ≤ src.size) (hs : src.size ≤ 1099511627776) (hlen : out.length ≤ p) (k : Nat) (h4 : four 4 0 (src.data.toList.drop p) = .error k) :
    Calls Tryd.prog 127 #[.pointer (some ⟨b, 0, none⟩)] w (RPost B b src w (numberR src p out)) := by
  obtain ⟨r, hr⟩ : ∃ r, r = numberR src p out := ⟨_, rfl⟩
  rw [← hr]
  have HP := Hid.out (p := Hid _) h; clear h
  have HF : Hid (r = .error k) := by rw [Hid, hr, numberR]; simp [number, h4]
  clear hr
  have H4 := Hid.out (p := Hid _) h4; clear h4
  go_enter Tryd.func127, Tryd.ntmps127
  go_wp2_with fail
  refine (four_no B b src p k out w HP.out hp (by omega) H4.out).mono ?_
  rintro e w1 ⟨rfl, hk⟩
  have K1 : Hid (Keeps B b w w1) := hk
  clear hk
  go_wp2_with fail
  exact ⟨rfl, rpost_err HF K1.out⟩

theorem number_e2 (B b : Nat) (src : ByteArray) (p : Nat) (out : List UInt8) (w : World) (h : Rdr w B b src p out) (hp : p ≤ src.size) (hs : src.size ≤ 1099511627776) (hlen : out.length ≤ p) (c : Nat) (h4 : four 4 0 (src.data.toList.drop p) = .ok c) (h1 : 56320 ≤ c) (h2 : c ≤ 57343) :
    Calls Tryd.prog 127 #[.pointer (some ⟨b, 0, none⟩)] w (RPost B b src w (numberR src p out)) := by
  obtain ⟨r, hr⟩ : ∃ r, r = numberR src p out := ⟨_, rfl⟩
  rw [← hr]
  have HP := Hid.out (p := Hid _) h; clear h
  have hc := four_lt _ _ _ _ h4
  have hl4 := four_len _ _ _ _ h4
  rw [List.length_drop] at hl4
  have hsz : p + 4 ≤ src.size := by simp at hl4; omega
  clear hl4
  have HF : Hid (r = .error 3) := by rw [Hid, hr, numberR]; simp [number, h4, h1, h2]
  clear hr
  have d1 : decide (56320 ≤ (c : Int)) = true := by simp; omega
  have d2 : decide ((c : Int) ≤ 57343) = true := by simp; omega
  have H4 := Hid.out (p := Hid _) h4; clear h4
  go_enter Tryd.func127, Tryd.ntmps127
  go_wp2_with fail
  refine (four_yes B b src p c out w HP.out hp (by omega) H4.out).mono ?_
  rintro e w1 ⟨rfl, h1, hk⟩
  have K1 : Hid (Keeps B b w w1) := hk
  have R1 := Hid.out (p := Hid _) h1
  clear h1 hk
  go_wp2_with fail
  refine (fail_any 3 _).mono ?_
  rintro e w' ⟨rfl, rfl⟩
  go_wp2_with fail
  exact ⟨rfl, rpost_err HF K1.out⟩

theorem number_p1 (B b : Nat) (src : ByteArray) (p : Nat) (out : List UInt8) (w : World) (h : Rdr w B b src p out) (hp : p ≤ src.size) (hs : src.size ≤ 1099511627776) (hlen : out.length ≤ p) (c : Nat) (h4 : four 4 0 (src.data.toList.drop p) = .ok c) (h1 : c < 55296) :
    Calls Tryd.prog 127 #[.pointer (some ⟨b, 0, none⟩)] w (RPost B b src w (numberR src p out)) := by
  obtain ⟨r, hr⟩ : ∃ r, r = numberR src p out := ⟨_, rfl⟩
  rw [← hr]
  have HP := Hid.out (p := Hid _) h; clear h
  have hc := four_lt _ _ _ _ h4
  have hl4 := four_len _ _ _ _ h4
  rw [List.length_drop] at hl4
  have hsz : p + 4 ≤ src.size := by simp at hl4; omega
  clear hl4
  have HO : Hid (r = .ok (.tuple #[], p + 4, out ++ put c)) := by
    rw [Hid, hr, numberR]
    unfold number
    rw [h4]
    simp only []
    rw [if_neg (by omega), if_neg (by omega)]
  clear hr
  have d0 : decide (56320 ≤ (c : Int)) = false := by simp; omega
  have d1 : decide (55296 ≤ (c : Int)) = false := by simp; omega
  have hsc : scalarB c = true := by simp [scalarB]; omega
  have HS := Hid.out (p := Hid _) hsc; clear hsc
  have hpl := put_length c
  have H4 := Hid.out (p := Hid _) h4; clear h4
  go_enter Tryd.func127, Tryd.ntmps127
  go_wp2_with fail
  refine (four_yes B b src p c out w HP.out hp (by omega) H4.out).mono ?_
  rintro e w1 ⟨rfl, h1, hk⟩
  have K1 : Hid (Keeps B b w w1) := hk
  have R1 := Hid.out (p := Hid _) h1
  clear h1 hk
  go_wp2_with fail
  refine (put_any c _ HS.out).mono ?_
  rintro e w2 ⟨rfl, hb⟩
  have R2 : Hid (Rdr w2 B b src (p + 4) out) := R1.out.stays hb
  have K2 : Hid (Keeps B b w w2) := K1.out.trans (Keeps.of_below hb (by have := R1.out.hB; have := R1.out.lt; omega))
  clear hb
  go_wp2_with fail
  refine (rWriteString B b src (p + 4) out ⟨(put c).toArray⟩ w2 R2.out (by show out.length + (put c).toArray.size ≤ _; simp only [List.size_toArray]; omega)).mono ?_
  rintro e w3 ⟨rfl, h3, hk⟩
  have K3 : Hid (Keeps B b w w3) := K2.out.trans hk
  have R3 : Hid (Rdr w3 B b src (p + 4) (out ++ put c)) := h3
  clear h3 hk
  go_wp2_with fail
  go_end0
  exact rpost_ok HO K3.out R3.out

theorem number_p2 (B b : Nat) (src : ByteArray) (p : Nat) (out : List UInt8) (w : World) (h : Rdr w B b src p out) (hp : p ≤ src.size) (hs : src.size ≤ 1099511627776) (hlen : out.length ≤ p) (c : Nat) (h4 : four 4 0 (src.data.toList.drop p) = .ok c) (h1 : 57343 < c) :
    Calls Tryd.prog 127 #[.pointer (some ⟨b, 0, none⟩)] w (RPost B b src w (numberR src p out)) := by
  obtain ⟨r, hr⟩ : ∃ r, r = numberR src p out := ⟨_, rfl⟩
  rw [← hr]
  have HP := Hid.out (p := Hid _) h; clear h
  have hc := four_lt _ _ _ _ h4
  have hl4 := four_len _ _ _ _ h4
  rw [List.length_drop] at hl4
  have hsz : p + 4 ≤ src.size := by simp at hl4; omega
  clear hl4
  have HO : Hid (r = .ok (.tuple #[], p + 4, out ++ put c)) := by
    rw [Hid, hr, numberR]
    unfold number
    rw [h4]
    simp only []
    rw [if_neg (by omega), if_neg (by omega)]
  clear hr
  have d0 : decide (56320 ≤ (c : Int)) = true := by simp; omega
  have d1 : decide ((c : Int) ≤ 57343) = false := by simp; omega
  have d2 : decide (55296 ≤ (c : Int)) = true := by simp; omega
  have d3 : decide ((c : Int) ≤ 56319) = false := by simp; omega
  have hsc : scalarB c = true := by simp [scalarB]; omega
  have HS := Hid.out (p := Hid _) hsc; clear hsc
  have hpl := put_length c
  have H4 := Hid.out (p := Hid _) h4; clear h4
  go_enter Tryd.func127, Tryd.ntmps127
  go_wp2_with fail
  refine (four_yes B b src p c out w HP.out hp (by omega) H4.out).mono ?_
  rintro e w1 ⟨rfl, h1, hk⟩
  have K1 : Hid (Keeps B b w w1) := hk
  have R1 := Hid.out (p := Hid _) h1
  clear h1 hk
  go_wp2_with fail
  refine (put_any c _ HS.out).mono ?_
  rintro e w2 ⟨rfl, hb⟩
  have R2 : Hid (Rdr w2 B b src (p + 4) out) := R1.out.stays hb
  have K2 : Hid (Keeps B b w w2) := K1.out.trans (Keeps.of_below hb (by have := R1.out.hB; have := R1.out.lt; omega))
  clear hb
  go_wp2_with fail
  refine (rWriteString B b src (p + 4) out ⟨(put c).toArray⟩ w2 R2.out (by show out.length + (put c).toArray.size ≤ _; simp only [List.size_toArray]; omega)).mono ?_
  rintro e w3 ⟨rfl, h3, hk⟩
  have K3 : Hid (Keeps B b w w3) := K2.out.trans hk
  have R3 : Hid (Rdr w3 B b src (p + 4) (out ++ put c)) := h3
  clear h3 hk
  go_wp2_with fail
  go_end0
  exact rpost_ok HO K3.out R3.out

theorem number_s1 (B b : Nat) (src : ByteArray) (p : Nat) (out : List UInt8) (w : World) (h : Rdr w B b src p out) (hp : p ≤ src.size) (hs : src.size ≤ 1099511627776) (hlen : out.length ≤ p) (c : Nat) (h4 : four 4 0 (src.data.toList.drop p) = .ok c) (h1 : 55296 ≤ c) (h2 : c ≤ 56319) (hend : src.size ≤ p + 4) :
    Calls Tryd.prog 127 #[.pointer (some ⟨b, 0, none⟩)] w (RPost B b src w (numberR src p out)) := by
  obtain ⟨r, hr⟩ : ∃ r, r = numberR src p out := ⟨_, rfl⟩
  rw [← hr]
  have HP := Hid.out (p := Hid _) h; clear h
  have hc := four_lt _ _ _ _ h4
  have hl4 := four_len _ _ _ _ h4
  rw [List.length_drop] at hl4
  have hsz : p + 4 ≤ src.size := by simp at hl4; omega
  clear hl4
  have HF : Hid (r = .error 2) := by
    rw [Hid, hr, numberR]
    unfold number
    rw [h4]
    simp only []
    rw [if_neg (by omega), if_pos (by omega), if_pos (by rw [List.length_drop, show src.data.toList.length = src.size by simp]; omega)]
  clear hr
  have d1 : decide (56320 ≤ (c : Int)) = false := by simp; omega
  have d2 : decide (55296 ≤ (c : Int)) = true := by simp; omega
  have d3 : decide ((c : Int) ≤ 56319) = true := by simp; omega
  have H4 := Hid.out (p := Hid _) h4; clear h4
  go_enter Tryd.func127, Tryd.ntmps127
  go_wp2_with fail
  refine (four_yes B b src p c out w HP.out hp (by omega) H4.out).mono ?_
  rintro e w1 ⟨rfl, h1, hk⟩
  have K1 : Hid (Keeps B b w w1) := hk
  have R1 := Hid.out (p := Hid _) h1
  clear h1 hk
  go_wp2_with fail
  refine (next_no B b src (p + 4) out w1 R1.out (by omega) (by omega) (by omega)).mono ?_
  rintro e w2 ⟨rfl, hk⟩
  have K2 : Hid (Keeps B b w w2) := K1.out.trans hk
  clear hk
  go_wp2_with fail
  exact ⟨rfl, rpost_err HF K2.out⟩

theorem number_s2 (B b : Nat) (src : ByteArray) (p : Nat) (out : List UInt8) (w : World) (h : Rdr w B b src p out) (hp : p ≤ src.size) (hs : src.size ≤ 1099511627776) (hlen : out.length ≤ p) (c : Nat) (h4 : four 4 0 (src.data.toList.drop p) = .ok c) (h1 : 55296 ≤ c) (h2 : c ≤ 56319) (hend : p + 4 < src.size) (n1 : src[p + 4].toNat ≠ 92) :
    Calls Tryd.prog 127 #[.pointer (some ⟨b, 0, none⟩)] w (RPost B b src w (numberR src p out)) := by
  obtain ⟨r, hr⟩ : ∃ r, r = numberR src p out := ⟨_, rfl⟩
  rw [← hr]
  have HP := Hid.out (p := Hid _) h; clear h
  have hc := four_lt _ _ _ _ h4
  have hl4 := four_len _ _ _ _ h4
  rw [List.length_drop] at hl4
  have hsz : p + 4 ≤ src.size := by simp at hl4; omega
  clear hl4
  have HF : Hid (r = .error 3) := by
    rw [Hid, hr, numberR]
    unfold number
    rw [h4]
    simp only []
    rw [if_neg (by omega), if_pos (by omega), if_neg (by rw [List.length_drop, show src.data.toList.length = src.size by simp]; omega), if_pos (by rw [byt_drop src p 4 (by omega)]; omega)]
  clear hr
  have d1 : decide (56320 ≤ (c : Int)) = false := by simp; omega
  have d2 : decide (55296 ≤ (c : Int)) = true := by simp; omega
  have d3 : decide ((c : Int) ≤ 56319) = true := by simp; omega
  have q1 : ((src[p + 4].toNat : Int) != 92) = true := by rw [bne_iff_ne]; omega
  have H4 := Hid.out (p := Hid _) h4; clear h4
  go_enter Tryd.func127, Tryd.ntmps127
  go_wp2_with fail
  refine (four_yes B b src p c out w HP.out hp (by omega) H4.out).mono ?_
  rintro e w1 ⟨rfl, h1, hk⟩
  have K1 : Hid (Keeps B b w w1) := hk
  have R1 := Hid.out (p := Hid _) h1
  clear h1 hk
  go_wp2_with fail
  refine (next_yes B b src (p + 4) out w1 R1.out (by omega) (by omega)).mono ?_
  rintro e w2 ⟨rfl, h2, hk⟩
  have K2 : Hid (Keeps B b w w2) := K1.out.trans hk
  have R2 := Hid.out (p := Hid _) h2
  clear h2 hk
  go_wp2_with fail
  refine (fail_any 3 _).mono ?_
  rintro e w' ⟨rfl, rfl⟩
  go_wp2_with fail
  exact ⟨rfl, rpost_err HF K2.out⟩

theorem number_s3 (B b : Nat) (src : ByteArray) (p : Nat) (out : List UInt8) (w : World) (h : Rdr w B b src p out) (hp : p ≤ src.size) (hs : src.size ≤ 1099511627776) (hlen : out.length ≤ p) (c : Nat) (h4 : four 4 0 (src.data.toList.drop p) = .ok c) (h1 : 55296 ≤ c) (h2 : c ≤ 56319) (hend : p + 4 < src.size) (n1 : src[p + 4].toNat = 92) (hend2 : src.size ≤ p + 5) :
    Calls Tryd.prog 127 #[.pointer (some ⟨b, 0, none⟩)] w (RPost B b src w (numberR src p out)) := by
  obtain ⟨r, hr⟩ : ∃ r, r = numberR src p out := ⟨_, rfl⟩
  rw [← hr]
  have HP := Hid.out (p := Hid _) h; clear h
  have hc := four_lt _ _ _ _ h4
  have hl4 := four_len _ _ _ _ h4
  rw [List.length_drop] at hl4
  have hsz : p + 4 ≤ src.size := by simp at hl4; omega
  clear hl4
  have HF : Hid (r = .error 2) := by
    rw [Hid, hr, numberR]
    unfold number
    rw [h4]
    simp only []
    rw [if_neg (by omega), if_pos (by omega), if_neg (by rw [List.length_drop, show src.data.toList.length = src.size by simp]; omega), if_neg (by rw [byt_drop src p 4 (by omega)]; omega), if_pos (by rw [List.length_drop, show src.data.toList.length = src.size by simp]; omega)]
  clear hr
  have d1 : decide (56320 ≤ (c : Int)) = false := by simp; omega
  have d2 : decide (55296 ≤ (c : Int)) = true := by simp; omega
  have d3 : decide ((c : Int) ≤ 56319) = true := by simp; omega
  have q1 : ((src[p + 4].toNat : Int) != 92) = false := by rw [n1]; rfl
  clear n1
  have H4 := Hid.out (p := Hid _) h4; clear h4
  go_enter Tryd.func127, Tryd.ntmps127
  go_wp2_with fail
  refine (four_yes B b src p c out w HP.out hp (by omega) H4.out).mono ?_
  rintro e w1 ⟨rfl, h1, hk⟩
  have K1 : Hid (Keeps B b w w1) := hk
  have R1 := Hid.out (p := Hid _) h1
  clear h1 hk
  go_wp2_with fail
  refine (next_yes B b src (p + 4) out w1 R1.out (by omega) (by omega)).mono ?_
  rintro e w2 ⟨rfl, h2, hk⟩
  have K2 : Hid (Keeps B b w w2) := K1.out.trans hk
  have R2 := Hid.out (p := Hid _) h2
  clear h2 hk
  go_wp2_with fail
  refine (next_no B b src (p + 5) out w2 R2.out (by omega) (by omega) (by omega)).mono ?_
  rintro e w3 ⟨rfl, hk⟩
  have K3 : Hid (Keeps B b w w3) := K2.out.trans hk
  clear hk
  go_wp2_with fail
  exact ⟨rfl, rpost_err HF K3.out⟩

theorem number_s4 (B b : Nat) (src : ByteArray) (p : Nat) (out : List UInt8) (w : World) (h : Rdr w B b src p out) (hp : p ≤ src.size) (hs : src.size ≤ 1099511627776) (hlen : out.length ≤ p) (c : Nat) (h4 : four 4 0 (src.data.toList.drop p) = .ok c) (h1 : 55296 ≤ c) (h2 : c ≤ 56319) (hend : p + 5 < src.size) (n1 : (src[p + 4]'(by omega)).toNat = 92) (n2 : src[p + 5].toNat ≠ 117) :
    Calls Tryd.prog 127 #[.pointer (some ⟨b, 0, none⟩)] w (RPost B b src w (numberR src p out)) := by
  obtain ⟨r, hr⟩ : ∃ r, r = numberR src p out := ⟨_, rfl⟩
  rw [← hr]
  have HP := Hid.out (p := Hid _) h; clear h
  have hc := four_lt _ _ _ _ h4
  have hl4 := four_len _ _ _ _ h4
  rw [List.length_drop] at hl4
  have hsz : p + 4 ≤ src.size := by simp at hl4; omega
  clear hl4
  have HF : Hid (r = .error 3) := by
    rw [Hid, hr, numberR]
    unfold number
    rw [h4]
    simp only []
    rw [if_neg (by omega), if_pos (by omega), if_neg (by rw [List.length_drop, show src.data.toList.length = src.size by simp]; omega), if_neg (by rw [byt_drop src p 4 (by omega)]; omega), if_neg (by rw [List.length_drop, show src.data.toList.length = src.size by simp]; omega), if_pos (by rw [byt_drop src p 5 (by omega)]; omega)]
  clear hr
  have d1 : decide (56320 ≤ (c : Int)) = false := by simp; omega
  have d2 : decide (55296 ≤ (c : Int)) = true := by simp; omega
  have d3 : decide ((c : Int) ≤ 56319) = true := by simp; omega
  have hp4 : p + 4 < src.size := by omega
  have q1 : ((src[p + 4].toNat : Int) != 92) = false := by rw [n1]; rfl
  have q2 : ((src[p + 5].toNat : Int) != 117) = true := by rw [bne_iff_ne]; omega
  clear n1
  have H4 := Hid.out (p := Hid _) h4; clear h4
  go_enter Tryd.func127, Tryd.ntmps127
  go_wp2_with fail
  refine (four_yes B b src p c out w HP.out hp (by omega) H4.out).mono ?_
  rintro e w1 ⟨rfl, h1, hk⟩
  have K1 : Hid (Keeps B b w w1) := hk
  have R1 := Hid.out (p := Hid _) h1
  clear h1 hk
  go_wp2_with fail
  refine (next_yes B b src (p + 4) out w1 R1.out (by omega) (by omega)).mono ?_
  rintro e w2 ⟨rfl, h2, hk⟩
  have K2 : Hid (Keeps B b w w2) := K1.out.trans hk
  have R2 := Hid.out (p := Hid _) h2
  clear h2 hk
  go_wp2_with fail
  refine (next_yes B b src (p + 5) out w2 R2.out (by omega) (by omega)).mono ?_
  rintro e w3 ⟨rfl, h3, hk⟩
  have K3 : Hid (Keeps B b w w3) := K2.out.trans hk
  have R3 := Hid.out (p := Hid _) h3
  clear h3 hk
  go_wp2_with fail
  refine (fail_any 3 _).mono ?_
  rintro e w' ⟨rfl, rfl⟩
  go_wp2_with fail
  exact ⟨rfl, rpost_err HF K3.out⟩

theorem number_s5 (B b : Nat) (src : ByteArray) (p : Nat) (out : List UInt8) (w : World) (h : Rdr w B b src p out) (hp : p ≤ src.size) (hs : src.size ≤ 1099511627776) (hlen : out.length ≤ p) (c : Nat) (h4 : four 4 0 (src.data.toList.drop p) = .ok c) (h1 : 55296 ≤ c) (h2 : c ≤ 56319) (hend : p + 5 < src.size) (n1 : (src[p + 4]'(by omega)).toNat = 92) (n2 : src[p + 5].toNat = 117) (k : Nat) (h6 : four 4 0 (src.data.toList.drop (p + 6)) = .error k) :
    Calls Tryd.prog 127 #[.pointer (some ⟨b, 0, none⟩)] w (RPost B b src w (numberR src p out)) := by
  obtain ⟨r, hr⟩ : ∃ r, r = numberR src p out := ⟨_, rfl⟩
  rw [← hr]
  have HP := Hid.out (p := Hid _) h; clear h
  have hc := four_lt _ _ _ _ h4
  have hl4 := four_len _ _ _ _ h4
  rw [List.length_drop] at hl4
  have hsz : p + 4 ≤ src.size := by simp at hl4; omega
  clear hl4
  have HF : Hid (r = .error k) := by
    rw [Hid, hr, numberR]
    unfold number
    rw [h4]
    simp only []
    rw [if_neg (by omega), if_pos (by omega), if_neg (by rw [List.length_drop, show src.data.toList.length = src.size by simp]; omega), if_neg (by rw [byt_drop src p 4 (by omega)]; omega), if_neg (by rw [List.length_drop, show src.data.toList.length = src.size by simp]; omega), if_neg (by rw [byt_drop src p 5 (by omega)]; omega), List.drop_drop, h6]
  clear hr
  have d1 : decide (56320 ≤ (c : Int)) = false := by simp; omega
  have d2 : decide (55296 ≤ (c : Int)) = true := by simp; omega
  have d3 : decide ((c : Int) ≤ 56319) = true := by simp; omega
  have hp4 : p + 4 < src.size := by omega
  have q1 : ((src[p + 4].toNat : Int) != 92) = false := by rw [n1]; rfl
  have q2 : ((src[p + 5].toNat : Int) != 117) = false := by rw [n2]; rfl
  clear n1 n2
  have H4 := Hid.out (p := Hid _) h4; clear h4
  have H6 := Hid.out (p := Hid _) h6; clear h6
  go_enter Tryd.func127, Tryd.ntmps127
  go_wp2_with fail
  refine (four_yes B b src p c out w HP.out hp (by omega) H4.out).mono ?_
  rintro e w1 ⟨rfl, h1, hk⟩
  have K1 : Hid (Keeps B b w w1) := hk
  have R1 := Hid.out (p := Hid _) h1
  clear h1 hk
  go_wp2_with fail
  refine (next_yes B b src (p + 4) out w1 R1.out (by omega) (by omega)).mono ?_
  rintro e w2 ⟨rfl, h2, hk⟩
  have K2 : Hid (Keeps B b w w2) := K1.out.trans hk
  have R2 := Hid.out (p := Hid _) h2
  clear h2 hk
  go_wp2_with fail
  refine (next_yes B b src (p + 5) out w2 R2.out (by omega) (by omega)).mono ?_
  rintro e w3 ⟨rfl, h3, hk⟩
  have K3 : Hid (Keeps B b w w3) := K2.out.trans hk
  have R3 := Hid.out (p := Hid _) h3
  clear h3 hk
  go_wp2_with fail
  refine (four_no B b src (p + 6) k out w3 R3.out (by omega) (by omega) H6.out).mono ?_
  rintro e w4 ⟨rfl, hk⟩
  have K4 : Hid (Keeps B b w w4) := K3.out.trans hk
  clear hk
  go_wp2_with fail
  exact ⟨rfl, rpost_err HF K4.out⟩

theorem number_s6 (B b : Nat) (src : ByteArray) (p : Nat) (out : List UInt8) (w : World) (h : Rdr w B b src p out) (hp : p ≤ src.size) (hs : src.size ≤ 1099511627776) (hlen : out.length ≤ p) (c : Nat) (h4 : four 4 0 (src.data.toList.drop p) = .ok c) (h1 : 55296 ≤ c) (h2 : c ≤ 56319) (hend : p + 5 < src.size) (n1 : (src[p + 4]'(by omega)).toNat = 92) (n2 : src[p + 5].toNat = 117) (d : Nat) (h6 : four 4 0 (src.data.toList.drop (p + 6)) = .ok d) (h3 : d < 56320) :
    Calls Tryd.prog 127 #[.pointer (some ⟨b, 0, none⟩)] w (RPost B b src w (numberR src p out)) := by
  obtain ⟨r, hr⟩ : ∃ r, r = numberR src p out := ⟨_, rfl⟩
  rw [← hr]
  have HP := Hid.out (p := Hid _) h; clear h
  have hc := four_lt _ _ _ _ h4
  have hl4 := four_len _ _ _ _ h4
  rw [List.length_drop] at hl4
  have hsz : p + 4 ≤ src.size := by simp at hl4; omega
  clear hl4
  have hd := four_lt _ _ _ _ h6
  have HF : Hid (r = .error 3) := by
    rw [Hid, hr, numberR]
    unfold number
    rw [h4]
    simp only []
    rw [if_neg (by omega), if_pos (by omega), if_neg (by rw [List.length_drop, show src.data.toList.length = src.size by simp]; omega), if_neg (by rw [byt_drop src p 4 (by omega)]; omega), if_neg (by rw [List.length_drop, show src.data.toList.length = src.size by simp]; omega), if_neg (by rw [byt_drop src p 5 (by omega)]; omega), List.drop_drop, h6]
    simp only []
    rw [if_pos (by omega)]
  clear hr
  have d1 : decide (56320 ≤ (c : Int)) = false := by simp; omega
  have d2 : decide (55296 ≤ (c : Int)) = true := by simp; omega
  have d3 : decide ((c : Int) ≤ 56319) = true := by simp; omega
  have hp4 : p + 4 < src.size := by omega
  have q1 : ((src[p + 4].toNat : Int) != 92) = false := by rw [n1]; rfl
  have q2 : ((src[p + 5].toNat : Int) != 117) = false := by rw [n2]; rfl
  clear n1 n2
  have e0 : decide ((d : Int) < 56320) = true := by simp; omega
  have H4 := Hid.out (p := Hid _) h4; clear h4
  have H6 := Hid.out (p := Hid _) h6; clear h6
  go_enter Tryd.func127, Tryd.ntmps127
  go_wp2_with fail
  refine (four_yes B b src p c out w HP.out hp (by omega) H4.out).mono ?_
  rintro e w1 ⟨rfl, h1, hk⟩
  have K1 : Hid (Keeps B b w w1) := hk
  have R1 := Hid.out (p := Hid _) h1
  clear h1 hk
  go_wp2_with fail
  refine (next_yes B b src (p + 4) out w1 R1.out (by omega) (by omega)).mono ?_
  rintro e w2 ⟨rfl, h2, hk⟩
  have K2 : Hid (Keeps B b w w2) := K1.out.trans hk
  have R2 := Hid.out (p := Hid _) h2
  clear h2 hk
  go_wp2_with fail
  refine (next_yes B b src (p + 5) out w2 R2.out (by omega) (by omega)).mono ?_
  rintro e w3 ⟨rfl, h3, hk⟩
  have K3 : Hid (Keeps B b w w3) := K2.out.trans hk
  have R3 := Hid.out (p := Hid _) h3
  clear h3 hk
  go_wp2_with fail
  refine (four_yes B b src (p + 6) d out w3 R3.out (by omega) (by omega) H6.out).mono ?_
  rintro e w4 ⟨rfl, h4, hk⟩
  have K4 : Hid (Keeps B b w w4) := K3.out.trans hk
  have R4 := Hid.out (p := Hid _) h4
  clear h4 hk
  go_wp2_with fail
  refine (fail_any 3 _).mono ?_
  rintro e w' ⟨rfl, rfl⟩
  go_wp2_with fail
  exact ⟨rfl, rpost_err HF K4.out⟩

theorem number_s7 (B b : Nat) (src : ByteArray) (p : Nat) (out : List UInt8) (w : World) (h : Rdr w B b src p out) (hp : p ≤ src.size) (hs : src.size ≤ 1099511627776) (hlen : out.length ≤ p) (c : Nat) (h4 : four 4 0 (src.data.toList.drop p) = .ok c) (h1 : 55296 ≤ c) (h2 : c ≤ 56319) (hend : p + 5 < src.size) (n1 : (src[p + 4]'(by omega)).toNat = 92) (n2 : src[p + 5].toNat = 117) (d : Nat) (h6 : four 4 0 (src.data.toList.drop (p + 6)) = .ok d) (h3 : 57343 < d) :
    Calls Tryd.prog 127 #[.pointer (some ⟨b, 0, none⟩)] w (RPost B b src w (numberR src p out)) := by
  obtain ⟨r, hr⟩ : ∃ r, r = numberR src p out := ⟨_, rfl⟩
  rw [← hr]
  have HP := Hid.out (p := Hid _) h; clear h
  have hc := four_lt _ _ _ _ h4
  have hl4 := four_len _ _ _ _ h4
  rw [List.length_drop] at hl4
  have hsz : p + 4 ≤ src.size := by simp at hl4; omega
  clear hl4
  have hd := four_lt _ _ _ _ h6
  have HF : Hid (r = .error 3) := by
    rw [Hid, hr, numberR]
    unfold number
    rw [h4]
    simp only []
    rw [if_neg (by omega), if_pos (by omega), if_neg (by rw [List.length_drop, show src.data.toList.length = src.size by simp]; omega), if_neg (by rw [byt_drop src p 4 (by omega)]; omega), if_neg (by rw [List.length_drop, show src.data.toList.length = src.size by simp]; omega), if_neg (by rw [byt_drop src p 5 (by omega)]; omega), List.drop_drop, h6]
    simp only []
    rw [if_pos (by omega)]
  clear hr
  have d1 : decide (56320 ≤ (c : Int)) = false := by simp; omega
  have d2 : decide (55296 ≤ (c : Int)) = true := by simp; omega
  have d3 : decide ((c : Int) ≤ 56319) = true := by simp; omega
  have hp4 : p + 4 < src.size := by omega
  have q1 : ((src[p + 4].toNat : Int) != 92) = false := by rw [n1]; rfl
  have q2 : ((src[p + 5].toNat : Int) != 117) = false := by rw [n2]; rfl
  clear n1 n2
  have e0 : decide ((d : Int) < 56320) = false := by simp; omega
  have e1 : decide (57343 < (d : Int)) = true := by simp; omega
  have H4 := Hid.out (p := Hid _) h4; clear h4
  have H6 := Hid.out (p := Hid _) h6; clear h6
  go_enter Tryd.func127, Tryd.ntmps127
  go_wp2_with fail
  refine (four_yes B b src p c out w HP.out hp (by omega) H4.out).mono ?_
  rintro e w1 ⟨rfl, h1, hk⟩
  have K1 : Hid (Keeps B b w w1) := hk
  have R1 := Hid.out (p := Hid _) h1
  clear h1 hk
  go_wp2_with fail
  refine (next_yes B b src (p + 4) out w1 R1.out (by omega) (by omega)).mono ?_
  rintro e w2 ⟨rfl, h2, hk⟩
  have K2 : Hid (Keeps B b w w2) := K1.out.trans hk
  have R2 := Hid.out (p := Hid _) h2
  clear h2 hk
  go_wp2_with fail
  refine (next_yes B b src (p + 5) out w2 R2.out (by omega) (by omega)).mono ?_
  rintro e w3 ⟨rfl, h3, hk⟩
  have K3 : Hid (Keeps B b w w3) := K2.out.trans hk
  have R3 := Hid.out (p := Hid _) h3
  clear h3 hk
  go_wp2_with fail
  refine (four_yes B b src (p + 6) d out w3 R3.out (by omega) (by omega) H6.out).mono ?_
  rintro e w4 ⟨rfl, h4, hk⟩
  have K4 : Hid (Keeps B b w w4) := K3.out.trans hk
  have R4 := Hid.out (p := Hid _) h4
  clear h4 hk
  go_wp2_with fail
  refine (fail_any 3 _).mono ?_
  rintro e w' ⟨rfl, rfl⟩
  go_wp2_with fail
  exact ⟨rfl, rpost_err HF K4.out⟩

theorem number_s8 (B b : Nat) (src : ByteArray) (p : Nat) (out : List UInt8) (w : World) (h : Rdr w B b src p out) (hp : p ≤ src.size) (hs : src.size ≤ 1099511627776) (hlen : out.length ≤ p) (c : Nat) (h4 : four 4 0 (src.data.toList.drop p) = .ok c) (h1 : 55296 ≤ c) (h2 : c ≤ 56319) (hend : p + 5 < src.size) (n1 : (src[p + 4]'(by omega)).toNat = 92) (n2 : src[p + 5].toNat = 117) (d : Nat) (h6 : four 4 0 (src.data.toList.drop (p + 6)) = .ok d) (h3 : 56320 ≤ d) (h5 : d ≤ 57343) :
    Calls Tryd.prog 127 #[.pointer (some ⟨b, 0, none⟩)] w (RPost B b src w (numberR src p out)) := by
  obtain ⟨r, hr⟩ : ∃ r, r = numberR src p out := ⟨_, rfl⟩
  rw [← hr]
  have HP := Hid.out (p := Hid _) h; clear h
  have hc := four_lt _ _ _ _ h4
  have hl4 := four_len _ _ _ _ h4
  rw [List.length_drop] at hl4
  have hsz : p + 4 ≤ src.size := by simp at hl4; omega
  clear hl4
  have hd := four_lt _ _ _ _ h6
  obtain ⟨x, hx⟩ : ∃ x, x = 65536 + 1024 * (c - 55296) + (d - 56320) := ⟨_, rfl⟩
  have HO : Hid (r = .ok (.tuple #[], p + 10, out ++ put x)) := by
    rw [Hid, hr, numberR]
    unfold number
    rw [h4]
    simp only []
    rw [if_neg (by omega), if_pos (by omega), if_neg (by rw [List.length_drop, show src.data.toList.length = src.size by simp]; omega), if_neg (by rw [byt_drop src p 4 (by omega)]; omega), if_neg (by rw [List.length_drop, show src.data.toList.length = src.size by simp]; omega), if_neg (by rw [byt_drop src p 5 (by omega)]; omega), List.drop_drop, h6]
    simp only []
    rw [if_neg (by omega), ← hx]
  clear hr
  have d1 : decide (56320 ≤ (c : Int)) = false := by simp; omega
  have d2 : decide (55296 ≤ (c : Int)) = true := by simp; omega
  have d3 : decide ((c : Int) ≤ 56319) = true := by simp; omega
  have hp4 : p + 4 < src.size := by omega
  have q1 : ((src[p + 4].toNat : Int) != 92) = false := by rw [n1]; rfl
  have q2 : ((src[p + 5].toNat : Int) != 117) = false := by rw [n2]; rfl
  clear n1 n2
  have e0 : decide ((d : Int) < 56320) = false := by simp; omega
  have e1 : decide (57343 < (d : Int)) = false := by simp; omega
  have hsc : scalarB x = true := by simp [scalarB]; omega
  have HS := Hid.out (p := Hid _) hsc; clear hsc
  have hpl := put_length x
  have hxx : Hid ((65536 + 1024 * ((c : Int) - 55296) + ((d : Int) - 56320)) = (x : Int)) := by unfold Hid; omega
  clear hx
  have H4 := Hid.out (p := Hid _) h4; clear h4
  have H6 := Hid.out (p := Hid _) h6; clear h6
  go_enter Tryd.func127, Tryd.ntmps127
  go_wp2_with fail
  refine (four_yes B b src p c out w HP.out hp (by omega) H4.out).mono ?_
  rintro e w1 ⟨rfl, h1, hk⟩
  have K1 : Hid (Keeps B b w w1) := hk
  have R1 := Hid.out (p := Hid _) h1
  clear h1 hk
  go_wp2_with fail
  refine (next_yes B b src (p + 4) out w1 R1.out (by omega) (by omega)).mono ?_
  rintro e w2 ⟨rfl, h2, hk⟩
  have K2 : Hid (Keeps B b w w2) := K1.out.trans hk
  have R2 := Hid.out (p := Hid _) h2
  clear h2 hk
  go_wp2_with fail
  refine (next_yes B b src (p + 5) out w2 R2.out (by omega) (by omega)).mono ?_
  rintro e w3 ⟨rfl, h3, hk⟩
  have K3 : Hid (Keeps B b w w3) := K2.out.trans hk
  have R3 := Hid.out (p := Hid _) h3
  clear h3 hk
  go_wp2_with fail
  refine (four_yes B b src (p + 6) d out w3 R3.out (by omega) (by omega) H6.out).mono ?_
  rintro e w4 ⟨rfl, h4, hk⟩
  have K4 : Hid (Keeps B b w w4) := K3.out.trans hk
  have R4 := Hid.out (p := Hid _) h4
  clear h4 hk
  go_wp2_with fail
  rw [hxx.out]
  refine (put_any x _ HS.out).mono ?_
  rintro e w5 ⟨rfl, hb⟩
  have R5 : Hid (Rdr w5 B b src (p + 10) out) := R4.out.stays hb
  have K5 : Hid (Keeps B b w w5) := K4.out.trans (Keeps.of_below hb (by have := R4.out.hB; have := R4.out.lt; omega))
  clear hb
  go_wp2_with fail
  refine (rWriteString B b src (p + 10) out ⟨(put x).toArray⟩ w5 R5.out (by show out.length + (put x).toArray.size ≤ _; simp only [List.size_toArray]; omega)).mono ?_
  rintro e w6 ⟨rfl, h6, hk⟩
  have K6 : Hid (Keeps B b w w6) := K5.out.trans hk
  have R6 : Hid (Rdr w6 B b src (p + 10) (out ++ put x)) := h6
  clear h6 hk
  go_wp2_with fail
  go_end0
  exact rpost_ok HO K6.out R6.out

theorem number_any (B b : Nat) (src : ByteArray) (p : Nat) (out : List UInt8) (w : World) (h : Rdr w B b src p out) (hp : p ≤ src.size) (hs : src.size ≤ 1099511627776) (hlen : out.length ≤ p) :
    Calls Tryd.prog 127 #[.pointer (some ⟨b, 0, none⟩)] w (RPost B b src w (numberR src p out)) := by
  cases h4 : four 4 0 (src.data.toList.drop p) with
  | error k => exact number_e1 B b src p out w h hp hs hlen k h4
  | ok c =>
    by_cases c1 : 56320 ≤ c ∧ c ≤ 57343
    · exact number_e2 B b src p out w h hp hs hlen c h4 c1.1 c1.2
    by_cases c2 : c < 55296
    · exact number_p1 B b src p out w h hp hs hlen c h4 c2
    by_cases c3 : 57343 < c
    · exact number_p2 B b src p out w h hp hs hlen c h4 c3
    have h1 : 55296 ≤ c := by omega
    have h2 : c ≤ 56319 := by omega
    by_cases e1 : src.size ≤ p + 4
    · exact number_s1 B b src p out w h hp hs hlen c h4 h1 h2 e1
    by_cases n1 : (src[p + 4]'(by omega)).toNat = 92
    · by_cases e2 : src.size ≤ p + 5
      · exact number_s3 B b src p out w h hp hs hlen c h4 h1 h2 (by omega) n1 e2
      by_cases n2 : (src[p + 5]'(by omega)).toNat = 117
      · cases h6 : four 4 0 (src.data.toList.drop (p + 6)) with
        | error k => exact number_s5 B b src p out w h hp hs hlen c h4 h1 h2 (by omega) n1 n2 k h6
        | ok d =>
          by_cases d1 : d < 56320
          · exact number_s6 B b src p out w h hp hs hlen c h4 h1 h2 (by omega) n1 n2 d h6 d1
          by_cases d2 : 57343 < d
          · exact number_s7 B b src p out w h hp hs hlen c h4 h1 h2 (by omega) n1 n2 d h6 d2
          · exact number_s8 B b src p out w h hp hs hlen c h4 h1 h2 (by omega) n1 n2 d h6 (by omega) (by omega)
      · exact number_s4 B b src p out w h hp hs hlen c h4 h1 h2 (by omega) n1 n2
    · exact number_s2 B b src p out w h hp hs hlen c h4 h1 h2 (by omega) n1
end Go.Proofs.YtbfkgddhpabioaaDoor.Quote
