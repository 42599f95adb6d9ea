/- lex.next. -/
import Derived.Test.YtbfkgddhpabioaaDoorLexRQ
import Derived.Test.YtbfkgddhpabioaaDoorQuoteZ
namespace Go.Proofs.YtbfkgddhpabioaaDoor.Lex
open Go.RowKit Go.Proofs.YtbfkgddhpabioaaDoor.Utf Go.Proofs.YtbfkgddhpabioaaDoor.Strs
set_option linter.unusedVariables false
set_option linter.unusedSimpArgs false
set_option maxRecDepth 100000

/-- All tables. -/
structure Tabs (w : World) : Prop where
  z : Sizes w
  s : Num.Steps w
  m : MaxL w
  d : Dbl w
theorem Tabs.stays {w w' : World} (T : Tabs w) (h : Below w.heap.size w w') : Tabs w' := ⟨T.z.stays h, T.s.stays h, T.m.stays h, T.d.stays h⟩
theorem Tabs.below {w w' : World} {B : Nat} (T : Tabs w) (h : Below B w w') (hB : w.heap.size ≤ B) : Tabs w' := T.stays (h.mono hB)

/-- What next leaves. -/
def NPost (s : ByteArray) (w : World) (e : Ending) (w' : World) : Prop := e = .returned (val (next s.data.toList)) ∧ Below w.heap.size w w'
theorem scan_err {l : List UInt8} {k : Nat} (h : Quote.scan l = .error k) : k ≠ 0 := by
  have h4 : ∀ n m l k, Quote.four n m l = .error k → k ≠ 0 := by
    intro n
    induction n with
    | zero => intro m l k h; cases h
    | succ n ih =>
      intro m l k h
      cases l with
      | nil => unfold Quote.four at h; injection h with h; omega
      | cons c l =>
        unfold Quote.four at h
        split at h
        · injection h with h; omega
        · exact ih _ _ _ h
  have hn : ∀ l k, Quote.number l = .error k → k ≠ 0 := by
    intro l k h
    unfold Quote.number at h
    repeat' split at h
    all_goals first
      | (cases h; done)
      | (injection h with h; subst h; omega)
      | (injection h with h; subst h; exact h4 _ _ _ _ (by assumption))
  have he : ∀ l k, Quote.escape l = .error k → k ≠ 0 := by
    intro l k h
    unfold Quote.escape at h
    repeat' split at h
    all_goals first
      | (cases h; done)
      | (injection h with h; subst h; omega)
      | (injection h with h; subst h; exact hn _ _ (by assumption))
  have hp : ∀ l k, Quote.part l = .error k → k ≠ 0 := by
    intro l k h
    unfold Quote.part at h
    repeat' split at h
    all_goals first
      | (cases h; done)
      | (injection h with h; subst h; omega)
      | (injection h with h; subst h; exact he _ _ (by assumption))
  have hps : ∀ n l p out k, Quote.parts n l p out = .error k → k ≠ 0 := by
    intro n
    induction n with
    | zero => intro l p out k h; injection h with h; omega
    | succ n ih =>
      intro l p out k h
      unfold Quote.parts at h
      split at h
      · injection h with h; subst h; exact hp _ _ (by assumption)
      · exact ih _ _ _ _ h
      · cases h
  unfold Quote.scan at h
  split at h
  · injection h with h; omega
  · split at h
    · injection h with h; omega
    · exact hps _ _ _ _ _ h

set_option maxHeartbeats 4000000 in
theorem next_ident (s : ByteArray) (w : World) (h0 : 0 < s.size) (hs : s.size ≤ 2147483648) (T : Tabs w) (hl : letterB s[0].toNat = true) :
    Calls Tryd.prog 48 #[.string s] w (NPost s w) := by
  have HT := Hid.out (p := Hid _) T; clear T
  have hb0 : byt s.data.toList 0 = s[0].toNat := by have := byt_drop s 0 0 (by omega); simpa using this
  have hn : next s.data.toList = _ := next.eq_1 s.data.toList
  rw [hb0] at hn
  have HV : Hid (val (next s.data.toList) = .tuple #[.int .i64 1, .int .i64 (ident s.data.toList), .int .i64 0, .int .i64 0]) := by
    rw [Hid, hn, if_pos hl]; rfl
  clear hn hb0
  go_enter Tryd.func48, Tryd.ntmps48
  go_wp2_with fail
  refine (letter_any s[0].toNat w).mono ?_
  rintro e w' ⟨rfl, rfl⟩
  rw [hl]
  go_wp2_with fail
  refine (ident_any s w h0 (by omega)).mono ?_
  rintro e w' ⟨rfl, rfl⟩
  go_wp2_with fail
  refine bodyPost_ret (v := .tuple #[.int .i64 1, .int .i64 (ident s.data.toList), .int .i64 0, .int .i64 0]) (by simp [results, Tryd.results48, go_sem]) rfl ⟨by rw [HV.out], Below.refl _ _⟩

set_option maxHeartbeats 4000000 in
theorem next_dec (s : ByteArray) (w : World) (h0 : 0 < s.size) (hs : s.size ≤ 2147483648) (T : Tabs w) (hl : letterB s[0].toNat = false) (hd : digitB s[0].toNat = true) :
    Calls Tryd.prog 48 #[.string s] w (NPost s w) := by
  have HT := Hid.out (p := Hid _) T; clear T
  have hb0 : byt s.data.toList 0 = s[0].toNat := by have := byt_drop s 0 0 (by omega); simpa using this
  have hn : next s.data.toList = _ := next.eq_1 s.data.toList
  rw [hb0] at hn
  have HN : Hid (next s.data.toList = decimal s.data.toList) := by rw [Hid, hn, if_neg (by rw [hl]; decide), if_pos hd]
  clear hn hb0
  obtain ⟨a, b, c, d, hx⟩ : ∃ a b c d, decimal s.data.toList = (a, b, c, d) := ⟨_, _, _, _, rfl⟩
  have HV : Hid (val (next s.data.toList) = .tuple #[.int .i64 a, .int .i64 b, .int .i64 c, .int .i64 d]) := by rw [Hid, HN.out, hx]; rfl
  have hc := decimal_any s w hs HT.out.s
  rw [hx, show val (a, b, c, d) = .tuple #[.int .i64 a, .int .i64 b, .int .i64 c, .int .i64 d] from rfl] at hc
  clear hx
  go_enter Tryd.func48, Tryd.ntmps48
  go_wp2_with fail
  refine (letter_any s[0].toNat w).mono ?_
  rintro e w' ⟨rfl, rfl⟩
  rw [hl]
  go_wp2_with fail
  refine (digit_any s[0].toNat w).mono ?_
  rintro e w' ⟨rfl, rfl⟩
  rw [hd]
  go_wp2_with fail
  refine hc.mono ?_
  rintro e w2 ⟨rfl, hb2⟩
  have B2 : Hid (Below w.heap.size w w2) := hb2
  clear hb2 hc
  go_wp2_with fail
  refine bodyPost_ret (v := .tuple #[.int .i64 a, .int .i64 b, .int .i64 c, .int .i64 d]) (by simp [results, Tryd.results48, go_sem]) rfl ⟨by rw [HV.out], B2.out⟩

set_option maxHeartbeats 4000000 in
theorem next_quo_e (s : ByteArray) (w : World) (h0 : 0 < s.size) (hs : s.size ≤ 2147483648) (T : Tabs w) (hl : letterB s[0].toNat = false) (hd : digitB s[0].toNat = false) (hq : s[0].toNat = 34) (k : Nat) (hk : Quote.scan s.data.toList = .error k) :
    Calls Tryd.prog 48 #[.string s] w (NPost s w) := by
  have HT := Hid.out (p := Hid _) T; clear T
  have hb0 : byt s.data.toList 0 = s[0].toNat := by have := byt_drop s 0 0 (by omega); simpa using this
  have hn : next s.data.toList = _ := next.eq_1 s.data.toList
  rw [hb0] at hn
  have hk0 := scan_err hk
  have HV : Hid (val (next s.data.toList) = .tuple #[.int .i64 0, .int .i64 0, .int .i64 0, .int .i64 k]) := by rw [Hid, hn, if_neg (by rw [hl]; decide), if_neg (by rw [hd]; decide), if_pos hq, hk]; rfl
  have hc := Quote.scan_any s w (by omega) HT.out.z
  rw [show Quote.scanV s = .tuple #[.string ⟨#[]⟩, .int .i64 0, .int .i64 k] by rw [Quote.scanV, hk]] at hc
  have hkk : ((k : Int) != 0) = true := by rw [bne_iff_ne]; omega
  have q34 : ((s[0].toNat : Int) == 34) = true := by rw [beq_iff_eq]; omega
  clear hn hb0 hk hq hk0
  go_enter Tryd.func48, Tryd.ntmps48
  go_wp2_with fail
  refine (letter_any s[0].toNat w).mono ?_
  rintro e w' ⟨rfl, rfl⟩
  rw [hl]
  go_wp2_with fail
  refine (digit_any s[0].toNat w).mono ?_
  rintro e w' ⟨rfl, rfl⟩
  rw [hd]
  go_wp2_with fail
  refine hc.mono ?_
  rintro e w2 ⟨rfl, hb2⟩
  have B2 : Hid (Below w.heap.size w w2) := hb2
  clear hb2 hc
  go_wp2_with fail
  refine bodyPost_ret (v := .tuple #[.int .i64 0, .int .i64 0, .int .i64 0, .int .i64 k]) (by simp [results, Tryd.results48, go_sem]) rfl ⟨by rw [HV.out], B2.out⟩

set_option maxHeartbeats 4000000 in
theorem next_quo (s : ByteArray) (w : World) (h0 : 0 < s.size) (hs : s.size ≤ 2147483648) (T : Tabs w) (hl : letterB s[0].toNat = false) (hd : digitB s[0].toNat = false) (hq : s[0].toNat = 34) (o : List UInt8) (k : Nat) (hk : Quote.scan s.data.toList = .ok (o, k)) :
    Calls Tryd.prog 48 #[.string s] w (NPost s w) := by
  have HT := Hid.out (p := Hid _) T; clear T
  have hb0 : byt s.data.toList 0 = s[0].toNat := by have := byt_drop s 0 0 (by omega); simpa using this
  have hn : next s.data.toList = _ := next.eq_1 s.data.toList
  rw [hb0] at hn
  have HV : Hid (val (next s.data.toList) = .tuple #[.int .i64 3, .int .i64 k, .int .i64 0, .int .i64 0]) := by rw [Hid, hn, if_neg (by rw [hl]; decide), if_neg (by rw [hd]; decide), if_pos hq, hk]; rfl
  have hc := Quote.scan_any s w (by omega) HT.out.z
  rw [show Quote.scanV s = .tuple #[.string ⟨o.toArray⟩, .int .i64 k, .int .i64 0] by rw [Quote.scanV, hk]] at hc
  generalize (⟨o.toArray⟩ : ByteArray) = os at hc
  have q34 : ((s[0].toNat : Int) == 34) = true := by rw [beq_iff_eq]; omega
  clear hn hb0 hk hq
  go_enter Tryd.func48, Tryd.ntmps48
  go_wp2_with fail
  refine (letter_any s[0].toNat w).mono ?_
  rintro e w' ⟨rfl, rfl⟩
  rw [hl]
  go_wp2_with fail
  refine (digit_any s[0].toNat w).mono ?_
  rintro e w' ⟨rfl, rfl⟩
  rw [hd]
  go_wp2_with fail
  refine hc.mono ?_
  rintro e w2 ⟨rfl, hb2⟩
  have B2 : Hid (Below w.heap.size w w2) := hb2
  clear hb2 hc
  go_wp2_with fail
  refine bodyPost_ret (v := .tuple #[.int .i64 3, .int .i64 k, .int .i64 0, .int .i64 0]) (by simp [results, Tryd.results48, go_sem]) rfl ⟨by rw [HV.out], B2.out⟩

set_option maxHeartbeats 4000000 in
theorem next_line (s : ByteArray) (w : World) (h0 : 0 < s.size) (hs : s.size ≤ 2147483648) (T : Tabs w) (hl : letterB s[0].toNat = false) (hd : digitB s[0].toNat = false) (hq : s[0].toNat = 10) :
    Calls Tryd.prog 48 #[.string s] w (NPost s w) := by
  have HT := Hid.out (p := Hid _) T; clear T
  have hb0 : byt s.data.toList 0 = s[0].toNat := by have := byt_drop s 0 0 (by omega); simpa using this
  have hn : next s.data.toList = _ := next.eq_1 s.data.toList
  rw [hb0] at hn
  have HV : Hid (val (next s.data.toList) = .tuple #[.int .i64 5, .int .i64 1, .int .i64 0, .int .i64 0]) := by rw [Hid, hn, if_neg (by rw [hl]; decide), if_neg (by rw [hd]; decide), if_neg (by omega), if_pos hq]; rfl
  have q34 : ((s[0].toNat : Int) == 34) = false := by rw [beq_eq_false_iff_ne]; omega
  have q10 : ((s[0].toNat : Int) == 10) = true := by rw [beq_iff_eq]; omega
  clear hn hb0 hq
  go_enter Tryd.func48, Tryd.ntmps48
  go_wp2_with fail
  refine (letter_any s[0].toNat w).mono ?_
  rintro e w' ⟨rfl, rfl⟩
  rw [hl]
  go_wp2_with fail
  refine (digit_any s[0].toNat w).mono ?_
  rintro e w' ⟨rfl, rfl⟩
  rw [hd]
  go_wp2_with fail
  refine bodyPost_ret (v := .tuple #[.int .i64 5, .int .i64 1, .int .i64 0, .int .i64 0]) (by simp [results, Tryd.results48, go_sem]) rfl ⟨by rw [HV.out], Below.refl _ _⟩

set_option maxHeartbeats 4000000 in
theorem next_rem1 (s : ByteArray) (w : World) (h0 : 0 < s.size) (hs : s.size ≤ 2147483648) (T : Tabs w) (hl : letterB s[0].toNat = false) (hd : digitB s[0].toNat = false) (hq : s[0].toNat ≠ 34) (hr : s[0].toNat ≠ 10) (hh : s[0].toNat = 35) :
    Calls Tryd.prog 48 #[.string s] w (NPost s w) := by
  have HT := Hid.out (p := Hid _) T; clear T
  have hb0 : byt s.data.toList 0 = s[0].toNat := by have := byt_drop s 0 0 (by omega); simpa using this
  have hn : next s.data.toList = _ := next.eq_1 s.data.toList
  rw [hb0] at hn
  have HN : Hid (next s.data.toList = remark s.data.toList) := by rw [Hid, hn, if_neg (by rw [hl]; decide), if_neg (by rw [hd]; decide), if_neg hq, if_neg hr, if_pos (Or.inl hh)]
  have q34 : ((s[0].toNat : Int) == 34) = false := by rw [beq_eq_false_iff_ne]; omega
  have q10 : ((s[0].toNat : Int) == 10) = false := by rw [beq_eq_false_iff_ne]; omega
  have q35 : ((s[0].toNat : Int) == 35) = true := by rw [beq_iff_eq]; omega
  clear hn hb0
  obtain ⟨a, b, c, d, hx⟩ : ∃ a b c d, remark s.data.toList = (a, b, c, d) := ⟨_, _, _, _, rfl⟩
  have HV : Hid (val (next s.data.toList) = .tuple #[.int .i64 a, .int .i64 b, .int .i64 c, .int .i64 d]) := by rw [Hid, HN.out, hx]; rfl
  have hc := remark_any s w hs HT.out.z
  rw [hx, show val (a, b, c, d) = .tuple #[.int .i64 a, .int .i64 b, .int .i64 c, .int .i64 d] from rfl] at hc
  clear hx
  clear hq hr hh
  go_enter Tryd.func48, Tryd.ntmps48
  go_wp2_with fail
  refine (letter_any s[0].toNat w).mono ?_
  rintro e w' ⟨rfl, rfl⟩
  rw [hl]
  go_wp2_with fail
  refine (digit_any s[0].toNat w).mono ?_
  rintro e w' ⟨rfl, rfl⟩
  rw [hd]
  go_wp2_with fail
  refine hc.mono ?_
  rintro e w2 ⟨rfl, hb2⟩
  have B2 : Hid (Below w.heap.size w w2) := hb2
  clear hb2 hc
  go_wp2_with fail
  refine bodyPost_ret (v := .tuple #[.int .i64 a, .int .i64 b, .int .i64 c, .int .i64 d]) (by simp [results, Tryd.results48, go_sem]) rfl ⟨by rw [HV.out], B2.out⟩

set_option maxHeartbeats 4000000 in
theorem next_rem2 (s : ByteArray) (w : World) (h0 : 0 < s.size) (hs : s.size ≤ 2147483648) (T : Tabs w) (hl : letterB s[0].toNat = false) (hd : digitB s[0].toNat = false) (hq : s[0].toNat ≠ 34) (hr : s[0].toNat ≠ 10) (hh : s[0].toNat ≠ 35) (hp : [47, 47].isPrefixOf s.data.toList = true) :
    Calls Tryd.prog 48 #[.string s] w (NPost s w) := by
  have HT := Hid.out (p := Hid _) T; clear T
  have hb0 : byt s.data.toList 0 = s[0].toNat := by have := byt_drop s 0 0 (by omega); simpa using this
  have hn : next s.data.toList = _ := next.eq_1 s.data.toList
  rw [hb0] at hn
  have HN : Hid (next s.data.toList = remark s.data.toList) := by rw [Hid, hn, if_neg (by rw [hl]; decide), if_neg (by rw [hd]; decide), if_neg hq, if_neg hr, if_pos (Or.inr hp)]
  have q34 : ((s[0].toNat : Int) == 34) = false := by rw [beq_eq_false_iff_ne]; omega
  have q10 : ((s[0].toNat : Int) == 10) = false := by rw [beq_eq_false_iff_ne]; omega
  have q35 : ((s[0].toNat : Int) == 35) = false := by rw [beq_eq_false_iff_ne]; omega
  clear hn hb0
  obtain ⟨a, b, c, d, hx⟩ : ∃ a b c d, remark s.data.toList = (a, b, c, d) := ⟨_, _, _, _, rfl⟩
  have HV : Hid (val (next s.data.toList) = .tuple #[.int .i64 a, .int .i64 b, .int .i64 c, .int .i64 d]) := by rw [Hid, HN.out, hx]; rfl
  have hc := remark_any s w hs HT.out.z
  rw [hx, show val (a, b, c, d) = .tuple #[.int .i64 a, .int .i64 b, .int .i64 c, .int .i64 d] from rfl] at hc
  clear hx
  clear hq hr hh
  go_enter Tryd.func48, Tryd.ntmps48
  go_wp2_with fail
  refine (letter_any s[0].toNat w).mono ?_
  rintro e w' ⟨rfl, rfl⟩
  rw [hl]
  go_wp2_with fail
  refine (digit_any s[0].toNat w).mono ?_
  rintro e w' ⟨rfl, rfl⟩
  rw [hd]
  go_wp2_with fail
  refine (hasPrefix_any s ⟨#[47, 47]⟩ w).mono ?_
  rintro e w' ⟨rfl, rfl⟩
  rw [show (⟨#[47, 47]⟩ : ByteArray).data.toList = [47, 47] from rfl, hp]
  go_wp2_with fail
  refine hc.mono ?_
  rintro e w2 ⟨rfl, hb2⟩
  have B2 : Hid (Below w.heap.size w w2) := hb2
  clear hb2 hc
  go_wp2_with fail
  refine bodyPost_ret (v := .tuple #[.int .i64 a, .int .i64 b, .int .i64 c, .int .i64 d]) (by simp [results, Tryd.results48, go_sem]) rfl ⟨by rw [HV.out], B2.out⟩

set_option maxHeartbeats 4000000 in
theorem next_aside (s : ByteArray) (w : World) (h0 : 0 < s.size) (hs : s.size ≤ 2147483648) (T : Tabs w) (hl : letterB s[0].toNat = false) (hd : digitB s[0].toNat = false) (hq : s[0].toNat ≠ 34) (hr : s[0].toNat ≠ 10) (hh : s[0].toNat ≠ 35) (hp : [47, 47].isPrefixOf s.data.toList = false) (hp2 : [47, 42].isPrefixOf s.data.toList = true) :
    Calls Tryd.prog 48 #[.string s] w (NPost s w) := by
  have HT := Hid.out (p := Hid _) T; clear T
  have hb0 : byt s.data.toList 0 = s[0].toNat := by have := byt_drop s 0 0 (by omega); simpa using this
  have hn : next s.data.toList = _ := next.eq_1 s.data.toList
  rw [hb0] at hn
  have HN : Hid (next s.data.toList = aside s.data.toList) := by rw [Hid, hn, if_neg (by rw [hl]; decide), if_neg (by rw [hd]; decide), if_neg hq, if_neg hr, if_neg (by rw [hp]; simp [hh]), if_pos hp2]
  have h2 : 2 ≤ s.size := by have := (List.isPrefixOf_iff_prefix.1 hp2).length_le; simpa using this
  have q34 : ((s[0].toNat : Int) == 34) = false := by rw [beq_eq_false_iff_ne]; omega
  have q10 : ((s[0].toNat : Int) == 10) = false := by rw [beq_eq_false_iff_ne]; omega
  have q35 : ((s[0].toNat : Int) == 35) = false := by rw [beq_eq_false_iff_ne]; omega
  clear hn hb0
  obtain ⟨a, b, c, d, hx⟩ : ∃ a b c d, aside s.data.toList = (a, b, c, d) := ⟨_, _, _, _, rfl⟩
  have HV : Hid (val (next s.data.toList) = .tuple #[.int .i64 a, .int .i64 b, .int .i64 c, .int .i64 d]) := by rw [Hid, HN.out, hx]; rfl
  have hc := aside_any s w h2 hs HT.out.z HT.out.m
  rw [hx, show val (a, b, c, d) = .tuple #[.int .i64 a, .int .i64 b, .int .i64 c, .int .i64 d] from rfl] at hc
  clear hx
  clear hq hr hh
  go_enter Tryd.func48, Tryd.ntmps48
  go_wp2_with fail
  refine (letter_any s[0].toNat w).mono ?_
  rintro e w' ⟨rfl, rfl⟩
  rw [hl]
  go_wp2_with fail
  refine (digit_any s[0].toNat w).mono ?_
  rintro e w' ⟨rfl, rfl⟩
  rw [hd]
  go_wp2_with fail
  refine (hasPrefix_any s ⟨#[47, 47]⟩ w).mono ?_
  rintro e w' ⟨rfl, rfl⟩
  rw [show (⟨#[47, 47]⟩ : ByteArray).data.toList = [47, 47] from rfl, hp]
  go_wp2_with fail
  refine (hasPrefix_any s ⟨#[47, 42]⟩ w).mono ?_
  rintro e w' ⟨rfl, rfl⟩
  rw [show (⟨#[47, 42]⟩ : ByteArray).data.toList = [47, 42] from rfl, hp2]
  go_wp2_with fail
  refine hc.mono ?_
  rintro e w2 ⟨rfl, hb2⟩
  have B2 : Hid (Below w.heap.size w w2) := hb2
  clear hb2 hc
  go_wp2_with fail
  refine bodyPost_ret (v := .tuple #[.int .i64 a, .int .i64 b, .int .i64 c, .int .i64 d]) (by simp [results, Tryd.results48, go_sem]) rfl ⟨by rw [HV.out], B2.out⟩

set_option maxHeartbeats 4000000 in
theorem next_sign (s : ByteArray) (w : World) (h0 : 0 < s.size) (hs : s.size ≤ 2147483648) (T : Tabs w) (hl : letterB s[0].toNat = false) (hd : digitB s[0].toNat = false) (hq : s[0].toNat ≠ 34) (hr : s[0].toNat ≠ 10) (hh : s[0].toNat ≠ 35) (hp : [47, 47].isPrefixOf s.data.toList = false) (hp2 : [47, 42].isPrefixOf s.data.toList = false) (hg : 0 < sign s.data.toList) :
    Calls Tryd.prog 48 #[.string s] w (NPost s w) := by
  have HT := Hid.out (p := Hid _) T; clear T
  have hb0 : byt s.data.toList 0 = s[0].toNat := by have := byt_drop s 0 0 (by omega); simpa using this
  have hn : next s.data.toList = _ := next.eq_1 s.data.toList
  rw [hb0] at hn
  have HV : Hid (val (next s.data.toList) = .tuple #[.int .i64 4, .int .i64 (sign s.data.toList), .int .i64 0, .int .i64 0]) := by rw [Hid, hn, if_neg (by rw [hl]; decide), if_neg (by rw [hd]; decide), if_neg hq, if_neg hr, if_neg (by rw [hp]; simp [hh]), if_neg (by rw [hp2]; decide), if_pos hg]; rfl
  have dg : decide (0 < (sign s.data.toList : Int)) = true := by simp; omega
  have q34 : ((s[0].toNat : Int) == 34) = false := by rw [beq_eq_false_iff_ne]; omega
  have q10 : ((s[0].toNat : Int) == 10) = false := by rw [beq_eq_false_iff_ne]; omega
  have q35 : ((s[0].toNat : Int) == 35) = false := by rw [beq_eq_false_iff_ne]; omega
  clear hn hb0 hq hr hh
  go_enter Tryd.func48, Tryd.ntmps48
  go_wp2_with fail
  refine (letter_any s[0].toNat w).mono ?_
  rintro e w' ⟨rfl, rfl⟩
  rw [hl]
  go_wp2_with fail
  refine (digit_any s[0].toNat w).mono ?_
  rintro e w' ⟨rfl, rfl⟩
  rw [hd]
  go_wp2_with fail
  refine (hasPrefix_any s ⟨#[47, 47]⟩ w).mono ?_
  rintro e w' ⟨rfl, rfl⟩
  rw [show (⟨#[47, 47]⟩ : ByteArray).data.toList = [47, 47] from rfl, hp]
  go_wp2_with fail
  refine (hasPrefix_any s ⟨#[47, 42]⟩ w).mono ?_
  rintro e w' ⟨rfl, rfl⟩
  rw [show (⟨#[47, 42]⟩ : ByteArray).data.toList = [47, 42] from rfl, hp2]
  go_wp2_with fail
  refine (sign_any s w h0 hs HT.out.d).mono ?_
  rintro e w' ⟨rfl, rfl⟩
  go_wp2_with fail
  refine bodyPost_ret (v := .tuple #[.int .i64 4, .int .i64 (sign s.data.toList), .int .i64 0, .int .i64 0]) (by simp [results, Tryd.results48, go_sem]) rfl ⟨by rw [HV.out], Below.refl _ _⟩

set_option maxHeartbeats 4000000 in
theorem next_none (s : ByteArray) (w : World) (h0 : 0 < s.size) (hs : s.size ≤ 2147483648) (T : Tabs w) (hl : letterB s[0].toNat = false) (hd : digitB s[0].toNat = false) (hq : s[0].toNat ≠ 34) (hr : s[0].toNat ≠ 10) (hh : s[0].toNat ≠ 35) (hp : [47, 47].isPrefixOf s.data.toList = false) (hp2 : [47, 42].isPrefixOf s.data.toList = false) (hg : ¬ 0 < sign s.data.toList) :
    Calls Tryd.prog 48 #[.string s] w (NPost s w) := by
  have HT := Hid.out (p := Hid _) T; clear T
  have hb0 : byt s.data.toList 0 = s[0].toNat := by have := byt_drop s 0 0 (by omega); simpa using this
  have hn : next s.data.toList = _ := next.eq_1 s.data.toList
  rw [hb0] at hn
  have HV : Hid (val (next s.data.toList) = .tuple #[.int .i64 0, .int .i64 0, .int .i64 0, .int .i64 3]) := by rw [Hid, hn, if_neg (by rw [hl]; decide), if_neg (by rw [hd]; decide), if_neg hq, if_neg hr, if_neg (by rw [hp]; simp [hh]), if_neg (by rw [hp2]; decide), if_neg hg]; rfl
  have dg : decide (0 < (sign s.data.toList : Int)) = false := by simp; omega
  have q34 : ((s[0].toNat : Int) == 34) = false := by rw [beq_eq_false_iff_ne]; omega
  have q10 : ((s[0].toNat : Int) == 10) = false := by rw [beq_eq_false_iff_ne]; omega
  have q35 : ((s[0].toNat : Int) == 35) = false := by rw [beq_eq_false_iff_ne]; omega
  clear hn hb0 hq hr hh
  go_enter Tryd.func48, Tryd.ntmps48
  go_wp2_with fail
  refine (letter_any s[0].toNat w).mono ?_
  rintro e w' ⟨rfl, rfl⟩
  rw [hl]
  go_wp2_with fail
  refine (digit_any s[0].toNat w).mono ?_
  rintro e w' ⟨rfl, rfl⟩
  rw [hd]
  go_wp2_with fail
  refine (hasPrefix_any s ⟨#[47, 47]⟩ w).mono ?_
  rintro e w' ⟨rfl, rfl⟩
  rw [show (⟨#[47, 47]⟩ : ByteArray).data.toList = [47, 47] from rfl, hp]
  go_wp2_with fail
  refine (hasPrefix_any s ⟨#[47, 42]⟩ w).mono ?_
  rintro e w' ⟨rfl, rfl⟩
  rw [show (⟨#[47, 42]⟩ : ByteArray).data.toList = [47, 42] from rfl, hp2]
  go_wp2_with fail
  refine (sign_any s w h0 hs HT.out.d).mono ?_
  rintro e w' ⟨rfl, rfl⟩
  go_wp2_with fail
  refine bodyPost_ret (v := .tuple #[.int .i64 0, .int .i64 0, .int .i64 0, .int .i64 3]) (by simp [results, Tryd.results48, go_sem]) rfl ⟨by rw [HV.out], Below.refl _ _⟩

theorem next_any (s : ByteArray) (w : World) (h0 : 0 < s.size) (hs : s.size ≤ 2147483648) (T : Tabs w) :
    Calls Tryd.prog 48 #[.string s] w (NPost s w) := by
  cases hl : letterB s[0].toNat with
  | true => exact next_ident s w h0 hs T hl
  | false =>
  cases hd : digitB s[0].toNat with
  | true => exact next_dec s w h0 hs T hl hd
  | false =>
  by_cases hq : s[0].toNat = 34
  · cases hk : Quote.scan s.data.toList with
    | error k => exact next_quo_e s w h0 hs T hl hd hq k hk
    | ok x => exact next_quo s w h0 hs T hl hd hq x.1 x.2 hk
  by_cases hr : s[0].toNat = 10
  · exact next_line s w h0 hs T hl hd hr
  by_cases hh : s[0].toNat = 35
  · exact next_rem1 s w h0 hs T hl hd hq hr hh
  cases hp : List.isPrefixOf [47, 47] s.data.toList with
  | true => exact next_rem2 s w h0 hs T hl hd hq hr hh hp
  | false =>
  cases hp2 : List.isPrefixOf [47, 42] s.data.toList with
  | true => exact next_aside s w h0 hs T hl hd hq hr hh hp hp2
  | false =>
  by_cases hg : 0 < sign s.data.toList
  · exact next_sign s w h0 hs T hl hd hq hr hh hp hp2 hg
  · exact next_none s w h0 hs T hl hd hq hr hh hp hp2 hg
end Go.Proofs.YtbfkgddhpabioaaDoor.Lex
