/- tabulariumlaw11.LexCovers: blanks stand between the tokens, and they are all of the text. -/
import Derived.Test.YtbfkgddhpabioaaDoorLexParses
namespace Go.Proofs.YtbfkgddhpabioaaDoor.Lex
open Go.RowKit Go.Proofs.YtbfkgddhpabioaaDoor.Utf Go.Proofs.YtbfkgddhpabioaaDoor.Strs
set_option linter.unusedVariables false
set_option linter.unusedSimpArgs false
set_option maxRecDepth 100000

/-- Tokens that cover a text from a place on. -/
def Cov (l : List UInt8) : List Tok → Nat → Prop
  | [], p => p = l.length
  | x :: xs, p => p ≤ x.2.2 ∧ x.2.2 ≤ l.length ∧ (∀ i (h : i < l.length), p ≤ i → i < x.2.2 → blank l[i] = true) ∧ x.2.2 + x.2.1.length ≤ l.length ∧ (l.drop x.2.2).take x.2.1.length = x.2.1 ∧ Cov l xs (x.2.2 + x.2.1.length)
theorem cov_back (l : List UInt8) (xs : List Tok) (p q : Nat) (h : Cov l (xs ++ [(0, [], l.length)]) q) (hpq : p ≤ q) (hb : ∀ i (h : i < l.length), p ≤ i → i < q → blank l[i] = true) : Cov l (xs ++ [(0, [], l.length)]) p := by
  cases xs with
  | nil =>
    obtain ⟨h1, h2, h3, h4, h5, h6⟩ := h
    refine ⟨by omega, h2, fun i hi h7 h8 => ?_, h4, h5, h6⟩
    rcases Nat.lt_or_ge i q with h9 | h9
    · exact hb i hi h7 h9
    · exact h3 i hi h9 h8
  | cons x xs =>
    obtain ⟨h1, h2, h3, h4, h5, h6⟩ := h
    refine ⟨by omega, h2, fun i hi h7 h8 => ?_, h4, h5, h6⟩
    rcases Nat.lt_or_ge i q with h9 | h9
    · exact hb i hi h7 h9
    · exact h3 i hi h9 h8
theorem cov_toks (l : List UInt8) : ∀ (n p : Nat), l.length - p ≤ n → p ≤ l.length → (toksAt l p).2.2 = 0 → Cov l ((toksAt l p).1 ++ [(0, [], l.length)]) p
  | n, p, hn, hp, he => by
    rcases Nat.lt_or_ge p l.length with h | h
    · cases n with
      | zero => omega
      | succ n =>
        cases hb : blank l[p]
        · by_cases hx : (next (l.drop p)).2.2.2 = 0
          · have hf := (next_fits (l.drop p) (List.ne_nil_of_length_pos (by rw [List.length_drop]; omega))).size hx
            rw [List.length_drop] at hf
            have hl : ((l.drop p).take (next (l.drop p)).2.1).length = (next (l.drop p)).2.1 := by rw [List.length_take, List.length_drop]; omega
            rw [toksAt_tok l p h hb hx] at he ⊢
            refine ⟨Nat.le_refl _, hp, fun i hi h7 h8 => by simp only at h8; omega, ?_, ?_, ?_⟩
            · simp only [hl]; omega
            · simp only [hl]
            · simp only [hl]
              exact cov_toks l n _ (by omega) (by omega) he
          · rw [toksAt_bad l p h hb hx] at he
            exact absurd he hx
        · rw [toksAt_blank l p h hb] at he ⊢
          refine cov_back l _ p (p + 1) (cov_toks l n (p + 1) (by omega) (by omega) he) (by omega) ?_
          intro i hi h7 h8
          obtain rfl : i = p := by omega
          exact hb
    · obtain rfl : p = l.length := by omega
      rw [toksAt_end]
      exact ⟨Nat.le_refl _, Nat.le_refl _, fun i hi h7 h8 => by simp only at h8; omega, by simp, by simp, by simp [Cov]⟩

theorem lexCovers_big (s : ByteArray) (w : World) (T : Tabs w) (hs : 1500 < s.size) (hm : s.size ≤ 9223372036854775807) :
    Calls Tryd.prog 7 #[.string s] w fun e w' => e = .returned (.bool true) ∧ Below w.heap.size w w' := by
  have hw := wakes_any w T
  go_enter Tryd.func7, Tryd.ntmps7
  go_wp2_with fail
  refine hw.mono ?_
  rintro e w1 ⟨rfl, hb1⟩
  have B1 : Hid (Below w.heap.size w w1) := hb1
  clear hb1
  go_wp2_with fail
  go_ret
  exact ⟨rfl, B1.out⟩
theorem lexCovers_bad (s : ByteArray) (w : World) (T : Tabs w) (hs : s.size ≤ 1500) (he : (toksAt s.data.toList 0).2.2 ≠ 0) :
    Calls Tryd.prog 7 #[.string s] w fun e w' => e = .returned (.bool true) ∧ Below w.heap.size w w' := by
  have hw := wakes_any w T
  have HT := Hid.out (p := Hid _) T; clear T
  have hp := fun w T => parse_any s w (by omega) T
  unfold PPost at hp
  rw [parse_bad (by simp; omega) he] at hp
  generalize (toksAt s.data.toList 0).2.1 = at_ at *
  generalize (toksAt s.data.toList 0).2.2 = e_ at *
  have HP := Hid.out (p := Hid _) hp
  have hne : ((e_ : Int) != 0) = true := by rw [bne_iff_ne]; omega
  clear hp he
  go_enter Tryd.func7, Tryd.ntmps7
  go_wp2_with fail
  refine hw.mono ?_
  rintro e w1 ⟨rfl, hb1⟩
  have B1 : Hid (Below w.heap.size w w1) := hb1
  have T1 : Hid (Tabs w1) := HT.out.stays hb1
  clear hb1 hw
  go_wp2_with fail
  refine (Calls.mono (HP.out _ T1.out) ?_)
  rintro e w2 ⟨v, rfl, hv, hb2⟩
  have B2 : Hid (Below w.heap.size w w2) := B1.out.trans (hb2.mono B1.out.size)
  obtain ⟨va, vc, rfl⟩ := hv.form
  clear hv hb2
  go_wp2_with fail
  go_ret
  exact ⟨rfl, B2.out⟩

set_option maxHeartbeats 8000000 in
theorem lexCovers_ok (s : ByteArray) (w : World) (T : Tabs w) (hs : s.size ≤ 1500) (he : (toksAt s.data.toList 0).2.2 = 0) :
    Calls Tryd.prog 7 #[.string s] w fun e w' => e = .returned (.bool true) ∧ Below w.heap.size w w' := by
  obtain ⟨i0, hi, hz0, hz1, hz2⟩ := info_parts infoTok
  have HI := Hid.out (p := Hid _) hi; clear hi
  have hw := wakes_any w T
  have HT := Hid.out (p := Hid _) T; clear T
  have hl : s.data.toList.length = s.size := by simp
  have hcov := cov_toks s.data.toList _ 0 (Nat.le_refl _) (Nat.zero_le _) he
  have hlen := toksAt_len s.data.toList
  rw [hl] at hlen hcov
  have hp := fun w T => parse_any s w (by omega) T
  unfold PPost at hp
  rw [parse_ok (by simp; omega) he] at hp
  generalize (toksAt s.data.toList 0).1 = L at *
  have HP := Hid.out (p := Hid _) hp
  have HL := Hid.out (p := Hid _) hl
  have HC := Hid.out (p := Hid _) hcov
  clear hp he hl hcov
  go_enter Tryd.func7, Tryd.ntmps7
  go_wp2_with fail
  refine hw.mono ?_
  rintro e w1 ⟨rfl, hb1⟩
  have B1 : Hid (Below w.heap.size w w1) := hb1
  have T1 : Hid (Tabs w1) := HT.out.stays hb1
  clear hb1 hw
  go_wp2_with fail
  refine (Calls.mono (HP.out _ T1.out) ?_)
  rintro e w2 ⟨v, rfl, hv, hb2⟩
  have B2 : Hid (Below w.heap.size w w2) := B1.out.trans (hb2.mono B1.out.size)
  obtain ⟨va, vc, rfl⟩ := hv.form
  have hown : w2.ownsRow w1.heap.size 49 3 (.slice va L.length vc) L.length (toksCells L) := hv
  have hsz : w1.heap.size ≤ w2.heap.size := hb2.size
  have hww : w.heap.size ≤ w1.heap.size := B1.out.size
  clear hv hb2
  go_wp2_with (at_builtin; refine wpList_append_own _ rfl _ _ 41 rfl w1.heap.size 49 i0 (.agg #[.int .i64 0, .string ⟨#[]⟩, .int .i64 0]) 3 32 Tryd.underlying41 HI hz0 hz1 hz2 rfl (by decide) _ _ _ rfl (hown.alloc _) ⟨w2.heap.size, 0, none⟩ 1 1 [.int .i64 0, .string ⟨#[]⟩, .int .i64 s.size] rfl rfl ?c1 ?c2 ?c3 ?c4 ?c5 ?_)
  case c1 =>
    intro j u hj
    match j, hj with
    | 0, hj => simp at hj; subst hj; simp [Addr.add]
    | 1, hj => simp at hj; subst hj; simp [Addr.add]
    | 2, hj => simp at hj; subst hj; simp [Addr.add]
  case c2 => intro u hu; simp at hu; rcases hu with rfl | rfl | rfl <;> rfl
  case c3 => unfold maxLen; omega
  case c4 => omega
  case c5 => simp; omega
  intro v' w4 hown' hgrow _
  have hrow : Row w4 w1.heap.size v' (L ++ [(0, [], s.size)]) := by
    unfold Row; rw [toksCells_snoc]
    simpa [tokCells] using hown'
  have B4 : Hid (Below w.heap.size w w4) := (B2.out.alloc (by omega) _).grown hgrow (by simp; omega) (fun k hk => Nat.le_trans hww (hown.lt k hk).1)
  obtain ⟨ua, uc, rfl⟩ := hrow.form
  obtain ⟨g, o, rfl, K⟩ : ∃ g o, ua = some ⟨g, o, none⟩ ∧ Toks w4 g o ((L ++ [(0, [], s.size)]).map zt) := by
    obtain ⟨a, c, hv, ha⟩ := hrow.reads
    injection hv with h1 h2 h3
    subst h1
    exact ha.resolve_left (by simp)
  clear hown' hgrow hown hrow
  obtain ⟨X, hX⟩ : ∃ X, L ++ [(0, [], s.size)] = X := ⟨_, rfl⟩
  rw [hX] at K HC
  rw [hX]
  have hXl : X.length ≤ 1501 := by rw [← hX, List.length_append]; simp; omega
  have HK := Hid.out (p := Hid _) K
  clear hX K
  go_wp2_with fail
  go_loopw [6, 29] (fun p6 p29 wr => ∃ (a i : Nat), p6 = .int .i64 a ∧ p29 = .int .i64 i ∧ a ≤ s.size ∧ i ≤ X.length ∧ Hid (Cov s.data.toList (X.drop i) a) ∧ Hid (Below w4.heap.size w4 wr)) (fun _ p29 _ => X.length - (intOf p29).toNat)
  case atStart => exact ⟨0, 0, rfl, rfl, Nat.zero_le _, Nat.zero_le _, HC.out, Below.refl _ _⟩
  case round =>
    obtain ⟨a, i, rfl, rfl, ha, hiX, hcv, hBr⟩ := hrel
    by_cases hlt : i < X.length
    · have hlz : i < (X.map zt).length := by simpa using hlt
      have k1 := (HK.out.stays hBr.out).k i hlz
      have k2 := (HK.out.stays hBr.out).t i hlz
      have k3 := (HK.out.stays hBr.out).p i hlz
      have hc := hcv.out
      rw [List.drop_eq_getElem_cons hlt] at hc
      simp only [List.getElem_map] at k1 k2 k3
      generalize X[i] = x at *
      obtain ⟨kd, tx, pl⟩ := x
      obtain ⟨q1, q2, q3, q4, q5, q6⟩ := hc
      simp only at q1 q2 q3 q4 q5 q6
      rw [HL.out] at q2 q4
      simp only [zt] at k1 k2 k3
      have hts : (⟨tx.toArray⟩ : ByteArray).size = tx.length := by show tx.toArray.size = _; rw [List.size_toArray]
      obtain ⟨q, hq⟩ : ∃ q, pl + tx.length = q := ⟨_, rfl⟩
      have hxt : s.extract pl q = (⟨tx.toArray⟩ : ByteArray) := Utf.str_of _ _ (by rw [ext_data s pl q tx.length hq, q5])
      rw [hq] at q4 q6
      have hqq : (pl : Int) + (tx.length : Int) = (q : Int) := by omega
      have hplq : pl ≤ q := by omega
      obtain ⟨t, ht⟩ : ∃ t, (⟨tx.toArray⟩ : ByteArray) = t := ⟨_, rfl⟩
      rw [ht] at k2 hts hxt
      rw [← hts] at hqq
      have HQ6 := Hid.out (p := Hid _) q6
      have HQ3 := Hid.out (p := Hid _) q3
      have hwq : IntKind.i64.wrap (q : Int) = (q : Int) := IntWalk.i64_in _ (by omega)
      have dn1 : decide (pl < a) = false := by rw [decide_eq_false_iff_not]; omega
      have dn2 : decide (s.size < pl) = false := by rw [decide_eq_false_iff_not]; omega
      have dn3 : decide ((pl : Int) < (a : Int)) = false := by rw [decide_eq_false_iff_not]; omega
      have dn4 : decide ((s.size : Int) < (pl : Int)) = false := by rw [decide_eq_false_iff_not]; omega
      clear q3 q5 q6 hq ht hts
      go_wp2_with fail
      have HCV : Hid (Cov s.data.toList (X.drop (i + 1)) q) := HQ6.out
      clear HQ6
      go_loop [6] (fun p6 => ∃ b : Nat, p6 = .int .i64 b ∧ a ≤ b ∧ b ≤ pl) (fun p6 => pl - (intOf p6).toNat)
      case atStart => exact ⟨a, rfl, Nat.le_refl _, q1⟩
      case round =>
        obtain ⟨b, rfl, hb1, hb2⟩ := hrel
        by_cases hbp : b < pl
        · have hbs : b < s.size := by omega
          have hbk : blankN s[b].toNat = true := by
            rw [← blank_eq]; exact HQ3.out b (by rw [HL.out]; exact hbs) hb1 hbp
          have HBK := Hid.out (p := Hid _) hbk
          clear hbk
          go_wp2_with fail
          refine (rblank_any s[b].toNat _).mono ?_
          rintro e w' ⟨rfl, rfl⟩
          rw [HBK.out]
          go_wp2_with fail
          go_round
          case rel => exact ⟨b + 1, by go_num, by omega, by omega⟩
          case measure => simp [intOf]; omega
        · obtain rfl : b = pl := by omega
          have hdq : decide ((s.size : Int) < (q : Int)) = false := by rw [decide_eq_false_iff_not]; omega
          have hBn : Hid (Below w4.heap.size w4 (wr.alloc (.cells #[.int .i64 kd, .string t, .int .i64 b] 49))) := hBr.out.alloc hBr.out.size _
          go_wp2_with fail
          go_quiet (fail)
          go_wp2_with fail
          go_roundw
          case rel => exact ⟨q, i + 1, rfl, by go_num, q4, by omega, HCV.out, hBn.out.trans (below_drewN _ _ _)⟩
          case measure => simp [intOf]; omega
    · have hend : a = s.size := by
        have := hcv.out
        rw [List.drop_of_length_le (by omega)] at this
        have h2 : a = s.data.toList.length := this
        rw [HL.out] at h2; exact h2
      subst hend
      have hB5 : Hid (Below w.heap.size w wr) := B4.out.trans (hBr.out.mono B4.out.size)
      go_wp2_with fail
      go_ret
      exact ⟨by simp, hB5.out⟩

theorem lexCovers_any (s : ByteArray) (w : World) (T : Tabs w) (hm : s.size ≤ 9223372036854775807) :
    Calls Tryd.prog 7 #[.string s] w fun e w' => e = .returned (.bool true) ∧ Below w.heap.size w w' := by
  by_cases h : 1500 < s.size
  · exact lexCovers_big s w T h hm
  · by_cases he : (toksAt s.data.toList 0).2.2 = 0
    · exact lexCovers_ok s w T (by omega) he
    · exact lexCovers_bad s w T (by omega) he
end Go.Proofs.YtbfkgddhpabioaaDoor.Lex
