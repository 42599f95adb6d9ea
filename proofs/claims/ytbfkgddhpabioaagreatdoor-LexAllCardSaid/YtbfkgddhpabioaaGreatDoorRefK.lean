/- tabulariumref11.one: comments. -/
import Derived.Test.YtbfkgddhpabioaaGreatDoorRefNM
import Derived.Test.YtbfkgddhpabioaaGreatDoorRefTO
import Derived.Test.YtbfkgddhpabioaaGreatDoorLexC
import Derived.Outline
namespace Go.Proofs.YtbfkgddhpabioaaGreatDoor.Lex
open Go.RowKit Go.Proofs.YtbfkgddhpabioaaGreatDoor.Utf Go.Proofs.YtbfkgddhpabioaaGreatDoor.Strs
set_option linter.unusedVariables false
set_option linter.unusedSimpArgs false
set_option maxRecDepth 100000

theorem take_snoc_at (s : ByteArray) (k v : Nat) (h : k ≤ v) (hv : v < s.size) : (s.data.toList.drop k).take (v + 1 - k) = (s.data.toList.drop k).take (v - k) ++ [s[v]] := by
  rw [show v + 1 - k = (v - k) + 1 by omega, List.take_add_one, List.getElem?_drop, show k + (v - k) = v by omega, List.getElem?_eq_getElem (by simpa using hv)]
  rfl

set_option maxHeartbeats 4000000 in
theorem one_rem1 (s : ByteArray) (k : Nat) (w : World) (hk : k < s.size) (hs : s.size ≤ 2000000) (hl : letterB s[k].toNat = false) (h : s[k].toNat = 35) :
    Calls Tryz.prog 23 #[.string s, .int .i64 k] w (OPost s.data.toList k (next (s.data.toList.drop k)) w) := by
  have hb0 : byt (s.data.toList.drop k) 0 = s[k].toNat := byt_drop0 s k hk
  have q10 : ((s[k].toNat : Int) == 10) = false := by rw [beq_eq_false_iff_ne]; omega
  have HL := Hid.out (p := Hid _) hl
  have d1 : decide (48 ≤ (s[k].toNat : Int)) = false := by rw [decide_eq_false_iff_not]; omega
  have q34 : ((s[k].toNat : Int) == 34) = false := by rw [beq_eq_false_iff_ne]; omega
  have q35 : ((s[k].toNat : Int) == 35) = true := by rw [beq_iff_eq]; omega
  have HN : Hid (next (s.data.toList.drop k) = remark (s.data.toList.drop k)) := by
    rw [Hid, next, hb0, if_neg (by rw [hl]; decide), if_neg (by rw [h]; decide), if_neg (by omega), if_neg (by omega), if_pos (Or.inl h)]
  have HK : Hid (s[k].toNat = 35 ∨ s[k].toNat = 47) := .inl h
  clear hb0 hl h
  have F0 : Hid (Fresh w (w.alloc (.cells #[.slice none 0 0, .int .i64 0, .int .i64 0] 40))) := Fresh.new w
  go_enter Tryz.func23, Tryz.ntmps23
  go_wp2_with fail
  refine (rletter_any s[k].toNat _).mono ?_
  rintro e w' ⟨rfl, rfl⟩
  rw [HL.out]
  go_wp2_with fail
  refine (rend_any s k _ (by omega) (by omega)).mono ?_
  rintro e w' ⟨rfl, rfl⟩
  have hle := lend_le s k (by omega)
  have hst : k + 1 ≤ lend s.data.toList k := by
    rw [lend_step s k hk, if_neg (by have := HK.out; omega)]; exact (lend_le s (k + 1) (by omega)).1
  have hL : Hid (trimB (line (s.data.toList.drop k)) = trimB ((s.data.toList.drop k).take (lend s.data.toList k - k))) := by
    rw [Hid, lend, show k + (line (s.data.toList.drop k)).length - k = (line (s.data.toList.drop k)).length by omega, ← line_take]
  obtain ⟨t0, ht0⟩ : ∃ t0, lend s.data.toList k = t0 := ⟨_, rfl⟩
  rw [ht0] at hle hst hL
  rw [ht0]
  clear ht0
  obtain ⟨hle1, hle2⟩ := hle
  go_wp2_with fail
  go_loop [10] (fun p10 => ∃ t : Nat, p10 = .int .i64 t ∧ k + 1 ≤ t ∧ t ≤ s.size ∧ Hid (trimB (line (s.data.toList.drop k)) = trimB ((s.data.toList.drop k).take (t - k)))) (fun p10 => (intOf p10).toNat)
  case atStart => exact ⟨t0, rfl, hst, hle2, hL.out⟩
  case round =>
  obtain ⟨t, rfl, ht1, ht2, hf⟩ := hrel
  obtain ⟨v, hv⟩ : ∃ v, t = v + 1 := ⟨t - 1, by omega⟩
  have hvv : (t : Int) - 1 = (v : Int) := by omega
  have hvs : v < s.size := by omega
  have hsn : Hid ((s.data.toList.drop k).take (t - k) = (s.data.toList.drop k).take (v - k) ++ [s[v]]) := by
    rw [Hid, hv]; exact take_snoc_at s k v (by omega) hvs
  have hkv : Hid (blankN s[v].toNat = true → k < v) := by
    intro hb
    rcases Nat.lt_or_ge k v with h | h
    · exact h
    · exfalso
      have e : v = k := by omega
      subst e
      have := HK.out
      unfold blankN at hb
      simp only [Bool.or_eq_true, beq_iff_eq] at hb
      omega
  have HV := Hid.out (p := Hid _) hv; clear hv
  cases hbl : blankN s[v].toNat
  · have hT : Hid (trimB (line (s.data.toList.drop k)) = (s.data.toList.drop k).take (t - k)) := by
      rw [Hid, hf.out, hsn.out, trimB_snoc, if_neg (by rw [hbl]; decide)]
    have HBL := Hid.out (p := Hid _) hbl
    clear hbl hkv
    obtain ⟨m, hm⟩ : ∃ m, (s.data.toList.drop k).take (t - k) = m := ⟨_, rfl⟩
    have hcc := fun w => rcomment_any s k t 6 w (by omega) ht2 (by omega)
    rw [hm] at hcc hT
    have HM : Hid ((s.data.toList.drop k).take m.length = m) := by
      rw [Hid, ← hm, List.length_take]; exact List.take_eq_take_iff.2 (by omega)
    have HCC := Hid.out (p := Hid _) hcc
    have HN : Hid (next (s.data.toList.drop k) = comment 6 m) := by rw [Hid, HN.out, remark_trim, hT.out]
    clear hm hcc hT hf hsn
    go_wp2_with fail
    refine (rblank_any s[v].toNat _).mono ?_
    rintro e w' ⟨rfl, rfl⟩
    rw [HBL.out]
    go_wp2_with fail
    refine (Calls.mono (HCC.out _) ?_)
    intro e w2 hc
    have hlw : w.heap.size < w2.heap.size := by
      unfold ComPost at hc
      have hlt := heap_lt F0.out.1
      split at hc
      · have := hc.2.size; omega
      · obtain ⟨g, _, _, _, h⟩ := hc; have := h.size; omega
    have HC : Hid (ComPost m k 6 _ e w2) := hc
    clear hc
    by_cases hwe : (within m).2 ≠ 0
    · have hcm : Hid (comment 6 m = (0, 0, (within m).1, (within m).2)) := by rw [Hid, comment, if_pos hwe]
      obtain ⟨rfl, hb2⟩ : ToldErr _ (k + (within m).1) (within m).2 e w2 := by
        have := HC.out; unfold ComPost at this; rw [if_pos hwe] at this; exact this
      have HWE := Hid.out (p := Hid _) hwe
      have FF : Hid (Fresh w w2) := Fresh.on F0.out hb2
      clear hb2 hwe HC
      generalize (within m).1 = wp at *
      generalize (within m).2 = we at *
      have c0 := cell_of FF.out.1 0
      have c1 := cell_of FF.out.1 1
      have c2 := cell_of FF.out.1 2
      have f0 := frozen_of FF.out.1 0
      have f1 := frozen_of FF.out.1 1
      have f2 := frozen_of FF.out.1 2
      go_wp2_with fail
      exact one_ret (FF.out.put _ _ _) (by rw [HN.out, hcm.out]; exact post_err HWE.out ⟨rfl, told3 FF.out.2⟩) rfl
    · have hcm : Hid (comment 6 m = (6, m.length, 0, 0)) := by rw [Hid, comment, if_neg hwe]
      obtain ⟨g, hg, rfl, hx, hb2⟩ : ToldOk _ (6, m, k) e w2 := by
        have := HC.out; unfold ComPost at this; rw [if_neg hwe] at this; exact this
      have FF : Hid (Fresh w w2) := Fresh.on F0.out hb2
      have HG : Hid (g ≠ w.heap.size) := by have := heap_lt F0.out.1; unfold Hid; omega
      have HX := Hid.out (p := Hid _) hx
      have GL : Hid (w.heap.size ≤ g) := by have := heap_lt F0.out.1; unfold Hid; omega
      clear hx hb2 hwe HC
      have c0 := cell_of FF.out.1 0
      have c1 := cell_of FF.out.1 1
      have c2 := cell_of FF.out.1 2
      have f0 := frozen_of FF.out.1 0
      have f1 := frozen_of FF.out.1 1
      have f2 := frozen_of FF.out.1 2
      go_wp2_with fail
      exact one_ret (FF.out.put _ _ _) (by
        rw [HN.out, hcm.out]
        refine post_ok ?_
        rw [HM.out]
        exact ⟨g, GL.out, rfl, far3 HX.out HG.out, told3 FF.out.2⟩) rfl
  · have hkv' := hkv.out hbl
    have HF : Hid (trimB (line (s.data.toList.drop k)) = trimB ((s.data.toList.drop k).take (v - k))) := by
      rw [Hid, hf.out, hsn.out, trimB_snoc, if_pos hbl]
    have HBL := Hid.out (p := Hid _) hbl
    clear hbl hkv hf hsn
    go_wp2_with fail
    refine (rblank_any s[v].toNat _).mono ?_
    rintro e w' ⟨rfl, rfl⟩
    rw [HBL.out]
    go_wp2_with fail
    go_round
    case rel => exact ⟨v, rfl, by omega, by omega, HF.out⟩
    case measure => have := HV.out; simp [intOf]; omega

set_option maxHeartbeats 4000000 in
theorem one_rem2 (s : ByteArray) (k : Nat) (w : World) (hk : k < s.size) (hs : s.size ≤ 2000000) (hl : letterB s[k].toNat = false) (h : s[k].toNat = 47) (hp : [47, 47].isPrefixOf (s.data.toList.drop k) = true) :
    Calls Tryz.prog 23 #[.string s, .int .i64 k] w (OPost s.data.toList k (next (s.data.toList.drop k)) w) := by
  have hb0 : byt (s.data.toList.drop k) 0 = s[k].toNat := byt_drop0 s k hk
  have q10 : ((s[k].toNat : Int) == 10) = false := by rw [beq_eq_false_iff_ne]; omega
  have HL := Hid.out (p := Hid _) hl
  have d1 : decide (48 ≤ (s[k].toNat : Int)) = false := by rw [decide_eq_false_iff_not]; omega
  have q34 : ((s[k].toNat : Int) == 34) = false := by rw [beq_eq_false_iff_ne]; omega
  have q35 : ((s[k].toNat : Int) == 35) = false := by rw [beq_eq_false_iff_ne]; omega
  have HN : Hid (next (s.data.toList.drop k) = remark (s.data.toList.drop k)) := by
    rw [Hid, next, hb0, if_neg (by rw [hl]; decide), if_neg (by rw [h]; decide), if_neg (by omega), if_neg (by omega), if_pos (Or.inr hp)]
  have HK : Hid (s[k].toNat = 35 ∨ s[k].toNat = 47) := .inr h
  have HP := Hid.out (p := Hid _) hp
  clear hb0 hl h hp
  have F0 : Hid (Fresh w (w.alloc (.cells #[.slice none 0 0, .int .i64 0, .int .i64 0] 40))) := Fresh.new w
  go_enter Tryz.func23, Tryz.ntmps23
  go_wp2_with fail
  refine (rletter_any s[k].toNat _).mono ?_
  rintro e w' ⟨rfl, rfl⟩
  rw [HL.out]
  go_wp2_with fail
  refine (ris_any s ⟨#[47, 47]⟩ k _ (by omega) (by omega) (by decide) (by decide)).mono ?_
  rintro e w' ⟨rfl, rfl⟩
  rw [show (⟨#[47, 47]⟩ : ByteArray).data.toList = [47, 47] from rfl, HP.out]
  go_wp2_with fail
  refine (rend_any s k _ (by omega) (by omega)).mono ?_
  rintro e w' ⟨rfl, rfl⟩
  have hle := lend_le s k (by omega)
  have hst : k + 1 ≤ lend s.data.toList k := by
    rw [lend_step s k hk, if_neg (by have := HK.out; omega)]; exact (lend_le s (k + 1) (by omega)).1
  have hL : Hid (trimB (line (s.data.toList.drop k)) = trimB ((s.data.toList.drop k).take (lend s.data.toList k - k))) := by
    rw [Hid, lend, show k + (line (s.data.toList.drop k)).length - k = (line (s.data.toList.drop k)).length by omega, ← line_take]
  obtain ⟨t0, ht0⟩ : ∃ t0, lend s.data.toList k = t0 := ⟨_, rfl⟩
  rw [ht0] at hle hst hL
  rw [ht0]
  clear ht0
  obtain ⟨hle1, hle2⟩ := hle
  go_wp2_with fail
  go_loop [10] (fun p10 => ∃ t : Nat, p10 = .int .i64 t ∧ k + 1 ≤ t ∧ t ≤ s.size ∧ Hid (trimB (line (s.data.toList.drop k)) = trimB ((s.data.toList.drop k).take (t - k)))) (fun p10 => (intOf p10).toNat)
  case atStart => exact ⟨t0, rfl, hst, hle2, hL.out⟩
  case round =>
  obtain ⟨t, rfl, ht1, ht2, hf⟩ := hrel
  obtain ⟨v, hv⟩ : ∃ v, t = v + 1 := ⟨t - 1, by omega⟩
  have hvv : (t : Int) - 1 = (v : Int) := by omega
  have hvs : v < s.size := by omega
  have hsn : Hid ((s.data.toList.drop k).take (t - k) = (s.data.toList.drop k).take (v - k) ++ [s[v]]) := by
    rw [Hid, hv]; exact take_snoc_at s k v (by omega) hvs
  have hkv : Hid (blankN s[v].toNat = true → k < v) := by
    intro hb
    rcases Nat.lt_or_ge k v with h | h
    · exact h
    · exfalso
      have e : v = k := by omega
      subst e
      have := HK.out
      unfold blankN at hb
      simp only [Bool.or_eq_true, beq_iff_eq] at hb
      omega
  have HV := Hid.out (p := Hid _) hv; clear hv
  cases hbl : blankN s[v].toNat
  · have hT : Hid (trimB (line (s.data.toList.drop k)) = (s.data.toList.drop k).take (t - k)) := by
      rw [Hid, hf.out, hsn.out, trimB_snoc, if_neg (by rw [hbl]; decide)]
    have HBL := Hid.out (p := Hid _) hbl
    clear hbl hkv
    obtain ⟨m, hm⟩ : ∃ m, (s.data.toList.drop k).take (t - k) = m := ⟨_, rfl⟩
    have hcc := fun w => rcomment_any s k t 6 w (by omega) ht2 (by omega)
    rw [hm] at hcc hT
    have HM : Hid ((s.data.toList.drop k).take m.length = m) := by
      rw [Hid, ← hm, List.length_take]; exact List.take_eq_take_iff.2 (by omega)
    have HCC := Hid.out (p := Hid _) hcc
    have HN : Hid (next (s.data.toList.drop k) = comment 6 m) := by rw [Hid, HN.out, remark_trim, hT.out]
    clear hm hcc hT hf hsn
    go_wp2_with fail
    refine (rblank_any s[v].toNat _).mono ?_
    rintro e w' ⟨rfl, rfl⟩
    rw [HBL.out]
    go_wp2_with fail
    refine (Calls.mono (HCC.out _) ?_)
    intro e w2 hc
    have hlw : w.heap.size < w2.heap.size := by
      unfold ComPost at hc
      have hlt := heap_lt F0.out.1
      split at hc
      · have := hc.2.size; omega
      · obtain ⟨g, _, _, _, h⟩ := hc; have := h.size; omega
    have HC : Hid (ComPost m k 6 _ e w2) := hc
    clear hc
    by_cases hwe : (within m).2 ≠ 0
    · have hcm : Hid (comment 6 m = (0, 0, (within m).1, (within m).2)) := by rw [Hid, comment, if_pos hwe]
      obtain ⟨rfl, hb2⟩ : ToldErr _ (k + (within m).1) (within m).2 e w2 := by
        have := HC.out; unfold ComPost at this; rw [if_pos hwe] at this; exact this
      have HWE := Hid.out (p := Hid _) hwe
      have FF : Hid (Fresh w w2) := Fresh.on F0.out hb2
      clear hb2 hwe HC
      generalize (within m).1 = wp at *
      generalize (within m).2 = we at *
      have c0 := cell_of FF.out.1 0
      have c1 := cell_of FF.out.1 1
      have c2 := cell_of FF.out.1 2
      have f0 := frozen_of FF.out.1 0
      have f1 := frozen_of FF.out.1 1
      have f2 := frozen_of FF.out.1 2
      go_wp2_with fail
      exact one_ret (FF.out.put _ _ _) (by rw [HN.out, hcm.out]; exact post_err HWE.out ⟨rfl, told3 FF.out.2⟩) rfl
    · have hcm : Hid (comment 6 m = (6, m.length, 0, 0)) := by rw [Hid, comment, if_neg hwe]
      obtain ⟨g, hg, rfl, hx, hb2⟩ : ToldOk _ (6, m, k) e w2 := by
        have := HC.out; unfold ComPost at this; rw [if_neg hwe] at this; exact this
      have FF : Hid (Fresh w w2) := Fresh.on F0.out hb2
      have HG : Hid (g ≠ w.heap.size) := by have := heap_lt F0.out.1; unfold Hid; omega
      have HX := Hid.out (p := Hid _) hx
      have GL : Hid (w.heap.size ≤ g) := by have := heap_lt F0.out.1; unfold Hid; omega
      clear hx hb2 hwe HC
      have c0 := cell_of FF.out.1 0
      have c1 := cell_of FF.out.1 1
      have c2 := cell_of FF.out.1 2
      have f0 := frozen_of FF.out.1 0
      have f1 := frozen_of FF.out.1 1
      have f2 := frozen_of FF.out.1 2
      go_wp2_with fail
      exact one_ret (FF.out.put _ _ _) (by
        rw [HN.out, hcm.out]
        refine post_ok ?_
        rw [HM.out]
        exact ⟨g, GL.out, rfl, far3 HX.out HG.out, told3 FF.out.2⟩) rfl
  · have hkv' := hkv.out hbl
    have HF : Hid (trimB (line (s.data.toList.drop k)) = trimB ((s.data.toList.drop k).take (v - k))) := by
      rw [Hid, hf.out, hsn.out, trimB_snoc, if_pos hbl]
    have HBL := Hid.out (p := Hid _) hbl
    clear hbl hkv hf hsn
    go_wp2_with fail
    refine (rblank_any s[v].toNat _).mono ?_
    rintro e w' ⟨rfl, rfl⟩
    rw [HBL.out]
    go_wp2_with fail
    go_round
    case rel => exact ⟨v, rfl, by omega, by omega, HF.out⟩
    case measure => have := HV.out; simp [intOf]; omega

set_option maxHeartbeats 4000000 in
theorem one_aside (s : ByteArray) (k : Nat) (w : World) (hk : k < s.size) (hs : s.size ≤ 2000000) (hl : letterB s[k].toNat = false) (h : s[k].toNat = 47) (hp : [47, 47].isPrefixOf (s.data.toList.drop k) = false) (hp2 : [47, 42].isPrefixOf (s.data.toList.drop k) = true) :
    Calls Tryz.prog 23 #[.string s, .int .i64 k] w (OPost s.data.toList k (next (s.data.toList.drop k)) w) := by
  have hb0 : byt (s.data.toList.drop k) 0 = s[k].toNat := byt_drop0 s k hk
  have q10 : ((s[k].toNat : Int) == 10) = false := by rw [beq_eq_false_iff_ne]; omega
  have HL := Hid.out (p := Hid _) hl
  have d1 : decide (48 ≤ (s[k].toNat : Int)) = false := by rw [decide_eq_false_iff_not]; omega
  have q34 : ((s[k].toNat : Int) == 34) = false := by rw [beq_eq_false_iff_ne]; omega
  have q35 : ((s[k].toNat : Int) == 35) = false := by rw [beq_eq_false_iff_ne]; omega
  have HN : Hid (next (s.data.toList.drop k) = aside (s.data.toList.drop k)) := by
    rw [Hid, next, hb0, if_neg (by rw [hl]; decide), if_neg (by rw [h]; decide), if_neg (by omega), if_neg (by omega), if_neg (by rw [hp]; simp; omega), if_pos hp2]
  have HP := Hid.out (p := Hid _) hp
  have HP2 := Hid.out (p := Hid _) hp2
  obtain ⟨tl, htl⟩ := pre2 hp2
  have hl2 : 2 ≤ (line (s.data.toList.drop k)).length := by
    rw [htl, line_cons, if_neg (by decide), line_cons, if_neg (by decide)]; simp
  obtain ⟨t0, ht0⟩ : ∃ t0, lend s.data.toList k = t0 := ⟨_, rfl⟩
  have hle := lend_le s k (by omega)
  rw [ht0] at hle
  have hll : (line (s.data.toList.drop k)).length = t0 - k := by rw [← ht0, lend]; omega
  have hex : ∀ i, (s.extract 0 t0).data.toList.drop (k + i) = (line (s.data.toList.drop k)).drop i := by
    intro i
    conv => rhs; rw [line_take (s.data.toList.drop k), hll]
    rw [Lib.extract_data, List.drop_take, List.drop_take, List.drop_drop, List.drop_drop, Nat.zero_add, show t0 - 0 - (k + i) = t0 - k - i by omega]
  have hxs : (s.extract 0 t0).size = t0 := by rw [ByteArray.size_extract]; omega
  have ht2 : k + 2 ≤ t0 := by omega
  obtain ⟨hle1, hle2⟩ := hle
  obtain ⟨X, hX⟩ : ∃ X, X = s.extract 0 t0 := ⟨_, rfl⟩
  rw [← hX] at hex hxs
  have HXX := Hid.out (p := Hid _) hX
  have HEX := Hid.out (p := Hid _) hex
  have HXS := Hid.out (p := Hid _) hxs
  have HLL := Hid.out (p := Hid _) hll
  have HT0 := Hid.out (p := Hid _) ht0
  have HL2 := Hid.out (p := Hid _) hl2
  clear hb0 hl h hp hp2 htl hl2 ht0 hll hex hxs hX
  have F0 : Hid (Fresh w (w.alloc (.cells #[.slice none 0 0, .int .i64 0, .int .i64 0] 40))) := Fresh.new w
  go_enter Tryz.func23, Tryz.ntmps23
  go_wp2_with fail
  refine (rletter_any s[k].toNat _).mono ?_
  rintro e w' ⟨rfl, rfl⟩
  rw [HL.out]
  go_wp2_with fail
  refine (ris_any s ⟨#[47, 47]⟩ k _ (by omega) (by omega) (by decide) (by decide)).mono ?_
  rintro e w' ⟨rfl, rfl⟩
  rw [show (⟨#[47, 47]⟩ : ByteArray).data.toList = [47, 47] from rfl, HP.out]
  go_wp2_with fail
  refine (ris_any s ⟨#[47, 42]⟩ k _ (by omega) (by omega) (by decide) (by decide)).mono ?_
  rintro e w' ⟨rfl, rfl⟩
  rw [show (⟨#[47, 42]⟩ : ByteArray).data.toList = [47, 42] from rfl, HP2.out]
  go_wp2_with fail
  refine (rend_any s k _ (by omega) (by omega)).mono ?_
  rintro e w' ⟨rfl, rfl⟩
  rw [HT0.out]
  go_wp2_with fail
  go_loop [12] (fun p12 => ∃ (i q : Nat), p12 = .int .i64 q ∧ Hid (q = k + i) ∧ 2 ≤ i ∧ q ≤ t0 ∧ Hid (∀ j, 2 ≤ j → j < i → [42, 47].isPrefixOf ((line (s.data.toList.drop k)).drop j) = false)) (fun p12 => t0 - (intOf p12).toNat)
  case atStart => exact ⟨2, k + 2, by go_num, rfl, by omega, ht2, fun j h1 h2 => by omega⟩
  case round =>
  obtain ⟨i, q, rfl, hq, hi, hqt, hno⟩ := hrel
  by_cases hlt : q < t0
  · have hxd : X.data.toList.drop q = (line (s.data.toList.drop k)).drop i := by rw [hq.out]; exact HEX.out i
    have his := fun w => ris_any X ⟨#[42, 47]⟩ q w (by rw [HXS.out]; omega) (by rw [HXS.out]; omega) (by decide) (by decide)
    rw [hxd, show (⟨#[42, 47]⟩ : ByteArray).data.toList = [42, 47] from rfl] at his
    clear hxd
    have hxe : s.extract 0 t0 = X := HXX.out.symm
    cases hit : List.isPrefixOf [42, 47] ((line (s.data.toList.drop k)).drop i)
    · have HF : Hid (∀ j, 2 ≤ j → j < i + 1 → [42, 47].isPrefixOf ((line (s.data.toList.drop k)).drop j) = false) := by
        intro j h1 h2
        by_cases e : j = i
        · rw [e]; exact hit
        · exact hno.out j h1 (by omega)
      rw [hit] at his
      have HIS := Hid.out (p := Hid _) his
      clear his hit
      go_wp2_with fail
      refine (Calls.mono (HIS.out _) ?_)
      rintro e w' ⟨rfl, rfl⟩
      go_wp2_with fail
      go_round
      case rel => exact ⟨i + 1, q + 1, by go_num, by have := hq.out; unfold Hid; omega, by omega, by omega, HF.out⟩
      case measure => simp [intOf]; omega
    · have hcm : aside (s.data.toList.drop k) = comment 7 ((s.data.toList.drop k).take (i + 2)) := aside_at _ i hi hit hno.out
      have hr := (List.isPrefixOf_iff_prefix.1 hit).length_le
      rw [List.length_drop, HLL.out] at hr
      simp only [List.length_cons, List.length_nil] at hr
      have hq2 : q + 2 ≤ t0 := by have := hq.out; omega
      rw [hit] at his
      have HIS := Hid.out (p := Hid _) his
      obtain ⟨t, ht⟩ : ∃ t, q + 2 = t := ⟨_, rfl⟩
      have htt : (q : Int) + 2 = (t : Int) := by omega
      have htk : t - k = i + 2 := by have := hq.out; omega
      have hts : t ≤ s.size := by omega
      have hkt : k ≤ t := by omega
      obtain ⟨m, hm⟩ : ∃ m, (s.data.toList.drop k).take (i + 2) = m := ⟨_, rfl⟩
      have hcc := fun w => rcomment_any s k t 7 w hkt hts (by omega)
      rw [htk, hm] at hcc
      rw [hm] at hcm
      have HM : Hid ((s.data.toList.drop k).take m.length = m) := by
        rw [Hid, ← hm, List.length_take]; exact List.take_eq_take_iff.2 (by omega)
      have HCC := Hid.out (p := Hid _) hcc
      have HN : Hid (next (s.data.toList.drop k) = comment 7 m) := by rw [Hid, HN.out, hcm]
      clear hm hcc hcm his hit ht htk hr
      go_wp2_with fail
      refine (Calls.mono (HIS.out _) ?_)
      rintro e w' ⟨rfl, rfl⟩
      go_wp2_with fail
      refine (Calls.mono (HCC.out _) ?_)
      intro e w2 hc
      have hlw : w.heap.size < w2.heap.size := by
        unfold ComPost at hc
        have hlt := heap_lt F0.out.1
        split at hc
        · have := hc.2.size; omega
        · obtain ⟨g, _, _, _, h⟩ := hc; have := h.size; omega
      have HC : Hid (ComPost m k 7 _ e w2) := hc
      clear hc
      by_cases hwe : (within m).2 ≠ 0
      · have hcm : Hid (comment 7 m = (0, 0, (within m).1, (within m).2)) := by rw [Hid, comment, if_pos hwe]
        obtain ⟨rfl, hb2⟩ : ToldErr _ (k + (within m).1) (within m).2 e w2 := by
          have := HC.out; unfold ComPost at this; rw [if_pos hwe] at this; exact this
        have HWE := Hid.out (p := Hid _) hwe
        have FF : Hid (Fresh w w2) := Fresh.on F0.out hb2
        clear hb2 hwe HC
        generalize (within m).1 = wp at *
        generalize (within m).2 = we at *
        have c0 := cell_of FF.out.1 0
        have c1 := cell_of FF.out.1 1
        have c2 := cell_of FF.out.1 2
        have f0 := frozen_of FF.out.1 0
        have f1 := frozen_of FF.out.1 1
        have f2 := frozen_of FF.out.1 2
        go_wp2_with fail
        exact one_ret (FF.out.put _ _ _) (by rw [HN.out, hcm.out]; exact post_err HWE.out ⟨rfl, told3 FF.out.2⟩) rfl
      · have hcm : Hid (comment 7 m = (7, m.length, 0, 0)) := by rw [Hid, comment, if_neg hwe]
        obtain ⟨g, hg, rfl, hx, hb2⟩ : ToldOk _ (7, m, k) e w2 := by
          have := HC.out; unfold ComPost at this; rw [if_neg hwe] at this; exact this
        have FF : Hid (Fresh w w2) := Fresh.on F0.out hb2
        have HG : Hid (g ≠ w.heap.size) := by have := heap_lt F0.out.1; unfold Hid; omega
        have HX := Hid.out (p := Hid _) hx
        have GL : Hid (w.heap.size ≤ g) := by have := heap_lt F0.out.1; unfold Hid; omega
        clear hx hb2 hwe HC
        have c0 := cell_of FF.out.1 0
        have c1 := cell_of FF.out.1 1
        have c2 := cell_of FF.out.1 2
        have f0 := frozen_of FF.out.1 0
        have f1 := frozen_of FF.out.1 1
        have f2 := frozen_of FF.out.1 2
        go_wp2_with fail
        exact one_ret (FF.out.put _ _ _) (by
          rw [HN.out, hcm.out]
          refine post_ok ?_
          rw [HM.out]
          exact ⟨g, GL.out, rfl, far3 HX.out HG.out, told3 FF.out.2⟩) rfl
  · have hil : i = (line (s.data.toList.drop k)).length := by rw [HLL.out]; have := hq.out; omega
    have HX : Hid (next (s.data.toList.drop k) = (0, 0, 0, 2)) := by
      rw [Hid, HN.out, aside_none _ (by rw [← hil]; exact hno.out) HL2.out]
    clear hil
    have FF := Hid.out (p := Hid _) F0.out
    clear F0
    go_wp2_with fail
    exact one_ret (heap_alloc_new _ _) (by rw [HX.out]; exact post_err (by decide) ⟨rfl, (Below.refl _ _).alloc (Nat.le_refl _) _⟩) rfl

end Go.Proofs.YtbfkgddhpabioaaGreatDoor.Lex
