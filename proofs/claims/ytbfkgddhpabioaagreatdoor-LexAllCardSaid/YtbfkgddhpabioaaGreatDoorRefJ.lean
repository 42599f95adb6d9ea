/- tabulariumref11.one: signs; all. -/
import Derived.Test.YtbfkgddhpabioaaGreatDoorRefK
import Derived.Test.YtbfkgddhpabioaaGreatDoorRefTO
import Derived.Test.YtbfkgddhpabioaaGreatDoorLexC
import Derived.Outline
namespace Go.Proofs.YtbfkgddhpabioaaGreatDoor.Lex
open Go.RowKit Go.Proofs.YtbfkgddhpabioaaGreatDoor.Utf Go.Proofs.YtbfkgddhpabioaaGreatDoor.Strs
set_option linter.unusedVariables false
set_option linter.unusedSimpArgs false
set_option maxRecDepth 100000


def dsign : List ByteArray := [⟨#[61, 61]⟩, ⟨#[33, 61]⟩, ⟨#[60, 61]⟩, ⟨#[62, 61]⟩, ⟨#[38, 38]⟩, ⟨#[124, 124]⟩]
def ssign : List ByteArray := [⟨#[61]⟩, ⟨#[60]⟩, ⟨#[62]⟩, ⟨#[43]⟩, ⟨#[45]⟩, ⟨#[42]⟩, ⟨#[47]⟩, ⟨#[37]⟩, ⟨#[33]⟩, ⟨#[63]⟩, ⟨#[58]⟩, ⟨#[44]⟩, ⟨#[46]⟩, ⟨#[40]⟩, ⟨#[41]⟩, ⟨#[91]⟩, ⟨#[93]⟩, ⟨#[123]⟩, ⟨#[125]⟩]
def dcells : Array Value := #[.string ⟨#[61, 61]⟩, .string ⟨#[33, 61]⟩, .string ⟨#[60, 61]⟩, .string ⟨#[62, 61]⟩, .string ⟨#[38, 38]⟩, .string ⟨#[124, 124]⟩]
def scells : Array Value := #[.string ⟨#[61]⟩, .string ⟨#[60]⟩, .string ⟨#[62]⟩, .string ⟨#[43]⟩, .string ⟨#[45]⟩, .string ⟨#[42]⟩, .string ⟨#[47]⟩, .string ⟨#[37]⟩, .string ⟨#[33]⟩, .string ⟨#[63]⟩, .string ⟨#[58]⟩, .string ⟨#[44]⟩, .string ⟨#[46]⟩, .string ⟨#[40]⟩, .string ⟨#[41]⟩, .string ⟨#[91]⟩, .string ⟨#[93]⟩, .string ⟨#[123]⟩, .string ⟨#[125]⟩]
theorem dcell : ∀ i (h : i < 6), dcells[i]? = some (.string (dsign[i]'h))
  | 0, _ => rfl
  | 1, _ => rfl
  | 2, _ => rfl
  | 3, _ => rfl
  | 4, _ => rfl
  | 5, _ => rfl
theorem scell : ∀ i (h : i < 19), scells[i]? = some (.string (ssign[i]'h))
  | 0, _ => rfl
  | 1, _ => rfl
  | 2, _ => rfl
  | 3, _ => rfl
  | 4, _ => rfl
  | 5, _ => rfl
  | 6, _ => rfl
  | 7, _ => rfl
  | 8, _ => rfl
  | 9, _ => rfl
  | 10, _ => rfl
  | 11, _ => rfl
  | 12, _ => rfl
  | 13, _ => rfl
  | 14, _ => rfl
  | 15, _ => rfl
  | 16, _ => rfl
  | 17, _ => rfl
  | 18, _ => rfl
  | n + 19, h => absurd h (by omega)
theorem dsize : ∀ i (h : i < 6), (dsign[i]'h).size = 2
  | 0, _ => rfl
  | 1, _ => rfl
  | 2, _ => rfl
  | 3, _ => rfl
  | 4, _ => rfl
  | 5, _ => rfl
theorem ssize : ∀ i (h : i < 19), (ssign[i]'h).size = 1
  | 0, _ => rfl
  | 1, _ => rfl
  | 2, _ => rfl
  | 3, _ => rfl
  | 4, _ => rfl
  | 5, _ => rfl
  | 6, _ => rfl
  | 7, _ => rfl
  | 8, _ => rfl
  | 9, _ => rfl
  | 10, _ => rfl
  | 11, _ => rfl
  | 12, _ => rfl
  | 13, _ => rfl
  | 14, _ => rfl
  | 15, _ => rfl
  | 16, _ => rfl
  | 17, _ => rfl
  | 18, _ => rfl
  | n + 19, h => absurd h (by omega)
theorem ddata : dsign.map (·.data.toList) = doubles := rfl
theorem sdata : ∀ n, n < 256 → ssign.any (fun p => p.data.toList == [UInt8.ofNat n]) = (singles.findIdx? (· == UInt8.ofNat n)).isSome := by decide +kernel
theorem pre1 (l : List UInt8) (b : UInt8) (hl : l ≠ []) : List.isPrefixOf [b] l = (b == UInt8.ofNat (byt l 0)) := by
  obtain ⟨c, t, rfl⟩ := List.exists_cons_of_ne_nil hl
  show (b == c && true) = (b == UInt8.ofNat c.toNat)
  rw [Bool.and_true]; simp
theorem sign_two (l : List UInt8) (i : Nat) (h : i < 6) (hp : (dsign[i]'h).data.toList.isPrefixOf l = true) : sign l = 2 := by
  unfold sign
  rw [if_pos]
  rw [← ddata, List.any_eq_true]
  exact ⟨_, List.mem_map.2 ⟨dsign[i]'h, List.getElem_mem _, rfl⟩, hp⟩
theorem no_two (l : List UInt8) (hn : ∀ i (h : i < 6), (dsign[i]'h).data.toList.isPrefixOf l = false) : doubles.any (·.isPrefixOf l) = false := by
  rw [← ddata, List.any_eq_false]
  intro x hx
  obtain ⟨p, hp, rfl⟩ := List.mem_map.1 hx
  obtain ⟨i, hi, rfl⟩ := List.getElem_of_mem hp
  rw [hn i hi]; decide
theorem sone (b : UInt8) : ∀ p ∈ ssign, ∀ l : List UInt8, l ≠ [] → p.data.toList.isPrefixOf l = (p.data.toList == [UInt8.ofNat (byt l 0)]) := by
  intro p hp l hl
  obtain ⟨i, hi, rfl⟩ := List.getElem_of_mem hp
  have hs := ssize i hi
  have : (ssign[i]).data.toList.length = 1 := by rw [show (ssign[i]).data.toList.length = (ssign[i]).size by simp]; exact hs
  obtain ⟨c, hc⟩ := List.length_eq_one_iff.1 this
  rw [hc, pre1 l c hl]
  rw [Bool.eq_iff_iff]; simp
theorem sign_one (l : List UInt8) (hl : l ≠ []) (hd : doubles.any (·.isPrefixOf l) = false) (i : Nat) (h : i < 19) (hp : (ssign[i]'h).data.toList.isPrefixOf l = true) : sign l = 1 := by
  unfold sign
  rw [if_neg (by rw [hd]; decide), if_pos]
  rw [← sdata _ (byt_lt l 0), List.any_eq_true]
  refine ⟨ssign[i]'h, List.getElem_mem _, ?_⟩
  have := sone 0 (ssign[i]'h) (List.getElem_mem _) l hl
  rw [hp] at this
  exact this.symm
theorem sign_none (l : List UInt8) (hl : l ≠ []) (hd : doubles.any (·.isPrefixOf l) = false) (hn : ∀ i (h : i < 19), (ssign[i]'h).data.toList.isPrefixOf l = false) : sign l = 0 := by
  unfold sign
  rw [if_neg (by rw [hd]; decide), if_neg]
  rw [← sdata _ (byt_lt l 0), List.any_eq_true]
  rintro ⟨p, hp, h⟩
  obtain ⟨i, hi, rfl⟩ := List.getElem_of_mem hp
  have := hn i hi
  rw [sone 0 _ (List.getElem_mem _) l hl, h] at this
  cases this

set_option maxHeartbeats 4000000 in
theorem one_sign (s : ByteArray) (k : Nat) (w : World) (hk : k < s.size) (hs : s.size ≤ 2000000) (hl : letterB s[k].toNat = false) (hd : digitB s[k].toNat = false) (h1 : s[k].toNat ≠ 10) (h2 : s[k].toNat ≠ 34) (h3 : s[k].toNat ≠ 35) (hp : [47, 47].isPrefixOf (s.data.toList.drop k) = false) (hp2 : [47, 42].isPrefixOf (s.data.toList.drop k) = false) :
    Calls Tryz.prog 23 #[.string s, .int .i64 k] w (OPost s.data.toList k (next (s.data.toList.drop k)) w) := by
  have hb0 : byt (s.data.toList.drop k) 0 = s[k].toNat := byt_drop0 s k hk
  have q10 : ((s[k].toNat : Int) == 10) = false := by rw [beq_eq_false_iff_ne]; omega
  have HL := Hid.out (p := Hid _) hl
  have q34 : ((s[k].toNat : Int) == 34) = false := by rw [beq_eq_false_iff_ne]; omega
  have q35 : ((s[k].toNat : Int) == 35) = false := by rw [beq_eq_false_iff_ne]; omega
  have HN : Hid (next (s.data.toList.drop k) = if 0 < sign (s.data.toList.drop k) then (4, sign (s.data.toList.drop k), 0, 0) else (0, 0, 0, 3)) := by
    rw [Hid, next, hb0, if_neg (by rw [hl]; decide), if_neg (by rw [hd]; decide), if_neg (by omega), if_neg (by omega), if_neg (by rw [hp]; simp; omega), if_neg (by rw [hp2]; decide)]
  have HNE : Hid (s.data.toList.drop k ≠ []) := List.ne_nil_of_length_pos (by rw [List.length_drop]; simp; omega)
  have hdd : (decide (48 ≤ (s[k].toNat : Int)) = false) ∨ (decide (48 ≤ (s[k].toNat : Int)) = true ∧ decide ((s[k].toNat : Int) ≤ 57) = false) := by
    unfold digitB at hd
    rw [Bool.and_eq_false_iff, decide_eq_false_iff_not, decide_eq_false_iff_not] at hd
    rw [decide_eq_false_iff_not, decide_eq_true_eq, decide_eq_false_iff_not]; omega
  have HP := Hid.out (p := Hid _) hp
  have HP2 := Hid.out (p := Hid _) hp2
  clear hb0 hl hd h1 h2 h3 hp hp2
  rcases hdd with e1 | ⟨e1, e2⟩
  all_goals
    have F0 : Hid (Fresh w (w.alloc (.cells #[.slice none 0 0, .int .i64 0, .int .i64 0] 40))) := Fresh.new w
    go_enter Tryz.func23, Tryz.ntmps23
    go_wp2_with fail
    refine (rletter_any s[k].toNat _).mono ?_
    rintro e w' ⟨rfl, rfl⟩
    rw [HL.out]
    go_wp2_with fail
    refine (ris_any s ⟨#[47, 47]⟩ k _ (by omega) (by omega) (by decide) (by decide)).mono ?_
    rintro e w' ⟨rfl, rfl⟩
    rw [show (⟨#[47, 47]⟩ : ByteArray).data.toList = [47, 47] from rfl, HP.out]
    go_wp2_with fail
    refine (ris_any s ⟨#[47, 42]⟩ k _ (by omega) (by omega) (by decide) (by decide)).mono ?_
    rintro e w' ⟨rfl, rfl⟩
    rw [show (⟨#[47, 42]⟩ : ByteArray).data.toList = [47, 42] from rfl, HP2.out]
    go_wp2_with fail
    have FW : Hid (Fresh w ((w.alloc (.cells #[.slice none 0 0, .int .i64 0, .int .i64 0] 40)).alloc (.cells dcells 9))) := F0.out.alloc _
    have HC : Hid (∀ i (h : i < 6), ((w.alloc (.cells #[.slice none 0 0, .int .i64 0, .int .i64 0] 40)).alloc (.cells dcells 9)).cell? ⟨w.heap.size + 1, i, none⟩ = some (.string (dsign[i]'h))) := by
      intro i h
      rw [cell_of (heap_alloc_at _ _ (by simp))]; exact dcell i h
    unfold dcells at FW HC
    clear F0
    generalize hWW : (w.alloc _).alloc (.cells _ _) = W at *
    clear hWW
    go_loop [14, 167] (fun p_ q_ => ∃ i : Nat, q_ = .int .i64 i ∧ i ≤ 6 ∧ Hid (∀ j (h : j < 6), j < i → (dsign[j]'h).data.toList.isPrefixOf (s.data.toList.drop k) = false)) (fun _ q_ => 6 - (intOf q_).toNat)
    case atStart => exact ⟨0, rfl, by omega, fun j h h0 => by omega⟩
    case round =>
    obtain ⟨i, rfl, hi, hno⟩ := hrel
    by_cases hlt : i < 6
    · have hcell := HC.out i hlt
      have hsz := dsize i hlt
      have his := fun w => ris_any s (dsign[i]'hlt) k w (by omega) (by omega) (by rw [hsz]; omega) (by rw [hsz]; omega)
      cases hit : (dsign[i]'hlt).data.toList.isPrefixOf (s.data.toList.drop k)
      · have HF : Hid (∀ j (h : j < 6), j < i + 1 → (dsign[j]'h).data.toList.isPrefixOf (s.data.toList.drop k) = false) := by
          intro j h h0
          by_cases e : j = i
          · subst e; exact hit
          · exact hno.out j h (by omega)
        rw [hit] at his
        have HIS := Hid.out (p := Hid _) his
        clear his hit hsz
        generalize dsign[i]'hlt = x at *
        go_wp2_with fail
        refine (Calls.mono (HIS.out _) ?_)
        rintro e w' ⟨rfl, rfl⟩
        go_wp2_with fail
        go_round
        case rel => exact ⟨i + 1, by go_num, by omega, HF.out⟩
        case measure => simp [intOf]; omega
      · have HX : Hid (next (s.data.toList.drop k) = (4, 2, 0, 0)) := by
          have h2 := sign_two _ i hlt hit
          rw [Hid, HN.out, h2]; rfl
        have hk2 : k + 2 ≤ s.size := by
          have := (List.isPrefixOf_iff_prefix.1 hit).length_le
          rw [List.length_drop, show (dsign[i]'hlt).data.toList.length = (dsign[i]'hlt).size by simp, hsz, show s.data.toList.length = s.size by simp] at this
          omega
        rw [hit] at his
        have HIS := Hid.out (p := Hid _) his
        clear his hit hsz
        generalize dsign[i]'hlt = x at *
        go_wp2_with fail
        refine (Calls.mono (HIS.out _) ?_)
        rintro e w' ⟨rfl, rfl⟩
        go_wp2_with fail
        refine (rtoken_any s k 4 2 _ hk2 (by omega)).mono ?_
        rintro e w2 ⟨g, hg, rfl, hx, hb2⟩
        have F2 : Hid (Fresh w w2) := Fresh.on FW.out hb2
        have HG : Hid (g ≠ w.heap.size) := by have := heap_lt (FW.out).1; have h' := hg; (try simp at h'); unfold Hid; omega
        have HX2 := Hid.out (p := Hid _) hx
        have GL : Hid (w.heap.size ≤ g) := by have := heap_lt (FW.out).1; have h' := hg; (try simp at h'); unfold Hid; omega
        clear hx hb2
        have c0 := cell_of F2.out.1 0
        have c1 := cell_of F2.out.1 1
        have c2 := cell_of F2.out.1 2
        have f0 := frozen_of F2.out.1 0
        have f1 := frozen_of F2.out.1 1
        have f2 := frozen_of F2.out.1 2
        go_wp2_with fail
        exact one_ret (F2.out.put _ _ _) (by rw [HX.out]; exact post_ok ⟨g, GL.out, rfl, far3 HX2.out HG.out, told3 F2.out.2⟩) rfl
    · have HD : Hid (doubles.any (·.isPrefixOf (s.data.toList.drop k)) = false) := no_two _ (fun i h => hno.out i h (by omega))
      obtain rfl : i = 6 := by omega
      clear hno HC
      go_wp2_with fail
      have FV : Hid (Fresh w (W.alloc (.cells scells 9))) := FW.out.alloc _
      have HC : Hid (∀ i (h : i < 19), (W.alloc (.cells scells 9)).cell? ⟨W.heap.size, i, none⟩ = some (.string (ssign[i]'h))) := by
        intro i h
        rw [cell_of (heap_alloc_new W _)]; exact scell i h
      unfold scells at FV HC
      generalize hWV : W.alloc (.cells _ _) = V at *
      clear hWV
      go_loop [16, 181] (fun p_ q_ => ∃ i : Nat, q_ = .int .i64 i ∧ i ≤ 19 ∧ Hid (∀ j (h : j < 19), j < i → (ssign[j]'h).data.toList.isPrefixOf (s.data.toList.drop k) = false)) (fun _ q_ => 19 - (intOf q_).toNat)
      case atStart => exact ⟨0, rfl, by omega, fun j h h0 => by omega⟩
      case round =>
      obtain ⟨i, rfl, hi, hno⟩ := hrel
      by_cases hlt : i < 19
      · have hcell := HC.out i hlt
        have hsz := ssize i hlt
        have his := fun w => ris_any s (ssign[i]'hlt) k w (by omega) (by omega) (by rw [hsz]; omega) (by rw [hsz]; omega)
        cases hit : (ssign[i]'hlt).data.toList.isPrefixOf (s.data.toList.drop k)
        · have HF : Hid (∀ j (h : j < 19), j < i + 1 → (ssign[j]'h).data.toList.isPrefixOf (s.data.toList.drop k) = false) := by
            intro j h h0
            by_cases e : j = i
            · subst e; exact hit
            · exact hno.out j h (by omega)
          rw [hit] at his
          have HIS := Hid.out (p := Hid _) his
          clear his hit hsz
          generalize ssign[i]'hlt = x at *
          go_wp2_with fail
          refine (Calls.mono (HIS.out _) ?_)
          rintro e w' ⟨rfl, rfl⟩
          go_wp2_with fail
          go_round
          case rel => exact ⟨i + 1, by go_num, by omega, HF.out⟩
          case measure => simp [intOf]; omega
        · have HX : Hid (next (s.data.toList.drop k) = (4, 1, 0, 0)) := by
            have h2 := sign_one _ HNE.out HD.out i hlt hit
            rw [Hid, HN.out, h2]; rfl
          rw [hit] at his
          have HIS := Hid.out (p := Hid _) his
          clear his hit hsz
          generalize ssign[i]'hlt = x at *
          go_wp2_with fail
          refine (Calls.mono (HIS.out _) ?_)
          rintro e w' ⟨rfl, rfl⟩
          go_wp2_with fail
          refine (rtoken_any s k 4 1 _ (by omega) (by omega)).mono ?_
          rintro e w2 ⟨g, hg, rfl, hx, hb2⟩
          have F2 : Hid (Fresh w w2) := Fresh.on FV.out hb2
          have HG : Hid (g ≠ w.heap.size) := by have := heap_lt (FV.out).1; have h' := hg; (try simp at h'); unfold Hid; omega
          have HX2 := Hid.out (p := Hid _) hx
          have GL : Hid (w.heap.size ≤ g) := by have := heap_lt (FV.out).1; have h' := hg; (try simp at h'); unfold Hid; omega
          clear hx hb2
          have c0 := cell_of F2.out.1 0
          have c1 := cell_of F2.out.1 1
          have c2 := cell_of F2.out.1 2
          have f0 := frozen_of F2.out.1 0
          have f1 := frozen_of F2.out.1 1
          have f2 := frozen_of F2.out.1 2
          go_wp2_with fail
          exact one_ret (F2.out.put _ _ _) (by rw [HX.out]; exact post_ok ⟨g, GL.out, rfl, far3 HX2.out HG.out, told3 F2.out.2⟩) rfl
      · have HX : Hid (next (s.data.toList.drop k) = (0, 0, 0, 3)) := by
          have h2 := sign_none _ HNE.out HD.out (fun i h => hno.out i h (by omega))
          rw [Hid, HN.out, h2]; rfl
        obtain rfl : i = 19 := by omega
        have c0 := cell_of FV.out.1 0
        have c1 := cell_of FV.out.1 1
        have c2 := cell_of FV.out.1 2
        have f0 := frozen_of FV.out.1 0
        have f1 := frozen_of FV.out.1 1
        have f2 := frozen_of FV.out.1 2
        clear hno
        go_wp2_with fail
        exact one_ret (FV.out.put _ _ _) (by rw [HX.out]; exact post_err (by decide) ⟨rfl, told3 FV.out.2⟩) rfl

theorem rone_tok (s : ByteArray) (k : Nat) (w : World) (hk : k < s.size) (hs : s.size ≤ 2000000) :
    Calls Tryz.prog 23 #[.string s, .int .i64 k] w (OPost s.data.toList k (next (s.data.toList.drop k)) w) := by
  by_cases h1 : s[k].toNat = 10
  · exact one_line s k w hk hs h1
  cases hl : letterB s[k].toNat with
  | true => exact one_ident s k w hk hs hl
  | false =>
  cases hd : digitB s[k].toNat with
  | true =>
    simp only [digitB, Bool.and_eq_true, decide_eq_true_eq] at hd
    exact one_dec s k w hk hs hl hd.1 hd.2
  | false =>
  by_cases h2 : s[k].toNat = 34
  · exact one_quo s k w hk hs hl h2
  by_cases h3 : s[k].toNat = 35
  · exact one_rem1 s k w hk hs hl h3
  have h47 : ∀ b : UInt8, [47, b].isPrefixOf (s.data.toList.drop k) = true → s[k].toNat = 47 := by
    intro b h
    obtain ⟨t, ht⟩ := pre2 h
    rw [Num.drop_byte s k hk] at ht
    injection ht with h4 _
    rw [h4]; rfl
  cases hp : List.isPrefixOf [47, 47] (s.data.toList.drop k) with
  | true => exact one_rem2 s k w hk hs hl (h47 _ hp) hp
  | false =>
  cases hp2 : List.isPrefixOf [47, 42] (s.data.toList.drop k) with
  | true => exact one_aside s k w hk hs hl (h47 _ hp2) hp hp2
  | false => exact one_sign s k w hk hs hl hd h1 h2 h3 hp hp2

end Go.Proofs.YtbfkgddhpabioaaGreatDoor.Lex
