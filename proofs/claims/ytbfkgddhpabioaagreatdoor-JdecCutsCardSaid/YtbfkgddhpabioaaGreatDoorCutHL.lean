/- The plain law of JdecCuts: a text cut short. -/
import Derived.Test.YtbfkgddhpabioaaGreatDoorJdecAp
import Derived.Test.YtbfkgddhpabioaaGreatDoorCutG
import Derived.Test.YtbfkgddhpabioaaGreatDoorJdecQ
import Derived.Test.YtbfkgddhpabioaaGreatDoorRows
import Derived.Lib.LaidTab
import Derived.OpenShut
import Derived.Shelf.Vars
namespace Go.Proofs.YtbfkgddhpabioaaGreatDoor.Jdec
set_option linter.unusedVariables false
set_option linter.unusedSimpArgs false

theorem ap_number2 (m l : List UInt8) (p : Nat) (hp : p ≤ l.length) (hL : Later l p) (x : JV × Nat) (h : number l p = .ok x) : number (l ++ m) p = .ok x := by
  obtain ⟨j, c, hj, hc, h6⟩ := hL
  have hmem : c ∈ l.drop p := List.mem_of_getElem? (i := j - p) (by rw [List.getElem?_drop, show p + (j - p) = j by omega]; exact hc)
  have hs : Num.scan (l.drop p ++ m) = Num.scan (l.drop p) := from_any m _ 0 0 0 (by decide) ⟨c, hmem, h6⟩
  have hle := Num.scan_le (l.drop p)
  unfold number at h ⊢
  rw [ap_drop m l hp, hs, List.take_append_of_le_length hle]
  by_cases h0 : Num.scan (l.drop p) = 0
  · rw [if_pos h0] at h; cases h
  · rw [if_neg h0] at h ⊢
    have he : p + 1 = (l ++ m).length ↔ p + 1 = (l ++ m).length := Iff.rfl
    exact h
theorem ap_value2 (m l : List UInt8) : ∀ (d p : Nat) (x : JV × Nat), p ≤ l.length → (Later l p ∨ ∀ c, l[p]? = some c → way c ≠ 2) → value l d p = .ok x → value (l ++ m) d p = .ok x
  | 0, p, x, _, _, h => by
    rw [value] at h
    cases hc : l[p]? with
    | none => rw [hc] at h; cases h
    | some c => rw [hc] at h; cases h
  | d + 1, p, x, hp, hL, h => by
    rw [value] at h ⊢
    cases hc : l[p]? with
    | none => rw [hc] at h; cases h
    | some c =>
      have hlt := get_lt hc
      rw [ap_some m l hc]
      rw [hc] at h
      simp only at h ⊢
      split at h
      · cases h
      · exact ap_text m l p hp x h
      · rename_i hw
        rcases hL with hL | hL
        · exact ap_number2 m l p hp hL x h
        · exact absurd hw (hL c hc)
      · exact ap_object m l _ _ (fun p x hp hL => ap_value2 m l d p x hp (.inl hL)) (value_fits l d) p hlt x h
      · exact ap_list m l _ _ (fun p x hp hL => ap_value2 m l d p x hp (.inl hL)) (value_fits l d) p hlt x h
      · exact ap_wordV m l _ _ p x h
      · exact ap_wordV m l _ _ p x h
      · exact ap_wordV m l _ _ p x h

/-- The last byte of a word's text, or a number's. -/
theorem word_last (l : List UInt8) : ∀ (w : List UInt8) (p q : Nat), word l w p = .ok q → ∀ c t, w = t ++ [c] → l[q - 1]? = some c
  | [], p, q, h, c, t, e => by cases t <;> cases e
  | a :: w, p, q, h, c, t, e => by
    rw [word] at h
    by_cases hc : l[p]? = some a
    · rw [if_pos hc] at h
      cases t with
      | nil =>
        injection e with e1 e2
        subst e1
        cases w with
        | nil => injection h with h; subst h; exact hc
        | cons b w => cases e2
      | cons b t =>
        injection e with e1 e2
        exact word_last l w (p + 1) q h c t e2
    · rw [if_neg hc] at h; cases h
theorem from_last : ∀ (l : List UInt8) (st i k : Nat), st < 9 → Num.from_ st i k l = k ∨ (i < Num.from_ st i k l ∧ ∃ c, l[Num.from_ st i k l - i - 1]? = some c ∧ Num.sgn c.toNat ≠ 6)
  | [], st, i, k, hs => .inl rfl
  | c :: l, st, i, k, hs => by
    rw [Num.from_]
    by_cases h9 : Num.step st (Num.sgn c.toNat) = 9
    · rw [if_pos h9]; exact .inl rfl
    · rw [if_neg h9]
      have := Num.step_le st hs _ (Num.sgn_lt c.toNat)
      have hc6 : Num.sgn c.toNat ≠ 6 := fun e => h9 (by rw [e]; exact Num.step_6 st hs)
      generalize Num.step st (Num.sgn c.toNat) = st' at *
      have ih := from_last l st' (i + 1) (if Num.whole st' then i + 1 else k) (by omega)
      rcases ih with ih | ⟨h1, d, h2, h3⟩
      · rw [ih]
        by_cases hw : Num.whole st' = true
        · rw [if_pos hw]; right; refine ⟨by omega, c, ?_, hc6⟩
          rw [show i + 1 - i - 1 = 0 by omega]; rfl
        · rw [if_neg hw]; exact .inl rfl
      · right
        generalize Num.from_ st' (i + 1) (if Num.whole st' = true then i + 1 else k) l = r at *
        refine ⟨by omega, d, ?_, h3⟩
        rw [show r - i - 1 = (r - (i + 1) - 1) + 1 by omega, List.getElem?_cons_succ]
        exact h2
theorem number_last (l : List UInt8) (p : Nat) (x : JV × Nat) (h : number l p = .ok x) : ∃ c, l[x.2 - 1]? = some c ∧ Num.sgn c.toNat ≠ 6 := by
  unfold number at h
  by_cases h0 : Num.scan (l.drop p) = 0
  · rw [if_pos h0] at h; cases h
  · rw [if_neg h0] at h
    have hx : x.2 = p + Num.scan (l.drop p) := by
      split at h
      · cases h
      · injection h with h; rw [← h]
    rcases from_last (l.drop p) 0 0 0 (by decide) with e | ⟨h1, c, h2, h3⟩
    · exact absurd e h0
    · refine ⟨c, ?_, h3⟩
      have h1 : 0 < Num.scan (l.drop p) := h1
      have h2 : (l.drop p)[Num.scan (l.drop p) - 0 - 1]? = some c := h2
      rw [List.getElem?_drop] at h2
      rw [hx, show p + Num.scan (l.drop p) - 1 = p + (Num.scan (l.drop p) - 0 - 1) by omega]
      exact h2
/-- What ends with a bracket, or a quote, is no number's text nor a word's. -/
theorem value_last (l : List UInt8) (d p : Nat) (x : JV × Nat) (z : UInt8) (hz : z = 93 ∨ z = 125 ∨ z = 34) (hl : l[x.2 - 1]? = some z) (h : value l d p = .ok x) : ∀ c, l[p]? = some c → way c = 1 ∨ way c = 3 ∨ way c = 4 := by
  intro c hc
  cases d with
  | zero => rw [value, hc] at h; cases h
  | succ d =>
    rw [value, hc] at h
    simp only at h
    have hw : ∀ (w : List UInt8) (v : JV) (a : UInt8) (t : List UInt8), w = t ++ [a] → wordV l w v p = .ok x → a = z := by
      intro w v a t e h
      unfold wordV at h
      cases hq : word l w p with
      | error y => rw [hq] at h; cases h
      | ok q =>
        rw [hq] at h
        injection h with h
        have := word_last l w p q hq a t e
        rw [← h] at hl
        simp only at hl
        rw [this] at hl
        exact Option.some.inj hl
    split at h
    · cases h
    · left; assumption
    · obtain ⟨a, ha, h6⟩ := number_last l p x h
      rw [ha] at hl
      rw [Option.some.inj hl] at h6
      exact absurd (by rcases hz with rfl | rfl | rfl <;> decide) h6
    · right; left; assumption
    · right; right; assumption
    · have := hw _ _ 101 [116, 114, 117] rfl h
      rcases hz with rfl | rfl | rfl <;> cases this
    · have := hw _ _ 101 [102, 97, 108, 115] rfl h
      rcases hz with rfl | rfl | rfl <;> cases this
    · have := hw _ _ 108 [110, 117, 108] rfl h
      rcases hz with rfl | rfl | rfl <;> cases this
theorem skip_mem (l : List UInt8) (p : Nat) : ∀ j, p ≤ j → j < skip l p → ∃ c, l[j]? = some c ∧ blankJ c = true := by
  intro j h1 h2
  have key : ∀ (n : Nat) (p j : Nat), l.length - p ≤ n → p ≤ j → j < skip l p → ∃ c, l[j]? = some c ∧ blankJ c = true := by
    intro n
    induction n with
    | zero => intro p j hn h1 h2; rw [skip_end l p (by omega)] at h2; omega
    | succ n ih =>
      intro p j hn h1 h2
      rcases Nat.lt_or_ge p l.length with hp | hp
      · cases hb : blankJ l[p]
        · rw [skip_other l p hp hb] at h2; omega
        · rw [skip_blank l p hp hb] at h2
          rcases Nat.eq_or_lt_of_le h1 with e | e
          · subst e; exact ⟨_, List.getElem?_eq_getElem hp, hb⟩
          · exact ih (p + 1) j (by omega) e h2
      · rw [skip_end l p hp] at h2; omega
  exact key _ p j (Nat.le_refl _) h1 h2
/-- A text that is a list's, an object's or a quoted one, cut short, is no value's. -/
theorem cut_law (l : List UInt8) (m : Nat) (hm : m < l.length) (hlen : l.length ≤ 1048576) (z : UInt8) (hz : z = 93 ∨ z = 125 ∨ z = 34) (hl : l[l.length - 1]? = some z) (d p q : Nat) (v : JV) (hv : value l d (skip l 0) = .ok (v, q)) (hq : ¬ skip l q < l.length) :
    ∀ x, value (l.take m) d (skip (l.take m) 0) = .ok x → False := by
  intro x hx
  have g := (value_fits l d (skip l 0) (skip_le l 0 (Nat.zero_le _))).ok _ hv
  simp only at g
  have hql : q = l.length := by
    rcases Nat.lt_or_ge q l.length with h | h
    · obtain ⟨c, h1, h2⟩ := skip_mem l q (l.length - 1) (by omega) (by omega)
      rw [hl] at h1
      rw [← Option.some.inj h1] at h2
      rcases hz with rfl | rfl | rfl <;> simp [blankJ] at h2
    · omega
  have hln : (l.take m).length = m := by rw [List.length_take]; omega
  have g' := (value_fits (l.take m) d (skip (l.take m) 0) (skip_le _ 0 (Nat.zero_le _))).ok _ hx
  rw [hln] at g'
  have hlt : skip (l.take m) 0 < (l.take m).length := by rw [hln]; omega
  have hsk : skip l 0 = skip (l.take m) 0 := by
    have := ap_skip (l.drop m) (l.take m) 0 hlt
    rwa [List.take_append_drop] at this
  have hway : ∀ c, (l.take m)[skip (l.take m) 0]? = some c → way c ≠ 2 := by
    intro c hc
    have hc' : l[skip l 0]? = some c := by
      have := ap_some (l.drop m) (l.take m) hc
      rw [List.take_append_drop] at this
      rw [hsk]; exact this
    have := value_last l d (skip l 0) _ z hz (by simp only; rw [hql]; exact hl) hv c hc'
    omega
  have h2 := ap_value2 (l.drop m) (l.take m) d _ x (Nat.le_of_lt hlt) (.inr hway) hx
  rw [List.take_append_drop, ← hsk, hv] at h2
  injection h2 with h2
  have : x.2 = q := by rw [← h2]
  omega
end Go.Proofs.YtbfkgddhpabioaaGreatDoor.Jdec
/- tabulariumref09.Parse; what a text cut short tells. -/
namespace Go.Proofs.YtbfkgddhpabioaaGreatDoor.Jdec
open Go.RowKit Go.Proofs.YtbfkgddhpabioaaGreatDoor.Strs
set_option linter.unusedVariables false
set_option linter.unusedSimpArgs false
set_option maxRecDepth 100000

/-- What tabulariumref09.Parse tells: no error only where the text is a value's. -/
def POk (l : List UInt8) (a : Raw) (en at_ e : Int) : Prop := e = 0 → ∃ v q, value l 64 (skip l 0) = .ok (v, q) ∧ ¬ skip l q < l.length
theorem POk.bad {l : List UInt8} {p n : Nat} {a : Raw} {en at_ e : Int} (hn : n ≠ 0) (h : BadR p n a en at_ e) : POk l a en at_ e := fun he => by
  have := h.2
  omega

set_option maxHeartbeats 3200000 in
theorem rparse_any (s : ByteArray) (w : World) (hs : s.size ≤ 1000000) :
    Calls Tryz.prog 6 #[.string s] w (GPost (POk s.data.toList) w) := by
  have hl : s.data.toList.length = s.size := by simp
  obtain ⟨q0, hq0⟩ : ∃ q0, skip s.data.toList 0 = q0 := ⟨_, rfl⟩
  have hqs : q0 ≤ s.size := by have := skip_le s.data.toList 0 (Nat.zero_le _); omega
  have hbl : ∀ w, Calls Tryz.prog 14 #[.string s, .int .i64 0] w fun e w' => e = .returned (.int .i64 (skip s.data.toList 0 : Nat)) ∧ w = w' := fun w => rblanks_any s 0 w (by omega) (by omega)
  rw [hq0] at hbl
  have HBL := Hid.out (p := Hid _) hbl
  have hva : ∀ w, Calls Tryz.prog 13 #[.string s, .int .i64 q0, .int .i64 1] w (GPost (GAt (value s.data.toList 64 q0)) w) := fun w => rvalue_any s hs 64 1 rfl q0 w hqs
  have HVA := Hid.out (p := Hid _) hva
  have hfit := value_fits s.data.toList 64 q0 (by omega)
  have HFIT := Hid.out (p := Hid _) hfit
  obtain ⟨w1, hw1, R1, B1, S1⟩ := got_new w
  have HP : Hid (∀ v q, value s.data.toList 64 q0 = .ok (v, q) → ¬ skip s.data.toList q < s.data.toList.length → ∃ v q, value s.data.toList 64 (skip s.data.toList 0) = .ok (v, q) ∧ ¬ skip s.data.toList q < s.data.toList.length) := fun v q h1 h2 => ⟨v, q, by rw [hq0]; exact h1, h2⟩
  clear hbl hva hfit hq0
  go_enter Tryz.func6, Tryz.ntmps6
  go_wp2_with fail
  clear hw1
  refine (Calls.mono (HBL.out w1) ?_)
  rintro x w2 ⟨rfl, rfl⟩
  go_wp2_with fail
  refine (Calls.mono (HVA.out w1) ?_)
  rintro x w3 ⟨a, en, at_, e, rfl, hg, hb⟩
  dsimp only [gVal]
  have R3 := kept_z R1.out hb
  have B3 := Hid.out (p := Hid _) (B1.out.trans (hb.mono B1.out.size))
  clear hb R1 B1
  obtain ⟨e2, he2⟩ : ∃ e2, w3.heap.size = e2 := ⟨_, rfl⟩
  have hne2 : e2 ≠ w.heap.size := by have := heap_lt R3.out; omega
  cases hv : value s.data.toList 64 q0 with
  | error y =>
    rw [hv] at hg
    obtain ⟨rfl, rfl⟩ : e = (y.2 : Int) ∧ at_ = (y.1 : Int) := hg
    have hy := (HFIT.out.err _ hv).2
    have hez : ((y.2 : Int) != 0) = true := by rw [bne_iff_ne]; omega
    have HPO : Hid (POk s.data.toList a en y.1 y.2) := fun he => by omega
    obtain ⟨w4, hw4, X4, b4⟩ := got_put w3 a en y.1 y.2
    have R4 := kept_z R3.out b4.out
    have B4 := Hid.out (p := Hid _) (B3.out.trans (b4.out.mono B3.out.size))
    rw [he2] at X4
    obtain ⟨⟨d0, d1, d2, d3, d4, d5, d6, d7, d8, d9, d10⟩, g0, g1, g2, g3, g4, g5, g6, g7, g8, g9, g10⟩ := got_cells X4.out
    obtain ⟨⟨c0, c1, c2, c3, c4, c5, c6, c7, c8, c9, c10⟩, f0, f1, f2, f3, f4, f5, f6, f7, f8, f9, f10⟩ := got_cells R4.out
    clear hv hy b4 HFIT
    go_wp2_with fail
    exact got_fin rfl R4.out rfl B4.out (Nat.le_refl _) a en y.1 y.2 HPO.out
  | ok z =>
    obtain ⟨v, t⟩ := z
    rw [hv] at hg
    obtain ⟨he0, rfl⟩ : e = 0 ∧ en = (t : Int) := hg
    have hez : (e != 0) = false := by rw [he0]; rfl
    have ht := (HFIT.out.ok _ hv).2
    simp only [hl] at ht
    obtain ⟨p2, hp2⟩ : ∃ p2, skip s.data.toList t = p2 := ⟨_, rfl⟩
    have hp22 : p2 ≤ s.size := by have := skip_le s.data.toList t (by rw [hl]; exact ht); rw [hl, hp2] at this; exact this
    have hbl := fun w => rblanks_any s t w (by omega) ht
    rw [hp2] at hbl
    have HBL2 := Hid.out (p := Hid _) hbl
    have HPO : Hid (¬ p2 < s.size → ∃ v q, value s.data.toList 64 (skip s.data.toList 0) = .ok (v, q) ∧ ¬ skip s.data.toList q < s.data.toList.length) := fun h => HP.out v t hv (by rw [hp2, hl]; exact h)
    obtain ⟨w4, hw4, X4, b4⟩ := got_put w3 a t at_ e
    have R4 := kept_z R3.out b4.out
    have B4 := Hid.out (p := Hid _) (B3.out.trans (b4.out.mono B3.out.size))
    rw [he2] at X4
    obtain ⟨⟨d0, d1, d2, d3, d4, d5, d6, d7, d8, d9, d10⟩, g0, g1, g2, g3, g4, g5, g6, g7, g8, g9, g10⟩ := got_cells X4.out
    obtain ⟨⟨c0, c1, c2, c3, c4, c5, c6, c7, c8, c9, c10⟩, f0, f1, f2, f3, f4, f5, f6, f7, f8, f9, f10⟩ := got_cells R4.out
    clear hv b4 HFIT HP hbl hp2 he0 HBL HVA
    go_wp2_with fail
    refine (Calls.mono (HBL2.out w4) ?_)
    rintro x w5 ⟨rfl, rfl⟩
    by_cases hlt : p2 < s.size
    · have q1 : decide ((p2 : Int) < (s.size : Int)) = true := by rw [decide_eq_true_eq]; omega
      have q2 : decide (p2 < s.size) = true := by rw [decide_eq_true_eq]; omega
      go_wp2_with fail
      refine (rbad_any p2 14 w4).mono ?_
      rintro x w6 ⟨a6, en6, at6, e6, rfl, hr, hb⟩
      dsimp only [gVal]
      have R6 := kept_z R4.out hb
      have B6 := Hid.out (p := Hid _) (B4.out.trans (hb.mono B4.out.size))
      have HB : Hid (POk s.data.toList a6 en6 at6 e6) := POk.bad (n := 14) (by decide) hr
      clear hb hr c0 c1 c2 c3 c4 c5 c6 c7 c8 c9 c10 f0 f1 f2 f3 f4 f5 f6 f7 f8 f9 f10
      obtain ⟨⟨c0, c1, c2, c3, c4, c5, c6, c7, c8, c9, c10⟩, f0, f1, f2, f3, f4, f5, f6, f7, f8, f9, f10⟩ := got_cells R6.out
      go_wp2_with fail
      exact got_fin rfl R6.out rfl B6.out (Nat.le_refl _) a6 en6 at6 e6 HB.out
    · have q1 : decide ((p2 : Int) < (s.size : Int)) = false := by rw [decide_eq_false_iff_not]; omega
      have q2 : decide (p2 < s.size) = false := by rw [decide_eq_false_iff_not]; omega
      have HB := Hid.out (p := Hid _) (HPO.out hlt)
      clear HPO
      go_wp2_with fail
      exact got_fin rfl R4.out rfl B4.out (Nat.le_refl _) a 0 (-1) 0 (fun _ => HB.out)

/-- A text cut short: what jdec.Parse tells of it. -/
theorem cut_parse (l : List UInt8) (m : Nat) (hm : m < l.length) (hlen : l.length ≤ 1500) (z : UInt8) (hz : z = 93 ∨ z = 125 ∨ z = 34) (hl : l[l.length - 1]? = some z) (h : ∃ v q, value l 64 (skip l 0) = .ok (v, q) ∧ ¬ skip l q < l.length) :
    ∃ at_ e : Nat, parse (l.take m) = (.zero, (at_ : Int), e) ∧ e ≠ 0 ∧ at_ < l.length := by
  obtain ⟨v, q, hv, hq⟩ := h
  have hc := cut_law l m hm (by omega) z hz hl 64 (skip l 0) q v hv hq
  have ht : (l.take m).length = m := by rw [List.length_take]; omega
  have hf := value_fits (l.take m) 64 (skip (l.take m) 0) (skip_le _ _ (Nat.zero_le _))
  unfold parse
  rw [if_neg (by omega)]
  cases hx : value (l.take m) 64 (skip (l.take m) 0) with
  | error y =>
    obtain ⟨b, e⟩ := y
    have := hf.err _ hx
    exact ⟨b, e, rfl, this.2, by have := this.1; simp only at this; omega⟩
  | ok x => exact absurd hx (fun h => hc x h)
end Go.Proofs.YtbfkgddhpabioaaGreatDoor.Jdec
/- tabulariumlaw09.JdecCuts: the text of a list, an object or a quoted one, cut short anywhere, is no value's. -/
namespace Go.Proofs.YtbfkgddhpabioaaGreatDoor.Jdec
open Go.RowKit Go.Proofs.YtbfkgddhpabioaaGreatDoor.Strs
set_option linter.unusedVariables false
set_option linter.unusedSimpArgs false
set_option maxRecDepth 100000

theorem parse_atz (s : ByteArray) (w : World) (t : JV) (at_ : Int) (e : Nat) (hm : s.size ≤ 9223372036854775807) (T : JTabs w) (h : parse s.data.toList = (t, at_, e)) :
    Calls Tryz.prog 7 #[.string s] w fun x w' => ∃ a : Raw, x = .returned (.tuple #[a.val, .int .i64 at_, .int .i64 e]) ∧ IsV w' (fun _ => True) a t ∧ Below w.heap.size w w' :=
  (parse_any s w hm T).mono fun x w' ⟨a, h1, h2, h3⟩ => ⟨a, by rw [h1, h], by rw [h] at h2; exact h2.turn (Turn.mono _ (fun _ _ _ => trivial)), h3⟩

set_option maxHeartbeats 3200000 in
theorem cuts_short (s : ByteArray) (c : Nat) (w : World) (T : JTabs w) (hs : s.size ≤ 9223372036854775807) (h : 1500 < s.size ∨ s.size = 0) :
    Calls Tryz.prog 3 #[.string s, .int .u16 c] w fun e w' => e = .returned (.bool true) ∧ Below w.heap.size w w' := by
  have hw := wakes_any w T
  clear T
  rcases h with h | h
  · have q1 : decide (1500 < (s.size : Int)) = true := by rw [decide_eq_true_eq]; omega
    have q2 : decide (1500 < s.size) = true := by rw [decide_eq_true_eq]; omega
    clear h
    go_enter Tryz.func3, Tryz.ntmps3
    go_wp2_with fail
    refine hw.mono ?_
    rintro e w1 ⟨rfl, hb1⟩
    have B1 : Hid (Below w.heap.size w w1) := hb1
    clear hb1 hw
    go_wp2_with fail
    go_ret
    exact ⟨rfl, B1.out⟩
  · go_enter Tryz.func3, Tryz.ntmps3
    go_wp2_with fail
    refine hw.mono ?_
    rintro e w1 ⟨rfl, hb1⟩
    have B1 : Hid (Below w.heap.size w w1) := hb1
    clear hb1 hw
    go_wp2_with fail
    go_ret
    exact ⟨rfl, B1.out⟩

theorem field_E (a : Raw) (en at_ e : Int) : ∀ w, Sem.run Tryz.prog (Instr.field 31 (.agg #[.int .i64 a.kind, .bool a.is, .bool a.neg, .string a.dig, .int .i64 a.exp, .string a.str, .slice a.ka a.kn a.kc, .slice a.va a.vn a.vc, .int .i64 en, .int .i64 at_, .int .i64 e]) 3) w = .ok (.int .i64 e) w := fun _ => by kernel_rfl

set_option maxHeartbeats 6400000 in
theorem cuts_main (s : ByteArray) (n c : Nat) (w : World) (T : JTabs w) (hn : s.size = n + 1) (hs : s.size ≤ 1500) (hc : c < 65536) :
    Calls Tryz.prog 3 #[.string s, .int .u16 c] w fun e w' => e = .returned (.bool true) ∧ Below w.heap.size w w' := by
  have hw := wakes_any w T
  have HT : Hid (JTabs w) := T
  clear T
  have hl : s.data.toList.length = s.size := by simp
  have HL := Hid.out (p := Hid _) hl
  have hnl : n < s.size := by omega
  have q1 : decide (1500 < (s.size : Int)) = false := by rw [decide_eq_false_iff_not]; omega
  have q2 : decide (1500 < s.size) = false := by rw [decide_eq_false_iff_not]; omega
  have q3 : ((s.size : Int) == 0) = false := by rw [beq_eq_false_iff_ne]; omega
  have q4 : (s.size : Int) - 1 = (n : Int) := by omega
  have q5 : IntKind.i64.wrap (n : Int) = (n : Int) := IntWalk.i64_in _ (by omega)
  have q6 : s ≠ ByteArray.empty := fun h => by rw [h] at hn; simp at hn
  have hg := byte_get s n hnl
  have HN : Hid (s.size = n + 1) := hn
  clear hn hl
  go_enter Tryz.func3, Tryz.ntmps3
  go_wp2_with fail
  refine hw.mono ?_
  rintro e w1 ⟨rfl, hb1⟩
  have B1 : Hid (Below w.heap.size w w1) := hb1
  have T1 : Hid (JTabs w1) := JTabs.stays ⟨HT.out.z, HT.out.m⟩ hb1
  clear hb1 hw
  by_cases hz : (s[n].toNat : Int) = 93 ∨ (s[n].toNat : Int) = 125 ∨ (s[n].toNat : Int) = 34
  case neg =>
    have b1 : ((s[n].toNat : Int) != 93) = true := by rw [bne_iff_ne]; omega
    have b2 : ((s[n].toNat : Int) != 125) = true := by rw [bne_iff_ne]; omega
    have b3 : ((s[n].toNat : Int) != 34) = true := by rw [bne_iff_ne]; omega
    clear hz hg
    go_wp2_with fail
    go_ret
    exact ⟨rfl, B1.out⟩
  case pos =>
  have hzz : ∃ z : UInt8, (z = 93 ∨ z = 125 ∨ z = 34) ∧ s.data.toList[s.data.toList.length - 1]? = some z := by
    refine ⟨s[n], ?_, by rw [HL.out, HN.out]; exact hg⟩
    rcases hz with h | h | h
    · exact .inl (UInt8.toNat_inj.1 (by show s[n].toNat = 93; omega))
    · exact .inr (.inl (UInt8.toNat_inj.1 (by show s[n].toNat = 125; omega)))
    · exact .inr (.inr (UInt8.toNat_inj.1 (by show s[n].toNat = 34; omega)))
  obtain ⟨m, hm⟩ : ∃ m, c % s.size = m := ⟨_, rfl⟩
  have hms : m < s.size := by rw [← hm]; exact Nat.mod_lt _ (by omega)
  have hmt : Int.tmod (c : Int) (s.size : Int) = (m : Int) := by rw [Int.tmod_eq_emod_of_nonneg (by omega)]; omega
  have hmw : IntKind.i64.wrap (m : Int) = (m : Int) := IntWalk.i64_in _ (by omega)
  obtain ⟨D, hD⟩ : ∃ D, s.extract 0 m = D := ⟨_, rfl⟩
  have hDl : D.data.toList = s.data.toList.take m := by rw [← hD]; simp [ByteArray.data_extract]
  have hDs : D.size ≤ s.size := by rw [← hD, ByteArray.size_extract]; omega
  have HCUT : Hid ((∃ v q, value s.data.toList 64 (skip s.data.toList 0) = .ok (v, q) ∧ ¬ skip s.data.toList q < s.data.toList.length) → ∃ at_ e : Nat, parse D.data.toList = (.zero, (at_ : Int), e) ∧ e ≠ 0 ∧ at_ < s.size) := by
    obtain ⟨z, hz1, hz2⟩ := hzz
    intro h
    have := cut_parse s.data.toList m (by rw [HL.out]; exact hms) (by rw [HL.out]; exact hs) z hz1 hz2 h
    rw [HL.out] at this
    rw [hDl]; exact this
  clear hg hzz hm hDl
  rcases hz with hz | hz | hz
  all_goals
    go_wp2_with fail
    refine (rparse_any s w1 (by omega)).mono ?_
    rintro x w2 ⟨a, en, at_, e, rfl, hpo, hb⟩
    dsimp only [gVal]
    have B2 := Hid.out (p := Hid _) (B1.out.trans (hb.mono B1.out.size))
    have T2 : Hid (JTabs w2) := JTabs.stays ⟨T1.out.z, T1.out.m⟩ hb
    clear hb
    have hfd := field_E a en at_ e
    by_cases he : e = 0
    case neg =>
      have hez : (e != 0) = true := by rw [bne_iff_ne]; exact he
      clear hpo he
      go_wp2_with fail
      go_ret
      exact ⟨rfl, B2.out⟩
    case pos =>
    have hez : (e != 0) = false := by rw [he]; rfl
    obtain ⟨at2, e2, hp, he2, ha2⟩ := HCUT.out (hpo he)
    have HPA := Hid.out (p := Hid _) (parse_atz D w2 .zero at2 e2 (by omega) ⟨T2.out.z, T2.out.m⟩ hp)
    have he3 : ((e2 : Int) != 0) = true := by rw [bne_iff_ne]; omega
    have he4 : decide (0 ≤ (at2 : Int)) = true := by rw [decide_eq_true_eq]; omega
    have he5 : decide ((at2 : Int) < (s.size : Int)) = true := by rw [decide_eq_true_eq]; omega
    have he6 : decide (at2 < s.size) = true := by rw [decide_eq_true_eq]; omega
    clear hpo he HCUT hp he2 ha2
    go_wp2_with fail
    refine (Calls.mono HPA.out ?_)
    rintro x w4 ⟨a4, rfl, hv, b4⟩
    have B4 := Hid.out (p := Hid _) (B2.out.trans (b4.mono B2.out.size))
    obtain ⟨ka, va, kc, vc, rfl⟩ := zero_words hv
    clear hv b4
    dsimp only [Raw.val]
    go_wp2_with fail
    refine (same_nil ka va none none kc vc 0 0 _).mono ?_
    rintro x w5 ⟨rfl, b5⟩
    have B5 := Hid.out (p := Hid _) ((B4.out.alloc B4.out.size _).trans (b5.mono (by have := B4.out.size; simp; omega)))
    clear b5
    go_wp2_with fail
    go_ret
    exact ⟨rfl, B5.out⟩
/-- The law at any text and any place. -/
theorem jdecCuts_wf (s : ByteArray) (hs : s.size ≤ maxLen) (a1 : Int) (w1 : (Lit.int .u16 a1).wf = true) (w : World) (T : JTabs w) :
    Calls Tryz.prog 3 #[.string s, .int .u16 a1] w fun e w' => e = .returned (.bool true) ∧ Below w.heap.size w w' := by
  have h1 : IntKind.u16.min = 0 := rfl
  have h2 : IntKind.u16.max = 65535 := rfl
  simp only [Lit.wf, Bool.and_eq_true, decide_eq_true_eq] at w1
  unfold maxLen at hs
  obtain ⟨c, rfl⟩ : ∃ c : Nat, a1 = (c : Int) := ⟨a1.toNat, by omega⟩
  by_cases h : 1500 < s.size ∨ s.size = 0
  · exact cuts_short s c w T (by omega) h
  · exact cuts_main s (s.size - 1) c w T (by omega) (by omega) (by omega)
end Go.Proofs.YtbfkgddhpabioaaGreatDoor.Jdec
/- From a row's condition to the tables' cells. -/
namespace Go.Proofs.YtbfkgddhpabioaaGreatDoor
open Go.RowKit Go.ChangeShapes
set_option linter.unusedVariables false
set_option linter.unusedSimpArgs false
set_option maxRecDepth 100000

/-- A variable of the list, and how it reads. -/
structure LaidAt (w : World) (n : String) (d : DataW Unit) : Prop where
  it : ∃ g t cs fuel p, Tryz.prog.globalNamed n = some g ∧ (Tryz.prog.globals[g]?).map (·.type) = some t ∧ w.var? Tryz.prog n = some cs ∧ DataW.trod (fun _ => ()) Tryz.prog w 0 (fun _ => true) false fuel t cs.toList = some (d, p)
theorem laid_at {w : World} : ∀ {l : List (String × DataW Unit)} {ps : List MemPlace}, DataW.LaidVars Tryz.prog w l ps → ∀ n d, (n, d) ∈ l → LaidAt w n d
  | [], _, _, n, d, h => by cases h
  | (m, e) :: r, ps, ⟨g, t, cs, fuel, p, q, h1, h2, h3, h4, h5, _⟩, n, d, h => by
    rcases List.mem_cons.1 h with h | h
    · injection h with ha hb; subst ha hb; exact ⟨g, t, cs, fuel, p, h1, h2, h3, h4⟩
    · exact laid_at h5 n d h

/-- The variables' names, as a row names them. -/
def nm (i : Nat) : String := Rows.jdecCutsRow.named.getD i ""
theorem gSizes : Tryz.prog.globalNamed (nm 0) = some 5 := by kernel_rfl
theorem gSteps : Tryz.prog.globalNamed (nm 1) = some 0 := by kernel_rfl
theorem sizes_dec : ∀ n, n < 256 → (([1, 1, 1, 1, 1, 1, 1, 1, 1, 1, 1, 1, 1, 1, 1, 1, 0, 0, 0, 0, 0, 0, 0, 0, 2, 2, 2, 2, 3, 3, 4, 0] : List Int).getD (n / 8) 0) = (Utf.sizeAt n : Int) := by decide +kernel
theorem sizes_of {w : World} (h : LaidAt w (nm 0) (Lib.tabData .i64 [1, 1, 1, 1, 1, 1, 1, 1, 1, 1, 1, 1, 1, 1, 1, 1, 0, 0, 0, 0, 0, 0, 0, 0, 2, 2, 2, 2, 3, 3, 4, 0])) : Utf.Sizes w := by
  obtain ⟨g, t, cs, fuel, p, h1, h2, h3, h4⟩ := h.it
  obtain rfl := Option.some.inj (gSizes.symm.trans h1)
  obtain rfl := Option.some.inj ((show (Tryz.prog.globals[5]?).map (·.type) = some 157 by kernel_rfl).symm.trans h2)
  have hc := Lib.cells_of_tab Tryz.underlying157 Tryz.underlying3 (by kernel_rfl) (by kernel_rfl) h4
  have hT : Lib.TabIs Tryz.prog w (nm 0) .i64 [1, 1, 1, 1, 1, 1, 1, 1, 1, 1, 1, 1, 1, 1, 1, 1, 0, 0, 0, 0, 0, 0, 0, 0, 2, 2, 2, 2, 3, 3, 4, 0] := by
    unfold Lib.TabIs; rw [h3, ← hc]
  refine ⟨fun n hn => ?_⟩
  rw [hT.cell gSizes (n / 8) (by simp; omega), sizes_dec n hn]
def stepRow : List (List Int) := [[1, 9, 2, 3, 9, 9, 9], [9, 9, 2, 3, 9, 9, 9], [9, 9, 9, 9, 4, 6, 9], [9, 9, 3, 3, 4, 6, 9], [9, 9, 5, 5, 9, 9, 9], [9, 9, 5, 5, 9, 6, 9], [7, 7, 8, 8, 9, 9, 9], [9, 9, 8, 8, 9, 9, 9], [9, 9, 8, 8, 9, 9, 9]]
theorem steps_dec : ∀ st, st < 9 → ∀ sg, sg < 7 → ((stepRow.getD st []).getD sg 0) = (Num.step st sg : Int) := by decide +kernel
theorem stepRow_len : ∀ st, st < 9 → (stepRow.getD st []).length = 7 := by decide
theorem getD_some {l : List Int} {i : Nat} (h : i < l.length) : l[i]? = some (l.getD i 0) := by simp [List.getD_eq_getElem?_getD, h]
theorem steps_of {w : World} (h : LaidAt w (nm 1) (.agg (stepRow.map (Lib.tabData .i64)))) : Num.Steps w := by
  obtain ⟨g, t, cs, fuel, p, h1, h2, h3, h4⟩ := h.it
  obtain rfl := Option.some.inj (gSteps.symm.trans h1)
  obtain rfl := Option.some.inj ((show (Tryz.prog.globals[0]?).map (·.type) = some 99 by kernel_rfl).symm.trans h2)
  obtain ⟨xs, m, _, hx, hl, hn, hget⟩ := DataW.trod_array Tryz.underlying99 h4
  have hce : Tryz.prog.cellsOf 98 = 7 := by kernel_rfl
  injection hx with hx1 hx2
  injection hx1 with hx1
  refine ⟨fun st sg hst hsg => ?_⟩
  have h5 := hget st hst
  obtain ⟨y, hy⟩ : ∃ y, xs[st]? = some y := ⟨_, List.getElem?_eq_getElem (by omega)⟩
  have h6 : y.1 = Lib.tabData .i64 (stepRow.getD st []) := by
    have := congrArg (·[st]?) hx1
    simp only [List.getElem?_map, hy, Option.map_some] at this
    have hs : stepRow[st]? = some (stepRow.getD st []) := by
      rw [List.getD_eq_getElem?_getD, List.getElem?_eq_getElem (show st < stepRow.length from hst)]; rfl
    rw [hs] at this
    exact (Option.some.inj this).symm
  rw [hy, hce] at h5
  have hc := Lib.cells_of_tab Tryz.underlying98 Tryz.underlying3 (by kernel_rfl) hce (p := y.2) (zs := stepRow.getD st []) (by rw [h5, ← h6])
  rw [World.var?_cell gSteps h3 (st * 7 + sg)]
  have h7 := congrArg (·[sg]?) hc
  simp only [List.getElem?_take, List.getElem?_drop, hsg, if_true, List.getElem?_map] at h7
  have h8 := getD_some (l := stepRow.getD st []) (i := sg) (by rw [stepRow_len st hst]; exact hsg)
  rw [h8, steps_dec st hst sg hsg] at h7
  simpa using h7
theorem jdecCutsTabs {w : World} (h : laidMetH Tryz.prog Rows.jdecCutsRow.laid w) : Jdec.JTabs w := by
  obtain ⟨ps, hv, _⟩ := (show laidMet Tryz.prog Rows.jdecCutsRow.laid w from h)
  exact ⟨sizes_of (laid_at hv _ _ (.tail _ (.head _))), steps_of (laid_at hv _ _ (.tail _ (.tail _ (.head _))))⟩
end Go.Proofs.YtbfkgddhpabioaaGreatDoor
