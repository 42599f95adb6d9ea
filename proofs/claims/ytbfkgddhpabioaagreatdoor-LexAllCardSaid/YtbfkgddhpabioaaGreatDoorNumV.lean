/- A number's text: the reference's is the program's. Plain Lean. -/
import Derived.Test.YtbfkgddhpabioaaGreatDoorRefD
namespace Go.Proofs.YtbfkgddhpabioaaGreatDoor.Num
open Go.Proofs.YtbfkgddhpabioaaGreatDoor.Utf
set_option linter.unusedVariables false
set_option linter.unusedSimpArgs false

theorem at_cons (l : List UInt8) (i : Nat) (h : i < l.length) : ∃ c : UInt8, l.drop i = c :: l.drop (i + 1) ∧ byt l i = c.toNat := by
  refine ⟨l[i], List.drop_eq_getElem_cons h, ?_⟩
  unfold byt; rw [List.getD_eq_getElem?_getD, List.getElem?_eq_getElem h]; rfl
theorem at_nil (l : List UInt8) (i : Nat) (h : l.length ≤ i) : l.drop i = [] ∧ byt l i = 0 := ⟨List.drop_of_length_le h, byt_ge l i h⟩
theorem sgn_dig {n : Nat} (h : dig n = true) : sgn n = 2 ∨ sgn n = 3 := by
  simp only [dig, Bool.and_eq_true, decide_eq_true_eq] at h
  unfold sgn; (repeat' split) <;> omega
theorem sgn_nodig {n : Nat} (h : dig n = false) : sgn n ≠ 2 ∧ sgn n ≠ 3 := by
  have h : ¬ (48 ≤ n ∧ n ≤ 57) := by intro e; simp [dig, e] at h
  unfold sgn; (repeat' split) <;> omega
theorem sgn_dot {n : Nat} : sgn n = 4 ↔ n = 46 := by unfold sgn; (repeat' split) <;> omega
theorem sgn_mark {n : Nat} : sgn n = 5 ↔ n = 101 ∨ n = 69 := by unfold sgn; (repeat' split) <;> omega
theorem sgn_sign {n : Nat} : sgn n = 0 ∨ sgn n = 1 ↔ n = 43 ∨ n = 45 := by unfold sgn; (repeat' split) <;> omega
theorem sgn_zero {n : Nat} : sgn n = 2 ↔ n = 48 := by unfold sgn; (repeat' split) <;> omega
theorem sgn_minus {n : Nat} : sgn n = 0 ↔ n = 45 := by unfold sgn; (repeat' split) <;> omega
theorem from_nil (st i k : Nat) : from_ st i k [] = k := rfl
theorem from_cons (st i k : Nat) (c : UInt8) (l : List UInt8) : from_ st i k (c :: l) = if step st (sgn c.toNat) = 9 then k else from_ (step st (sgn c.toNat)) (i + 1) (if whole (step st (sgn c.toNat)) then i + 1 else k) l := rfl
theorem digitAt_byt (l : List UInt8) (i : Nat) : digitAt l i = dig (byt l i) := rfl
theorem dig_ne {n : Nat} (h : dig n = true) : 48 ≤ n ∧ n ≤ 57 := by simpa [dig] using h

theorem step8 {g : Nat} (h7 : g < 7) (h : g ≠ 2 ∧ g ≠ 3) : step 8 g = 9 ∧ step 7 g = 9 ∧ step 4 g = 9 := by
  have : ∀ g, g < 7 → g ≠ 2 ∧ g ≠ 3 → step 8 g = 9 ∧ step 7 g = 9 ∧ step 4 g = 9 := by decide
  exact this g h7 h
theorem stepd {g : Nat} (h : g = 2 ∨ g = 3) : step 8 g = 8 ∧ step 7 g = 8 ∧ step 6 g = 8 ∧ step 5 g = 5 ∧ step 4 g = 5 ∧ step 3 g = 3 := by
  rcases h with rfl | rfl <;> decide
theorem g8 (l : List UInt8) : ∀ (n i : Nat), l.length - i ≤ n → from_ 8 i i (l.drop i) = rrun l i
  | n, i, hn => by
    rcases Nat.lt_or_ge i l.length with hi | hi
    · obtain ⟨c, hd, hb⟩ := at_cons l i hi
      rw [hd, from_cons]
      cases hg : dig c.toNat
      · rw [if_pos (step8 (sgn_lt _) (sgn_nodig hg)).1, rrun_stop l i (by rw [digitAt_byt, hb, hg])]
      · rw [(stepd (sgn_dig hg)).1, if_neg (by decide), rrun_step l i (by rw [digitAt_byt, hb, hg])]
        cases n with
        | zero => omega
        | succ n => exact g8 l n (i + 1) (by omega)
    · obtain ⟨hd, hb⟩ := at_nil l i hi
      rw [hd, from_nil, rrun_stop l i (by rw [digitAt_byt, hb]; rfl)]
theorem g8' (l : List UInt8) (i : Nat) : from_ 8 i i (l.drop i) = rrun l i := g8 l _ i (Nat.le_refl _)
theorem g7 (l : List UInt8) (i k : Nat) : from_ 7 i k (l.drop i) = if digitAt l i = true then rrun l i else k := by
  rcases Nat.lt_or_ge i l.length with hi | hi
  · obtain ⟨c, hd, hb⟩ := at_cons l i hi
    rw [hd, from_cons, digitAt_byt, hb]
    cases hg : dig c.toNat
    · rw [if_pos (step8 (sgn_lt _) (sgn_nodig hg)).2.1, if_neg (by decide)]
    · rw [(stepd (sgn_dig hg)).2.1, if_neg (by decide), if_pos rfl, rrun_step l i (by rw [digitAt_byt, hb, hg])]
      exact g8' l (i + 1)
  · obtain ⟨hd, hb⟩ := at_nil l i hi
    rw [hd, from_nil, digitAt_byt, hb]; rfl
theorem g6 (l : List UInt8) (i k : Nat) : from_ 6 i k (l.drop i) = if digitAt l (e3 l i) = true then rrun l (e3 l i) else k := by
  rcases Nat.lt_or_ge i l.length with hi | hi
  · obtain ⟨c, hd, hb⟩ := at_cons l i hi
    rw [hd, from_cons]
    by_cases hs : c.toNat = 43 ∨ c.toNat = 45
    · have h3 : e3 l i = i + 1 := by unfold e3; rw [if_pos (by rw [hb]; exact hs)]
      have hst : step 6 (sgn c.toNat) = 7 := by
        rcases sgn_sign.2 hs with h | h <;> rw [h] <;> rfl
      rw [hst, if_neg (by decide), h3]
      exact g7 l (i + 1) k
    · have h3 : e3 l i = i := by unfold e3; rw [if_neg (by rw [hb]; exact hs)]
      rw [h3, digitAt_byt, hb]
      cases hg : dig c.toNat
      · have hst : step 6 (sgn c.toNat) = 9 := by
          have h7 := sgn_lt c.toNat
          have h1 := sgn_nodig hg
          have h2 : ¬ (sgn c.toNat = 0 ∨ sgn c.toNat = 1) := fun h => hs (sgn_sign.1 h)
          generalize sgn c.toNat = g at *
          have : ∀ g, g < 7 → (g ≠ 2 ∧ g ≠ 3) → ¬ (g = 0 ∨ g = 1) → step 6 g = 9 := by decide
          exact this g h7 h1 h2
        rw [if_pos hst, if_neg (by decide)]
      · rw [(stepd (sgn_dig hg)).2.2.1, if_neg (by decide), if_pos rfl, rrun_step l i (by rw [digitAt_byt, hb, hg])]
        exact g8' l (i + 1)
  · obtain ⟨hd, hb⟩ := at_nil l i hi
    have h3 : e3 l i = i := by unfold e3; rw [hb, if_neg (by omega)]
    rw [hd, from_nil, h3, digitAt_byt, hb]; rfl
/-- .. what a mark leads to, where a whole one stands. -/
theorem gmark (l : List UInt8) (i st : Nat) (hst : step st 5 = 6) (hb : byt l i = 101 ∨ byt l i = 69) : from_ st i i (l.drop i) = e4 l i := by
  have hi : i < l.length := by
    rcases Nat.lt_or_ge i l.length with h | h
    · exact h
    · rw [byt_ge l i h] at hb; omega
  obtain ⟨c, hd, hb'⟩ := at_cons l i hi
  rw [hb'] at hb
  rw [hd, from_cons, sgn_mark.2 hb, hst, if_neg (by decide)]
  show from_ 6 (i + 1) i _ = _
  rw [g6]
  unfold e4
  rw [hb']
  by_cases h : digitAt l (e3 l (i + 1)) = true
  · rw [if_pos h, if_pos ⟨hb, h⟩]
  · rw [if_neg h, if_neg (fun e => h e.2)]
theorem gnone (l : List UInt8) (i : Nat) (hb : ¬ (byt l i = 101 ∨ byt l i = 69)) : e4 l i = i := by
  unfold e4; rw [if_neg (fun e => hb e.1)]
theorem g5 (l : List UInt8) : ∀ (n i : Nat), l.length - i ≤ n → from_ 5 i i (l.drop i) = e4 l (rrun l i)
  | n, i, hn => by
    rcases Nat.lt_or_ge i l.length with hi | hi
    · obtain ⟨c, hd, hb⟩ := at_cons l i hi
      cases hg : dig c.toNat
      · rw [rrun_stop l i (by rw [digitAt_byt, hb, hg])]
        by_cases hm : byt l i = 101 ∨ byt l i = 69
        · exact gmark l i 5 rfl hm
        · rw [gnone l i hm, hd, from_cons, if_pos]
          have h7 := sgn_lt c.toNat
          have h1 := sgn_nodig hg
          have h2 : ¬ sgn c.toNat = 5 := fun h => hm (by rw [hb]; exact sgn_mark.1 h)
          generalize sgn c.toNat = g at *
          have : ∀ g, g < 7 → (g ≠ 2 ∧ g ≠ 3) → ¬ g = 5 → step 5 g = 9 := by decide
          exact this g h7 h1 h2
      · rw [hd, from_cons, (stepd (sgn_dig hg)).2.2.2.1, if_neg (by decide), rrun_step l i (by rw [digitAt_byt, hb, hg])]
        cases n with
        | zero => omega
        | succ n => exact g5 l n (i + 1) (by omega)
    · obtain ⟨hd, hb⟩ := at_nil l i hi
      rw [hd, from_nil, rrun_stop l i (by rw [digitAt_byt, hb]; rfl), gnone l i (by rw [hb]; omega)]
theorem g4 (l : List UInt8) (i k : Nat) : from_ 4 i k (l.drop i) = if digitAt l i = true then e4 l (rrun l i) else k := by
  rcases Nat.lt_or_ge i l.length with hi | hi
  · obtain ⟨c, hd, hb⟩ := at_cons l i hi
    rw [hd, from_cons, digitAt_byt, hb]
    cases hg : dig c.toNat
    · rw [if_pos (step8 (sgn_lt _) (sgn_nodig hg)).2.2, if_neg (by decide)]
    · rw [(stepd (sgn_dig hg)).2.2.2.2.1, if_neg (by decide), if_pos rfl, rrun_step l i (by rw [digitAt_byt, hb, hg])]
      exact g5 l _ (i + 1) (Nat.le_refl _)
  · obtain ⟨hd, hb⟩ := at_nil l i hi
    rw [hd, from_nil, digitAt_byt, hb]; rfl
/-- .. what stands behind the whole digits, where none follows. -/
theorem grest (l : List UInt8) (i st : Nat) (h4 : step st 4 = 4) (h5 : step st 5 = 6) (hx : ∀ g, g < 7 → (g ≠ 2 ∧ g ≠ 3) → g ≠ 4 → g ≠ 5 → step st g = 9) (hn : digitAt l i = false ∨ (step st 2 = 9 ∧ step st 3 = 9)) : from_ st i i (l.drop i) = e4 l (e2 l i) := by
  rcases Nat.lt_or_ge i l.length with hi | hi
  · obtain ⟨c, hd, hb⟩ := at_cons l i hi
    by_cases hdot : byt l i = 46
    · have hne : ¬ (byt l i = 101 ∨ byt l i = 69) := by omega
      rw [hd, from_cons, sgn_dot.2 (by rw [← hb]; exact hdot), h4, if_neg (by decide)]
      show from_ 4 (i + 1) i _ = _
      rw [g4]
      unfold e2
      by_cases hg : digitAt l (i + 1) = true
      · rw [if_pos hg, if_pos ⟨hdot, hg⟩]
      · rw [if_neg hg, if_neg (fun e => hg e.2), gnone l i hne]
    · have h2 : e2 l i = i := by unfold e2; rw [if_neg (fun e => hdot e.1)]
      rw [h2]
      by_cases hm : byt l i = 101 ∨ byt l i = 69
      · exact gmark l i st h5 hm
      · rw [gnone l i hm, hd, from_cons, if_pos]
        rw [hb] at hdot hm
        cases hg : dig c.toNat
        · exact hx _ (sgn_lt _) (sgn_nodig hg) (fun e => hdot (sgn_dot.1 e)) (fun e => hm (sgn_mark.1 e))
        · rcases hn with hn | hn
          · rw [digitAt_byt, hb, hg] at hn; cases hn
          · rcases sgn_dig hg with e | e <;> rw [e]
            · exact hn.1
            · exact hn.2
  · obtain ⟨hd, hb⟩ := at_nil l i hi
    have h2 : e2 l i = i := by unfold e2; rw [hb, if_neg (fun e => by omega)]
    rw [hd, from_nil, h2, gnone l i (by rw [hb]; omega)]
theorem g3 (l : List UInt8) : ∀ (n i : Nat), l.length - i ≤ n → from_ 3 i i (l.drop i) = e4 l (e2 l (rrun l i))
  | n, i, hn => by
    cases hg : digitAt l i
    · rw [rrun_stop l i hg]
      exact grest l i 3 rfl rfl (by decide) (.inl hg)
    · have hi : i < l.length := by
        rcases Nat.lt_or_ge i l.length with h | h
        · exact h
        · rw [digitAt_byt, byt_ge l i h] at hg; cases hg
      obtain ⟨c, hd, hb⟩ := at_cons l i hi
      have hg' := hg
      rw [digitAt_byt, hb] at hg'
      rw [hd, from_cons, (stepd (sgn_dig hg')).2.2.2.2.2, if_neg (by decide), rrun_step l i hg]
      cases n with
      | zero => omega
      | succ n => exact g3 l n (i + 1) (by omega)
/-- From the first digit on. -/
theorem gfirst (l : List UInt8) (i st : Nat) (h2 : step st 2 = 2) (h3 : step st 3 = 3) (hx : ∀ g, g < 7 → (g ≠ 2 ∧ g ≠ 3) → (st = 0 → g ≠ 0) → step st g = 9) (hm : st = 0 → byt l i ≠ 45) :
    from_ st i 0 (l.drop i) = if digitAt l i = true then e4 l (e2 l (e1 l i)) else 0 := by
  rcases Nat.lt_or_ge i l.length with hi | hi
  · obtain ⟨c, hd, hb⟩ := at_cons l i hi
    rw [hd, from_cons, digitAt_byt, hb]
    cases hg : dig c.toNat
    · rw [if_pos, if_neg (by decide)]
      exact hx _ (sgn_lt _) (sgn_nodig hg) (fun h e => hm h (by rw [hb]; exact sgn_minus.1 e))
    · rw [if_pos rfl]
      by_cases hz : c.toNat = 48
      · have he : e1 l i = i + 1 := by unfold e1; rw [if_pos (by rw [hb]; exact hz)]
        rw [sgn_zero.2 hz, h2, if_neg (by decide), he]
        exact grest l (i + 1) 2 rfl rfl (by decide) (.inr ⟨rfl, rfl⟩)
      · have he : e1 l i = rrun l i := by unfold e1; rw [if_neg (by rw [hb]; exact hz)]
        have h3' : sgn c.toNat = 3 := by
          rcases sgn_dig hg with e | e
          · exact absurd (sgn_zero.1 e) hz
          · exact e
        rw [h3', h3, if_neg (by decide), he, rrun_step l i (by rw [digitAt_byt, hb, hg])]
        exact g3 l _ (i + 1) (Nat.le_refl _)
  · obtain ⟨hd, hb⟩ := at_nil l i hi
    rw [hd, from_nil, digitAt_byt, hb]; rfl
/-- The reference scans as the program does. -/
theorem rscan_eq (l : List UInt8) : rscan l = scan l := by
  unfold rscan scan e0
  by_cases hm : byt l 0 = 45
  · rw [if_pos hm]
    have hi : 0 < l.length := by
      rcases Nat.lt_or_ge 0 l.length with h | h
      · exact h
      · rw [byt_ge l 0 h] at hm; omega
    obtain ⟨c, hd, hb⟩ := at_cons l 0 hi
    rw [List.drop_zero] at hd
    conv => rhs; rw [hd, from_cons, sgn_minus.2 (by rw [← hb]; exact hm)]
    show _ = from_ 1 1 0 (l.drop 1)
    rw [gfirst l 1 1 rfl rfl (by decide) (fun h => by omega)]
  · rw [if_neg hm]
    have := gfirst l 0 0 rfl rfl (by decide) (fun _ => hm)
    rw [List.drop_zero] at this
    exact this.symm
end Go.Proofs.YtbfkgddhpabioaaGreatDoor.Num
