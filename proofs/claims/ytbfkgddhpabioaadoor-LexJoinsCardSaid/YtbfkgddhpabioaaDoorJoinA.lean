/- The plain law of LexJoins: a token's text with a blank behind it is the same token. -/
import Derived.Test.YtbfkgddhpabioaaDoorLexParses
namespace Go.Proofs.YtbfkgddhpabioaaDoor.Lex
open Go.Proofs.YtbfkgddhpabioaaDoor.Utf
set_option linter.unusedVariables false
set_option linter.unusedSimpArgs false

theorem step_blank : ∀ st, Num.step st 6 = 9 ∨ 9 ≤ st := by
  intro st
  by_cases h : st < 9
  · left; revert st; decide
  · right; omega
theorem from_or : ∀ (l : List UInt8) (st i k : Nat), Num.from_ st i k l = k ∨ i < Num.from_ st i k l
  | [], st, i, k => .inl rfl
  | c :: l, st, i, k => by
    rw [Num.from_]
    split
    · exact .inl rfl
    · split
      · rcases from_or l (Num.step st (Num.sgn c.toNat)) (i + 1) (i + 1) with h | h
        · right; omega
        · right; omega
      · rcases from_or l (Num.step st (Num.sgn c.toNat)) (i + 1) k with h | h
        · left; exact h
        · right; omega
theorem from_local (m : List UInt8) : ∀ (l : List UInt8) (st i k : Nat), st < 9 → k ≤ i → Num.from_ st i k (l.take (Num.from_ st i k l - i) ++ 32 :: m) = Num.from_ st i k l
  | [], st, i, k, hs, hk => by
    have := (step_blank st).resolve_right (by omega)
    have h6 : Num.sgn (32 : UInt8).toNat = 6 := by decide
    have e : Num.from_ st i k (32 :: m) = k := by rw [Num.from_, h6, if_pos this]
    simp [Num.from_, e]
  | c :: l, st, i, k, hs, hk => by
    have hb := (step_blank st).resolve_right (by omega)
    have h6 : Num.sgn (32 : UInt8).toNat = 6 := by decide
    have h0 : ∀ r, r = k → Num.from_ st i k ((c :: l).take (r - i) ++ 32 :: m) = k := by
      rintro r rfl
      rw [show r - i = 0 by omega, List.take_zero, List.nil_append, Num.from_, h6, if_pos hb]
    by_cases h : Num.step st (Num.sgn c.toNat) = 9
    · have e : Num.from_ st i k (c :: l) = k := by rw [Num.from_, if_pos h]
      rw [e]; exact h0 k rfl
    · have hs' : Num.step st (Num.sgn c.toNat) < 9 := by have := Num.step_le st hs _ (Num.sgn_lt c.toNat); omega
      generalize hk' : (if Num.whole (Num.step st (Num.sgn c.toNat)) then i + 1 else k) = k'
      have e : ∀ t, Num.from_ st i k (c :: t) = Num.from_ (Num.step st (Num.sgn c.toNat)) (i + 1) k' t := by
        intro t; rw [Num.from_, if_neg h, hk']
      have hk1 : k' ≤ i + 1 := by rw [← hk']; split <;> omega
      rw [e l]
      rcases Nat.lt_or_ge i (Num.from_ (Num.step st (Num.sgn c.toNat)) (i + 1) k' l) with h1 | h1
      · have ih := from_local m l (Num.step st (Num.sgn c.toNat)) (i + 1) k' hs' hk1
        generalize Num.from_ (Num.step st (Num.sgn c.toNat)) (i + 1) k' l = r at *
        rw [show r - i = (r - (i + 1)) + 1 by omega, List.take_succ_cons, List.cons_append, e]
        exact ih
      · have h2 := from_or l (Num.step st (Num.sgn c.toNat)) (i + 1) k'
        have h3 : Num.from_ (Num.step st (Num.sgn c.toNat)) (i + 1) k' l = k := by
          rcases h2 with h2 | h2
          · rw [h2] at h1 ⊢
            rw [← hk'] at h1 ⊢
            split at h1
            · omega
            · rename_i h4; rw [if_neg h4]
          · omega
        rw [h0 _ h3, h3]
theorem scan_local (l m : List UInt8) : Num.scan (l.take (Num.scan l) ++ 32 :: m) = Num.scan l := by
  have := from_local m l 0 0 0 (by decide) (Nat.le_refl _)
  simpa [Num.scan] using this
theorem takeWhile_local (p : UInt8 → Bool) (hp : p 32 = false) (m : List UInt8) : ∀ l : List UInt8, ((l.take (l.takeWhile p).length) ++ 32 :: m).takeWhile p = l.takeWhile p
  | [] => by simp [hp]
  | c :: l => by
    by_cases h : p c = true
    · simp [h, takeWhile_local p hp m l]
    · simp [h, hp]
theorem ident_local (c : UInt8) (l m : List UInt8) : ident ((c :: l).take (ident (c :: l)) ++ 32 :: m) = ident (c :: l) := by
  unfold ident
  simp only [List.drop_succ_cons, List.drop_zero]
  rw [show 1 + (l.takeWhile inId).length = (l.takeWhile inId).length + 1 from Nat.add_comm _ _, List.take_succ_cons, List.cons_append, List.drop_succ_cons, List.drop_zero, takeWhile_local inId (by decide) m l, Nat.add_comm]
end Go.Proofs.YtbfkgddhpabioaaDoor.Lex
/- The plain law of LexJoins: a quoted text is read locally. -/
namespace Go.Proofs.YtbfkgddhpabioaaDoor.Lex
open Go.Proofs.YtbfkgddhpabioaaDoor.Utf Go.Proofs.YtbfkgddhpabioaaDoor.Quote
set_option linter.unusedVariables false
set_option linter.unusedSimpArgs false

theorem byt_local (l m : List UInt8) (k i : Nat) (hi : i < k) (hk : k ≤ l.length) : byt (l.take k ++ m) i = byt l i := by
  unfold byt
  rw [List.getD_eq_getElem?_getD, List.getD_eq_getElem?_getD, List.getElem?_append_left (by rw [List.length_take]; omega), List.getElem?_take_of_lt hi]
theorem four_local (m : List UInt8) : ∀ (k n : Nat) (l : List UInt8) (r : Nat), four k n l = .ok r → k ≤ l.length ∧ ∀ j, k ≤ j → four k n (l.take j ++ m) = .ok r
  | 0, n, l, r, h => by
    refine ⟨Nat.zero_le _, fun j _ => ?_⟩
    simpa [four] using h
  | k + 1, n, [], r, h => by simp [four] at h
  | k + 1, n, c :: l, r, h => by
    unfold four at h
    cases hx : hexv c.toNat with
    | none => rw [hx] at h; simp at h
    | some d =>
      rw [hx] at h
      have ih := four_local m k (n * 16 + d) l r h
      refine ⟨by simpa using ih.1, fun j hj => ?_⟩
      obtain ⟨j, rfl⟩ : ∃ i, j = i + 1 := ⟨j - 1, by omega⟩
      rw [List.take_succ_cons, List.cons_append, four, hx]
      exact ih.2 j (by omega)
theorem number_local (l m o : List UInt8) (n : Nat) (h : number l = .ok (o, n)) : n ≤ l.length ∧ number (l.take n ++ m) = .ok (o, n) := by
  unfold number at h
  cases h4 : four 4 0 l with
  | error e => rw [h4] at h; simp at h
  | ok c =>
    rw [h4] at h
    have hf := four_local m 4 0 l c h4
    simp only at h
    split at h
    · simp at h
    · rename_i hA
      split at h
      · rename_i hB
        split at h
        · simp at h
        · rename_i c1
          split at h
          · simp at h
          · rename_i c2
            split at h
            · simp at h
            · rename_i c3
              split at h
              · simp at h
              · rename_i c4
                cases h5 : four 4 0 (l.drop 6) with
                | error e => rw [h5] at h; simp at h
                | ok d =>
                  rw [h5] at h
                  simp only at h
                  split at h
                  · simp at h
                  · rename_i c5
                    have hg := four_local m 4 0 (l.drop 6) d h5
                    rw [List.length_drop] at hg
                    injection h with h
                    injection h with h6 h7
                    subst h6 h7
                    refine ⟨by omega, ?_⟩
                    have hl : (l.take 10 ++ m).length = 10 + m.length := by rw [List.length_append, List.length_take]; omega
                    unfold number
                    rw [hf.2 10 (by omega)]
                    simp only
                    rw [if_neg hA, if_pos hB, if_neg (by omega), byt_local l m 10 4 (by omega) (by omega), if_neg c2, if_neg (by omega), byt_local l m 10 5 (by omega) (by omega), if_neg c4]
                    have e6 : (l.take 10 ++ m).drop 6 = (l.drop 6).take 4 ++ m := by
                      rw [List.drop_append_of_le_length (by rw [List.length_take]; omega), List.drop_take]
                    rw [e6, hg.2 4 (Nat.le_refl _)]
                    simp only
                    rw [if_neg c5]
      · rename_i hB
        injection h with h
        injection h with h6 h7
        subst h6 h7
        refine ⟨hf.1, ?_⟩
        unfold number
        rw [hf.2 4 (Nat.le_refl _)]
        simp only
        rw [if_neg hA, if_neg hB]
end Go.Proofs.YtbfkgddhpabioaaDoor.Lex
/- The plain law of LexJoins: a quoted text is read locally: escapes, parts, the whole. -/
namespace Go.Proofs.YtbfkgddhpabioaaDoor.Lex
open Go.Proofs.YtbfkgddhpabioaaDoor.Utf Go.Proofs.YtbfkgddhpabioaaDoor.Quote
set_option linter.unusedVariables false
set_option linter.unusedSimpArgs false

theorem escape_cons (c : UInt8) (x : List UInt8) : escape (c :: x) = if c.toNat = 34 ∨ c.toNat = 92 ∨ c.toNat = 47 then .ok ([UInt8.ofNat c.toNat], 1) else if c.toNat = 98 then .ok ([8], 1) else if c.toNat = 102 then .ok ([12], 1) else if c.toNat = 110 then .ok ([10], 1) else if c.toNat = 114 then .ok ([13], 1) else if c.toNat = 116 then .ok ([9], 1) else if c.toNat = 117 then (match number x with
    | .error e => .error e
    | .ok (o, n) => .ok (o, n + 1)) else .error 3 := by
  unfold escape
  rw [if_neg (by simp)]
  rfl
theorem escape_local (l m o : List UInt8) (n : Nat) (h : escape l = .ok (o, n)) : n ≤ l.length ∧ escape (l.take n ++ m) = .ok (o, n) := by
  cases l with
  | nil => simp [escape] at h
  | cons c t =>
    by_cases hu : c.toNat = 117
    · have e : ∀ x, escape (c :: x) = (match number x with
          | .error e => .error e
          | .ok (o, n) => .ok (o, n + 1)) := by
        intro x
        rw [escape_cons, if_neg (by omega), if_neg (by omega), if_neg (by omega), if_neg (by omega), if_neg (by omega), if_neg (by omega), if_pos hu]
      rw [e] at h
      cases hn : number t with
      | error e => rw [hn] at h; simp at h
      | ok r =>
        obtain ⟨o', n'⟩ := r
        rw [hn] at h
        simp only at h
        injection h with h
        injection h with h6 h7
        subst h6 h7
        have := number_local t m o' n' hn
        refine ⟨by simpa using this.1, ?_⟩
        rw [List.take_succ_cons, List.cons_append, e, this.2]
    · have hh : ∀ x, escape (c :: x) = escape (c :: t) := by
        intro x
        rw [escape_cons, escape_cons]
        simp only [hu, if_false]
      have hn : n = 1 := by
        rw [escape_cons] at h
        simp only [hu, if_false] at h
        repeat' split at h
        all_goals first
          | (injection h with h; injection h with _ h; exact h.symm)
          | (simp at h)
      subst hn
      refine ⟨by simp, ?_⟩
      rw [List.take_succ_cons, List.cons_append, hh]
      exact h
theorem one_local (l m : List UInt8) (h : (one l).2 ≠ 0) : one (l.take (one l).2 ++ m) = one l := by
  have hle := one_size_le l
  unfold one at h hle ⊢
  by_cases hs : stands l (sizeAt (byt l 0)) = true
  · rw [if_pos hs] at h hle ⊢
    simp only at h hle ⊢
    have b := fun i hi => byt_local l m (sizeAt (byt l 0)) i hi hle.1
    have b0 := b 0 (by omega)
    have hl : sizeAt (byt l 0) ≤ (l.take (sizeAt (byt l 0)) ++ m).length := by rw [List.length_append, List.length_take]; omega
    rw [b0]
    generalize hk : sizeAt (byt l 0) = k at *
    have hc : conts (l.take k ++ m) k = conts l k := by
      unfold conts
      split
      · rfl
      · split
        · rw [b 1 (by omega)]
        · split
          · rw [b 1 (by omega), b 2 (by omega)]
          · rw [b 1 (by omega), b 2 (by omega), b 3 (by omega)]
    have hv : Utf.val (l.take k ++ m) k = Utf.val l k := by
      unfold Utf.val
      split
      · rw [b0]
      · split
        · rw [b0, b 1 (by omega)]
        · split
          · rw [b0, b 1 (by omega), b 2 (by omega)]
          · rw [b0, b 1 (by omega), b 2 (by omega), b 3 (by omega)]
    have hst : stands (l.take k ++ m) k = true := by
      unfold stands at hs ⊢
      rw [hc, hv, b0, hk]
      rw [hk] at hs
      simp only [Bool.and_eq_true, decide_eq_true_eq] at hs ⊢
      exact ⟨⟨⟨⟨⟨hs.1.1.1.1.1, hl⟩, hs.1.1.1.2⟩, hs.1.1.2⟩, hs.1.2⟩, hs.2⟩
    rw [if_pos hst, hv]
  · rw [if_neg hs] at h
    simp at h
end Go.Proofs.YtbfkgddhpabioaaDoor.Lex
/- The plain law of LexJoins: a quoted text is read locally: parts, the whole. -/
namespace Go.Proofs.YtbfkgddhpabioaaDoor.Lex
open Go.Proofs.YtbfkgddhpabioaaDoor.Utf Go.Proofs.YtbfkgddhpabioaaDoor.Quote
set_option linter.unusedVariables false
set_option linter.unusedSimpArgs false

theorem part_cons (c : UInt8) (x : List UInt8) : Quote.part (c :: x) = if c.toNat = 34 then .ok ([], 1, false) else if c.toNat = 92 then (match escape x with
    | .error e => .error e
    | .ok (o, n) => .ok (o, n + 1, true)) else if c.toNat < 32 then .error 3 else if c.toNat < 128 then .ok ([UInt8.ofNat c.toNat], 1, true) else if (one (c :: x)).2 = 0 then .error 7 else .ok (put (one (c :: x)).1, (put (one (c :: x)).1).length, true) := by
  unfold Quote.part
  rw [if_neg (by simp)]
  rfl
theorem part_local (l m o : List UInt8) (k : Nat) (b : Bool) (h : Quote.part l = .ok (o, k, b)) : 1 ≤ k ∧ k ≤ l.length ∧ Quote.part (l.take k ++ m) = .ok (o, k, b) := by
  cases l with
  | nil => simp [Quote.part] at h
  | cons c t =>
    rw [part_cons] at h
    by_cases h1 : c.toNat = 34
    · rw [if_pos h1] at h
      injection h with h; injection h with h6 h7; injection h7 with h7 h8
      subst h6 h7 h8
      refine ⟨by omega, by simp, ?_⟩
      rw [List.take_succ_cons, List.cons_append, part_cons, if_pos h1]
    · rw [if_neg h1] at h
      by_cases h2 : c.toNat = 92
      · rw [if_pos h2] at h
        cases hn : escape t with
        | error e => rw [hn] at h; simp at h
        | ok r =>
          obtain ⟨o', n'⟩ := r
          rw [hn] at h
          simp only at h
          injection h with h; injection h with h6 h7; injection h7 with h7 h8
          subst h6 h7 h8
          have := escape_local t m o' n' hn
          refine ⟨by omega, by simpa using this.1, ?_⟩
          rw [List.take_succ_cons, List.cons_append, part_cons, if_neg h1, if_pos h2, this.2]
      · rw [if_neg h2] at h
        by_cases h3 : c.toNat < 32
        · rw [if_pos h3] at h; simp at h
        · rw [if_neg h3] at h
          by_cases h4 : c.toNat < 128
          · rw [if_pos h4] at h
            injection h with h; injection h with h6 h7; injection h7 with h7 h8
            subst h6 h7 h8
            refine ⟨by omega, by simp, ?_⟩
            rw [List.take_succ_cons, List.cons_append, part_cons, if_neg h1, if_neg h2, if_neg h3, if_pos h4]
          · rw [if_neg h4] at h
            by_cases h5 : (one (c :: t)).2 = 0
            · rw [if_pos h5] at h; simp at h
            · rw [if_neg h5] at h
              injection h with h; injection h with h6 h7; injection h7 with h7 h8
              have hp := (one_put (c :: t) h5).1
              have hz := (one_size_le (c :: t)).1
              have hloc := one_local (c :: t) m h5
              rw [hp] at h7
              subst h7 h8
              refine ⟨by omega, hz, ?_⟩
              obtain ⟨j, hj⟩ : ∃ j, (one (c :: t)).2 = j + 1 := ⟨(one (c :: t)).2 - 1, by omega⟩
              have e2 : (c :: t).take (one (c :: t)).2 ++ m = c :: (t.take j ++ m) := by rw [hj]; rfl
              rw [e2] at hloc ⊢
              rw [part_cons, if_neg h1, if_neg h2, if_neg h3, if_neg h4, hloc, if_neg h5, hp, h6]
theorem parts_local (m : List UInt8) : ∀ (n : Nat) (l : List UInt8) (p : Nat) (out o : List UInt8) (q : Nat), Quote.parts n l p out = .ok (o, q) →
    p < q ∧ q - p ≤ l.length ∧ ∀ n', q - p ≤ n' → Quote.parts n' (l.take (q - p) ++ m) p out = .ok (o, q)
  | 0, l, p, out, o, q, h => by simp [Quote.parts] at h
  | n + 1, l, p, out, o, q, h => by
    unfold Quote.parts at h
    cases hx : Quote.part l with
    | error e => rw [hx] at h; simp at h
    | ok r =>
      obtain ⟨o', k, b⟩ := r
      rw [hx] at h
      cases b
      · simp only at h
        injection h with h; injection h with h6 h7
        subst h6 h7
        have hl := part_local l m o' k false hx
        refine ⟨by omega, by omega, fun n' hn' => ?_⟩
        obtain ⟨n', rfl⟩ : ∃ i, n' = i + 1 := ⟨n' - 1, by omega⟩
        rw [show p + k - p = k by omega, Quote.parts, hl.2.2]
      · simp only at h
        have hl := part_local l (((l.drop k).take (q - (p + k))) ++ m) o' k true hx
        have ih := parts_local m n (l.drop k) (p + k) (out ++ o') o q h
        rw [List.length_drop] at ih
        refine ⟨by omega, by omega, fun n' hn' => ?_⟩
        obtain ⟨n', rfl⟩ : ∃ i, n' = i + 1 := ⟨n' - 1, by omega⟩
        have e1 : l.take (q - p) ++ m = l.take k ++ ((l.drop k).take (q - (p + k)) ++ m) := by
          rw [← List.append_assoc, ← List.take_add, show k + (q - (p + k)) = q - p by omega]
        rw [e1, Quote.parts, hl.2.2]
        simp only
        have e2 : (l.take k ++ ((l.drop k).take (q - (p + k)) ++ m)).drop k = (l.drop k).take (q - (p + k)) ++ m :=
          List.drop_left' (by rw [List.length_take]; omega)
        rw [e2]
        exact ih.2.2 n' (by omega)
theorem quote_local (l m o : List UInt8) (n : Nat) (h : Quote.scan l = .ok (o, n)) : Quote.scan (l.take n ++ m) = .ok (o, n) := by
  cases l with
  | nil => simp [Quote.scan] at h
  | cons c t =>
    have e : ∀ x, Quote.scan (c :: x) = if c.toNat ≠ 34 then .error 3 else Quote.parts (x.length + 2) x 1 [] := by
      intro x; unfold Quote.scan; rw [if_neg (by simp)]; rfl
    rw [e] at h
    by_cases h1 : c.toNat ≠ 34
    · rw [if_pos h1] at h; simp at h
    · rw [if_neg h1] at h
      have hp := parts_local m _ _ _ _ _ _ h
      obtain ⟨j, rfl⟩ : ∃ j, n = j + 1 := ⟨n - 1, by omega⟩
      rw [List.take_succ_cons, List.cons_append, e, if_neg h1]
      have := hp.2.2 ((t.take j ++ m).length + 2) (by rw [List.length_append, List.length_take]; omega)
      simpa using this
end Go.Proofs.YtbfkgddhpabioaaDoor.Lex
/- The plain law of LexJoins: numbers and signs with a blank behind them. -/
namespace Go.Proofs.YtbfkgddhpabioaaDoor.Lex
open Go.Proofs.YtbfkgddhpabioaaDoor.Utf
set_option linter.unusedVariables false
set_option linter.unusedSimpArgs false

theorem decimal_local (l m : List UInt8) (hz : Num.scan l ≤ l.length) : decimal (l.take (Num.scan l) ++ 32 :: m) = decimal l := by
  have e : (l.take (Num.scan l) ++ 32 :: m).take (Num.scan l) = l.take (Num.scan l) := by
    rw [List.take_append_of_le_length (by rw [List.length_take]; omega), List.take_take, Nat.min_self]
  unfold decimal
  rw [scan_local, e]
theorem doubles_two (a b : UInt8) (t t' : List UInt8) : doubles.any (·.isPrefixOf (a :: b :: t)) = doubles.any (·.isPrefixOf (a :: b :: t')) := by
  simp [doubles, List.isPrefixOf]
theorem doubles_blank (c : UInt8) (m : List UInt8) : doubles.any (·.isPrefixOf (c :: 32 :: m)) = false := by
  simp [doubles, List.isPrefixOf]
theorem sign_local (l m : List UInt8) (h : 0 < sign l) : sign (l.take (sign l) ++ 32 :: m) = sign l := by
  cases l with
  | nil => exact absurd h (by decide)
  | cons c t =>
    by_cases hd : doubles.any (·.isPrefixOf (c :: t)) = true
    · have e : sign (c :: t) = 2 := by unfold sign; rw [if_pos hd]
      rw [e]
      cases t with
      | nil => simp [doubles, List.isPrefixOf] at hd
      | cons b t =>
        unfold sign
        rw [show (c :: b :: t).take 2 ++ 32 :: m = c :: b :: 32 :: m from rfl, doubles_two c b (32 :: m) t, if_pos hd]
    · have e : sign (c :: t) = 1 := by
        unfold sign at h ⊢
        rw [if_neg hd] at h ⊢
        split at h
        · rename_i h2; rw [if_pos h2]
        · omega
      have h2 := h
      rw [e]
      unfold sign at h2 ⊢
      rw [if_neg hd] at h2
      rw [show (c :: t).take 1 ++ 32 :: m = c :: 32 :: m from rfl, doubles_blank]
      split at h2
      · rename_i h3
        rw [if_neg (by decide)]
        exact if_pos h3
      · omega
end Go.Proofs.YtbfkgddhpabioaaDoor.Lex
/- The plain law of LexJoins: remarks. -/
namespace Go.Proofs.YtbfkgddhpabioaaDoor.Lex
open Go.Proofs.YtbfkgddhpabioaaDoor.Utf
set_option linter.unusedVariables false
set_option linter.unusedSimpArgs false

theorem dropWhile_twice (p : UInt8 → Bool) : ∀ l : List UInt8, (l.dropWhile p).dropWhile p = l.dropWhile p
  | [] => rfl
  | c :: l => by
    by_cases h : p c = true
    · simp only [List.dropWhile_cons, h, if_true]; exact dropWhile_twice p l
    · simp [List.dropWhile_cons, h]
theorem trim_local (u : List UInt8) : trimB (trimB u ++ [32]) = trimB u := by
  unfold trimB
  rw [List.reverse_append, List.reverse_reverse, List.reverse_singleton, List.singleton_append, List.dropWhile_cons, if_pos (by decide), dropWhile_twice]
theorem line_to (t m : List UInt8) (h : ∀ c ∈ t, c ≠ 10) : line (t ++ 10 :: m) = t := by
  have e : (t ++ 10 :: m).findIdx? (· == 10) = some t.length := by
    rw [List.findIdx?_append]
    have : t.findIdx? (· == 10) = none := by rw [List.findIdx?_eq_none_iff]; intro c hc; simpa using h c hc
    rw [this]; simp [List.findIdx?_cons]
  unfold line
  rw [e]; simp
end Go.Proofs.YtbfkgddhpabioaaDoor.Lex
/- The plain law of LexJoins: asides. -/
namespace Go.Proofs.YtbfkgddhpabioaaDoor.Lex
open Go.Proofs.YtbfkgddhpabioaaDoor.Utf
set_option linter.unusedVariables false
set_option linter.unusedSimpArgs false

theorem pre_two (b c : UInt8) (t t' : List UInt8) : ([42, 47] : List UInt8).isPrefixOf (b :: c :: t) = ([42, 47] : List UInt8).isPrefixOf (b :: c :: t') := by
  simp [List.isPrefixOf]
theorem index_local (m : List UInt8) : ∀ l : List UInt8, 0 ≤ Lib.index l [42, 47] → Lib.index (l.take ((Lib.index l [42, 47]).toNat + 2) ++ m) [42, 47] = Lib.index l [42, 47]
  | [], h => by simp [Lib.index] at h
  | b :: l, h => by
    have hr := index_room [42, 47] (b :: l) (by simp) h
    cases l with
    | nil => simp at hr
    | cons c t =>
      by_cases hp : ([42, 47] : List UInt8).isPrefixOf (b :: c :: t) = true
      · have e : ∀ x, Lib.index (b :: c :: x) [42, 47] = 0 := fun x => by rw [Lib.index, pre_two b c x t, if_pos hp]
        rw [e, show (0 : Int).toNat + 2 = 2 from rfl]
        exact e m
      · have e : ∀ x, Lib.index (b :: c :: x) [42, 47] = if Lib.index (c :: x) [42, 47] == -1 then -1 else Lib.index (c :: x) [42, 47] + 1 := fun x => by rw [Lib.index, pre_two b c x t, if_neg hp]
        by_cases hm : (Lib.index (c :: t) [42, 47] == -1) = true
        · rw [e, if_pos hm] at h; omega
        · have hge := Lib.index_ge (c :: t) [42, 47]
          have hne : Lib.index (c :: t) [42, 47] ≠ -1 := fun e => hm (beq_iff_eq.2 e)
          have ih := index_local m (c :: t) (by omega)
          have e1 : Lib.index (b :: c :: t) [42, 47] = Lib.index (c :: t) [42, 47] + 1 := by rw [e, if_neg hm]
          rw [e1, show (Lib.index (c :: t) [42, 47] + 1).toNat + 2 = (Lib.index (c :: t) [42, 47]).toNat + 2 + 1 by omega, List.take_succ_cons, List.cons_append]
          rw [show (Lib.index (c :: t) [42, 47]).toNat + 2 = ((Lib.index (c :: t) [42, 47]).toNat + 1) + 1 from rfl, List.take_succ_cons, List.cons_append] at ih ⊢
          rw [e, ih, if_neg hm]
theorem aside_local (l m : List UInt8) (h : 0 ≤ Lib.index (l.drop 2) [42, 47]) : aside (l.take ((Lib.index (l.drop 2) [42, 47]).toNat + 4) ++ m) = aside l := by
  have hr := index_room [42, 47] (l.drop 2) (by simp) h
  rw [List.length_drop] at hr
  simp at hr
  have hi := index_local m (l.drop 2) h
  generalize hk : (Lib.index (l.drop 2) [42, 47]).toNat = i at *
  have e1 : (l.take (i + 4) ++ m).drop 2 = (l.drop 2).take (i + 2) ++ m := by
    rw [List.drop_append_of_le_length (by rw [List.length_take]; omega), List.drop_take, show i + 4 - 2 = i + 2 from rfl]
  have e2 : ∀ j, j ≤ i + 4 → (l.take (i + 4) ++ m).take j = l.take j := fun j hj => by
    rw [List.take_append_of_le_length (by rw [List.length_take]; omega), List.take_take, Nat.min_eq_left hj]
  unfold aside
  rw [e1, hi, hk, e2 _ (by omega), e2 _ (by omega)]
end Go.Proofs.YtbfkgddhpabioaaDoor.Lex
/- The plain law of LexJoins: a remark with a blank behind it. -/
namespace Go.Proofs.YtbfkgddhpabioaaDoor.Lex
open Go.Proofs.YtbfkgddhpabioaaDoor.Utf
set_option linter.unusedVariables false
set_option linter.unusedSimpArgs false

theorem trim_mem (u : List UInt8) (c : UInt8) (h : c ∈ trimB u) : c ∈ u := by
  unfold trimB at h
  rw [List.mem_reverse] at h
  have := (List.dropWhile_suffix _).subset h
  rwa [List.mem_reverse] at this
theorem line_all (t : List UInt8) (h : ∀ c ∈ t, c ≠ 10) : line t = t := by
  have : t.findIdx? (· == 10) = none := by rw [List.findIdx?_eq_none_iff]; intro c hc; simpa using h c hc
  unfold line
  rw [this]
theorem remark_is (l : List UInt8) : remark l = comment 6 (trimB (line l)) := rfl
theorem trim_clean (l : List UInt8) : ∀ c ∈ trimB (line l) ++ [32], c ≠ 10 := by
  intro c hc
  rcases List.mem_append.1 hc with h | h
  · intro e; exact line_clean l c (trim_mem _ _ h) e
  · simp at h; subst h; decide
theorem remark_local (l m : List UInt8) : remark (trimB (line l) ++ 32 :: 10 :: m) = remark l := by
  rw [remark_is, remark_is, show trimB (line l) ++ 32 :: 10 :: m = (trimB (line l) ++ [32]) ++ 10 :: m by simp, line_to _ _ (trim_clean l), trim_local]
theorem remark_end (l : List UInt8) : remark (trimB (line l) ++ [32]) = remark l := by
  rw [remark_is, remark_is, line_all _ (trim_clean l), trim_local]
theorem dropWhile_last (p : UInt8 → Bool) (a : UInt8) (h : p a = false) : ∀ l : List UInt8, (l ++ [a]).dropWhile p = l.dropWhile p ++ [a]
  | [] => by simp [h]
  | c :: l => by
    by_cases hc : p c = true
    · simp [List.dropWhile_cons, hc, dropWhile_last p a h l]
    · simp [List.dropWhile_cons, hc]
theorem trim_cons (a : UInt8) (u : List UInt8) (h : [32, 9, 13].contains a = false) : trimB (a :: u) = a :: trimB u := by
  unfold trimB
  rw [List.reverse_cons, dropWhile_last _ a h, List.reverse_append]
  rfl
end Go.Proofs.YtbfkgddhpabioaaDoor.Lex
/- The plain law of LexJoins: any token with a blank behind it. -/
namespace Go.Proofs.YtbfkgddhpabioaaDoor.Lex
open Go.Proofs.YtbfkgddhpabioaaDoor.Utf
set_option linter.unusedVariables false
set_option linter.unusedSimpArgs false

theorem next_cons (c : UInt8) (x : List UInt8) : next (c :: x) = if letterB c.toNat then (1, ident (c :: x), 0, 0)
  else if digitB c.toNat then decimal (c :: x)
  else if c.toNat = 34 then (match Quote.scan (c :: x) with
    | .error e => (0, 0, 0, e)
    | .ok (_, n) => (3, n, 0, 0))
  else if c.toNat = 10 then (5, 1, 0, 0)
  else if c.toNat = 35 ∨ [47, 47].isPrefixOf (c :: x) then remark (c :: x)
  else if [47, 42].isPrefixOf (c :: x) then aside (c :: x)
  else if 0 < sign (c :: x) then (4, sign (c :: x), 0, 0)
  else (0, 0, 0, 3) := rfl
theorem jn_line (m : List UInt8) : next (10 :: m) = (5, 1, 0, 0) := rfl
theorem take_pos (c : UInt8) (t m : List UInt8) (n : Nat) (h : 1 ≤ n) : ∃ x, (c :: t).take n ++ m = c :: x := by
  obtain ⟨n, rfl⟩ : ∃ k, n = k + 1 := ⟨n - 1, by omega⟩
  exact ⟨_, rfl⟩
theorem jn_ident (c : UInt8) (t m : List UInt8) (h : letterB c.toNat = true) : next ((c :: t).take (next (c :: t)).2.1 ++ 32 :: m) = next (c :: t) := by
  have e : next (c :: t) = (1, ident (c :: t), 0, 0) := by rw [next_cons, if_pos h]
  rw [e]
  simp only
  obtain ⟨x, hx⟩ := take_pos c t (32 :: m) (ident (c :: t)) (by unfold ident; omega)
  have hl := ident_local c t m
  rw [hx] at hl ⊢
  rw [next_cons, if_pos h, hl]
theorem jn_decimal (c : UInt8) (t m : List UInt8) (h : letterB c.toNat = false) (hd : digitB c.toNat = true) (h0 : (next (c :: t)).2.2.2 = 0) (h1 : 1 ≤ (next (c :: t)).2.1) : next ((c :: t).take (next (c :: t)).2.1 ++ 32 :: m) = next (c :: t) := by
  have e : ∀ x, next (c :: x) = decimal (c :: x) := fun x => by rw [next_cons, if_neg (by rw [h]; decide), if_pos hd]
  rw [e] at h0 h1 ⊢
  have hs : (decimal (c :: t)).2.1 = Num.scan (c :: t) := by
    unfold decimal at h1 ⊢
    split
    · rename_i q hq; rw [hq] at h1; simp at h1
    · rfl
  rw [hs] at h1 ⊢
  have hl := decimal_local (c :: t) m (Num.scan_le _)
  obtain ⟨x, hx⟩ := take_pos c t (32 :: m) _ h1
  rw [hx] at hl ⊢
  rw [e, hl]
theorem jn_quote (c : UInt8) (t m : List UInt8) (h : c.toNat = 34) (h0 : (next (c :: t)).2.2.2 = 0) (h1 : 1 ≤ (next (c :: t)).2.1) : next ((c :: t).take (next (c :: t)).2.1 ++ 32 :: m) = next (c :: t) := by
  have e : ∀ x, next (c :: x) = (match Quote.scan (c :: x) with
    | .error e => (0, 0, 0, e)
    | .ok (_, n) => (3, n, 0, 0)) := fun x => by rw [next_cons, if_neg (by rw [h]; decide), if_neg (by rw [h]; decide), if_pos h]
  rw [e] at h0 h1 ⊢
  cases hq : Quote.scan (c :: t) with
  | error q => rw [hq] at h1; simp at h1
  | ok r =>
    obtain ⟨o, n⟩ := r
    rw [hq] at h1
    simp only at h1 ⊢
    have hl := quote_local (c :: t) (32 :: m) o n hq
    obtain ⟨x, hx⟩ := take_pos c t (32 :: m) n h1
    rw [hx] at hl ⊢
    rw [e, hl]
theorem pre_blank (c a : UInt8) (m : List UInt8) (ha : a ≠ 32) : ([47, a] : List UInt8).isPrefixOf (c :: 32 :: m) = false := by
  simp [List.isPrefixOf, ha]
theorem jn_sign (c : UInt8) (t m : List UInt8) (h : letterB c.toNat = false) (hd : digitB c.toNat = false) (hq : c.toNat ≠ 34) (hn : c.toNat ≠ 10)
    (hr : ¬ (c.toNat = 35 ∨ ([47, 47] : List UInt8).isPrefixOf (c :: t) = true)) (ha : ¬ ([47, 42] : List UInt8).isPrefixOf (c :: t) = true) (hs : 0 < sign (c :: t)) :
    next ((c :: t).take (next (c :: t)).2.1 ++ 32 :: m) = next (c :: t) := by
  have e : ∀ x, ¬ (c.toNat = 35 ∨ ([47, 47] : List UInt8).isPrefixOf (c :: x) = true) → ¬ ([47, 42] : List UInt8).isPrefixOf (c :: x) = true → 0 < sign (c :: x) → next (c :: x) = (4, sign (c :: x), 0, 0) := fun x h1 h2 h3 => by
    rw [next_cons, if_neg (by rw [h]; decide), if_neg (by rw [hd]; decide), if_neg hq, if_neg hn, if_neg h1, if_neg h2, if_pos h3]
  rw [e t hr ha hs]
  simp only
  have hl := sign_local (c :: t) m hs
  have hle : sign (c :: t) ≤ 2 := by unfold sign; (repeat' split) <;> omega
  have hpre : ∀ a : UInt8, a ≠ 32 → ¬ ([47, a] : List UInt8).isPrefixOf (c :: t) = true → ¬ ([47, a] : List UInt8).isPrefixOf ((c :: t).take (sign (c :: t)) ++ 32 :: m) = true := by
    intro a h32 hno
    rcases Nat.lt_or_ge 1 (sign (c :: t)) with h2 | h2
    · have h3 : sign (c :: t) = 2 := by omega
      rw [h3]
      cases t with
      | nil => rw [show ([c] : List UInt8).take 2 ++ 32 :: m = c :: 32 :: m from rfl, pre_blank c a m h32]; decide
      | cons d t =>
        rw [show (c :: d :: t).take 2 ++ 32 :: m = c :: d :: 32 :: m from rfl]
        simpa [List.isPrefixOf] using hno
    · have h3 : sign (c :: t) = 1 := by omega
      rw [h3, show (c :: t).take 1 ++ 32 :: m = c :: 32 :: m from rfl, pre_blank c a m h32]; decide
  have h47 := hpre 47 (by decide) (fun h => hr (.inr h))
  have h42 := hpre 42 (by decide) ha
  obtain ⟨x, hx⟩ := take_pos c t (32 :: m) _ hs
  rw [hx] at hl h47 h42 ⊢
  rw [e x (by rintro (h5 | h5); exact hr (.inl h5); exact h47 h5) h42 (by rw [hl]; exact hs), hl]
end Go.Proofs.YtbfkgddhpabioaaDoor.Lex
/- The plain law of LexJoins: remarks and asides with a blank behind them. -/
namespace Go.Proofs.YtbfkgddhpabioaaDoor.Lex
open Go.Proofs.YtbfkgddhpabioaaDoor.Utf
set_option linter.unusedVariables false
set_option linter.unusedSimpArgs false

theorem take_of_prefix {a b : List UInt8} (h : a <+: b) : b.take a.length = a := (List.prefix_iff_eq_take.1 h).symm
theorem trim_prefix (u : List UInt8) : trimB u <+: u := by
  unfold trimB
  obtain ⟨x, hx⟩ := List.dropWhile_suffix (l := u.reverse) ([32, 9, 13].contains ·)
  refine ⟨x.reverse, ?_⟩
  rw [← List.reverse_append, hx, List.reverse_reverse]
theorem line_prefix (l : List UInt8) : line l <+: l := by
  rw [line_take l]; exact List.take_prefix _ _
/-- The head of a remark is no letter, no number, no quote, no line's end. -/
def rhead (l : List UInt8) : Prop := ∃ c t, l = c :: t ∧ (c = 35 ∨ ∃ u, l = 47 :: 47 :: u)
theorem rhead_next (l : List UInt8) (h : rhead l) : next l = remark l := by
  obtain ⟨c, t, rfl, rfl | ⟨u, hu⟩⟩ := h
  · rw [next_cons, if_neg (by decide), if_neg (by decide), if_neg (by decide), if_neg (by decide), if_pos (.inl (by decide))]
  · injection hu with h1 h2
    subst h1 h2
    rw [next_cons, if_neg (by decide), if_neg (by decide), if_neg (by decide), if_neg (by decide), if_pos (.inr (by simp [List.isPrefixOf]))]
theorem rhead_trim (l x : List UInt8) (h : rhead l) : rhead (trimB (line l) ++ x) := by
  have lc : ∀ (c : UInt8) (t : List UInt8), c ≠ 10 → line (c :: t) = c :: line t := fun c t h => by rw [Lex.line_cons, if_neg h]
  obtain ⟨c, t, rfl, rfl | ⟨u, hu⟩⟩ := h
  · rw [lc 35 t (by decide), trim_cons 35 _ (by decide)]
    exact ⟨35, _, rfl, .inl rfl⟩
  · injection hu with h1 h2
    subst h1 h2
    rw [lc 47 _ (by decide), lc 47 _ (by decide), trim_cons 47 _ (by decide), trim_cons 47 _ (by decide)]
    exact ⟨47, _, rfl, .inr ⟨_, rfl⟩⟩
theorem jn_remark (l m : List UInt8) (h : rhead l) (h0 : (next l).2.2.2 = 0) :
    l.take (next l).2.1 = trimB (line l) ∧ next (trimB (line l) ++ 32 :: 10 :: m) = next l ∧ next (trimB (line l) ++ [32]) = next l := by
  have e := rhead_next l h
  refine ⟨?_, ?_, ?_⟩
  · rw [e, remark_trim] at h0 ⊢
    unfold comment at h0 ⊢
    split
    · rename_i hc; rw [if_pos hc] at h0; exact absurd h0 hc
    · exact take_of_prefix ((trim_prefix _).trans (line_prefix l))
  · rw [rhead_next _ (rhead_trim l _ h), remark_local, e]
  · rw [rhead_next _ (rhead_trim l _ h), remark_end, e]
theorem aside_size (l : List UInt8) (h0 : (aside l).2.2.2 = 0) : 0 ≤ Lib.index (l.drop 2) [42, 47] ∧ (aside l).2.1 = (Lib.index (l.drop 2) [42, 47]).toNat + 4 := by
  have hroom := index_room [42, 47] (l.drop 2) (by simp)
  unfold aside at h0 ⊢
  rw [List.length_drop] at hroom
  generalize Lib.index (l.drop 2) [42, 47] = q at *
  by_cases hq : q < 0
  · rw [if_pos hq] at h0; simp at h0
  · have hr := hroom (by omega)
    simp only [List.length_cons, List.length_nil] at hr
    refine ⟨by omega, ?_⟩
    rw [if_neg hq] at h0 ⊢
    split
    · rename_i h1; rw [if_pos h1] at h0; simp at h0
    · rename_i h1
      rw [if_neg h1] at h0
      unfold comment at h0 ⊢
      split
      · rename_i hc; rw [if_pos hc] at h0; exact absurd h0 hc
      · show (l.take (q.toNat + 4)).length = q.toNat + 4
        rw [List.length_take]; omega
theorem jn_aside (t m : List UInt8) (h0 : (next (47 :: 42 :: t)).2.2.2 = 0) : next ((47 :: 42 :: t).take (next (47 :: 42 :: t)).2.1 ++ m) = next (47 :: 42 :: t) := by
  have e : ∀ x, next (47 :: 42 :: x) = aside (47 :: 42 :: x) := fun x => by
    rw [next_cons, if_neg (by decide), if_neg (by decide), if_neg (by decide), if_neg (by decide), if_neg (by simp [List.isPrefixOf]), if_pos (by simp [List.isPrefixOf])]
  have et := e t
  obtain ⟨l, hl⟩ : ∃ l, (47 :: 42 :: t : List UInt8) = l := ⟨_, rfl⟩
  have hx : ∀ i : Nat, ∃ x, l.take (i + 4) ++ m = 47 :: 42 :: x := fun i => ⟨t.take (i + 2) ++ m, by rw [← hl]; rfl⟩
  rw [hl] at et h0 ⊢
  rw [et] at h0 ⊢
  obtain ⟨h1, h2⟩ := aside_size l h0
  have h3 := aside_local l m h1
  rw [h2]
  obtain ⟨x, hx⟩ := hx (Lib.index (l.drop 2) [42, 47]).toNat
  rw [hx] at h3 ⊢
  rw [e x, h3]
end Go.Proofs.YtbfkgddhpabioaaDoor.Lex
/- The plain law of LexJoins: the text that its tokens make, joined, has the same tokens. -/
namespace Go.Proofs.YtbfkgddhpabioaaDoor.Lex
open Go.Proofs.YtbfkgddhpabioaaDoor.Utf
set_option linter.unusedVariables false
set_option linter.unusedSimpArgs false

theorem jn_kinds (c : UInt8) (t : List UInt8) (h0 : (next (c :: t)).2.2.2 = 0) (h1 : 1 ≤ (next (c :: t)).2.1) :
    c = 10 ∨ rhead (c :: t) ∨ ((next (c :: t)).1 ≠ 5 ∧ (next (c :: t)).1 ≠ 6 ∧ ∀ m, next ((c :: t).take (next (c :: t)).2.1 ++ 32 :: m) = next (c :: t)) := by
  by_cases hl : letterB c.toNat = true
  · refine .inr (.inr ?_)
    have e : next (c :: t) = (1, ident (c :: t), 0, 0) := by rw [next_cons, if_pos hl]
    exact ⟨by rw [e]; simp, by rw [e]; simp, fun m => jn_ident c t m hl⟩
  have hl' : letterB c.toNat = false := by simpa using hl
  by_cases hd : digitB c.toNat = true
  · refine .inr (.inr ?_)
    have e : next (c :: t) = decimal (c :: t) := by rw [next_cons, if_neg hl, if_pos hd]
    have hk : (decimal (c :: t)).1 ≠ 5 ∧ (decimal (c :: t)).1 ≠ 6 := by unfold decimal; split <;> simp
    exact ⟨by rw [e]; exact hk.1, by rw [e]; exact hk.2, fun m => jn_decimal c t m hl' hd h0 h1⟩
  have hd' : digitB c.toNat = false := by simpa using hd
  by_cases hq : c.toNat = 34
  · refine .inr (.inr ?_)
    have hk : (next (c :: t)).1 ≠ 5 ∧ (next (c :: t)).1 ≠ 6 := by
      rw [next_cons, if_neg hl, if_neg hd, if_pos hq]; split <;> simp
    exact ⟨hk.1, hk.2, fun m => jn_quote c t m hq h0 h1⟩
  by_cases hn : c.toNat = 10
  · exact .inl (UInt8.toNat_inj.1 (by simpa using hn))
  by_cases hr : c.toNat = 35 ∨ ([47, 47] : List UInt8).isPrefixOf (c :: t) = true
  · refine .inr (.inl ?_)
    rcases hr with hr | hr
    · exact ⟨c, t, rfl, .inl (UInt8.toNat_inj.1 (by simpa using hr))⟩
    · cases t with
      | nil => simp [List.isPrefixOf] at hr
      | cons d u =>
        simp [List.isPrefixOf] at hr
        exact ⟨c, d :: u, rfl, .inr ⟨u, by rw [← hr.1, ← hr.2]⟩⟩
  by_cases ha : ([47, 42] : List UInt8).isPrefixOf (c :: t) = true
  · refine .inr (.inr ?_)
    cases t with
    | nil => simp [List.isPrefixOf] at ha
    | cons d u =>
      have ha' := ha
      simp [List.isPrefixOf] at ha'
      obtain ⟨rfl, rfl⟩ := ha'
      have hk : (next (47 :: 42 :: u)).1 ≠ 5 ∧ (next (47 :: 42 :: u)).1 ≠ 6 := by
        rw [next_cons, if_neg hl, if_neg hd, if_neg hq, if_neg hn, if_neg hr, if_pos ha]
        unfold aside
        split
        · simp
        · split
          · simp
          · unfold comment; split <;> simp
      exact ⟨hk.1, hk.2, fun m => jn_aside u (32 :: m) h0⟩
  by_cases hs : 0 < sign (c :: t)
  · refine .inr (.inr ?_)
    have hk : (next (c :: t)).1 ≠ 5 ∧ (next (c :: t)).1 ≠ 6 := by
      rw [next_cons, if_neg hl, if_neg hd, if_neg hq, if_neg hn, if_neg hr, if_neg ha, if_pos hs]; simp
    exact ⟨hk.1, hk.2, fun m => jn_sign c t m hl' hd' hq hn hr ha hs⟩
  · rw [next_cons, if_neg hl, if_neg hd, if_neg hq, if_neg hn, if_neg hr, if_neg ha, if_neg hs] at h0
    simp at h0
/-- A token's text with what is written behind it. -/
def jnEnd (x : Tok) : List UInt8 := x.2.1 ++ (if x.1 = 5 then [] else [32])
def joined (L : List Tok) : List UInt8 := L.flatMap jnEnd
def ktn (x : Tok) : Nat × List UInt8 := (x.1, x.2.1)
theorem rhead_kind (l : List UInt8) (h : rhead l) (h0 : (next l).2.2.2 = 0) : (next l).1 = 6 := by
  rw [rhead_next l h] at h0 ⊢
  rw [remark_is] at h0 ⊢
  unfold comment at h0 ⊢
  split
  · rename_i hc; rw [if_pos hc] at h0; exact absurd h0 hc
  · rfl
theorem jn_key (c : UInt8) (t J : List UInt8) (h0 : (next (c :: t)).2.2.2 = 0) (h1 : 1 ≤ (next (c :: t)).2.1) (hJ : rhead (c :: t) → J = [] ∨ ∃ m, J = 10 :: m) :
    next ((c :: t).take (next (c :: t)).2.1 ++ (if (next (c :: t)).1 = 5 then [] else [32]) ++ J) = next (c :: t) := by
  rcases jn_kinds c t h0 h1 with rfl | hr | ⟨k5, _, hm⟩
  · rw [jn_line, if_pos rfl]; rfl
  · have hk := rhead_kind _ hr h0
    obtain ⟨e1, e2, e3⟩ := jn_remark (c :: t) (J.drop 1) hr h0
    rw [hk, if_neg (by decide), e1]
    rcases hJ hr with rfl | ⟨m, rfl⟩
    · rw [List.append_nil]; exact e3
    · rw [List.append_assoc, List.singleton_append]; exact e2
  · rw [if_neg k5, List.append_assoc, List.singleton_append]; exact hm J
theorem toks_cons (n : Nat) (c : UInt8) (t : List UInt8) (p : Nat) : toks (n + 1) (c :: t) p = if blank c then toks n t (p + 1)
      else if (next (c :: t)).2.2.2 ≠ 0 then ([], p + (next (c :: t)).2.2.1, (next (c :: t)).2.2.2)
      else (((next (c :: t)).1, (c :: t).take (next (c :: t)).2.1, p) :: (toks n ((c :: t).drop (next (c :: t)).2.1) (p + (next (c :: t)).2.1)).1, (toks n ((c :: t).drop (next (c :: t)).2.1) (p + (next (c :: t)).2.1)).2) := rfl
/-- Behind blanks there is a line's end, or nothing. -/
theorem toks_line (rest : List UInt8) (hr : rest = [] ∨ ∃ r, rest = 10 :: r) : ∀ (bl : List UInt8), (∀ c ∈ bl, blank c = true) → ∀ n p, (toks n (bl ++ rest) p).1 = [] ∨ ∃ q xs, (toks n (bl ++ rest) p).1 = (5, [10], q) :: xs
  | _, _, 0, _ => .inl rfl
  | [], _, n + 1, p => by
    rcases hr with rfl | ⟨r, rfl⟩
    · exact .inl rfl
    · right
      rw [List.nil_append]
      unfold toks
      simp only
      rw [if_neg (by decide), jn_line, if_neg (by decide)]
      exact ⟨_, _, rfl⟩
  | b :: bl, hb, n + 1, p => by
    rw [List.cons_append]
    unfold toks
    simp only
    rw [if_pos (hb b (by simp))]
    exact toks_line rest hr bl (fun c hc => hb c (by simp [hc])) n (p + 1)
theorem line_rest (l : List UInt8) : ∃ rest, l = line l ++ rest ∧ (rest = [] ∨ ∃ r, rest = 10 :: r) := by
  unfold line
  cases h : l.findIdx? (· == 10) with
  | none => exact ⟨[], by simp, .inl rfl⟩
  | some i =>
    refine ⟨l.drop i, by simp, .inr ?_⟩
    obtain ⟨hi, hx, _⟩ := List.findIdx?_eq_some_iff_getElem.1 h
    rw [List.drop_eq_getElem_cons hi]
    exact ⟨_, by rw [beq_iff_eq] at hx; rw [hx]⟩
theorem trim_rest (u : List UInt8) : ∃ bl, u = trimB u ++ bl ∧ ∀ c ∈ bl, blank c = true := by
  refine ⟨(u.reverse.takeWhile ([32, 9, 13].contains ·)).reverse, ?_, ?_⟩
  · unfold trimB
    rw [← List.reverse_append, List.takeWhile_append_dropWhile, List.reverse_reverse]
  · intro c hc
    rw [List.mem_reverse] at hc
    have := List.all_eq_true.1 (List.all_takeWhile (p := ([32, 9, 13].contains ·)) (l := u.reverse)) c hc
    simp at this
    rcases this with rfl | rfl | rfl <;> decide
theorem jn_behind (l : List UInt8) (h : rhead l) (h0 : (next l).2.2.2 = 0) (n p : Nat) :
    (toks n (l.drop (next l).2.1) p).1 = [] ∨ ∃ q xs, (toks n (l.drop (next l).2.1) p).1 = (5, [10], q) :: xs := by
  obtain ⟨e1, _, _⟩ := jn_remark l [] h h0
  obtain ⟨rest, hl, hr⟩ := line_rest l
  obtain ⟨bl, hb, hbb⟩ := trim_rest (line l)
  have hd : l.drop (next l).2.1 = bl ++ rest := by
    have h2 : l.take (next l).2.1 ++ l.drop (next l).2.1 = trimB (line l) ++ (bl ++ rest) := by
      rw [List.take_append_drop, ← List.append_assoc, ← hb]; exact hl
    rw [e1] at h2
    exact List.append_cancel_left h2
  rw [hd]
  exact toks_line rest hr bl hbb n p
theorem joined_cons (x : Tok) (L : List Tok) : joined (x :: L) = jnEnd x ++ joined L := rfl
theorem join_toks : ∀ (n : Nat) (l : List UInt8) (p : Nat), l.length < n → (toks n l p).2.2 = 0 →
    (joined (toks n l p).1).length ≤ 2 * l.length ∧ ∀ f k, (joined (toks n l p).1).length < f → (toks f (joined (toks n l p).1) k).2.2 = 0 ∧ (toks f (joined (toks n l p).1) k).1.map ktn = (toks n l p).1.map ktn
  | 0, _, _, h, _ => by omega
  | n + 1, [], p, _, _ => by
    refine ⟨Nat.zero_le _, fun f k hf => ?_⟩
    cases f with
    | zero => omega
    | succ f => exact ⟨rfl, rfl⟩
  | n + 1, c :: t, p, hn, he => by
    rw [toks_cons n c t p] at he ⊢
    by_cases hb : blank c = true
    · rw [if_pos hb] at he ⊢
      have ih := join_toks n t (p + 1) (by simpa using hn) he
      exact ⟨by have := ih.1; simp only [List.length_cons]; omega, ih.2⟩
    · rw [if_neg hb] at he ⊢
      by_cases h0 : (next (c :: t)).2.2.2 = 0
      · rw [if_neg (by simpa using h0)] at he ⊢
        have hf := (next_fits (c :: t) (by simp)).size h0
        have hbeh := fun hr => jn_behind (c :: t) hr h0 n (p + (next (c :: t)).2.1)
        have hkey := fun J => jn_key c t J h0 hf.1
        have ih := join_toks n ((c :: t).drop (next (c :: t)).2.1) (p + (next (c :: t)).2.1) (by rw [List.length_drop]; omega) he
        have hlt : ((c :: t).take (next (c :: t)).2.1).length = (next (c :: t)).2.1 := by rw [List.length_take]; omega
        obtain ⟨x, hx⟩ : ∃ x, (c :: t).take (next (c :: t)).2.1 = c :: x := by
          obtain ⟨x, hx⟩ := take_pos c t [] _ hf.1
          exact ⟨x, by simpa using hx⟩
        rw [List.length_drop] at ih
        generalize (toks n ((c :: t).drop (next (c :: t)).2.1) (p + (next (c :: t)).2.1)).1 = L at *
        generalize hnx : next (c :: t) = nx at *
        generalize (c :: t).length = ll at *
        obtain ⟨ih1, ih2⟩ := ih
        simp only at ih1 ih2 ⊢
        have hJ : rhead (c :: t) → joined L = [] ∨ ∃ m, joined L = 10 :: m := by
          intro hr
          rcases hbeh hr with rfl | ⟨q, xs, rfl⟩
          · exact .inl rfl
          · exact .inr ⟨joined xs, rfl⟩
        have hk := hkey (joined L) hJ
        rw [joined_cons]
        have hje : jnEnd (nx.1, (c :: t).take nx.2.1, p) = (c :: t).take nx.2.1 ++ (if nx.1 = 5 then [] else [32]) := rfl
        rw [hje]
        refine ⟨?_, ?_⟩
        · rw [List.length_append, List.length_append, hlt]
          split <;> simp <;> omega
        · intro f k hfl
          cases f with
          | zero => omega
          | succ f =>
            rw [List.length_append, List.length_append, hlt] at hfl
            have hdr : ((c :: t).take nx.2.1 ++ (if nx.1 = 5 then [] else [32]) ++ joined L).drop nx.2.1 = (if nx.1 = 5 then [] else [32]) ++ joined L := by
              rw [List.append_assoc, List.drop_append_of_le_length (by omega), List.drop_of_length_le (by omega), List.nil_append]
            have htk : ((c :: t).take nx.2.1 ++ (if nx.1 = 5 then [] else [32]) ++ joined L).take nx.2.1 = (c :: t).take nx.2.1 := by
              rw [List.append_assoc, List.take_append_of_le_length (by omega), List.take_of_length_le (by omega)]
            have hrest : ∀ k, (toks f ((if nx.1 = 5 then [] else [32]) ++ joined L) k).2.2 = 0 ∧ (toks f ((if nx.1 = 5 then [] else [32]) ++ joined L) k).1.map ktn = L.map ktn := by
              intro k
              by_cases h5 : nx.1 = 5
              · rw [if_pos h5] at hfl ⊢
                exact ih2 f k (by simp at hfl; omega)
              · rw [if_neg h5] at hfl ⊢
                cases f with
                | zero => simp at hfl
                | succ f =>
                  have := ih2 f (k + 1) (by simp at hfl; omega)
                  rw [List.singleton_append, toks_cons, if_pos (by decide)]
                  exact this
            generalize hY : (c :: t).take nx.2.1 ++ (if nx.1 = 5 then [] else [32]) ++ joined L = Y at *
            obtain ⟨y, hy⟩ : ∃ y, Y = c :: y := ⟨_, by rw [← hY, hx]; rfl⟩
            rw [hy] at hk hdr htk ⊢
            rw [toks_cons, if_neg hb, hk, if_neg (by simpa using h0)]
            simp only
            rw [hdr, htk]
            obtain ⟨r1, r2⟩ := hrest (k + nx.2.1)
            exact ⟨r1, by simp only [List.map_cons, r2, ktn]⟩
      · rw [if_pos (by simpa using h0)] at he
        exact absurd he h0
theorem joins (l : List UInt8) (he : (toksAt l 0).2.2 = 0) :
    (joined (toksAt l 0).1).length ≤ 2 * l.length ∧ (toksAt (joined (toksAt l 0).1) 0).2.2 = 0 ∧ (toksAt (joined (toksAt l 0).1) 0).1.map ktn = (toksAt l 0).1.map ktn := by
  unfold toksAt at he ⊢
  rw [List.drop_zero, Nat.sub_zero] at he ⊢
  obtain ⟨h1, h2⟩ := join_toks (l.length + 1) l 0 (Nat.lt_succ_self _) he
  rw [List.drop_zero, Nat.sub_zero]
  exact ⟨h1, h2 _ 0 (Nat.lt_succ_self _)⟩
end Go.Proofs.YtbfkgddhpabioaaDoor.Lex
