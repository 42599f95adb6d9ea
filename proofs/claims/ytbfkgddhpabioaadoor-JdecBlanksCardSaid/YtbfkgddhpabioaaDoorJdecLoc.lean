/- A quoted text is read locally (as in JoinA, for jdec). -/
import Derived.Test.YtbfkgddhpabioaaDoorJdecU
/- a quoted text is read locally. -/
namespace Go.Proofs.YtbfkgddhpabioaaDoor.QLoc
open Go.Proofs.YtbfkgddhpabioaaDoor.Utf Go.Proofs.YtbfkgddhpabioaaDoor.Quote
set_option linter.unusedVariables false
set_option linter.unusedSimpArgs false

theorem byt_local (l m : List UInt8) (k i : Nat) (hi : i < k) (hk : k ≤ l.length) : byt (l.take k ++ m) i = byt l i := by
  unfold byt
  rw [List.getD_eq_getElem?_getD, List.getD_eq_getElem?_getD, List.getElem?_append_left (by rw [List.length_take]; omega), List.getElem?_take_of_lt hi]
theorem four_local (m : List UInt8) : ∀ (k n : Nat) (l : List UInt8) (r : Nat), four k n l = .ok r → k ≤ l.length ∧ ∀ j, k ≤ j → four k n (l.take j ++ m) = .ok r
  | 0, n, l, r, h => by
    refine ⟨Nat.zero_le _, fun j _ => ?_⟩
    simpa [four] using h
  | k + 1, n, [], r, h => by simp [four] at h
  | k + 1, n, c :: l, r, h => by
    unfold four at h
    cases hx : hexv c.toNat with
    | none => rw [hx] at h; simp at h
    | some d =>
      rw [hx] at h
      have ih := four_local m k (n * 16 + d) l r h
      refine ⟨by simpa using ih.1, fun j hj => ?_⟩
      obtain ⟨j, rfl⟩ : ∃ i, j = i + 1 := ⟨j - 1, by omega⟩
      rw [List.take_succ_cons, List.cons_append, four, hx]
      exact ih.2 j (by omega)
theorem number_local (l m o : List UInt8) (n : Nat) (h : number l = .ok (o, n)) : n ≤ l.length ∧ number (l.take n ++ m) = .ok (o, n) := by
  unfold number at h
  cases h4 : four 4 0 l with
  | error e => rw [h4] at h; simp at h
  | ok c =>
    rw [h4] at h
    have hf := four_local m 4 0 l c h4
    simp only at h
    split at h
    · simp at h
    · rename_i hA
      split at h
      · rename_i hB
        split at h
        · simp at h
        · rename_i c1
          split at h
          · simp at h
          · rename_i c2
            split at h
            · simp at h
            · rename_i c3
              split at h
              · simp at h
              · rename_i c4
                cases h5 : four 4 0 (l.drop 6) with
                | error e => rw [h5] at h; simp at h
                | ok d =>
                  rw [h5] at h
                  simp only at h
                  split at h
                  · simp at h
                  · rename_i c5
                    have hg := four_local m 4 0 (l.drop 6) d h5
                    rw [List.length_drop] at hg
                    injection h with h
                    injection h with h6 h7
                    subst h6 h7
                    refine ⟨by omega, ?_⟩
                    have hl : (l.take 10 ++ m).length = 10 + m.length := by rw [List.length_append, List.length_take]; omega
                    unfold number
                    rw [hf.2 10 (by omega)]
                    simp only
                    rw [if_neg hA, if_pos hB, if_neg (by omega), byt_local l m 10 4 (by omega) (by omega), if_neg c2, if_neg (by omega), byt_local l m 10 5 (by omega) (by omega), if_neg c4]
                    have e6 : (l.take 10 ++ m).drop 6 = (l.drop 6).take 4 ++ m := by
                      rw [List.drop_append_of_le_length (by rw [List.length_take]; omega), List.drop_take]
                    rw [e6, hg.2 4 (Nat.le_refl _)]
                    simp only
                    rw [if_neg c5]
      · rename_i hB
        injection h with h
        injection h with h6 h7
        subst h6 h7
        refine ⟨hf.1, ?_⟩
        unfold number
        rw [hf.2 4 (Nat.le_refl _)]
        simp only
        rw [if_neg hA, if_neg hB]
end Go.Proofs.YtbfkgddhpabioaaDoor.QLoc
/- a quoted text is read locally: escapes, parts, the whole. -/
namespace Go.Proofs.YtbfkgddhpabioaaDoor.QLoc
open Go.Proofs.YtbfkgddhpabioaaDoor.Utf Go.Proofs.YtbfkgddhpabioaaDoor.Quote
set_option linter.unusedVariables false
set_option linter.unusedSimpArgs false

theorem escape_cons (c : UInt8) (x : List UInt8) : escape (c :: x) = if c.toNat = 34 ∨ c.toNat = 92 ∨ c.toNat = 47 then .ok ([UInt8.ofNat c.toNat], 1) else if c.toNat = 98 then .ok ([8], 1) else if c.toNat = 102 then .ok ([12], 1) else if c.toNat = 110 then .ok ([10], 1) else if c.toNat = 114 then .ok ([13], 1) else if c.toNat = 116 then .ok ([9], 1) else if c.toNat = 117 then (match number x with
    | .error e => .error e
    | .ok (o, n) => .ok (o, n + 1)) else .error 3 := by
  unfold escape
  rw [if_neg (by simp)]
  rfl
theorem escape_local (l m o : List UInt8) (n : Nat) (h : escape l = .ok (o, n)) : n ≤ l.length ∧ escape (l.take n ++ m) = .ok (o, n) := by
  cases l with
  | nil => simp [escape] at h
  | cons c t =>
    by_cases hu : c.toNat = 117
    · have e : ∀ x, escape (c :: x) = (match number x with
          | .error e => .error e
          | .ok (o, n) => .ok (o, n + 1)) := by
        intro x
        rw [escape_cons, if_neg (by omega), if_neg (by omega), if_neg (by omega), if_neg (by omega), if_neg (by omega), if_neg (by omega), if_pos hu]
      rw [e] at h
      cases hn : number t with
      | error e => rw [hn] at h; simp at h
      | ok r =>
        obtain ⟨o', n'⟩ := r
        rw [hn] at h
        simp only at h
        injection h with h
        injection h with h6 h7
        subst h6 h7
        have := number_local t m o' n' hn
        refine ⟨by simpa using this.1, ?_⟩
        rw [List.take_succ_cons, List.cons_append, e, this.2]
    · have hh : ∀ x, escape (c :: x) = escape (c :: t) := by
        intro x
        rw [escape_cons, escape_cons]
        simp only [hu, if_false]
      have hn : n = 1 := by
        rw [escape_cons] at h
        simp only [hu, if_false] at h
        repeat' split at h
        all_goals first
          | (injection h with h; injection h with _ h; exact h.symm)
          | (simp at h)
      subst hn
      refine ⟨by simp, ?_⟩
      rw [List.take_succ_cons, List.cons_append, hh]
      exact h
theorem one_local (l m : List UInt8) (h : (one l).2 ≠ 0) : one (l.take (one l).2 ++ m) = one l := by
  have hle := one_size_le l
  unfold one at h hle ⊢
  by_cases hs : stands l (sizeAt (byt l 0)) = true
  · rw [if_pos hs] at h hle ⊢
    simp only at h hle ⊢
    have b := fun i hi => byt_local l m (sizeAt (byt l 0)) i hi hle.1
    have b0 := b 0 (by omega)
    have hl : sizeAt (byt l 0) ≤ (l.take (sizeAt (byt l 0)) ++ m).length := by rw [List.length_append, List.length_take]; omega
    rw [b0]
    generalize hk : sizeAt (byt l 0) = k at *
    have hc : conts (l.take k ++ m) k = conts l k := by
      unfold conts
      split
      · rfl
      · split
        · rw [b 1 (by omega)]
        · split
          · rw [b 1 (by omega), b 2 (by omega)]
          · rw [b 1 (by omega), b 2 (by omega), b 3 (by omega)]
    have hv : Utf.val (l.take k ++ m) k = Utf.val l k := by
      unfold Utf.val
      split
      · rw [b0]
      · split
        · rw [b0, b 1 (by omega)]
        · split
          · rw [b0, b 1 (by omega), b 2 (by omega)]
          · rw [b0, b 1 (by omega), b 2 (by omega), b 3 (by omega)]
    have hst : stands (l.take k ++ m) k = true := by
      unfold stands at hs ⊢
      rw [hc, hv, b0, hk]
      rw [hk] at hs
      simp only [Bool.and_eq_true, decide_eq_true_eq] at hs ⊢
      exact ⟨⟨⟨⟨⟨hs.1.1.1.1.1, hl⟩, hs.1.1.1.2⟩, hs.1.1.2⟩, hs.1.2⟩, hs.2⟩
    rw [if_pos hst, hv]
  · rw [if_neg hs] at h
    simp at h
end Go.Proofs.YtbfkgddhpabioaaDoor.QLoc
/- a quoted text is read locally: parts, the whole. -/
namespace Go.Proofs.YtbfkgddhpabioaaDoor.QLoc
open Go.Proofs.YtbfkgddhpabioaaDoor.Utf Go.Proofs.YtbfkgddhpabioaaDoor.Quote
set_option linter.unusedVariables false
set_option linter.unusedSimpArgs false

theorem part_cons (c : UInt8) (x : List UInt8) : Quote.part (c :: x) = if c.toNat = 34 then .ok ([], 1, false) else if c.toNat = 92 then (match escape x with
    | .error e => .error e
    | .ok (o, n) => .ok (o, n + 1, true)) else if c.toNat < 32 then .error 3 else if c.toNat < 128 then .ok ([UInt8.ofNat c.toNat], 1, true) else if (one (c :: x)).2 = 0 then .error 7 else .ok (put (one (c :: x)).1, (put (one (c :: x)).1).length, true) := by
  unfold Quote.part
  rw [if_neg (by simp)]
  rfl
theorem part_local (l m o : List UInt8) (k : Nat) (b : Bool) (h : Quote.part l = .ok (o, k, b)) : 1 ≤ k ∧ k ≤ l.length ∧ Quote.part (l.take k ++ m) = .ok (o, k, b) := by
  cases l with
  | nil => simp [Quote.part] at h
  | cons c t =>
    rw [part_cons] at h
    by_cases h1 : c.toNat = 34
    · rw [if_pos h1] at h
      injection h with h; injection h with h6 h7; injection h7 with h7 h8
      subst h6 h7 h8
      refine ⟨by omega, by simp, ?_⟩
      rw [List.take_succ_cons, List.cons_append, part_cons, if_pos h1]
    · rw [if_neg h1] at h
      by_cases h2 : c.toNat = 92
      · rw [if_pos h2] at h
        cases hn : escape t with
        | error e => rw [hn] at h; simp at h
        | ok r =>
          obtain ⟨o', n'⟩ := r
          rw [hn] at h
          simp only at h
          injection h with h; injection h with h6 h7; injection h7 with h7 h8
          subst h6 h7 h8
          have := escape_local t m o' n' hn
          refine ⟨by omega, by simpa using this.1, ?_⟩
          rw [List.take_succ_cons, List.cons_append, part_cons, if_neg h1, if_pos h2, this.2]
      · rw [if_neg h2] at h
        by_cases h3 : c.toNat < 32
        · rw [if_pos h3] at h; simp at h
        · rw [if_neg h3] at h
          by_cases h4 : c.toNat < 128
          · rw [if_pos h4] at h
            injection h with h; injection h with h6 h7; injection h7 with h7 h8
            subst h6 h7 h8
            refine ⟨by omega, by simp, ?_⟩
            rw [List.take_succ_cons, List.cons_append, part_cons, if_neg h1, if_neg h2, if_neg h3, if_pos h4]
          · rw [if_neg h4] at h
            by_cases h5 : (one (c :: t)).2 = 0
            · rw [if_pos h5] at h; simp at h
            · rw [if_neg h5] at h
              injection h with h; injection h with h6 h7; injection h7 with h7 h8
              have hp := (one_put (c :: t) h5).1
              have hz := (one_size_le (c :: t)).1
              have hloc := one_local (c :: t) m h5
              rw [hp] at h7
              subst h7 h8
              refine ⟨by omega, hz, ?_⟩
              obtain ⟨j, hj⟩ : ∃ j, (one (c :: t)).2 = j + 1 := ⟨(one (c :: t)).2 - 1, by omega⟩
              have e2 : (c :: t).take (one (c :: t)).2 ++ m = c :: (t.take j ++ m) := by rw [hj]; rfl
              rw [e2] at hloc ⊢
              rw [part_cons, if_neg h1, if_neg h2, if_neg h3, if_neg h4, hloc, if_neg h5, hp, h6]
theorem parts_local (m : List UInt8) : ∀ (n : Nat) (l : List UInt8) (p : Nat) (out o : List UInt8) (q : Nat), Quote.parts n l p out = .ok (o, q) →
    p < q ∧ q - p ≤ l.length ∧ ∀ n', q - p ≤ n' → Quote.parts n' (l.take (q - p) ++ m) p out = .ok (o, q)
  | 0, l, p, out, o, q, h => by simp [Quote.parts] at h
  | n + 1, l, p, out, o, q, h => by
    unfold Quote.parts at h
    cases hx : Quote.part l with
    | error e => rw [hx] at h; simp at h
    | ok r =>
      obtain ⟨o', k, b⟩ := r
      rw [hx] at h
      cases b
      · simp only at h
        injection h with h; injection h with h6 h7
        subst h6 h7
        have hl := part_local l m o' k false hx
        refine ⟨by omega, by omega, fun n' hn' => ?_⟩
        obtain ⟨n', rfl⟩ : ∃ i, n' = i + 1 := ⟨n' - 1, by omega⟩
        rw [show p + k - p = k by omega, Quote.parts, hl.2.2]
      · simp only at h
        have hl := part_local l (((l.drop k).take (q - (p + k))) ++ m) o' k true hx
        have ih := parts_local m n (l.drop k) (p + k) (out ++ o') o q h
        rw [List.length_drop] at ih
        refine ⟨by omega, by omega, fun n' hn' => ?_⟩
        obtain ⟨n', rfl⟩ : ∃ i, n' = i + 1 := ⟨n' - 1, by omega⟩
        have e1 : l.take (q - p) ++ m = l.take k ++ ((l.drop k).take (q - (p + k)) ++ m) := by
          rw [← List.append_assoc, ← List.take_add, show k + (q - (p + k)) = q - p by omega]
        rw [e1, Quote.parts, hl.2.2]
        simp only
        have e2 : (l.take k ++ ((l.drop k).take (q - (p + k)) ++ m)).drop k = (l.drop k).take (q - (p + k)) ++ m :=
          List.drop_left' (by rw [List.length_take]; omega)
        rw [e2]
        exact ih.2.2 n' (by omega)
theorem quote_local (l m o : List UInt8) (n : Nat) (h : Quote.scan l = .ok (o, n)) : Quote.scan (l.take n ++ m) = .ok (o, n) := by
  cases l with
  | nil => simp [Quote.scan] at h
  | cons c t =>
    have e : ∀ x, Quote.scan (c :: x) = if c.toNat ≠ 34 then .error 3 else Quote.parts (x.length + 2) x 1 [] := by
      intro x; unfold Quote.scan; rw [if_neg (by simp)]; rfl
    rw [e] at h
    by_cases h1 : c.toNat ≠ 34
    · rw [if_pos h1] at h; simp at h
    · rw [if_neg h1] at h
      have hp := parts_local m _ _ _ _ _ _ h
      obtain ⟨j, rfl⟩ : ∃ j, n = j + 1 := ⟨n - 1, by omega⟩
      rw [List.take_succ_cons, List.cons_append, e, if_neg h1]
      have := hp.2.2 ((t.take j ++ m).length + 2) (by rw [List.length_append, List.length_take]; omega)
      simpa using this
end Go.Proofs.YtbfkgddhpabioaaDoor.QLoc
