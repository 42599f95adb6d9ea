/- The plain law of JdecBlanks: what stands ahead of a text moves the place. -/
import Derived.Test.YtbfkgddhpabioaaGreatDoorJdecU
namespace Go.Proofs.YtbfkgddhpabioaaGreatDoor.Jdec
set_option linter.unusedVariables false
set_option linter.unusedSimpArgs false

/-- All places so much further. -/
def sh {α : Type} (n : Nat) : Except Er (α × Nat) → Except Er (α × Nat)
  | .ok (v, q) => .ok (v, n + q)
  | .error (b, e) => .error (n + b, e)
section
variable (A l : List UInt8)
theorem sh_get (p : Nat) : (A ++ l)[A.length + p]? = l[p]? := by
  rw [List.getElem?_append_right (by omega)]; congr 1; omega
theorem sh_drop (p : Nat) : (A ++ l).drop (A.length + p) = l.drop p := by
  rw [List.drop_append, List.drop_of_length_le (by omega), List.nil_append]; congr 1; omega
theorem sh_skip (p : Nat) : skip (A ++ l) (A.length + p) = A.length + skip l p := by
  unfold skip; rw [sh_drop]; omega
theorem sh_here (p : Nat) : here (A ++ l) (A.length + p) = (A.length + (here l p).1, (here l p).2) := by
  unfold here
  rw [List.length_append]
  by_cases h : l.length ≤ p
  · rw [if_pos h, if_pos (by omega)]
  · rw [if_neg h, if_neg (by omega)]
theorem sh_word : ∀ (w : List UInt8) (p : Nat), word (A ++ l) w (A.length + p) = (match word l w p with | .ok q => .ok (A.length + q) | .error (b, e) => .error (A.length + b, e))
  | [], p => rfl
  | c :: w, p => by
    rw [word, word, sh_get]
    by_cases h : l[p]? = some c
    · rw [if_pos h, if_pos h]
      have := sh_word w (p + 1)
      rw [← Nat.add_assoc] at this
      exact this
    · rw [if_neg h, if_neg h, sh_here]
theorem sh_wordV (w : List UInt8) (v : JV) (p : Nat) : wordV (A ++ l) w v (A.length + p) = sh A.length (wordV l w v p) := by
  rw [wordV, wordV, sh_word]
  cases word l w p with
  | ok q => rfl
  | error x => rfl
theorem sh_number (p : Nat) : number (A ++ l) (A.length + p) = sh A.length (number l p) := by
  unfold number
  rw [sh_drop]
  by_cases h : Num.scan (l.drop p) = 0
  · rw [if_pos h, if_pos h]
    have : (A.length + p + 1 = (A ++ l).length) ↔ (p + 1 = l.length) := by rw [List.length_append]; omega
    simp only [sh, this]
  · rw [if_neg h, if_neg h]
    cases Num.parse ((l.drop p).take (Num.scan (l.drop p))) with
    | error e => rfl
    | ok r =>
      obtain ⟨n, d, x⟩ := r
      simp only [sh, Nat.add_assoc]
theorem sh_quoted (p : Nat) : quoted (A ++ l) (A.length + p) = sh A.length (quoted l p) := by
  unfold quoted
  rw [sh_drop]
  cases Quote.scan (l.drop p) with
  | error e => rfl
  | ok r =>
    obtain ⟨s, n⟩ := r
    simp only [sh, Nat.add_assoc]
theorem sh_text (p : Nat) : text (A ++ l) (A.length + p) = sh A.length (text l p) := by
  unfold text
  rw [sh_quoted]
  cases quoted l p with
  | error e => rfl
  | ok r => rfl
theorem sh_ends (c : UInt8) (p : Nat) : ends (A ++ l) c (A.length + p) = sh A.length (ends l c p) := by
  unfold ends
  rw [sh_skip, sh_get]
  by_cases h : l[skip l p]? = some c
  · rw [if_pos h, if_pos h]; simp only [sh, Nat.add_assoc]
  · rw [if_neg h, if_neg h]
    by_cases h2 : l[skip l p]? = some 44
    · rw [if_pos h2, if_pos h2, Nat.add_assoc, sh_skip]; rfl
    · rw [if_neg h2, if_neg h2, sh_here]; rfl
theorem sh_key (ks : List ByteArray) (p : Nat) : key (A ++ l) ks (A.length + p) = sh A.length (key l ks p) := by
  unfold key
  rw [sh_get, sh_quoted]
  by_cases h : l[p]? = some 34
  · rw [if_pos h, if_pos h]
    cases quoted l p with
    | error e => rfl
    | ok r =>
      obtain ⟨k, q⟩ := r
      simp only [sh]
      split <;> rfl
  · rw [if_neg h, if_neg h, sh_here]; rfl
theorem sh_colon (p : Nat) : colon (A ++ l) (A.length + p) = (match colon l p with | .ok q => .ok (A.length + q) | .error (b, e) => .error (A.length + b, e)) := by
  unfold colon
  rw [sh_skip, sh_get]
  by_cases h : l[skip l p]? = some 58
  · rw [if_pos h, if_pos h, Nat.add_assoc, sh_skip]
  · rw [if_neg h, if_neg h, sh_here]
theorem sh_items (val val' : Val) (hv : ∀ p, val' (A.length + p) = sh A.length (val p)) : ∀ (n p : Nat) (acc : List JV), items (A ++ l) val' n (A.length + p) acc = sh A.length (items l val n p acc)
  | 0, p, acc => rfl
  | n + 1, p, acc => by
    rw [items, items, hv]
    cases val p with
    | error x => rfl
    | ok r =>
      obtain ⟨v, q⟩ := r
      simp only [sh]
      rw [sh_ends]
      cases ends l 93 q with
      | error x => rfl
      | ok r =>
        obtain ⟨b, r⟩ := r
        cases b
        · exact sh_items val val' hv n r (acc ++ [v])
        · rfl
def sh3 (n : Nat) : Except Er (List ByteArray × List JV × Nat) → Except Er (List ByteArray × List JV × Nat)
  | .ok (ks, vs, q) => .ok (ks, vs, n + q)
  | .error (b, e) => .error (n + b, e)
theorem sh_members (val val' : Val) (hv : ∀ p, val' (A.length + p) = sh A.length (val p)) : ∀ (n p : Nat) (ks : List ByteArray) (vs : List JV), members (A ++ l) val' n (A.length + p) ks vs = sh3 A.length (members l val n p ks vs)
  | 0, p, ks, vs => rfl
  | n + 1, p, ks, vs => by
    rw [members, members, sh_key]
    cases key l ks p with
    | error x => rfl
    | ok r =>
      obtain ⟨k, q⟩ := r
      simp only [sh]
      rw [sh_colon]
      cases colon l q with
      | error x => rfl
      | ok r =>
        simp only
        rw [hv]
        cases val r with
        | error x => rfl
        | ok z =>
          obtain ⟨v, t⟩ := z
          simp only [sh]
          rw [sh_ends]
          cases ends l 125 t with
          | error x => rfl
          | ok z =>
            obtain ⟨b, u⟩ := z
            cases b
            · exact sh_members val val' hv n u (ks ++ [k]) (vs ++ [v])
            · rfl
end
theorem items_fuel (l : List UInt8) (val : Val) (hv : ValOk l val) : ∀ (n m p : Nat) (acc : List JV), p ≤ l.length → l.length - p < n → l.length - p < m → items l val n p acc = items l val m p acc
  | 0, m, p, acc, _, h, _ => by omega
  | n + 1, 0, p, acc, _, _, h => by omega
  | n + 1, m + 1, p, acc, hp, h1, h2 => by
    have f1 := hv p hp
    rw [items, items]
    cases hx : val p with
    | error x => rfl
    | ok r =>
      obtain ⟨v, q⟩ := r
      have g1 := f1.ok _ hx
      simp only at g1 ⊢
      have f2 := ends_fits l 93 q g1.2
      cases hy : ends l 93 q with
      | error x => rfl
      | ok r =>
        obtain ⟨b, r⟩ := r
        have g2 := f2.ok _ hy
        simp only at g2
        cases b
        · exact items_fuel l val hv n m r (acc ++ [v]) g2.2 (by omega) (by omega)
        · rfl
theorem members_fuel (l : List UInt8) (val : Val) (hv : ValOk l val) : ∀ (n m p : Nat) (ks : List ByteArray) (vs : List JV), p ≤ l.length → l.length - p < n → l.length - p < m → members l val n p ks vs = members l val m p ks vs
  | 0, m, p, ks, vs, _, h, _ => by omega
  | n + 1, 0, p, ks, vs, _, _, h => by omega
  | n + 1, m + 1, p, ks, vs, hp, h1, h2 => by
    have f0 := key_fits l ks p hp
    rw [members, members]
    cases hx : key l ks p with
    | error x => rfl
    | ok r =>
      obtain ⟨k, q⟩ := r
      have g0 := f0.ok _ hx
      simp only at g0 ⊢
      have f1 := colon_fits l q g0.2
      cases hx : colon l q with
      | error x => rfl
      | ok r =>
        have g1 := f1.ok _ hx
        simp only [id] at g1 ⊢
        have f2 := hv r g1.2
        cases hx : val r with
        | error x => rfl
        | ok z =>
          obtain ⟨v, t⟩ := z
          have g2 := f2.ok _ hx
          simp only at g2 ⊢
          have f3 := ends_fits l 125 t g2.2
          cases hy : ends l 125 t with
          | error x => rfl
          | ok z =>
            obtain ⟨b, u⟩ := z
            have g3 := f3.ok _ hy
            simp only at g3
            cases b
            · exact members_fuel l val hv n m u (ks ++ [k]) (vs ++ [v]) g3.2 (by omega) (by omega)
            · rfl
theorem sh_list (A l : List UInt8) (val val' : Val) (hv : ∀ p, val' (A.length + p) = sh A.length (val p)) (hok : ValOk l val) (p : Nat) (hp : p < l.length) : list (A ++ l) val' (A.length + p) = sh A.length (list l val p) := by
  have h1 := skip_le l (p + 1) hp
  have hi : items (A ++ l) val' ((A ++ l).length + 1) (A.length + skip l (p + 1)) [] = sh A.length (items l val (l.length + 1) (skip l (p + 1)) []) := by
    rw [sh_items A l val val' hv, items_fuel l val hok ((A ++ l).length + 1) (l.length + 1) _ _ h1 (by rw [List.length_append]; omega) (by omega)]
  unfold list
  rw [Nat.add_assoc, sh_skip, sh_get, hi]
  by_cases h : l[skip l (p + 1)]? = some 93
  · rw [if_pos h, if_pos h]; simp only [sh, Nat.add_assoc]
  · rw [if_neg h, if_neg h]
    cases items l val (l.length + 1) (skip l (p + 1)) [] with
    | error x => rfl
    | ok r => rfl
theorem sh_object (A l : List UInt8) (val val' : Val) (hv : ∀ p, val' (A.length + p) = sh A.length (val p)) (hok : ValOk l val) (p : Nat) (hp : p < l.length) : object (A ++ l) val' (A.length + p) = sh A.length (object l val p) := by
  have h1 := skip_le l (p + 1) hp
  have hi : members (A ++ l) val' ((A ++ l).length + 1) (A.length + skip l (p + 1)) [] [] = sh3 A.length (members l val (l.length + 1) (skip l (p + 1)) [] []) := by
    rw [sh_members A l val val' hv, members_fuel l val hok ((A ++ l).length + 1) (l.length + 1) _ _ _ h1 (by rw [List.length_append]; omega) (by omega)]
  unfold object
  rw [Nat.add_assoc, sh_skip, sh_get, hi]
  by_cases h : l[skip l (p + 1)]? = some 125
  · rw [if_pos h, if_pos h]; simp only [sh, Nat.add_assoc]
  · rw [if_neg h, if_neg h]
    cases members l val (l.length + 1) (skip l (p + 1)) [] [] with
    | error x => rfl
    | ok r => rfl
theorem sh_value (A l : List UInt8) : ∀ (d p : Nat), value (A ++ l) d (A.length + p) = sh A.length (value l d p)
  | 0, p => by
    rw [value, value, sh_get]
    cases l[p]? with
    | none => rfl
    | some c => rfl
  | d + 1, p => by
    rw [value, value, sh_get]
    cases hc : l[p]? with
    | none => rfl
    | some c =>
      have hp := get_lt hc
      simp only
      split
      · rfl
      · exact sh_text A l p
      · exact sh_number A l p
      · exact sh_object A l _ _ (sh_value A l d) (value_fits l d) p hp
      · exact sh_list A l _ _ (sh_value A l d) (value_fits l d) p hp
      · exact sh_wordV A l _ _ p
      · exact sh_wordV A l _ _ p
      · exact sh_wordV A l _ _ p
theorem skip_all (A l : List UInt8) (hA : ∀ c ∈ A, blankJ c = true) : skip (A ++ l) 0 = A.length + skip l 0 := by
  unfold skip
  rw [List.drop_zero, List.drop_zero, List.takeWhile_append_of_pos hA, List.length_append]; omega
/-- Blanks ahead. -/
theorem parse_ahead (A l : List UInt8) (hA : ∀ c ∈ A, blankJ c = true) (hs : (A ++ l).length ≤ 1048576) :
    (parse (A ++ l)).1 = (parse l).1 ∧ (parse (A ++ l)).2.2 = (parse l).2.2 ∧ ((parse l).2.2 = 0 → (parse (A ++ l)).2.1 = -1) ∧ ((parse l).2.2 ≠ 0 → (parse (A ++ l)).2.1 = (parse l).2.1 + A.length) := by
  have hl : ¬ 1048576 < l.length := by rw [List.length_append] at hs; omega
  have f := value_fits l 64 (skip l 0) (skip_le l 0 (Nat.zero_le _))
  unfold parse
  rw [if_neg (by omega), if_neg hl, skip_all A l hA, sh_value]
  cases hv : value l 64 (skip l 0) with
  | error y =>
    obtain ⟨b, e⟩ := y
    have he := (f.err _ hv).2
    refine ⟨rfl, rfl, fun h => absurd h he, fun _ => ?_⟩
    simp only [sh]; omega
  | ok r =>
    obtain ⟨v, q⟩ := r
    simp only [sh]
    rw [sh_skip, List.length_append]
    by_cases h : skip l q < l.length
    · rw [if_pos h, if_pos (by omega)]
      refine ⟨rfl, rfl, fun h => by simp at h, fun _ => ?_⟩
      simp only; omega
    · rw [if_neg h, if_neg (by omega)]
      exact ⟨rfl, rfl, fun _ => rfl, fun h => absurd rfl h⟩
end Go.Proofs.YtbfkgddhpabioaaGreatDoor.Jdec
/- A quoted text is read locally (as in JoinA, for jdec). -/
/- a quoted text is read locally. -/
namespace Go.Proofs.YtbfkgddhpabioaaGreatDoor.QLoc
open Go.Proofs.YtbfkgddhpabioaaGreatDoor.Utf Go.Proofs.YtbfkgddhpabioaaGreatDoor.Quote
set_option linter.unusedVariables false
set_option linter.unusedSimpArgs false

theorem byt_local (l m : List UInt8) (k i : Nat) (hi : i < k) (hk : k ≤ l.length) : byt (l.take k ++ m) i = byt l i := by
  unfold byt
  rw [List.getD_eq_getElem?_getD, List.getD_eq_getElem?_getD, List.getElem?_append_left (by rw [List.length_take]; omega), List.getElem?_take_of_lt hi]
theorem four_local (m : List UInt8) : ∀ (k n : Nat) (l : List UInt8) (r : Nat), four k n l = .ok r → k ≤ l.length ∧ ∀ j, k ≤ j → four k n (l.take j ++ m) = .ok r
  | 0, n, l, r, h => by
    refine ⟨Nat.zero_le _, fun j _ => ?_⟩
    simpa [four] using h
  | k + 1, n, [], r, h => by simp [four] at h
  | k + 1, n, c :: l, r, h => by
    unfold four at h
    cases hx : hexv c.toNat with
    | none => rw [hx] at h; simp at h
    | some d =>
      rw [hx] at h
      have ih := four_local m k (n * 16 + d) l r h
      refine ⟨by simpa using ih.1, fun j hj => ?_⟩
      obtain ⟨j, rfl⟩ : ∃ i, j = i + 1 := ⟨j - 1, by omega⟩
      rw [List.take_succ_cons, List.cons_append, four, hx]
      exact ih.2 j (by omega)
theorem number_local (l m o : List UInt8) (n : Nat) (h : number l = .ok (o, n)) : n ≤ l.length ∧ number (l.take n ++ m) = .ok (o, n) := by
  unfold number at h
  cases h4 : four 4 0 l with
  | error e => rw [h4] at h; simp at h
  | ok c =>
    rw [h4] at h
    have hf := four_local m 4 0 l c h4
    simp only at h
    split at h
    · simp at h
    · rename_i hA
      split at h
      · rename_i hB
        split at h
        · simp at h
        · rename_i c1
          split at h
          · simp at h
          · rename_i c2
            split at h
            · simp at h
            · rename_i c3
              split at h
              · simp at h
              · rename_i c4
                cases h5 : four 4 0 (l.drop 6) with
                | error e => rw [h5] at h; simp at h
                | ok d =>
                  rw [h5] at h
                  simp only at h
                  split at h
                  · simp at h
                  · rename_i c5
                    have hg := four_local m 4 0 (l.drop 6) d h5
                    rw [List.length_drop] at hg
                    injection h with h
                    injection h with h6 h7
                    subst h6 h7
                    refine ⟨by omega, ?_⟩
                    have hl : (l.take 10 ++ m).length = 10 + m.length := by rw [List.length_append, List.length_take]; omega
                    unfold number
                    rw [hf.2 10 (by omega)]
                    simp only
                    rw [if_neg hA, if_pos hB, if_neg (by omega), byt_local l m 10 4 (by omega) (by omega), if_neg c2, if_neg (by omega), byt_local l m 10 5 (by omega) (by omega), if_neg c4]
                    have e6 : (l.take 10 ++ m).drop 6 = (l.drop 6).take 4 ++ m := by
                      rw [List.drop_append_of_le_length (by rw [List.length_take]; omega), List.drop_take]
                    rw [e6, hg.2 4 (Nat.le_refl _)]
                    simp only
                    rw [if_neg c5]
      · rename_i hB
        injection h with h
        injection h with h6 h7
        subst h6 h7
        refine ⟨hf.1, ?_⟩
        unfold number
        rw [hf.2 4 (Nat.le_refl _)]
        simp only
        rw [if_neg hA, if_neg hB]
end Go.Proofs.YtbfkgddhpabioaaGreatDoor.QLoc
/- a quoted text is read locally: escapes, parts, the whole. -/
namespace Go.Proofs.YtbfkgddhpabioaaGreatDoor.QLoc
open Go.Proofs.YtbfkgddhpabioaaGreatDoor.Utf Go.Proofs.YtbfkgddhpabioaaGreatDoor.Quote
set_option linter.unusedVariables false
set_option linter.unusedSimpArgs false

theorem escape_cons (c : UInt8) (x : List UInt8) : escape (c :: x) = if c.toNat = 34 ∨ c.toNat = 92 ∨ c.toNat = 47 then .ok ([UInt8.ofNat c.toNat], 1) else if c.toNat = 98 then .ok ([8], 1) else if c.toNat = 102 then .ok ([12], 1) else if c.toNat = 110 then .ok ([10], 1) else if c.toNat = 114 then .ok ([13], 1) else if c.toNat = 116 then .ok ([9], 1) else if c.toNat = 117 then (match number x with
    | .error e => .error e
    | .ok (o, n) => .ok (o, n + 1)) else .error 3 := by
  unfold escape
  rw [if_neg (by simp)]
  rfl
theorem escape_local (l m o : List UInt8) (n : Nat) (h : escape l = .ok (o, n)) : n ≤ l.length ∧ escape (l.take n ++ m) = .ok (o, n) := by
  cases l with
  | nil => simp [escape] at h
  | cons c t =>
    by_cases hu : c.toNat = 117
    · have e : ∀ x, escape (c :: x) = (match number x with
          | .error e => .error e
          | .ok (o, n) => .ok (o, n + 1)) := by
        intro x
        rw [escape_cons, if_neg (by omega), if_neg (by omega), if_neg (by omega), if_neg (by omega), if_neg (by omega), if_neg (by omega), if_pos hu]
      rw [e] at h
      cases hn : number t with
      | error e => rw [hn] at h; simp at h
      | ok r =>
        obtain ⟨o', n'⟩ := r
        rw [hn] at h
        simp only at h
        injection h with h
        injection h with h6 h7
        subst h6 h7
        have := number_local t m o' n' hn
        refine ⟨by simpa using this.1, ?_⟩
        rw [List.take_succ_cons, List.cons_append, e, this.2]
    · have hh : ∀ x, escape (c :: x) = escape (c :: t) := by
        intro x
        rw [escape_cons, escape_cons]
        simp only [hu, if_false]
      have hn : n = 1 := by
        rw [escape_cons] at h
        simp only [hu, if_false] at h
        repeat' split at h
        all_goals first
          | (injection h with h; injection h with _ h; exact h.symm)
          | (simp at h)
      subst hn
      refine ⟨by simp, ?_⟩
      rw [List.take_succ_cons, List.cons_append, hh]
      exact h
theorem one_local (l m : List UInt8) (h : (one l).2 ≠ 0) : one (l.take (one l).2 ++ m) = one l := by
  have hle := one_size_le l
  unfold one at h hle ⊢
  by_cases hs : stands l (sizeAt (byt l 0)) = true
  · rw [if_pos hs] at h hle ⊢
    simp only at h hle ⊢
    have b := fun i hi => byt_local l m (sizeAt (byt l 0)) i hi hle.1
    have b0 := b 0 (by omega)
    have hl : sizeAt (byt l 0) ≤ (l.take (sizeAt (byt l 0)) ++ m).length := by rw [List.length_append, List.length_take]; omega
    rw [b0]
    generalize hk : sizeAt (byt l 0) = k at *
    have hc : conts (l.take k ++ m) k = conts l k := by
      unfold conts
      split
      · rfl
      · split
        · rw [b 1 (by omega)]
        · split
          · rw [b 1 (by omega), b 2 (by omega)]
          · rw [b 1 (by omega), b 2 (by omega), b 3 (by omega)]
    have hv : Utf.val (l.take k ++ m) k = Utf.val l k := by
      unfold Utf.val
      split
      · rw [b0]
      · split
        · rw [b0, b 1 (by omega)]
        · split
          · rw [b0, b 1 (by omega), b 2 (by omega)]
          · rw [b0, b 1 (by omega), b 2 (by omega), b 3 (by omega)]
    have hst : stands (l.take k ++ m) k = true := by
      unfold stands at hs ⊢
      rw [hc, hv, b0, hk]
      rw [hk] at hs
      simp only [Bool.and_eq_true, decide_eq_true_eq] at hs ⊢
      exact ⟨⟨⟨⟨⟨hs.1.1.1.1.1, hl⟩, hs.1.1.1.2⟩, hs.1.1.2⟩, hs.1.2⟩, hs.2⟩
    rw [if_pos hst, hv]
  · rw [if_neg hs] at h
    simp at h
end Go.Proofs.YtbfkgddhpabioaaGreatDoor.QLoc
/- a quoted text is read locally: parts, the whole. -/
namespace Go.Proofs.YtbfkgddhpabioaaGreatDoor.QLoc
open Go.Proofs.YtbfkgddhpabioaaGreatDoor.Utf Go.Proofs.YtbfkgddhpabioaaGreatDoor.Quote
set_option linter.unusedVariables false
set_option linter.unusedSimpArgs false

theorem part_cons (c : UInt8) (x : List UInt8) : Quote.part (c :: x) = if c.toNat = 34 then .ok ([], 1, false) else if c.toNat = 92 then (match escape x with
    | .error e => .error e
    | .ok (o, n) => .ok (o, n + 1, true)) else if c.toNat < 32 then .error 3 else if c.toNat < 128 then .ok ([UInt8.ofNat c.toNat], 1, true) else if (one (c :: x)).2 = 0 then .error 7 else .ok (put (one (c :: x)).1, (put (one (c :: x)).1).length, true) := by
  unfold Quote.part
  rw [if_neg (by simp)]
  rfl
theorem part_local (l m o : List UInt8) (k : Nat) (b : Bool) (h : Quote.part l = .ok (o, k, b)) : 1 ≤ k ∧ k ≤ l.length ∧ Quote.part (l.take k ++ m) = .ok (o, k, b) := by
  cases l with
  | nil => simp [Quote.part] at h
  | cons c t =>
    rw [part_cons] at h
    by_cases h1 : c.toNat = 34
    · rw [if_pos h1] at h
      injection h with h; injection h with h6 h7; injection h7 with h7 h8
      subst h6 h7 h8
      refine ⟨by omega, by simp, ?_⟩
      rw [List.take_succ_cons, List.cons_append, part_cons, if_pos h1]
    · rw [if_neg h1] at h
      by_cases h2 : c.toNat = 92
      · rw [if_pos h2] at h
        cases hn : escape t with
        | error e => rw [hn] at h; simp at h
        | ok r =>
          obtain ⟨o', n'⟩ := r
          rw [hn] at h
          simp only at h
          injection h with h; injection h with h6 h7; injection h7 with h7 h8
          subst h6 h7 h8
          have := escape_local t m o' n' hn
          refine ⟨by omega, by simpa using this.1, ?_⟩
          rw [List.take_succ_cons, List.cons_append, part_cons, if_neg h1, if_pos h2, this.2]
      · rw [if_neg h2] at h
        by_cases h3 : c.toNat < 32
        · rw [if_pos h3] at h; simp at h
        · rw [if_neg h3] at h
          by_cases h4 : c.toNat < 128
          · rw [if_pos h4] at h
            injection h with h; injection h with h6 h7; injection h7 with h7 h8
            subst h6 h7 h8
            refine ⟨by omega, by simp, ?_⟩
            rw [List.take_succ_cons, List.cons_append, part_cons, if_neg h1, if_neg h2, if_neg h3, if_pos h4]
          · rw [if_neg h4] at h
            by_cases h5 : (one (c :: t)).2 = 0
            · rw [if_pos h5] at h; simp at h
            · rw [if_neg h5] at h
              injection h with h; injection h with h6 h7; injection h7 with h7 h8
              have hp := (one_put (c :: t) h5).1
              have hz := (one_size_le (c :: t)).1
              have hloc := one_local (c :: t) m h5
              rw [hp] at h7
              subst h7 h8
              refine ⟨by omega, hz, ?_⟩
              obtain ⟨j, hj⟩ : ∃ j, (one (c :: t)).2 = j + 1 := ⟨(one (c :: t)).2 - 1, by omega⟩
              have e2 : (c :: t).take (one (c :: t)).2 ++ m = c :: (t.take j ++ m) := by rw [hj]; rfl
              rw [e2] at hloc ⊢
              rw [part_cons, if_neg h1, if_neg h2, if_neg h3, if_neg h4, hloc, if_neg h5, hp, h6]
theorem parts_local (m : List UInt8) : ∀ (n : Nat) (l : List UInt8) (p : Nat) (out o : List UInt8) (q : Nat), Quote.parts n l p out = .ok (o, q) →
    p < q ∧ q - p ≤ l.length ∧ ∀ n', q - p ≤ n' → Quote.parts n' (l.take (q - p) ++ m) p out = .ok (o, q)
  | 0, l, p, out, o, q, h => by simp [Quote.parts] at h
  | n + 1, l, p, out, o, q, h => by
    unfold Quote.parts at h
    cases hx : Quote.part l with
    | error e => rw [hx] at h; simp at h
    | ok r =>
      obtain ⟨o', k, b⟩ := r
      rw [hx] at h
      cases b
      · simp only at h
        injection h with h; injection h with h6 h7
        subst h6 h7
        have hl := part_local l m o' k false hx
        refine ⟨by omega, by omega, fun n' hn' => ?_⟩
        obtain ⟨n', rfl⟩ : ∃ i, n' = i + 1 := ⟨n' - 1, by omega⟩
        rw [show p + k - p = k by omega, Quote.parts, hl.2.2]
      · simp only at h
        have hl := part_local l (((l.drop k).take (q - (p + k))) ++ m) o' k true hx
        have ih := parts_local m n (l.drop k) (p + k) (out ++ o') o q h
        rw [List.length_drop] at ih
        refine ⟨by omega, by omega, fun n' hn' => ?_⟩
        obtain ⟨n', rfl⟩ : ∃ i, n' = i + 1 := ⟨n' - 1, by omega⟩
        have e1 : l.take (q - p) ++ m = l.take k ++ ((l.drop k).take (q - (p + k)) ++ m) := by
          rw [← List.append_assoc, ← List.take_add, show k + (q - (p + k)) = q - p by omega]
        rw [e1, Quote.parts, hl.2.2]
        simp only
        have e2 : (l.take k ++ ((l.drop k).take (q - (p + k)) ++ m)).drop k = (l.drop k).take (q - (p + k)) ++ m :=
          List.drop_left' (by rw [List.length_take]; omega)
        rw [e2]
        exact ih.2.2 n' (by omega)
theorem quote_local (l m o : List UInt8) (n : Nat) (h : Quote.scan l = .ok (o, n)) : Quote.scan (l.take n ++ m) = .ok (o, n) := by
  cases l with
  | nil => simp [Quote.scan] at h
  | cons c t =>
    have e : ∀ x, Quote.scan (c :: x) = if c.toNat ≠ 34 then .error 3 else Quote.parts (x.length + 2) x 1 [] := by
      intro x; unfold Quote.scan; rw [if_neg (by simp)]; rfl
    rw [e] at h
    by_cases h1 : c.toNat ≠ 34
    · rw [if_pos h1] at h; simp at h
    · rw [if_neg h1] at h
      have hp := parts_local m _ _ _ _ _ _ h
      obtain ⟨j, rfl⟩ : ∃ j, n = j + 1 := ⟨n - 1, by omega⟩
      rw [List.take_succ_cons, List.cons_append, e, if_neg h1]
      have := hp.2.2 ((t.take j ++ m).length + 2) (by rw [List.length_append, List.length_take]; omega)
      simpa using this
end Go.Proofs.YtbfkgddhpabioaaGreatDoor.QLoc
