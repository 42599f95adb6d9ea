/- The plain law of JdecBlanks: what stands ahead of a text moves the place. -/
import Derived.Test.YtbfkgddhpabioaaDoorJdecU
namespace Go.Proofs.YtbfkgddhpabioaaDoor.Jdec
set_option linter.unusedVariables false
set_option linter.unusedSimpArgs false

/-- All places so much further. -/
def sh {α : Type} (n : Nat) : Except Er (α × Nat) → Except Er (α × Nat)
  | .ok (v, q) => .ok (v, n + q)
  | .error (b, e) => .error (n + b, e)
section
variable (A l : List UInt8)
theorem sh_get (p : Nat) : (A ++ l)[A.length + p]? = l[p]? := by
  rw [List.getElem?_append_right (by omega)]; congr 1; omega
theorem sh_drop (p : Nat) : (A ++ l).drop (A.length + p) = l.drop p := by
  rw [List.drop_append, List.drop_of_length_le (by omega), List.nil_append]; congr 1; omega
theorem sh_skip (p : Nat) : skip (A ++ l) (A.length + p) = A.length + skip l p := by
  unfold skip; rw [sh_drop]; omega
theorem sh_here (p : Nat) : here (A ++ l) (A.length + p) = (A.length + (here l p).1, (here l p).2) := by
  unfold here
  rw [List.length_append]
  by_cases h : l.length ≤ p
  · rw [if_pos h, if_pos (by omega)]
  · rw [if_neg h, if_neg (by omega)]
theorem sh_word : ∀ (w : List UInt8) (p : Nat), word (A ++ l) w (A.length + p) = (match word l w p with | .ok q => .ok (A.length + q) | .error (b, e) => .error (A.length + b, e))
  | [], p => rfl
  | c :: w, p => by
    rw [word, word, sh_get]
    by_cases h : l[p]? = some c
    · rw [if_pos h, if_pos h]
      have := sh_word w (p + 1)
      rw [← Nat.add_assoc] at this
      exact this
    · rw [if_neg h, if_neg h, sh_here]
theorem sh_wordV (w : List UInt8) (v : JV) (p : Nat) : wordV (A ++ l) w v (A.length + p) = sh A.length (wordV l w v p) := by
  rw [wordV, wordV, sh_word]
  cases word l w p with
  | ok q => rfl
  | error x => rfl
theorem sh_number (p : Nat) : number (A ++ l) (A.length + p) = sh A.length (number l p) := by
  unfold number
  rw [sh_drop]
  by_cases h : Num.scan (l.drop p) = 0
  · rw [if_pos h, if_pos h]
    have : (A.length + p + 1 = (A ++ l).length) ↔ (p + 1 = l.length) := by rw [List.length_append]; omega
    simp only [sh, this]
  · rw [if_neg h, if_neg h]
    cases Num.parse ((l.drop p).take (Num.scan (l.drop p))) with
    | error e => rfl
    | ok r =>
      obtain ⟨n, d, x⟩ := r
      simp only [sh, Nat.add_assoc]
theorem sh_quoted (p : Nat) : quoted (A ++ l) (A.length + p) = sh A.length (quoted l p) := by
  unfold quoted
  rw [sh_drop]
  cases Quote.scan (l.drop p) with
  | error e => rfl
  | ok r =>
    obtain ⟨s, n⟩ := r
    simp only [sh, Nat.add_assoc]
theorem sh_text (p : Nat) : text (A ++ l) (A.length + p) = sh A.length (text l p) := by
  unfold text
  rw [sh_quoted]
  cases quoted l p with
  | error e => rfl
  | ok r => rfl
theorem sh_ends (c : UInt8) (p : Nat) : ends (A ++ l) c (A.length + p) = sh A.length (ends l c p) := by
  unfold ends
  rw [sh_skip, sh_get]
  by_cases h : l[skip l p]? = some c
  · rw [if_pos h, if_pos h]; simp only [sh, Nat.add_assoc]
  · rw [if_neg h, if_neg h]
    by_cases h2 : l[skip l p]? = some 44
    · rw [if_pos h2, if_pos h2, Nat.add_assoc, sh_skip]; rfl
    · rw [if_neg h2, if_neg h2, sh_here]; rfl
theorem sh_key (ks : List ByteArray) (p : Nat) : key (A ++ l) ks (A.length + p) = sh A.length (key l ks p) := by
  unfold key
  rw [sh_get, sh_quoted]
  by_cases h : l[p]? = some 34
  · rw [if_pos h, if_pos h]
    cases quoted l p with
    | error e => rfl
    | ok r =>
      obtain ⟨k, q⟩ := r
      simp only [sh]
      split <;> rfl
  · rw [if_neg h, if_neg h, sh_here]; rfl
theorem sh_colon (p : Nat) : colon (A ++ l) (A.length + p) = (match colon l p with | .ok q => .ok (A.length + q) | .error (b, e) => .error (A.length + b, e)) := by
  unfold colon
  rw [sh_skip, sh_get]
  by_cases h : l[skip l p]? = some 58
  · rw [if_pos h, if_pos h, Nat.add_assoc, sh_skip]
  · rw [if_neg h, if_neg h, sh_here]
theorem sh_items (val val' : Val) (hv : ∀ p, val' (A.length + p) = sh A.length (val p)) : ∀ (n p : Nat) (acc : List JV), items (A ++ l) val' n (A.length + p) acc = sh A.length (items l val n p acc)
  | 0, p, acc => rfl
  | n + 1, p, acc => by
    rw [items, items, hv]
    cases val p with
    | error x => rfl
    | ok r =>
      obtain ⟨v, q⟩ := r
      simp only [sh]
      rw [sh_ends]
      cases ends l 93 q with
      | error x => rfl
      | ok r =>
        obtain ⟨b, r⟩ := r
        cases b
        · exact sh_items val val' hv n r (acc ++ [v])
        · rfl
def sh3 (n : Nat) : Except Er (List ByteArray × List JV × Nat) → Except Er (List ByteArray × List JV × Nat)
  | .ok (ks, vs, q) => .ok (ks, vs, n + q)
  | .error (b, e) => .error (n + b, e)
theorem sh_members (val val' : Val) (hv : ∀ p, val' (A.length + p) = sh A.length (val p)) : ∀ (n p : Nat) (ks : List ByteArray) (vs : List JV), members (A ++ l) val' n (A.length + p) ks vs = sh3 A.length (members l val n p ks vs)
  | 0, p, ks, vs => rfl
  | n + 1, p, ks, vs => by
    rw [members, members, sh_key]
    cases key l ks p with
    | error x => rfl
    | ok r =>
      obtain ⟨k, q⟩ := r
      simp only [sh]
      rw [sh_colon]
      cases colon l q with
      | error x => rfl
      | ok r =>
        simp only
        rw [hv]
        cases val r with
        | error x => rfl
        | ok z =>
          obtain ⟨v, t⟩ := z
          simp only [sh]
          rw [sh_ends]
          cases ends l 125 t with
          | error x => rfl
          | ok z =>
            obtain ⟨b, u⟩ := z
            cases b
            · exact sh_members val val' hv n u (ks ++ [k]) (vs ++ [v])
            · rfl
end
theorem items_fuel (l : List UInt8) (val : Val) (hv : ValOk l val) : ∀ (n m p : Nat) (acc : List JV), p ≤ l.length → l.length - p < n → l.length - p < m → items l val n p acc = items l val m p acc
  | 0, m, p, acc, _, h, _ => by omega
  | n + 1, 0, p, acc, _, _, h => by omega
  | n + 1, m + 1, p, acc, hp, h1, h2 => by
    have f1 := hv p hp
    rw [items, items]
    cases hx : val p with
    | error x => rfl
    | ok r =>
      obtain ⟨v, q⟩ := r
      have g1 := f1.ok _ hx
      simp only at g1 ⊢
      have f2 := ends_fits l 93 q g1.2
      cases hy : ends l 93 q with
      | error x => rfl
      | ok r =>
        obtain ⟨b, r⟩ := r
        have g2 := f2.ok _ hy
        simp only at g2
        cases b
        · exact items_fuel l val hv n m r (acc ++ [v]) g2.2 (by omega) (by omega)
        · rfl
theorem members_fuel (l : List UInt8) (val : Val) (hv : ValOk l val) : ∀ (n m p : Nat) (ks : List ByteArray) (vs : List JV), p ≤ l.length → l.length - p < n → l.length - p < m → members l val n p ks vs = members l val m p ks vs
  | 0, m, p, ks, vs, _, h, _ => by omega
  | n + 1, 0, p, ks, vs, _, _, h => by omega
  | n + 1, m + 1, p, ks, vs, hp, h1, h2 => by
    have f0 := key_fits l ks p hp
    rw [members, members]
    cases hx : key l ks p with
    | error x => rfl
    | ok r =>
      obtain ⟨k, q⟩ := r
      have g0 := f0.ok _ hx
      simp only at g0 ⊢
      have f1 := colon_fits l q g0.2
      cases hx : colon l q with
      | error x => rfl
      | ok r =>
        have g1 := f1.ok _ hx
        simp only [id] at g1 ⊢
        have f2 := hv r g1.2
        cases hx : val r with
        | error x => rfl
        | ok z =>
          obtain ⟨v, t⟩ := z
          have g2 := f2.ok _ hx
          simp only at g2 ⊢
          have f3 := ends_fits l 125 t g2.2
          cases hy : ends l 125 t with
          | error x => rfl
          | ok z =>
            obtain ⟨b, u⟩ := z
            have g3 := f3.ok _ hy
            simp only at g3
            cases b
            · exact members_fuel l val hv n m u (ks ++ [k]) (vs ++ [v]) g3.2 (by omega) (by omega)
            · rfl
theorem sh_list (A l : List UInt8) (val val' : Val) (hv : ∀ p, val' (A.length + p) = sh A.length (val p)) (hok : ValOk l val) (p : Nat) (hp : p < l.length) : list (A ++ l) val' (A.length + p) = sh A.length (list l val p) := by
  have h1 := skip_le l (p + 1) hp
  have hi : items (A ++ l) val' ((A ++ l).length + 1) (A.length + skip l (p + 1)) [] = sh A.length (items l val (l.length + 1) (skip l (p + 1)) []) := by
    rw [sh_items A l val val' hv, items_fuel l val hok ((A ++ l).length + 1) (l.length + 1) _ _ h1 (by rw [List.length_append]; omega) (by omega)]
  unfold list
  rw [Nat.add_assoc, sh_skip, sh_get, hi]
  by_cases h : l[skip l (p + 1)]? = some 93
  · rw [if_pos h, if_pos h]; simp only [sh, Nat.add_assoc]
  · rw [if_neg h, if_neg h]
    cases items l val (l.length + 1) (skip l (p + 1)) [] with
    | error x => rfl
    | ok r => rfl
theorem sh_object (A l : List UInt8) (val val' : Val) (hv : ∀ p, val' (A.length + p) = sh A.length (val p)) (hok : ValOk l val) (p : Nat) (hp : p < l.length) : object (A ++ l) val' (A.length + p) = sh A.length (object l val p) := by
  have h1 := skip_le l (p + 1) hp
  have hi : members (A ++ l) val' ((A ++ l).length + 1) (A.length + skip l (p + 1)) [] [] = sh3 A.length (members l val (l.length + 1) (skip l (p + 1)) [] []) := by
    rw [sh_members A l val val' hv, members_fuel l val hok ((A ++ l).length + 1) (l.length + 1) _ _ _ h1 (by rw [List.length_append]; omega) (by omega)]
  unfold object
  rw [Nat.add_assoc, sh_skip, sh_get, hi]
  by_cases h : l[skip l (p + 1)]? = some 125
  · rw [if_pos h, if_pos h]; simp only [sh, Nat.add_assoc]
  · rw [if_neg h, if_neg h]
    cases members l val (l.length + 1) (skip l (p + 1)) [] [] with
    | error x => rfl
    | ok r => rfl
theorem sh_value (A l : List UInt8) : ∀ (d p : Nat), value (A ++ l) d (A.length + p) = sh A.length (value l d p)
  | 0, p => by
    rw [value, value, sh_get]
    cases l[p]? with
    | none => rfl
    | some c => rfl
  | d + 1, p => by
    rw [value, value, sh_get]
    cases hc : l[p]? with
    | none => rfl
    | some c =>
      have hp := get_lt hc
      simp only
      split
      · rfl
      · exact sh_text A l p
      · exact sh_number A l p
      · exact sh_object A l _ _ (sh_value A l d) (value_fits l d) p hp
      · exact sh_list A l _ _ (sh_value A l d) (value_fits l d) p hp
      · exact sh_wordV A l _ _ p
      · exact sh_wordV A l _ _ p
      · exact sh_wordV A l _ _ p
theorem skip_all (A l : List UInt8) (hA : ∀ c ∈ A, blankJ c = true) : skip (A ++ l) 0 = A.length + skip l 0 := by
  unfold skip
  rw [List.drop_zero, List.drop_zero, List.takeWhile_append_of_pos hA, List.length_append]; omega
/-- Blanks ahead. -/
theorem parse_ahead (A l : List UInt8) (hA : ∀ c ∈ A, blankJ c = true) (hs : (A ++ l).length ≤ 1048576) :
    (parse (A ++ l)).1 = (parse l).1 ∧ (parse (A ++ l)).2.2 = (parse l).2.2 ∧ ((parse l).2.2 = 0 → (parse (A ++ l)).2.1 = -1) ∧ ((parse l).2.2 ≠ 0 → (parse (A ++ l)).2.1 = (parse l).2.1 + A.length) := by
  have hl : ¬ 1048576 < l.length := by rw [List.length_append] at hs; omega
  have f := value_fits l 64 (skip l 0) (skip_le l 0 (Nat.zero_le _))
  unfold parse
  rw [if_neg (by omega), if_neg hl, skip_all A l hA, sh_value]
  cases hv : value l 64 (skip l 0) with
  | error y =>
    obtain ⟨b, e⟩ := y
    have he := (f.err _ hv).2
    refine ⟨rfl, rfl, fun h => absurd h he, fun _ => ?_⟩
    simp only [sh]; omega
  | ok r =>
    obtain ⟨v, q⟩ := r
    simp only [sh]
    rw [sh_skip, List.length_append]
    by_cases h : skip l q < l.length
    · rw [if_pos h, if_pos (by omega)]
      refine ⟨rfl, rfl, fun h => by simp at h, fun _ => ?_⟩
      simp only; omega
    · rw [if_neg h, if_neg (by omega)]
      exact ⟨rfl, rfl, fun _ => rfl, fun h => absurd rfl h⟩
end Go.Proofs.YtbfkgddhpabioaaDoor.Jdec
