/- The plain law of JdecBlanks: what stands behind a value. -/
import Derived.Test.YtbfkgddhpabioaaGreatDoorJdecSL
namespace Go.Proofs.YtbfkgddhpabioaaGreatDoor.Jdec
set_option linter.unusedVariables false
set_option linter.unusedSimpArgs false

theorem from_app (m : List UInt8) (hm : ∀ c t, m = c :: t → Num.sgn c.toNat = 6) : ∀ (l : List UInt8) (st i k : Nat), st < 9 → Num.from_ st i k (l ++ m) = Num.from_ st i k l
  | [], st, i, k, hs => by
    rw [List.nil_append]
    cases m with
    | nil => rfl
    | cons c t =>
      have e : Num.from_ st i k (c :: t) = if Num.step st (Num.sgn c.toNat) = 9 then k else Num.from_ (Num.step st (Num.sgn c.toNat)) (i + 1) (if Num.whole (Num.step st (Num.sgn c.toNat)) then i + 1 else k) t := rfl
      rw [e, hm c t rfl, Num.step_6 st hs, if_pos rfl]; rfl
  | c :: l, st, i, k, hs => by
    rw [List.cons_append, Num.from_, Num.from_]
    by_cases h9 : Num.step st (Num.sgn c.toNat) = 9
    · rw [if_pos h9, if_pos h9]
    · rw [if_neg h9, if_neg h9]
      have := Num.step_le st hs _ (Num.sgn_lt c.toNat)
      exact from_app m hm l _ _ _ (by omega)
theorem from_any (m : List UInt8) : ∀ (l : List UInt8) (st i k : Nat), st < 9 → (∃ c ∈ l, Num.sgn c.toNat = 6) → Num.from_ st i k (l ++ m) = Num.from_ st i k l
  | [], st, i, k, hs, h => by obtain ⟨c, hc, _⟩ := h; cases hc
  | c :: l, st, i, k, hs, h => by
    rw [List.cons_append, Num.from_, Num.from_]
    by_cases h9 : Num.step st (Num.sgn c.toNat) = 9
    · rw [if_pos h9, if_pos h9]
    · rw [if_neg h9, if_neg h9]
      have := Num.step_le st hs _ (Num.sgn_lt c.toNat)
      refine from_any m l _ _ _ (by omega) ?_
      obtain ⟨x, hx, h6⟩ := h
      rcases List.mem_cons.1 hx with e | e
      · subst e; rw [h6] at h9; exact absurd (Num.step_6 st hs) h9
      · exact ⟨x, e, h6⟩
/-- A byte that no number has stands there or behind. -/
def Later (l : List UInt8) (p : Nat) : Prop := ∃ j c, p ≤ j ∧ l[j]? = some c ∧ Num.sgn c.toNat = 6
theorem ends_later {l : List UInt8} {c : UInt8} {p q : Nat} {z : Bool × Nat} (hc : Num.sgn c.toNat = 6) (h : ends l c q = .ok z) (hpq : p ≤ q) : Later l p := by
  have := skip_ge l q
  unfold ends at h
  by_cases h1 : l[skip l q]? = some c
  · exact ⟨skip l q, c, by omega, h1, hc⟩
  · rw [if_neg h1] at h
    by_cases h2 : l[skip l q]? = some 44
    · exact ⟨skip l q, 44, by omega, h2, by decide⟩
    · rw [if_neg h2] at h; cases h
section
variable (m l : List UInt8)
theorem ap_get {p : Nat} (h : p < l.length) : (l ++ m)[p]? = l[p]? := List.getElem?_append_left h
theorem ap_some {p : Nat} {c : UInt8} (h : l[p]? = some c) : (l ++ m)[p]? = some c := by rw [ap_get m l (get_lt h)]; exact h
theorem ap_drop {p : Nat} (h : p ≤ l.length) : (l ++ m).drop p = l.drop p ++ m := List.drop_append_of_le_length h
theorem ap_word : ∀ (w : List UInt8) (p q : Nat), word l w p = .ok q → word (l ++ m) w p = .ok q
  | [], p, q, h => h
  | c :: w, p, q, h => by
    rw [word] at h ⊢
    by_cases hc : l[p]? = some c
    · rw [if_pos hc] at h
      rw [if_pos (ap_some m l hc)]
      exact ap_word w (p + 1) q h
    · rw [if_neg hc] at h; cases h
theorem ap_wordV (w : List UInt8) (v : JV) (p : Nat) (x : JV × Nat) (h : wordV l w v p = .ok x) : wordV (l ++ m) w v p = .ok x := by
  unfold wordV at h ⊢
  cases hw : word l w p with
  | error y => rw [hw] at h; cases h
  | ok q => rw [hw] at h; rw [ap_word m l w p q hw]; exact h
theorem ap_number (hm : ∀ c t, m = c :: t → Num.sgn c.toNat = 6) (p : Nat) (hp : p ≤ l.length) (x : JV × Nat) (h : number l p = .ok x) : number (l ++ m) p = .ok x := by
  have hs : Num.scan (l.drop p ++ m) = Num.scan (l.drop p) := from_app m hm _ 0 0 0 (by decide)
  have hle := Num.scan_le (l.drop p)
  unfold number at h ⊢
  rw [ap_drop m l hp, hs, List.take_append_of_le_length hle]
  by_cases h0 : Num.scan (l.drop p) = 0
  · rw [if_pos h0] at h; cases h
  · rw [if_neg h0] at h ⊢; exact h
theorem ap_quoted (p : Nat) (hp : p ≤ l.length) (x : ByteArray × Nat) (h : quoted l p = .ok x) : quoted (l ++ m) p = .ok x := by
  unfold quoted at h ⊢
  rw [ap_drop m l hp]
  cases hq : Quote.scan (l.drop p) with
  | error e => rw [hq] at h; cases h
  | ok r =>
    obtain ⟨o, n⟩ := r
    have := QLoc.quote_local (l.drop p) ((l.drop p).drop n ++ m) o n hq
    rw [← List.append_assoc, List.take_append_drop] at this
    rw [this]
    rw [hq] at h
    exact h
theorem ap_text (p : Nat) (hp : p ≤ l.length) (x : JV × Nat) (h : text l p = .ok x) : text (l ++ m) p = .ok x := by
  unfold text at h ⊢
  cases hq : quoted l p with
  | error e => rw [hq] at h; cases h
  | ok r => rw [hq] at h; rw [ap_quoted m l p hp r hq]; exact h
theorem ap_skip (p : Nat) (h : skip l p < l.length) : skip (l ++ m) p = skip l p := by
  have hp : p ≤ l.length := by have := skip_ge l p; omega
  unfold skip at h ⊢
  rw [ap_drop m l hp, List.takeWhile_append, if_neg]
  intro e
  rw [e, List.length_drop] at h
  omega
theorem ap_ends (c : UInt8) (p q : Nat) (b : Bool) (h : ends l c p = .ok (b, q)) (hq : b = false → q < l.length) : ends (l ++ m) c p = .ok (b, q) := by
  unfold ends at h ⊢
  by_cases h1 : l[skip l p]? = some c
  · rw [if_pos h1] at h
    rw [ap_skip m l p (get_lt h1), if_pos (ap_some m l h1)]; exact h
  · rw [if_neg h1] at h
    by_cases h2 : l[skip l p]? = some 44
    · rw [if_pos h2] at h
      injection h with h
      injection h with hb hr
      have hlt := get_lt h2
      rw [ap_skip m l p hlt, ap_get m l hlt, if_neg h1, if_pos h2, ap_skip m l _ (by rw [hr]; exact hq hb.symm), hb, hr]
    · rw [if_neg h2] at h; cases h
theorem ap_items (val val' : Val) (hv : ∀ p x, p ≤ l.length → Later l p → val p = .ok x → val' p = .ok x) (hok : ValOk l val) : ∀ (n p : Nat) (acc : List JV) (x : List JV × Nat), p ≤ l.length → items l val n p acc = .ok x → items (l ++ m) val' n p acc = .ok x
  | 0, p, acc, x, _, h => by cases h
  | n + 1, p, acc, x, hp, h => by
    rw [items] at h ⊢
    cases h0 : val p with
    | error y => rw [h0] at h; cases h
    | ok r =>
      obtain ⟨v, q⟩ := r
      have g1 := (hok p hp).ok _ h0
      rw [h0] at h
      simp only at g1 h
      have f2 := ends_fits l 93 q g1.2
      cases h1 : ends l 93 q with
      | error y => rw [h1] at h; cases h
      | ok z =>
        rw [hv p _ hp (ends_later (by decide) h1 (by omega)) h0]
        obtain ⟨b, r⟩ := z
        simp only
        have g2 := f2.ok _ h1
        simp only at g2
        rw [h1] at h
        cases b
        · simp only at h
          have hr : r < l.length := by
            cases n with
            | zero => cases h
            | succ n =>
              rw [items] at h
              cases h3 : val r with
              | error y => rw [h3] at h; cases h
              | ok z => have := (hok r g2.2).ok _ h3; omega
          rw [ap_ends m l 93 q r false h1 (fun _ => hr)]
          exact ap_items val val' hv hok n r (acc ++ [v]) x g2.2 h
        · rw [ap_ends m l 93 q r true h1 (fun e => by cases e)]
          exact h
theorem ap_key (ks : List ByteArray) (p : Nat) (x : ByteArray × Nat) (h : key l ks p = .ok x) : key (l ++ m) ks p = .ok x := by
  unfold key at h ⊢
  by_cases h1 : l[p]? = some 34
  · rw [if_pos h1] at h
    rw [if_pos (ap_some m l h1)]
    cases hq : quoted l p with
    | error y => rw [hq] at h; cases h
    | ok r =>
      rw [ap_quoted m l p (Nat.le_of_lt (get_lt h1)) r hq]
      rw [hq] at h
      exact h
  · rw [if_neg h1] at h; cases h
theorem ap_colon (p q : Nat) (h : colon l p = .ok q) (hq : q < l.length) : colon (l ++ m) p = .ok q := by
  unfold colon at h ⊢
  by_cases h1 : l[skip l p]? = some 58
  · rw [if_pos h1] at h
    injection h with h
    rw [ap_skip m l p (get_lt h1), if_pos (ap_some m l h1), ap_skip m l _ (by rw [h]; exact hq), h]
  · rw [if_neg h1] at h; cases h
theorem ap_members (val val' : Val) (hv : ∀ p x, p ≤ l.length → Later l p → val p = .ok x → val' p = .ok x) (hok : ValOk l val) : ∀ (n p : Nat) (ks : List ByteArray) (vs : List JV) (x : List ByteArray × List JV × Nat), p ≤ l.length → members l val n p ks vs = .ok x → members (l ++ m) val' n p ks vs = .ok x
  | 0, p, ks, vs, x, _, h => by cases h
  | n + 1, p, ks, vs, x, hp, h => by
    rw [members] at h ⊢
    cases hk : key l ks p with
    | error y => rw [hk] at h; cases h
    | ok r =>
      rw [ap_key m l ks p r hk]
      obtain ⟨k, q⟩ := r
      have g0 := (key_fits l ks p hp).ok _ hk
      rw [hk] at h
      simp only at g0 h ⊢
      cases hc : colon l q with
      | error y => rw [hc] at h; cases h
      | ok r =>
        have g1 := (colon_fits l q g0.2).ok _ hc
        rw [hc] at h
        simp only [id] at g1 h
        cases h0 : val r with
        | error y => rw [h0] at h; cases h
        | ok z =>
          obtain ⟨v, t⟩ := z
          have g2 := (hok r g1.2).ok _ h0
          simp only at g2
          rw [ap_colon m l q r hc (by omega)]
          simp only
          rw [h0] at h
          simp only at h
          have f2 := ends_fits l 125 t g2.2
          cases h1 : ends l 125 t with
          | error y => rw [h1] at h; cases h
          | ok z =>
            rw [hv r _ g1.2 (ends_later (by decide) h1 (by omega)) h0]
            obtain ⟨b, u⟩ := z
            simp only
            have g3 := f2.ok _ h1
            simp only at g3
            rw [h1] at h
            cases b
            · simp only at h
              have hr : u < l.length := by
                cases n with
                | zero => cases h
                | succ n =>
                  rw [members] at h
                  cases h3 : key l (ks ++ [k]) u with
                  | error y => rw [h3] at h; cases h
                  | ok z => have := (key_fits l (ks ++ [k]) u g3.2).ok _ h3; omega
              rw [ap_ends m l 125 t u false h1 (fun _ => hr)]
              exact ap_members val val' hv hok n u (ks ++ [k]) (vs ++ [v]) x g3.2 h
            · rw [ap_ends m l 125 t u true h1 (fun e => by cases e)]
              exact h
end
theorem items_more (l : List UInt8) (val : Val) (k : Nat) : ∀ (n p : Nat) (acc : List JV) (x : List JV × Nat), items l val n p acc = .ok x → items l val (n + k) p acc = .ok x
  | 0, p, acc, x, h => by cases h
  | n + 1, p, acc, x, h => by
    rw [show n + 1 + k = (n + k) + 1 by omega, items]
    rw [items] at h
    cases h0 : val p with
    | error y => rw [h0] at h; cases h
    | ok r =>
      obtain ⟨v, q⟩ := r
      rw [h0] at h
      simp only at h ⊢
      cases h1 : ends l 93 q with
      | error y => rw [h1] at h; cases h
      | ok z =>
        obtain ⟨b, r⟩ := z
        rw [h1] at h
        cases b
        · exact items_more l val k n r (acc ++ [v]) x h
        · exact h
theorem members_more (l : List UInt8) (val : Val) (k : Nat) : ∀ (n p : Nat) (ks : List ByteArray) (vs : List JV) (x : List ByteArray × List JV × Nat), members l val n p ks vs = .ok x → members l val (n + k) p ks vs = .ok x
  | 0, p, ks, vs, x, h => by cases h
  | n + 1, p, ks, vs, x, h => by
    rw [show n + 1 + k = (n + k) + 1 by omega, members]
    rw [members] at h
    cases hk : key l ks p with
    | error y => rw [hk] at h; cases h
    | ok r =>
      obtain ⟨d, q⟩ := r
      rw [hk] at h
      simp only at h ⊢
      cases hc : colon l q with
      | error y => rw [hc] at h; cases h
      | ok r =>
        rw [hc] at h
        simp only at h ⊢
        cases h0 : val r with
        | error y => rw [h0] at h; cases h
        | ok z =>
          obtain ⟨v, t⟩ := z
          rw [h0] at h
          simp only at h ⊢
          cases h1 : ends l 125 t with
          | error y => rw [h1] at h; cases h
          | ok z =>
            obtain ⟨b, u⟩ := z
            rw [h1] at h
            cases b
            · exact members_more l val k n u (ks ++ [d]) (vs ++ [v]) x h
            · exact h
theorem ap_list (m l : List UInt8) (val val' : Val) (hv : ∀ p x, p ≤ l.length → Later l p → val p = .ok x → val' p = .ok x) (hok : ValOk l val) (p : Nat) (hp : p < l.length) (x : JV × Nat) (h : list l val p = .ok x) : list (l ++ m) val' p = .ok x := by
  unfold list at h ⊢
  by_cases h1 : l[skip l (p + 1)]? = some 93
  · rw [if_pos h1] at h
    rw [ap_skip m l _ (get_lt h1), if_pos (ap_some m l h1)]; exact h
  · rw [if_neg h1] at h
    have hs := skip_le l (p + 1) hp
    cases hi : items l val (l.length + 1) (skip l (p + 1)) [] with
    | error y => rw [hi] at h; cases h
    | ok r =>
      have hlt : skip l (p + 1) < l.length := by
        have h2 := hi
        rw [items] at h2
        cases h3 : val (skip l (p + 1)) with
        | error y => rw [h3] at h2; cases h2
        | ok z => have := (hok _ hs).ok _ h3; omega
      have h4 := ap_items m l val val' hv hok _ _ [] r hs hi
      have h4 := items_more (l ++ m) val' m.length _ _ _ _ h4
      rw [show l.length + 1 + m.length = (l ++ m).length + 1 by rw [List.length_append]; omega] at h4
      rw [ap_skip m l _ hlt, ap_get m l hlt, if_neg h1, h4]
      rw [hi] at h
      exact h
theorem ap_object (m l : List UInt8) (val val' : Val) (hv : ∀ p x, p ≤ l.length → Later l p → val p = .ok x → val' p = .ok x) (hok : ValOk l val) (p : Nat) (hp : p < l.length) (x : JV × Nat) (h : object l val p = .ok x) : object (l ++ m) val' p = .ok x := by
  unfold object at h ⊢
  by_cases h1 : l[skip l (p + 1)]? = some 125
  · rw [if_pos h1] at h
    rw [ap_skip m l _ (get_lt h1), if_pos (ap_some m l h1)]; exact h
  · rw [if_neg h1] at h
    have hs := skip_le l (p + 1) hp
    cases hi : members l val (l.length + 1) (skip l (p + 1)) [] [] with
    | error y => rw [hi] at h; cases h
    | ok r =>
      have hlt : skip l (p + 1) < l.length := by
        have h2 := hi
        rw [members] at h2
        cases h3 : key l [] (skip l (p + 1)) with
        | error y => rw [h3] at h2; cases h2
        | ok z => have := (key_fits l [] _ hs).ok _ h3; omega
      have h4 := ap_members m l val val' hv hok _ _ [] [] r hs hi
      have h4 := members_more (l ++ m) val' m.length _ _ _ _ _ h4
      rw [show l.length + 1 + m.length = (l ++ m).length + 1 by rw [List.length_append]; omega] at h4
      rw [ap_skip m l _ hlt, ap_get m l hlt, if_neg h1, h4]
      rw [hi] at h
      exact h
theorem ap_value (m l : List UInt8) (hm : ∀ c t, m = c :: t → Num.sgn c.toNat = 6) : ∀ (d p : Nat) (x : JV × Nat), p ≤ l.length → value l d p = .ok x → value (l ++ m) d p = .ok x
  | 0, p, x, _, h => by
    rw [value] at h
    cases hc : l[p]? with
    | none => rw [hc] at h; cases h
    | some c => rw [hc] at h; cases h
  | d + 1, p, x, hp, h => by
    rw [value] at h ⊢
    cases hc : l[p]? with
    | none => rw [hc] at h; cases h
    | some c =>
      have hlt := get_lt hc
      rw [ap_some m l hc]
      rw [hc] at h
      simp only at h ⊢
      split at h
      · cases h
      · exact ap_text m l p hp x h
      · exact ap_number m l hm p hp x h
      · exact ap_object m l _ _ (fun p x hp _ => ap_value m l hm d p x hp) (value_fits l d) p hlt x h
      · exact ap_list m l _ _ (fun p x hp _ => ap_value m l hm d p x hp) (value_fits l d) p hlt x h
      · exact ap_wordV m l _ _ p x h
      · exact ap_wordV m l _ _ p x h
      · exact ap_wordV m l _ _ p x h
theorem blank_sgn {c : UInt8} (h : blankJ c = true) : Num.sgn c.toNat = 6 := by
  simp only [blankJ, Bool.or_eq_true, beq_iff_eq] at h
  rcases h with ((rfl | rfl) | rfl) | rfl <;> decide
/-- Blanks behind. -/
theorem parse_behind (m l : List UInt8) (hm : ∀ c ∈ m, blankJ c = true) (hs : (l ++ m).length ≤ 1048576) (h : (parse l).2.2 = 0) : parse (l ++ m) = parse l ∧ (parse l).2.1 = -1 := by
  have hl : ¬ 1048576 < l.length := by rw [List.length_append] at hs; omega
  have hk := skip_le l 0 (Nat.zero_le _)
  have f := value_fits l 64 (skip l 0) hk
  unfold parse at h ⊢
  rw [if_neg hl] at h ⊢
  rw [if_neg (by omega)]
  cases hv : value l 64 (skip l 0) with
  | error y =>
    rw [hv] at h
    exact absurd h (f.err _ hv).2
  | ok r =>
    obtain ⟨v, q⟩ := r
    have g := f.ok _ hv
    simp only at g
    rw [hv] at h
    simp only at h
    by_cases hq : skip l q < l.length
    · rw [if_pos hq] at h; simp at h
    · have h0 : skip (l ++ m) 0 = skip l 0 := ap_skip m l 0 (by omega)
      have hv2 := ap_value m l (fun c t e => blank_sgn (hm c (by rw [e]; simp))) 64 _ _ hk hv
      have hq2 : ¬ skip (l ++ m) q < (l ++ m).length := by
        have hqe : skip l q = l.length := by have := skip_le l q g.2; omega
        unfold skip at hqe ⊢
        rw [ap_drop m l g.2, List.takeWhile_append, if_pos (by rw [List.length_drop]; omega)]
        have : m.takeWhile blankJ = m := by
          have := List.takeWhile_append_of_pos (p := blankJ) (l₁ := m) (l₂ := []) hm
          simpa using this
        rw [this, List.length_append, List.length_append, List.length_drop]
        omega
      rw [h0, hv2]
      simp only
      rw [if_neg hq, if_neg hq2]
      exact ⟨rfl, rfl⟩
end Go.Proofs.YtbfkgddhpabioaaGreatDoor.Jdec
