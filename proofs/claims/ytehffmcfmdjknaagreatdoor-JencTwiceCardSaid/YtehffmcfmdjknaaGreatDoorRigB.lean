/- How deep brackets stand, in plain Lean; and how deep what is read is. -/
import Derived.Test.YtehffmcfmdjknaaGreatDoorJdecU
namespace Go.Proofs.YtehffmcfmdjknaaGreatDoor.Jdec
set_option linter.unusedVariables false
set_option linter.unusedSimpArgs false

/-- How many brackets are open at most, from a place on: whether in a quoted text, how many are open, how many were at most. -/
def deep : List UInt8 → Bool → Nat → Nat → Nat
  | [], _, _, m => m
  | [c], true, _, m => m
  | c :: d :: t, true, o, m => if c = 92 then deep t true o m else if c = 34 then deep (d :: t) false o m else deep (d :: t) true o m
  | c :: t, false, o, m =>
    if c = 34 then deep t true o m
    else if c = 91 ∨ c = 123 then deep t false (o + 1) (max m (o + 1))
    else if c = 93 ∨ c = 125 then (if o = 0 then m else deep t false (o - 1) m)
    else deep t false o m
theorem deep_nil (q : Bool) (o m : Nat) : deep [] q o m = m := by cases q <;> rfl
theorem deep_skip (t : List UInt8) (o m : Nat) : deep (92 :: t) true o m = deep (t.drop 1) true o m := by
  cases t with
  | nil => simp [deep]
  | cons d t => simp [deep]
theorem deep_end (t : List UInt8) (o m : Nat) : deep (34 :: t) true o m = deep t false o m := by
  cases t with
  | nil => simp [deep]
  | cons d t => simp [deep]
theorem deep_in (c : UInt8) (t : List UInt8) (o m : Nat) (h1 : c ≠ 92) (h2 : c ≠ 34) : deep (c :: t) true o m = deep t true o m := by
  cases t with
  | nil => simp [deep]
  | cons d t => simp [deep, h1, h2]
theorem deep_quo (t : List UInt8) (o m : Nat) : deep (34 :: t) false o m = deep t true o m := by simp [deep]
theorem deep_open (c : UInt8) (t : List UInt8) (o m : Nat) (h : c = 91 ∨ c = 123) : deep (c :: t) false o m = deep t false (o + 1) (max m (o + 1)) := by
  rcases h with rfl | rfl <;> simp [deep]
theorem deep_shut (c : UInt8) (t : List UInt8) (o m : Nat) (h : c = 93 ∨ c = 125) : deep (c :: t) false o m = if o = 0 then m else deep t false (o - 1) m := by
  rcases h with rfl | rfl <;> simp [deep]
/-- A byte that stands for nothing where no text is quoted. -/
def Dull (c : UInt8) : Prop := c ≠ 34 ∧ c ≠ 91 ∧ c ≠ 123 ∧ c ≠ 93 ∧ c ≠ 125
theorem deep_dull (c : UInt8) (t : List UInt8) (o m : Nat) (h : Dull c) : deep (c :: t) false o m = deep t false o m := by
  obtain ⟨h1, h2, h3, h4, h5⟩ := h
  simp [deep, h1, h2, h3, h4, h5]

/-- .. over many. -/
theorem deep_dulls : ∀ (n : Nat) (l : List UInt8) (o m : Nat), n ≤ l.length → (∀ j c, j < n → l[j]? = some c → Dull c) → deep l false o m = deep (l.drop n) false o m
  | 0, l, o, m, _, _ => by rw [List.drop_zero]
  | n + 1, [], o, m, h, _ => by simp at h
  | n + 1, c :: t, o, m, h, hd => by
    rw [deep_dull c t o m (hd 0 c (by omega) rfl), List.drop_succ_cons]
    exact deep_dulls n t o m (by simpa using h) (fun j d hj hg => hd (j + 1) d (by omega) (by simpa using hg))
theorem deep_ins : ∀ (n : Nat) (l : List UInt8) (o m : Nat), n ≤ l.length → (∀ j c, j < n → l[j]? = some c → c ≠ 92 ∧ c ≠ 34) → deep l true o m = deep (l.drop n) true o m
  | 0, l, o, m, _, _ => by rw [List.drop_zero]
  | n + 1, [], o, m, h, _ => by simp at h
  | n + 1, c :: t, o, m, h, hd => by
    have := hd 0 c (by omega) rfl
    rw [deep_in c t o m this.1 this.2, List.drop_succ_cons]
    exact deep_ins n t o m (by simpa using h) (fun j d hj hg => hd (j + 1) d (by omega) (by simpa using hg))
/-- From a place on. -/
def deepAt (l : List UInt8) (p : Nat) (q : Bool) (o m : Nat) : Nat := deep (l.drop p) q o m
theorem at_cons {l : List UInt8} {p : Nat} {c : UInt8} (h : l[p]? = some c) : l.drop p = c :: l.drop (p + 1) := by
  obtain ⟨hp, rfl⟩ := List.getElem?_eq_some_iff.1 h
  exact List.drop_eq_getElem_cons hp
theorem at_dulls (l : List UInt8) (p q : Nat) (o m : Nat) (hpq : p ≤ q) (hq : q ≤ l.length) (h : ∀ j c, p ≤ j → j < q → l[j]? = some c → Dull c) : deepAt l p false o m = deepAt l q false o m := by
  unfold deepAt
  rw [deep_dulls (q - p) (l.drop p) o m (by rw [List.length_drop]; omega) (fun j c hj hg => h (p + j) c (by omega) (by omega) (by rw [List.getElem?_drop] at hg; exact hg)), List.drop_drop]
  congr 2; omega
theorem at_open {l : List UInt8} {p : Nat} {c : UInt8} (o m : Nat) (h : l[p]? = some c) (hc : c = 91 ∨ c = 123) : deepAt l p false o m = deepAt l (p + 1) false (o + 1) (max m (o + 1)) := by
  unfold deepAt; rw [at_cons h, deep_open _ _ _ _ hc]
theorem at_shut {l : List UInt8} {p : Nat} {c : UInt8} (o m : Nat) (h : l[p]? = some c) (hc : c = 93 ∨ c = 125) : deepAt l p false (o + 1) m = deepAt l (p + 1) false o m := by
  unfold deepAt; rw [at_cons h, deep_shut _ _ _ _ hc, if_neg (by omega)]; rfl
theorem at_dull {l : List UInt8} {p : Nat} {c : UInt8} (o m : Nat) (h : l[p]? = some c) (hc : Dull c) : deepAt l p false o m = deepAt l (p + 1) false o m := by
  unfold deepAt; rw [at_cons h, deep_dull _ _ _ _ hc]

/-- Blanks are dull. -/
theorem blank_dull {c : UInt8} (h : blankJ c = true) : Dull c := by
  unfold blankJ at h
  simp only [Bool.or_eq_true, beq_iff_eq] at h
  unfold Dull
  rcases h with ((rfl | rfl) | rfl) | rfl <;> decide
theorem skip_blanks (l : List UInt8) (p : Nat) : ∀ j c, p ≤ j → j < skip l p → l[j]? = some c → blankJ c = true := by
  have key : ∀ (t : List UInt8) (i : Nat) (c : UInt8), i < (t.takeWhile blankJ).length → t[i]? = some c → blankJ c = true := by
    intro t
    induction t with
    | nil => intro i c h; simp at h
    | cons d t ih =>
      intro i c h hg
      rw [List.takeWhile_cons] at h
      by_cases hd : blankJ d = true
      · rw [if_pos hd] at h
        cases i with
        | zero => simp at hg; rw [← hg]; exact hd
        | succ i => exact ih i c (by simpa using h) (by simpa using hg)
      · rw [if_neg hd] at h; simp at h
  intro j c h1 h2 hg
  unfold skip at h2
  exact key (l.drop p) (j - p) c (by omega) (by rw [List.getElem?_drop, show p + (j - p) = j by omega]; exact hg)
theorem at_skip (l : List UInt8) (p : Nat) (o m : Nat) (hp : p ≤ l.length) : deepAt l p false o m = deepAt l (skip l p) false o m :=
  at_dulls l p _ o m (skip_ge l p) (skip_le l p hp) (fun j c h1 h2 hg => blank_dull (skip_blanks l p j c h1 h2 hg))
/-- A word of dull bytes. -/
theorem at_word (l : List UInt8) : ∀ (w : List UInt8) (p q : Nat) (o m : Nat), word l w p = .ok q → (∀ c ∈ w, Dull c) → deepAt l p false o m = deepAt l q false o m
  | [], p, q, o, m, h, _ => by injection h with h; rw [h]
  | c :: t, p, q, o, m, h, hd => by
    unfold word at h
    by_cases hc : l[p]? = some c
    · rw [if_pos hc] at h
      rw [at_dull o m hc (hd c (by simp))]
      exact at_word l t (p + 1) q o m h (fun c hc => hd c (by simp [hc]))
    · rw [if_neg hc] at h; cases h
/-- A number's bytes are dull. -/
theorem sgn_dull {c : UInt8} (h : Num.sgn c.toNat ≠ 6) : Dull c := by
  unfold Dull
  refine ⟨?_, ?_, ?_, ?_, ?_⟩ <;> (rintro rfl; exact h (by decide))
theorem step_six : ∀ st, st < 9 → Num.step st 6 = 9 := by decide
theorem from_sgn : ∀ (l : List UInt8) (st i k : Nat), st < 9 → k ≤ i → ∀ j c, i + j < Num.from_ st i k l → l[j]? = some c → Num.sgn c.toNat ≠ 6
  | [], st, i, k, _, hk, j, c, h, hg => by simp at hg
  | d :: t, st, i, k, hst, hk, j, c, h, hg => by
    unfold Num.from_ at h
    have hs := Num.step_le st hst (Num.sgn d.toNat) (Num.sgn_lt _)
    by_cases h9 : Num.step st (Num.sgn d.toNat) = 9
    · rw [if_pos h9] at h; omega
    · have h6 : Num.sgn d.toNat ≠ 6 := fun e => h9 (by rw [e]; exact step_six st hst)
      rw [if_neg h9] at h
      cases j with
      | zero => simp at hg; rw [← hg]; exact h6
      | succ j =>
        simp only [List.getElem?_cons_succ] at hg
        exact from_sgn t (Num.step st (Num.sgn d.toNat)) (i + 1) (if Num.whole (Num.step st (Num.sgn d.toNat)) = true then i + 1 else k) (by omega) (by split <;> omega) j c (by omega) hg
theorem at_number (l : List UInt8) (p : Nat) (x : JV × Nat) (o m : Nat) (hp : p ≤ l.length) (h : number l p = .ok x) : deepAt l p false o m = deepAt l x.2 false o m := by
  have hn : x.2 = p + Num.scan (l.drop p) := by
    unfold number at h
    split at h
    · cases h
    · split at h
      · cases h
      · injection h with h; rw [← h]
  have hl := Num.scan_le (l.drop p)
  rw [List.length_drop] at hl
  rw [hn]
  refine at_dulls l p _ o m (by omega) (by omega) (fun j c h1 h2 hg => sgn_dull ?_)
  refine from_sgn (l.drop p) 0 0 0 (by decide) (Nat.le_refl _) (j - p) c (by unfold Num.scan at h2; omega) ?_
  rw [List.getElem?_drop, show p + (j - p) = j by omega]; exact hg

/-- Hexadecimal digits. -/
theorem four_hex : ∀ (k n : Nat) (l : List UInt8) (r : Nat), Quote.four k n l = .ok r → ∀ j c, j < k → l[j]? = some c → c ≠ 92 ∧ c ≠ 34
  | 0, _, _, _, _, j, c, hj, _ => by omega
  | k + 1, n, [], r, h, j, c, hj, hg => by simp at hg
  | k + 1, n, d :: l, r, h, j, c, hj, hg => by
    unfold Quote.four at h
    split at h
    · cases h
    · rename_i e he
      cases j with
      | zero =>
        simp at hg
        subst hg
        have h92 : Quote.hexv 92 = none := by decide
        have h34 : Quote.hexv 34 = none := by decide
        constructor
        · rintro rfl
          rw [show (92 : UInt8).toNat = 92 from rfl, h92] at he; cases he
        · rintro rfl
          rw [show (34 : UInt8).toNat = 34 from rfl, h34] at he; cases he
      | succ j => exact four_hex k _ l r h j c (by omega) (by simpa using hg)
theorem byt_cons {l : List UInt8} {n : Nat} (h0 : l.length ≠ 0) (h : Utf.byt l 0 = n) (hn : n < 256) : l = UInt8.ofNat n :: l.drop 1 := by
  cases l with
  | nil => simp at h0
  | cons c t =>
    unfold Utf.byt at h
    simp only [List.getD_cons_zero] at h
    rw [List.drop_succ_cons, List.drop_zero, ← h, UInt8.ofNat_toNat]
theorem byt_at {l : List UInt8} {i n : Nat} (h0 : i < l.length) (h : Utf.byt l i = n) (hn : n < 256) : l.drop i = UInt8.ofNat n :: l.drop (i + 1) := by
  have := byt_cons (l := l.drop i) (n := n) (by rw [List.length_drop]; omega) (by unfold Utf.byt at h ⊢; rw [← h]; simp [List.getD_eq_getElem?_getD]) hn
  rw [List.drop_drop] at this
  exact this
theorem number_deep {u o : List UInt8} {n : Nat} (a m : Nat) (h : Quote.number u = .ok (o, n)) : deep u true a m = deep (u.drop n) true a m := by
  unfold Quote.number at h
  cases h4 : Quote.four 4 0 u with
  | error e => rw [h4] at h; cases h
  | ok c =>
    have hl := Quote.four_len _ _ _ _ h4
    have hd := deep_ins 4 u a m hl (four_hex 4 0 u c h4)
    rw [h4] at h
    simp only [] at h
    by_cases c1 : 56320 ≤ c ∧ c ≤ 57343
    · rw [if_pos c1] at h; cases h
    rw [if_neg c1] at h
    by_cases c2 : 55296 ≤ c ∧ c ≤ 56319
    · rw [if_pos c2] at h
      by_cases c3 : u.length ≤ 4
      · rw [if_pos c3] at h; cases h
      rw [if_neg c3] at h
      have h4l : 4 < u.length := Nat.lt_of_not_le c3
      by_cases c4 : Utf.byt u 4 = 92
      · rw [if_neg (by rw [c4]; simp)] at h
        by_cases c5 : u.length ≤ 5
        · rw [if_pos c5] at h; cases h
        rw [if_neg c5] at h
        split at h
        · cases h
        cases h6 : Quote.four 4 0 (u.drop 6) with
        | error e => rw [h6] at h; cases h
        | ok d =>
          have hl6 := Quote.four_len _ _ _ _ h6
          have hd6 := deep_ins 4 (u.drop 6) a m hl6 (four_hex 4 0 _ d h6)
          rw [h6] at h
          simp only [] at h
          split at h
          · cases h
          · have h2 := (Prod.mk.inj (Except.ok.inj h)).2
            clear h c1 c2
            subst h2
            rw [hd, byt_at h4l c4 (by decide), show (UInt8.ofNat 92) = 92 from rfl, deep_skip, List.drop_drop, hd6, List.drop_drop]
      · rw [if_pos c4] at h; cases h
    · rw [if_neg c2] at h
      injection h with h; injection h with h1 h2
      subst h2
      exact hd
theorem escape_deep {u o : List UInt8} {n : Nat} (a m : Nat) (h : Quote.escape u = .ok (o, n)) : deep (u.drop 1) true a m = deep (u.drop n) true a m := by
  unfold Quote.escape at h
  have one_ : ∀ {x : List UInt8}, (Except.ok (x, 1) : Except Nat (List UInt8 × Nat)) = Except.ok (o, n) → n = 1 := fun h => by
    injection h with h; injection h with _ h; omega
  have fin : n = 1 → deep (u.drop 1) true a m = deep (u.drop n) true a m := fun e => by rw [e]
  split at h
  · cases h
  split at h
  · exact fin (one_ h)
  split at h
  · exact fin (one_ h)
  split at h
  · exact fin (one_ h)
  split at h
  · exact fin (one_ h)
  split at h
  · exact fin (one_ h)
  split at h
  · exact fin (one_ h)
  split at h
  · cases hn : Quote.number (u.drop 1) with
    | error e => rw [hn] at h; cases h
    | ok x =>
      obtain ⟨o', k⟩ := x
      rw [hn] at h
      simp only [] at h
      injection h with h; injection h with _ h
      subst h
      rw [number_deep a m hn, List.drop_drop, Nat.add_comm]
  · cases h
theorem part_deep {l o : List UInt8} {k : Nat} (a m : Nat) (h : Quote.part l = .ok (o, k, true)) : deep l true a m = deep (l.drop k) true a m := by
  unfold Quote.part at h
  by_cases h0 : l.length = 0
  · rw [if_pos h0] at h; cases h
  rw [if_neg h0] at h
  by_cases h1 : Utf.byt l 0 = 34
  · rw [if_pos h1] at h; injection h with h; injection h with _ h; injection h with _ h; cases h
  rw [if_neg h1] at h
  by_cases h2 : Utf.byt l 0 = 92
  · rw [if_pos h2] at h
    have hc := byt_cons h0 h2 (by decide)
    rw [hc, show (UInt8.ofNat 92) = 92 from rfl, deep_skip]
    cases he : Quote.escape (l.drop 1) with
    | error e => rw [he] at h; cases h
    | ok x =>
      obtain ⟨o', n⟩ := x
      rw [he] at h
      simp only [] at h
      injection h with h; injection h with _ h; injection h with h _
      subst h
      rw [escape_deep a m he]
      rfl
  rw [if_neg h2] at h
  split at h
  · cases h
  split at h
  · rename_i h32 h128
    injection h with h; injection h with _ h; injection h with h _
    subst h
    have hc := byt_cons h0 rfl (Utf.byt_lt l 0)
    generalize hn : Utf.byt l 0 = n at *
    rw [hc, deep_in _ _ _ _ (fun e => h2 ?_) (fun e => h1 ?_)]
    · rfl
    · have := congrArg UInt8.toNat e
      rw [UInt8.toNat_ofNat'] at this
      have h92 : (92 : UInt8).toNat = 92 := rfl
      omega
    · have := congrArg UInt8.toNat e
      rw [UInt8.toNat_ofNat'] at this
      have h34 : (34 : UInt8).toNat = 34 := rfl
      omega
  · rename_i h32 h128
    split at h
    · cases h
    rename_i hz
    injection h with h; injection h with _ h; injection h with h _
    have hp := (Quote.one_put l hz).1
    have hs := Utf.one_size_le l
    subst h
    rw [hp]
    refine deep_ins _ l a m hs.1 (fun j c hj hg => ?_)
    have hb : 128 ≤ c.toNat := by
      have hcj : Utf.byt l j = c.toNat := by unfold Utf.byt; rw [List.getD_eq_getElem?_getD, hg]; rfl
      rw [← hcj]
      unfold Utf.one at hj
      split at hj
      · rename_i hst
        simp only [Utf.stands, Bool.and_eq_true, decide_eq_true_eq] at hst
        have hco := hst.1.1.2
        simp only at hj
        unfold Utf.conts Utf.cont at hco
        have h4 := Utf.sizeAt_le (Utf.byt l 0)
        generalize Utf.sizeAt (Utf.byt l 0) = z at *
        rcases (show j = 0 ∨ j = 1 ∨ j = 2 ∨ j = 3 by omega) with rfl | rfl | rfl | rfl
        · omega
        · rw [if_neg (by omega)] at hco
          split at hco
          · simp only [Bool.and_eq_true, decide_eq_true_eq] at hco; omega
          · split at hco
            · simp only [Bool.and_eq_true, decide_eq_true_eq] at hco; omega
            · simp only [Bool.and_eq_true, decide_eq_true_eq] at hco; omega
        · rw [if_neg (by omega), if_neg (by omega)] at hco
          split at hco
          · simp only [Bool.and_eq_true, decide_eq_true_eq] at hco; omega
          · simp only [Bool.and_eq_true, decide_eq_true_eq] at hco; omega
        · rw [if_neg (by omega), if_neg (by omega), if_neg (by omega)] at hco
          simp only [Bool.and_eq_true, decide_eq_true_eq] at hco; omega
      · simp at hj
    constructor <;> (rintro rfl; revert hb; decide)
theorem parts_deep : ∀ (n : Nat) (l : List UInt8) (p : Nat) (out o : List UInt8) (k a m : Nat), Quote.parts n l p out = .ok (o, k) → deep l true a m = deep (l.drop (k - p)) false a m
  | 0, _, _, _, _, _, _, _, h => by simp [Quote.parts] at h
  | n + 1, l, p, out, o, k, a, m, h => by
    unfold Quote.parts at h
    cases hp : Quote.part l with
    | error e => rw [hp] at h; cases h
    | ok x =>
      obtain ⟨o', j, g⟩ := x
      rw [hp] at h
      cases g with
      | true =>
        simp only [] at h
        have hs := Quote.parts_size _ _ _ _ _ _ h
        rw [part_deep a m hp, parts_deep n _ _ _ _ _ a m h, List.drop_drop]
        congr 2; omega
      | false =>
        simp only [] at h
        injection h with h; injection h with _ h
        subst h
        rw [Nat.add_sub_cancel_left]
        unfold Quote.part at hp
        by_cases h0 : l.length = 0
        · rw [if_pos h0] at hp; cases hp
        rw [if_neg h0] at hp
        by_cases h1 : Utf.byt l 0 = 34
        · rw [if_pos h1] at hp
          injection hp with hp; injection hp with _ hp; injection hp with hp _
          subst hp
          have hc := byt_cons h0 h1 (by decide)
          rw [hc]
          exact deep_end _ a m
        · rw [if_neg h1] at hp
          exfalso
          split at hp
          · split at hp
            · cases hp
            · injection hp with hp; injection hp with _ hp; injection hp with _ hp; cases hp
          · split at hp
            · cases hp
            · split at hp
              · injection hp with hp; injection hp with _ hp; injection hp with _ hp; cases hp
              · split at hp
                · cases hp
                · injection hp with hp; injection hp with _ hp; injection hp with _ hp; cases hp
theorem at_quoted (l : List UInt8) (p : Nat) (x : ByteArray × Nat) (o m : Nat) (hp : p ≤ l.length) (h : quoted l p = .ok x) : deepAt l p false o m = deepAt l x.2 false o m := by
  unfold quoted at h
  cases hs : Quote.scan (l.drop p) with
  | error e => rw [hs] at h; cases h
  | ok y =>
    obtain ⟨s, n⟩ := y
    rw [hs] at h
    injection h with h
    subst h
    have hf := quote_fits hs
    unfold Quote.scan at hs
    by_cases h0 : (l.drop p).length = 0
    · rw [if_pos h0] at hs; cases hs
    rw [if_neg h0] at hs
    by_cases h1 : Utf.byt (l.drop p) 0 = 34
    · rw [if_neg (by rw [h1]; simp)] at hs
      unfold deepAt
      have hc := byt_cons h0 h1 (by decide)
      have hd := parts_deep _ _ _ _ _ _ o m hs
      rw [hc, show (UInt8.ofNat 34) = 34 from rfl, deep_quo, hd, List.drop_drop, List.drop_drop]
      congr 2
      omega
    · rw [if_pos h1] at hs; cases hs
end Go.Proofs.YtehffmcfmdjknaaGreatDoor.Jdec
/- How deep what is read is: its brackets', or one more. -/
namespace Go.Proofs.YtehffmcfmdjknaaGreatDoor.Jdec
set_option linter.unusedVariables false
set_option linter.unusedSimpArgs false

mutual
/-- How deep a value is. -/
def JV.deepN : JV → Nat
  | .mk k _ _ _ _ _ _ kids => (if k = 5 ∨ k = 6 then deepNs kids else 0) + 1
def deepNs : List JV → Nat
  | [] => 0
  | v :: t => max v.deepN (deepNs t)
end
mutual
/-- How many of its brackets are open at the same time at most. -/
def JV.brk : JV → Nat
  | .mk k _ _ _ _ _ _ kids => if k = 5 ∨ k = 6 then brks kids + 1 else 0
def brks : List JV → Nat
  | [] => 0
  | v :: t => max v.brk (brks t)
end
theorem deepNs_cons (v : JV) (t : List JV) : deepNs (v :: t) = max v.deepN (deepNs t) := by rw [deepNs]
theorem brks_cons (v : JV) (t : List JV) : brks (v :: t) = max v.brk (brks t) := by rw [brks]
theorem brks_nil : brks [] = 0 := by rw [brks]
theorem deepNs_nil : deepNs [] = 0 := by rw [deepNs]
theorem list_n (ks : List JV) : (listOf ks).deepN = deepNs ks + 1 ∧ (listOf ks).brk = brks ks + 1 := by simp [listOf, JV.deepN, JV.brk]
theorem object_n (keys : List ByteArray) (ks : List JV) : (objectOf keys ks).deepN = deepNs ks + 1 ∧ (objectOf keys ks).brk = brks ks + 1 := by simp [objectOf, JV.deepN, JV.brk]
/-- As deep as its brackets, or one more. -/
def DD (d : Nat) (v : JV) : Prop := v.deepN ≤ d ∧ (v.deepN = v.brk ∨ v.deepN = v.brk + 1)
theorem dd_all {d : Nat} : ∀ ks : List JV, (∀ v ∈ ks, DD d v) → deepNs ks ≤ d ∧ (deepNs ks = brks ks ∨ deepNs ks = brks ks + 1)
  | [], _ => by simp [deepNs, brks]
  | v :: t, h => by
    have h1 := h v (by simp)
    have h2 := dd_all t (fun u hu => h u (by simp [hu]))
    unfold DD at h1
    rw [deepNs_cons, brks_cons]
    omega
theorem dd_list {d : Nat} {ks : List JV} (h : ∀ v ∈ ks, DD d v) : DD (d + 1) (listOf ks) ∧ (listOf ks).brk = brks ks + 1 := by
  have := dd_all ks h
  obtain ⟨h1, h2⟩ := list_n ks
  unfold DD
  rw [h1, h2]
  exact ⟨⟨by omega, by omega⟩, rfl⟩
theorem dd_object {d : Nat} {keys : List ByteArray} {ks : List JV} (h : ∀ v ∈ ks, DD d v) : DD (d + 1) (objectOf keys ks) ∧ (objectOf keys ks).brk = brks ks + 1 := by
  have := dd_all ks h
  obtain ⟨h1, h2⟩ := object_n keys ks
  unfold DD
  rw [h1, h2]
  exact ⟨⟨by omega, by omega⟩, rfl⟩
theorem dd_flat {d : Nat} {v : JV} (h1 : v.deepN = 1) (h2 : v.brk = 0) : DD (d + 1) v := ⟨by omega, by omega⟩

/-- What a way to read values tells of depth. -/
def PV (l : List UInt8) (d : Nat) (val : Val) : Prop := ∀ p v q o m, p ≤ l.length → val p = .ok (v, q) → o ≤ m → deepAt l p false o m = deepAt l q false o (max m (o + v.brk)) ∧ DD d v
theorem ends_shut {l : List UInt8} {z : UInt8} {p u o m : Nat} (hz : z = 93 ∨ z = 125) (hp : p ≤ l.length) (h : ends l z p = .ok (true, u)) : deepAt l p false (o + 1) m = deepAt l u false o m := by
  unfold ends at h
  split at h
  · rename_i hc
    injection h with h; injection h with _ h
    rw [at_skip l p (o + 1) m hp, at_shut o m hc hz, h]
  · split at h
    · injection h with h; injection h with h _; cases h
    · cases h
theorem ends_more {l : List UInt8} {z : UInt8} {p u o m : Nat} (hp : p ≤ l.length) (h : ends l z p = .ok (false, u)) : deepAt l p false o m = deepAt l u false o m := by
  unfold ends at h
  split at h
  · injection h with h; injection h with h _; cases h
  · split at h
    · rename_i _ hc
      injection h with h; injection h with _ h
      have hlt := get_lt hc
      rw [at_skip l p o m hp, at_dull o m hc (by unfold Dull; decide), at_skip l _ o m hlt, h]
    · cases h
theorem colon_deep {l : List UInt8} {p u o m : Nat} (hp : p ≤ l.length) (h : colon l p = .ok u) : deepAt l p false o m = deepAt l u false o m := by
  unfold colon at h
  split at h
  · rename_i hc
    injection h with h
    have hlt := get_lt hc
    rw [at_skip l p o m hp, at_dull o m hc (by unfold Dull; decide), at_skip l _ o m hlt, h]
  · cases h
theorem key_deep {l : List UInt8} {ks : List ByteArray} {p : Nat} {x : ByteArray × Nat} {o m : Nat} (hp : p ≤ l.length) (h : key l ks p = .ok x) : deepAt l p false o m = deepAt l x.2 false o m := by
  unfold key at h
  split at h
  · cases hq : quoted l p with
    | error y => rw [hq] at h; cases h
    | ok z =>
      obtain ⟨k, q⟩ := z
      rw [hq] at h
      simp only [] at h
      split at h
      · cases h
      · injection h with h
        subst h
        exact at_quoted l p (k, q) o m hp hq
  · cases h
theorem items_deep (l : List UInt8) (d : Nat) (val : Val) (hv : ValOk l val) (hd : PV l d val) : ∀ (n p : Nat) (acc vs : List JV) (r o m : Nat), items l val n p acc = .ok (vs, r) → p ≤ l.length → o + 1 ≤ m →
    ∃ ks, vs = acc ++ ks ∧ deepAt l p false (o + 1) m = deepAt l r false o (max m (o + 1 + brks ks)) ∧ ∀ v ∈ ks, DD d v
  | 0, p, acc, vs, r, o, m, h, _, _ => by cases h
  | n + 1, p, acc, vs, r, o, m, h, hp, hm => by
    unfold items at h
    cases hx : val p with
    | error y => rw [hx] at h; cases h
    | ok z =>
      obtain ⟨v, q⟩ := z
      rw [hx] at h
      simp only [] at h
      have hq := ((hv p hp).ok _ hx).2
      simp only at hq
      obtain ⟨h1, h2⟩ := hd p v q (o + 1) m hp hx hm
      cases he : ends l 93 q with
      | error y => rw [he] at h; cases h
      | ok y =>
        obtain ⟨b, u⟩ := y
        rw [he] at h
        cases b
        · simp only [] at h
          have hu := ((ends_fits l 93 q hq).ok _ he).2
          simp only at hu
          obtain ⟨ks, e1, e2, e3⟩ := items_deep l d val hv hd n u (acc ++ [v]) vs r o (max m (o + 1 + v.brk)) h hu (by omega)
          refine ⟨v :: ks, by rw [e1]; simp, ?_, fun x hx => ?_⟩
          · rw [h1, ends_more hq he, e2]
            rw [brks_cons]
            congr 1; omega
          · rcases List.mem_cons.1 hx with rfl | hx
            · exact h2
            · exact e3 x hx
        · simp only [] at h
          injection h with h; injection h with ha hb
          subst ha hb
          refine ⟨[v], rfl, ?_, fun x hx => by rw [List.mem_singleton.1 hx]; exact h2⟩
          rw [h1, ends_shut (.inl rfl) hq he]
          rw [brks_cons, brks_nil]
          congr 1; omega
theorem members_deep (l : List UInt8) (d : Nat) (val : Val) (hv : ValOk l val) (hd : PV l d val) : ∀ (n p : Nat) (ks0 : List ByteArray) (acc : List JV) (keys : List ByteArray) (vs : List JV) (r o m : Nat), members l val n p ks0 acc = .ok (keys, vs, r) → p ≤ l.length → o + 1 ≤ m →
    ∃ ks, vs = acc ++ ks ∧ deepAt l p false (o + 1) m = deepAt l r false o (max m (o + 1 + brks ks)) ∧ ∀ v ∈ ks, DD d v
  | 0, p, ks0, acc, keys, vs, r, o, m, h, _, _ => by cases h
  | n + 1, p, ks0, acc, keys, vs, r, o, m, h, hp, hm => by
    unfold members at h
    cases hk : key l ks0 p with
    | error y => rw [hk] at h; cases h
    | ok zk =>
      obtain ⟨k, q0⟩ := zk
      rw [hk] at h
      simp only [] at h
      have hq0 := ((key_fits l ks0 p hp).ok _ hk).2
      simp only at hq0
      have d0 := key_deep (o := o + 1) (m := m) hp hk
      simp only at d0
      cases hc : colon l q0 with
      | error y => rw [hc] at h; cases h
      | ok p1 =>
        rw [hc] at h
        simp only [] at h
        have hp1 := ((colon_fits l q0 hq0).ok _ hc).2
        simp only [id] at hp1
        have d1 := colon_deep (o := o + 1) (m := m) hq0 hc
        cases hx : val p1 with
        | error y => rw [hx] at h; cases h
        | ok z =>
          obtain ⟨v, q⟩ := z
          rw [hx] at h
          simp only [] at h
          have hq := ((hv p1 hp1).ok _ hx).2
          simp only at hq
          obtain ⟨h1, h2⟩ := hd p1 v q (o + 1) m hp1 hx hm
          cases he : ends l 125 q with
          | error y => rw [he] at h; cases h
          | ok y =>
            obtain ⟨b, u⟩ := y
            rw [he] at h
            cases b
            · simp only [] at h
              have hu := ((ends_fits l 125 q hq).ok _ he).2
              simp only at hu
              obtain ⟨ks, e1, e2, e3⟩ := members_deep l d val hv hd n u (ks0 ++ [k]) (acc ++ [v]) keys vs r o (max m (o + 1 + v.brk)) h hu (by omega)
              refine ⟨v :: ks, by rw [e1]; simp, ?_, fun x hx => ?_⟩
              · rw [d0, d1, h1, ends_more hq he, e2]
                rw [brks_cons]
                congr 1; omega
              · rcases List.mem_cons.1 hx with rfl | hx
                · exact h2
                · exact e3 x hx
            · simp only [] at h
              injection h with h; injection h with ha h; injection h with hb hc
              subst ha hb hc
              refine ⟨[v], rfl, ?_, fun x hx => by rw [List.mem_singleton.1 hx]; exact h2⟩
              rw [d0, d1, h1, ends_shut (.inr rfl) hq he]
              rw [brks_cons, brks_nil]
              congr 1; omega
theorem list_deep (l : List UInt8) (d : Nat) (val : Val) (hv : ValOk l val) (hd : PV l d val) (p : Nat) (v : JV) (q o m : Nat) (hc : l[p]? = some 91) (h : list l val p = .ok (v, q)) (hm : o ≤ m) : deepAt l p false o m = deepAt l q false o (max m (o + v.brk)) ∧ DD (d + 1) v := by
  have hp := get_lt hc
  rw [at_open o m hc (.inl rfl), at_skip l (p + 1) _ _ hp]
  unfold list at h
  split at h
  · rename_i h93
    injection h with h; injection h with h1 h2
    subst h1 h2
    have := dd_list (d := d) (ks := []) (by simp)
    refine ⟨?_, this.1⟩
    rw [at_shut o _ h93 (.inl rfl), this.2]
    rfl
  · cases hi : items l val (l.length + 1) (skip l (p + 1)) [] with
    | error y => rw [hi] at h; cases h
    | ok z =>
      obtain ⟨vs, r⟩ := z
      rw [hi] at h
      injection h with h; injection h with h1 h2
      subst h1 h2
      obtain ⟨ks, e1, e2, e3⟩ := items_deep l d val hv hd _ _ [] vs r o (max m (o + 1)) hi (skip_le l _ hp) (by omega)
      rw [List.nil_append] at e1
      subst e1
      have := dd_list e3
      refine ⟨?_, this.1⟩
      rw [e2, this.2]
      congr 1; omega
theorem object_deep (l : List UInt8) (d : Nat) (val : Val) (hv : ValOk l val) (hd : PV l d val) (p : Nat) (v : JV) (q o m : Nat) (hc : l[p]? = some 123) (h : object l val p = .ok (v, q)) (hm : o ≤ m) : deepAt l p false o m = deepAt l q false o (max m (o + v.brk)) ∧ DD (d + 1) v := by
  have hp := get_lt hc
  rw [at_open o m hc (.inr rfl), at_skip l (p + 1) _ _ hp]
  unfold object at h
  split at h
  · rename_i h93
    injection h with h; injection h with h1 h2
    subst h1 h2
    have := dd_object (d := d) (keys := []) (ks := []) (by simp)
    refine ⟨?_, this.1⟩
    rw [at_shut o _ h93 (.inr rfl), this.2]
    rfl
  · cases hi : members l val (l.length + 1) (skip l (p + 1)) [] [] with
    | error y => rw [hi] at h; cases h
    | ok z =>
      obtain ⟨keys, vs, r⟩ := z
      rw [hi] at h
      injection h with h; injection h with h1 h2
      subst h1 h2
      obtain ⟨ks, e1, e2, e3⟩ := members_deep l d val hv hd _ _ [] [] keys vs r o (max m (o + 1)) hi (skip_le l _ hp) (by omega)
      rw [List.nil_append] at e1
      subst e1
      have := dd_object (keys := keys) e3
      refine ⟨?_, this.1⟩
      rw [e2, this.2]
      congr 1; omega
theorem max_zero {o m : Nat} (h : o ≤ m) : max m (o + 0) = m := by omega
theorem way_of {c : UInt8} {n : Nat} (h : way c = n) : (n = 3 → c = 123) ∧ (n = 4 → c = 91) := by
  unfold way at h
  subst h
  refine ⟨fun h => ?_, fun h => ?_⟩
  · (repeat' split at h) <;> first | assumption | omega
  · (repeat' split at h) <;> first | assumption | omega
/-- What value reads is as deep as its brackets, or one more. -/
theorem value_deep (l : List UInt8) : ∀ d, PV l d (value l d)
  | 0 => fun p v q o m hp h hm => by
    unfold value at h
    split at h <;> cases h
  | d + 1 => fun p v q o m hp h hm => by
    unfold value at h
    cases hc : l[p]? with
    | none => rw [hc] at h; cases h
    | some c =>
      rw [hc] at h
      simp only [] at h
      have hw := way_of (c := c) rfl
      have flat : ∀ (v' : JV), v'.deepN = 1 → v'.brk = 0 → deepAt l p false o m = deepAt l q false o m → v = v' → deepAt l p false o m = deepAt l q false o (max m (o + v.brk)) ∧ DD (d + 1) v := by
        rintro v' h1 h2 h3 rfl
        exact ⟨by rw [h2, max_zero hm]; exact h3, dd_flat h1 h2⟩
      have wd : ∀ (w : List UInt8) (v' : JV), v'.deepN = 1 → v'.brk = 0 → (∀ c ∈ w, Dull c) → wordV l w v' p = .ok (v, q) → deepAt l p false o m = deepAt l q false o (max m (o + v.brk)) ∧ DD (d + 1) v := by
        intro w v' h1 h2 h3 h4
        unfold wordV at h4
        cases hx : word l w p with
        | error y => rw [hx] at h4; cases h4
        | ok r =>
          rw [hx] at h4
          injection h4 with h4; injection h4 with h5 h6
          subst h6
          exact flat v' h1 h2 (at_word l w p _ o m hx h3) h5.symm
      split at h
      · cases h
      · unfold text at h
        cases hq : quoted l p with
        | error y => rw [hq] at h; cases h
        | ok z =>
          obtain ⟨s, r⟩ := z
          rw [hq] at h
          injection h with h; injection h with h5 h6
          subst h6
          exact flat _ rfl rfl (at_quoted l p _ o m hp hq) h5.symm
      · have hn := at_number l p _ o m hp h
        unfold number at h
        split at h
        · cases h
        · split at h
          · cases h
          · injection h with h; injection h with h5 h6
            exact flat _ rfl rfl hn h5.symm
      · rename_i hww
        exact object_deep l d _ (value_fits l d) (value_deep l d) p v q o m (by rw [hc, hw.1 hww]) h hm
      · rename_i hww
        exact list_deep l d _ (value_fits l d) (value_deep l d) p v q o m (by rw [hc, hw.2 hww]) h hm
      · exact wd _ _ rfl rfl (by unfold Dull; decide) h
      · exact wd _ _ rfl rfl (by unfold Dull; decide) h
      · exact wd _ _ rfl rfl (by unfold Dull; decide) h
/-- The whole text: how deep its brackets stand is how deep the value is, or one less. -/
theorem parse_deep (l : List UInt8) (v : JV) (q : Nat) (h : value l 64 (skip l 0) = .ok (v, q)) (hq : ¬ skip l q < l.length) : v.deepN ≤ 64 ∧ (v.deepN = deep l false 0 0 ∨ v.deepN = deep l false 0 0 + 1) := by
  have hk := skip_le l 0 (Nat.zero_le _)
  have g := ((value_fits l 64 (skip l 0) hk).ok _ h).2
  simp only at g
  obtain ⟨h1, h2⟩ := value_deep l 64 (skip l 0) v q 0 0 hk h (Nat.le_refl _)
  have e1 : deep l false 0 0 = deepAt l 0 false 0 0 := by unfold deepAt; rw [List.drop_zero]
  have e2 : deepAt l q false 0 (max 0 (0 + v.brk)) = v.brk := by
    rw [at_skip l q _ _ g, show skip l q = l.length by have := skip_le l q g; omega]
    unfold deepAt
    rw [List.drop_length, deep_nil]
    omega
  rw [e1, at_skip l 0 0 0 (Nat.zero_le _), h1, e2]
  exact h2
end Go.Proofs.YtehffmcfmdjknaaGreatDoor.Jdec
/- What is read is right. -/
namespace Go.Proofs.YtehffmcfmdjknaaGreatDoor.Utf
set_option linter.unusedVariables false
set_option linter.unusedSimpArgs false
open Go.Proofs.YtehffmcfmdjknaaGreatDoor.Quote

/-- A text: scalars, one behind the other. -/
inductive Txt : List UInt8 → Prop where
  | nil : Txt []
  | scal (c : Nat) (l : List UInt8) : scalarB c = true → Txt l → Txt (put c ++ l)
theorem Txt.app {a b : List UInt8} (ha : Txt a) (hb : Txt b) : Txt (a ++ b) := by
  induction ha with
  | nil => exact hb
  | scal c l h _ ih => rw [List.append_assoc]; exact .scal c _ h ih
theorem Txt.put (c : Nat) : Txt (put c) := by
  by_cases h : scalarB c = true
  · have := Txt.scal c [] h .nil
    rwa [List.append_nil] at this
  · unfold Quote.put; rw [if_neg h]; exact .nil
theorem Txt.ascii (c : Nat) (h : c < 128) : Txt [UInt8.ofNat c] := by
  have hs : scalarB c = true := by unfold scalarB; simp; omega
  have hp : Quote.put c = [UInt8.ofNat c] := by
    unfold Quote.put
    rw [if_pos hs, if_pos (by unfold width; rw [if_pos h])]
  rw [← hp]; exact Txt.put c
theorem one_of (l : List UInt8) (k c : Nat) (h1 : 1 ≤ k) (h2 : k ≤ l.length) (h3 : sizeAt (byt l 0) = k) (h4 : conts l k = true) (h5 : val l k = c) (h6 : scalarB c = true) (h7 : width c = k) : one l = (c, k) := by
  unfold one
  rw [h3, if_pos, h5]
  unfold stands
  rw [h3, h5]
  simp [h1, h2, h4, h6, h7]
theorem byt_zero (c : UInt8) (l : List UInt8) : byt (c :: l) 0 = c.toNat := rfl
theorem byt_succ (c : UInt8) (l : List UInt8) (i : Nat) : byt (c :: l) (i + 1) = byt l i := by unfold byt; rw [List.getD_cons_succ]
theorem ofNat_lt {n : Nat} (h : n < 256) : (UInt8.ofNat n).toNat = n := by rw [UInt8.toNat_ofNat']; omega
theorem one_put_app (c : Nat) (l : List UInt8) (h : scalarB c = true) : one (put c ++ l) = (c, (put c).length) ∧ 1 ≤ (put c).length := by
  have hc : c ≤ 1114111 := by unfold scalarB at h; simp only [Bool.and_eq_true, decide_eq_true_eq] at h; exact h.1
  unfold Quote.put
  rw [if_pos h]
  by_cases w1 : c < 128
  · have hw : width c = 1 := by unfold width; rw [if_pos w1]
    rw [if_pos hw]
    refine ⟨one_of _ 1 c (Nat.le_refl _) (by simp) ?_ ?_ ?_ h hw, by simp⟩
    · show sizeAt (UInt8.ofNat c).toNat = 1
      rw [ofNat_lt (by omega)]; unfold sizeAt; rw [if_pos w1]
    · rfl
    · unfold val; rw [if_pos (by omega)]
      exact ofNat_lt (by omega)
  by_cases w2 : c < 2048
  · have hw : width c = 2 := by unfold width; rw [if_neg w1, if_pos w2]
    rw [if_neg (by omega), if_pos hw]
    have b0 : byt ([UInt8.ofNat (192 + c / 64), UInt8.ofNat (128 + c % 64)] ++ l) 0 = 192 + c / 64 := ofNat_lt (by omega)
    have b1 : byt ([UInt8.ofNat (192 + c / 64), UInt8.ofNat (128 + c % 64)] ++ l) 1 = 128 + c % 64 := ofNat_lt (by omega)
    refine ⟨one_of _ 2 c (by omega) (by simp) ?_ ?_ ?_ h hw, by simp⟩
    · rw [b0]; unfold sizeAt; rw [if_neg (by omega), if_neg (by omega), if_pos (by omega)]
    · unfold conts cont; rw [if_neg (by omega), if_pos rfl, b1]; simp; omega
    · unfold val; rw [if_neg (by omega), if_pos rfl, b0, b1]; omega
  by_cases w3 : c < 65536
  · have hw : width c = 3 := by unfold width; rw [if_neg w1, if_neg w2, if_pos w3]
    rw [if_neg (by omega), if_neg (by omega), if_pos hw]
    have b0 : byt ([UInt8.ofNat (224 + c / 4096), UInt8.ofNat (128 + c / 64 % 64), UInt8.ofNat (128 + c % 64)] ++ l) 0 = 224 + c / 4096 := ofNat_lt (by omega)
    have b1 : byt ([UInt8.ofNat (224 + c / 4096), UInt8.ofNat (128 + c / 64 % 64), UInt8.ofNat (128 + c % 64)] ++ l) 1 = 128 + c / 64 % 64 := ofNat_lt (by omega)
    have b2 : byt ([UInt8.ofNat (224 + c / 4096), UInt8.ofNat (128 + c / 64 % 64), UInt8.ofNat (128 + c % 64)] ++ l) 2 = 128 + c % 64 := ofNat_lt (by omega)
    refine ⟨one_of _ 3 c (by omega) (by simp) ?_ ?_ ?_ h hw, by simp⟩
    · rw [b0]; unfold sizeAt; rw [if_neg (by omega), if_neg (by omega), if_neg (by omega), if_pos (by omega)]
    · unfold conts cont; rw [if_neg (by omega), if_neg (by omega), if_pos rfl, b1, b2]; simp; omega
    · unfold val; rw [if_neg (by omega), if_neg (by omega), if_pos rfl, b0, b1, b2]; omega
  · have hw : width c = 4 := by unfold width; rw [if_neg w1, if_neg w2, if_neg w3]
    rw [if_neg (by omega), if_neg (by omega), if_neg (by omega)]
    have b0 : byt ([UInt8.ofNat (240 + c / 262144), UInt8.ofNat (128 + c / 4096 % 64), UInt8.ofNat (128 + c / 64 % 64), UInt8.ofNat (128 + c % 64)] ++ l) 0 = 240 + c / 262144 := ofNat_lt (by omega)
    have b1 : byt ([UInt8.ofNat (240 + c / 262144), UInt8.ofNat (128 + c / 4096 % 64), UInt8.ofNat (128 + c / 64 % 64), UInt8.ofNat (128 + c % 64)] ++ l) 1 = 128 + c / 4096 % 64 := ofNat_lt (by omega)
    have b2 : byt ([UInt8.ofNat (240 + c / 262144), UInt8.ofNat (128 + c / 4096 % 64), UInt8.ofNat (128 + c / 64 % 64), UInt8.ofNat (128 + c % 64)] ++ l) 2 = 128 + c / 64 % 64 := ofNat_lt (by omega)
    have b3 : byt ([UInt8.ofNat (240 + c / 262144), UInt8.ofNat (128 + c / 4096 % 64), UInt8.ofNat (128 + c / 64 % 64), UInt8.ofNat (128 + c % 64)] ++ l) 3 = 128 + c % 64 := ofNat_lt (by omega)
    refine ⟨one_of _ 4 c (by omega) (by simp) ?_ ?_ ?_ h hw, by simp⟩
    · rw [b0]; unfold sizeAt; rw [if_neg (by omega), if_neg (by omega), if_neg (by omega), if_neg (by omega), if_pos (by omega)]
    · unfold conts cont; rw [if_neg (by omega), if_neg (by omega), if_neg (by omega), b1, b2, b3]; simp; omega
    · unfold val; rw [if_neg (by omega), if_neg (by omega), if_neg (by omega), b0, b1, b2, b3]; omega
theorem Txt.good {l : List UInt8} (h : Txt l) : ∀ (n p : Nat), bad n l p = none := by
  induction h with
  | nil =>
    intro n p
    cases n <;> simp [bad]
  | scal c l hc _ ih =>
    intro n p
    cases n with
    | zero => rfl
    | succ n =>
      obtain ⟨h1, h2⟩ := one_put_app c l hc
      unfold bad
      rw [if_neg (by intro e; have := congrArg List.length e; rw [List.length_append, List.length_nil] at this; omega), h1]
      simp only
      rw [if_neg (by omega), List.drop_left]
      exact ih n _
end Go.Proofs.YtehffmcfmdjknaaGreatDoor.Utf
namespace Go.Proofs.YtehffmcfmdjknaaGreatDoor.Jdec
set_option linter.unusedVariables false
set_option linter.unusedSimpArgs false
open Go.Proofs.YtehffmcfmdjknaaGreatDoor.Utf (Txt)
theorem number_txt {u o : List UInt8} {n : Nat} (h : Quote.number u = .ok (o, n)) : Txt o := by
  unfold Quote.number at h
  split at h
  · cases h
  · split at h
    · cases h
    · split at h
      · split at h
        · cases h
        split at h
        · cases h
        split at h
        · cases h
        split at h
        · cases h
        split at h
        · cases h
        split at h
        · cases h
        · have := (Prod.mk.inj (Except.ok.inj h)).1
          rw [← this]; exact .put _
      · have := (Prod.mk.inj (Except.ok.inj h)).1
        rw [← this]; exact .put _
theorem escape_txt {u o : List UInt8} {n : Nat} (h : Quote.escape u = .ok (o, n)) : Txt o := by
  unfold Quote.escape at h
  split at h
  · cases h
  split at h
  · rename_i hb
    have := (Prod.mk.inj (Except.ok.inj h)).1
    rw [← this]
    exact .ascii _ (by omega)
  split at h
  · rw [← (Prod.mk.inj (Except.ok.inj h)).1]; exact .ascii 8 (by decide)
  split at h
  · rw [← (Prod.mk.inj (Except.ok.inj h)).1]; exact .ascii 12 (by decide)
  split at h
  · rw [← (Prod.mk.inj (Except.ok.inj h)).1]; exact .ascii 10 (by decide)
  split at h
  · rw [← (Prod.mk.inj (Except.ok.inj h)).1]; exact .ascii 13 (by decide)
  split at h
  · rw [← (Prod.mk.inj (Except.ok.inj h)).1]; exact .ascii 9 (by decide)
  split at h
  · cases hn : Quote.number (u.drop 1) with
    | error e => rw [hn] at h; cases h
    | ok x =>
      obtain ⟨o', k⟩ := x
      rw [hn] at h
      simp only [] at h
      rw [← (Prod.mk.inj (Except.ok.inj h)).1]
      exact number_txt hn
  · cases h
theorem part_txt {l o : List UInt8} {k : Nat} {g : Bool} (h : Quote.part l = .ok (o, k, g)) : Txt o := by
  unfold Quote.part at h
  split at h
  · cases h
  split at h
  · rw [← (Prod.mk.inj (Except.ok.inj h)).1]; exact .nil
  split at h
  · cases he : Quote.escape (l.drop 1) with
    | error e => rw [he] at h; cases h
    | ok x =>
      obtain ⟨o', n⟩ := x
      rw [he] at h
      simp only [] at h
      rw [← (Prod.mk.inj (Except.ok.inj h)).1]
      exact escape_txt he
  split at h
  · cases h
  split at h
  · rename_i h128
    rw [← (Prod.mk.inj (Except.ok.inj h)).1]; exact .ascii _ h128
  split at h
  · cases h
  · rw [← (Prod.mk.inj (Except.ok.inj h)).1]; exact .put _
theorem parts_txt : ∀ (n : Nat) (l : List UInt8) (p : Nat) (out o : List UInt8) (k : Nat), Quote.parts n l p out = .ok (o, k) → Txt out → Txt o
  | 0, _, _, _, _, _, h, _ => by simp [Quote.parts] at h
  | n + 1, l, p, out, o, k, h, ht => by
    unfold Quote.parts at h
    cases hp : Quote.part l with
    | error e => rw [hp] at h; cases h
    | ok x =>
      obtain ⟨o', j, g⟩ := x
      rw [hp] at h
      cases g with
      | true => exact parts_txt n _ _ _ _ _ h (ht.app (part_txt hp))
      | false =>
        simp only [] at h
        rw [← (Prod.mk.inj (Except.ok.inj h)).1]
        exact ht.app (part_txt hp)
theorem quoted_txt {l : List UInt8} {p : Nat} {x : ByteArray × Nat} (h : quoted l p = .ok x) : Txt x.1.data.toList ∧ x.1.size ≤ l.length := by
  unfold quoted at h
  cases hs : Quote.scan (l.drop p) with
  | error e => rw [hs] at h; cases h
  | ok y =>
    obtain ⟨s, n⟩ := y
    rw [hs] at h
    injection h with h
    subst h
    have hf := quote_fits hs
    rw [List.length_drop] at hf
    unfold Quote.scan at hs
    split at hs
    · cases hs
    split at hs
    · cases hs
    exact ⟨parts_txt _ _ _ _ _ _ hs .nil, by show s.toArray.size ≤ _; rw [List.size_toArray]; omega⟩

/-- A value is right, but for its kids and how deep it is. -/
structure OwnP (N : Nat) (k : Int) (is neg : Bool) (dig : ByteArray) (exp : Int) (str : ByteArray) (keys : List ByteArray) (n : Nat) : Prop where
  k1 : 1 ≤ k
  k6 : k ≤ 6
  is : k ≠ 2 → is = false
  num : k ≠ 3 → neg = false ∧ dig = ⟨#[]⟩ ∧ exp = 0
  text : k ≠ 4 → str = ⟨#[]⟩
  kids : k < 5 → n = 0
  noKeys : k ≠ 6 → keys = []
  right : Num.right neg dig.data.toList exp = true
  valid : Txt str.data.toList
  size : str.size ≤ N
  both : k = 6 → keys.length = n
  words : ∀ x ∈ keys, Txt x.data.toList ∧ x.size ≤ N
  apart : keys.Nodup
inductive Good (N : Nat) : JV → Prop where
  | mk (k : Int) (i n : Bool) (d : ByteArray) (e : Int) (s : ByteArray) (ks : List ByteArray) (vs : List JV) : OwnP N k i n d e s ks vs.length → (∀ j (h : j < vs.length), Good N vs[j]) → Good N (.mk k i n d e s ks vs)
theorem right_zero : Num.right false (⟨#[]⟩ : ByteArray).data.toList 0 = true := rfl
theorem good_flat (N : Nat) (k : Int) (i : Bool) (h1 : 1 ≤ k) (h2 : k < 3) (h : k ≠ 2 → i = false) : Good N (plain k i) :=
  .mk _ _ _ _ _ _ _ _ ⟨h1, by omega, h, fun _ => ⟨rfl, rfl, rfl⟩, fun _ => rfl, fun _ => rfl, fun _ => rfl, right_zero, .nil, Nat.zero_le _, fun h => by omega, fun x hx => (by cases hx), List.nodup_nil⟩ (fun j h => absurd h (Nat.not_lt_zero _))
theorem parse_right {l : List UInt8} {n : Bool} {d : List UInt8} {x : Int} (h : Num.parse l = .ok (n, d, x)) : Num.right n d x = true := by
  have hf : ∀ neg d' x', Num.fin neg d' x' = .ok (n, d, x) → Num.right n d x = true := by
    intro neg d' x' h
    unfold Num.fin at h
    simp only [] at h
    split at h
    · injection h with h; injection h with h1 h; injection h with h2 h3
      subst h1 h2 h3; rfl
    · split at h
      · rename_i hr
        injection h with h; injection h with h1 h; injection h with h2 h3
        subst h1 h2 h3; exact hr
      · cases h
  have hp : ∀ neg d' x', Num.point neg d' x' = .ok (n, d, x) → Num.right n d x = true := by
    intro neg d' x' h
    unfold Num.point at h
    split at h <;> exact hf _ _ _ h
  unfold Num.parse at h
  split at h
  · cases h
  · unfold Num.mant at h
    split at h <;> exact hp _ _ _ h
def GVal (l : List UInt8) (val : Val) : Prop := ∀ p v q, p ≤ l.length → val p = .ok (v, q) → Good l.length v
theorem good_snoc {N : Nat} {vs : List JV} {v : JV} (h : ∀ j (h : j < vs.length), Good N vs[j]) (hv : Good N v) : ∀ j (h : j < (vs ++ [v]).length), Good N (vs ++ [v])[j] := by
  intro j hj
  by_cases hlt : j < vs.length
  · rw [List.getElem_append_left hlt]; exact h j hlt
  · have he : j = vs.length := by simp at hj; omega
    subst he
    simpa using hv
theorem items_good (l : List UInt8) (val : Val) (hok : ValOk l val) (hv : GVal l val) : ∀ (n p : Nat) (acc vs : List JV) (r : Nat), items l val n p acc = .ok (vs, r) → p ≤ l.length → (∀ j (h : j < acc.length), Good l.length acc[j]) → ∀ j (h : j < vs.length), Good l.length vs[j]
  | 0, p, acc, vs, r, h, _, _ => by cases h
  | n + 1, p, acc, vs, r, h, hp, ha => by
    unfold items at h
    cases hx : val p with
    | error y => rw [hx] at h; cases h
    | ok z =>
      obtain ⟨v, q⟩ := z
      rw [hx] at h
      simp only [] at h
      have hq := ((hok p hp).ok _ hx).2
      simp only at hq
      cases he : ends l 93 q with
      | error y => rw [he] at h; cases h
      | ok y =>
        obtain ⟨b, u⟩ := y
        rw [he] at h
        cases b
        · exact items_good l val hok hv n u _ vs r h ((ends_fits l 93 q hq).ok _ he).2 (good_snoc ha (hv p v q hp hx))
        · simp only [] at h
          injection h with h; injection h with h1 h2
          subst h1
          exact good_snoc ha (hv p v q hp hx)
theorem key_good {l : List UInt8} {ks : List ByteArray} {p : Nat} {k : ByteArray} {q : Nat} (h : key l ks p = .ok (k, q)) : (Txt k.data.toList ∧ k.size ≤ l.length) ∧ k ∉ ks := by
  unfold key at h
  split at h
  · cases hq : quoted l p with
    | error y => rw [hq] at h; cases h
    | ok z =>
      obtain ⟨k', q'⟩ := z
      rw [hq] at h
      simp only [] at h
      split at h
      · cases h
      · rename_i ha
        injection h with h; injection h with h1 h2
        subst h1
        exact ⟨quoted_txt hq, fun hm => ha (List.any_eq_true.2 ⟨k', hm, by simp⟩)⟩
  · cases h
theorem members_good (l : List UInt8) (val : Val) (hok : ValOk l val) (hv : GVal l val) : ∀ (n p : Nat) (ks0 : List ByteArray) (acc : List JV) (keys : List ByteArray) (vs : List JV) (r : Nat), members l val n p ks0 acc = .ok (keys, vs, r) → p ≤ l.length → ks0.length = acc.length → ks0.Nodup → (∀ x ∈ ks0, Txt x.data.toList ∧ x.size ≤ l.length) → (∀ j (h : j < acc.length), Good l.length acc[j]) →
    keys.length = vs.length ∧ keys.Nodup ∧ (∀ x ∈ keys, Txt x.data.toList ∧ x.size ≤ l.length) ∧ ∀ j (h : j < vs.length), Good l.length vs[j]
  | 0, p, ks0, acc, keys, vs, r, h, _, _, _, _, _ => by cases h
  | n + 1, p, ks0, acc, keys, vs, r, h, hp, hlen, hnd, htx, ha => by
    unfold members at h
    cases hk : key l ks0 p with
    | error y => rw [hk] at h; cases h
    | ok zk =>
      obtain ⟨k, q0⟩ := zk
      rw [hk] at h
      simp only [] at h
      have hq0 := ((key_fits l ks0 p hp).ok _ hk).2
      simp only at hq0
      obtain ⟨hkt, hkn⟩ := key_good hk
      have hnd2 : (ks0 ++ [k]).Nodup := by
        rw [List.nodup_append]
        exact ⟨hnd, by simp, fun a ha b hb e => hkn (by rw [List.mem_singleton.1 hb] at e; rw [← e]; exact ha)⟩
      have htx2 : ∀ x ∈ ks0 ++ [k], Txt x.data.toList ∧ x.size ≤ l.length := fun x hx => by
        rcases List.mem_append.1 hx with h | h
        · exact htx x h
        · rw [List.mem_singleton.1 h]; exact hkt
      cases hc : colon l q0 with
      | error y => rw [hc] at h; cases h
      | ok p1 =>
        rw [hc] at h
        simp only [] at h
        have hp1 := ((colon_fits l q0 hq0).ok _ hc).2
        simp only [id] at hp1
        cases hx : val p1 with
        | error y => rw [hx] at h; cases h
        | ok z =>
          obtain ⟨v, q⟩ := z
          rw [hx] at h
          simp only [] at h
          have hq := ((hok p1 hp1).ok _ hx).2
          simp only at hq
          cases he : ends l 125 q with
          | error y => rw [he] at h; cases h
          | ok y =>
            obtain ⟨b, u⟩ := y
            rw [he] at h
            cases b
            · exact members_good l val hok hv n u _ _ keys vs r h ((ends_fits l 125 q hq).ok _ he).2 (by simp [hlen]) hnd2 htx2 (good_snoc ha (hv p1 v q hp1 hx))
            · simp only [] at h
              injection h with h; injection h with h1 h; injection h with h2 h3
              subst h1 h2
              exact ⟨by simp [hlen], hnd2, htx2, good_snoc ha (hv p1 v q hp1 hx)⟩
theorem good_list {N : Nat} {vs : List JV} (h : ∀ j (h : j < vs.length), Good N vs[j]) : Good N (listOf vs) :=
  .mk _ _ _ _ _ _ _ _ ⟨by omega, by omega, fun _ => rfl, fun _ => ⟨rfl, rfl, rfl⟩, fun _ => rfl, fun h => by omega, fun _ => rfl, right_zero, .nil, Nat.zero_le _, fun h => by omega, fun x hx => (by cases hx), List.nodup_nil⟩ h
theorem good_object {N : Nat} {keys : List ByteArray} {vs : List JV} (h1 : keys.length = vs.length) (h2 : keys.Nodup) (h3 : ∀ x ∈ keys, Txt x.data.toList ∧ x.size ≤ N) (h : ∀ j (h : j < vs.length), Good N vs[j]) : Good N (objectOf keys vs) :=
  .mk _ _ _ _ _ _ _ _ ⟨by omega, by omega, fun _ => rfl, fun _ => ⟨rfl, rfl, rfl⟩, fun _ => rfl, fun h => by omega, fun h => absurd rfl h, right_zero, .nil, Nat.zero_le _, fun _ => h1, h3, h2⟩ h
theorem value_good (l : List UInt8) : ∀ d, GVal l (value l d)
  | 0 => fun p v q hp h => by
    unfold value at h
    split at h <;> cases h
  | d + 1 => fun p v q hp h => by
    unfold value at h
    cases hc : l[p]? with
    | none => rw [hc] at h; cases h
    | some c =>
      rw [hc] at h
      simp only [] at h
      have hlt := get_lt hc
      have wd : ∀ (w : List UInt8) (v' : JV), Good l.length v' → wordV l w v' p = .ok (v, q) → Good l.length v := by
        intro w v' h1 h4
        unfold wordV at h4
        cases hx : word l w p with
        | error y => rw [hx] at h4; cases h4
        | ok r =>
          rw [hx] at h4
          injection h4 with h4; injection h4 with h5 h6
          rw [← h5]; exact h1
      split at h
      · cases h
      · unfold text at h
        cases hq : quoted l p with
        | error y => rw [hq] at h; cases h
        | ok z =>
          obtain ⟨s, r⟩ := z
          rw [hq] at h
          injection h with h; injection h with h5 h6
          subst h5
          have := quoted_txt hq
          exact .mk _ _ _ _ _ _ _ _ ⟨by omega, by omega, fun _ => rfl, fun _ => ⟨rfl, rfl, rfl⟩, fun h => absurd rfl h, fun _ => rfl, fun _ => rfl, right_zero, this.1, this.2, fun h => by omega, fun x hx => (by cases hx), List.nodup_nil⟩ (fun j h => absurd h (Nat.not_lt_zero _))
      · unfold number at h
        split at h
        · cases h
        · cases hn : Num.parse ((l.drop p).take (Num.scan (l.drop p))) with
          | error e => rw [hn] at h; cases h
          | ok y =>
            obtain ⟨n, dd, x⟩ := y
            rw [hn] at h
            injection h with h; injection h with h5 h6
            subst h5
            exact .mk _ _ _ _ _ _ _ _ ⟨by omega, by omega, fun _ => rfl, fun h => absurd rfl h, fun _ => rfl, fun _ => rfl, fun _ => rfl, parse_right hn, .nil, Nat.zero_le _, fun h => by omega, fun x hx => (by cases hx), List.nodup_nil⟩ (fun j h => absurd h (Nat.not_lt_zero _))
      · unfold object at h
        split at h
        · injection h with h; injection h with h5 h6
          subst h5
          exact good_object rfl List.nodup_nil (fun x hx => by cases hx) (fun j h => absurd h (Nat.not_lt_zero _))
        · cases hi : members l (value l d) (l.length + 1) (skip l (p + 1)) [] [] with
          | error y => rw [hi] at h; cases h
          | ok z =>
            obtain ⟨keys, vs, r⟩ := z
            rw [hi] at h
            injection h with h; injection h with h5 h6
            subst h5
            obtain ⟨g1, g2, g3, g4⟩ := members_good l _ (value_fits l d) (value_good l d) _ _ [] [] keys vs r hi (skip_le l _ hlt) rfl List.nodup_nil (fun x hx => by cases hx) (fun j h => absurd h (Nat.not_lt_zero _))
            exact good_object g1 g2 g3 g4
      · unfold list at h
        split at h
        · injection h with h; injection h with h5 h6
          subst h5
          exact good_list (fun j h => absurd h (Nat.not_lt_zero _))
        · cases hi : items l (value l d) (l.length + 1) (skip l (p + 1)) [] with
          | error y => rw [hi] at h; cases h
          | ok z =>
            obtain ⟨vs, r⟩ := z
            rw [hi] at h
            injection h with h; injection h with h5 h6
            subst h5
            exact good_list (items_good l _ (value_fits l d) (value_good l d) _ _ [] vs r hi (skip_le l _ hlt) (fun j h => absurd h (Nat.not_lt_zero _)))
      · exact wd _ _ (good_flat _ _ _ (by omega) (by omega) (fun h => absurd rfl h)) h
      · exact wd _ _ (good_flat _ _ _ (by omega) (by omega) (fun h => absurd rfl h)) h
      · exact wd _ _ (good_flat _ _ _ (by omega) (by omega) (fun _ => rfl)) h
end Go.Proofs.YtehffmcfmdjknaaGreatDoor.Jdec
