/- What package jdec computes, in plain Lean. -/
import Derived.Test.YtehffmcfmdjknaaGreatDoorPlainA
import Derived.Test.YtehffmcfmdjknaaGreatDoorNumW
import Derived.Maps.AppendAt
import Derived.WalkKit
namespace Go.Proofs.YtehffmcfmdjknaaGreatDoor.Jdec

/-- A value of JSON. -/
inductive JV where
  | mk (kind : Int) (is neg : Bool) (dig : ByteArray) (exp : Int) (str : ByteArray) (keys : List ByteArray) (kids : List JV)
def JV.zero : JV := .mk 0 false false ⟨#[]⟩ 0 ⟨#[]⟩ [] []
/-- An error: its place and its number. -/
abbrev Er := Nat × Nat
/-- A value at a place, and where it ends. -/
abbrev Val := Nat → Except Er (JV × Nat)
def blankJ (c : UInt8) : Bool := c == 9 || c == 10 || c == 13 || c == 32
/-- Where blanks end. -/
def skip (l : List UInt8) (p : Nat) : Nat := p + ((l.drop p).takeWhile blankJ).length
/-- The error of what can't go on. -/
def here (l : List UInt8) (p : Nat) : Er := (p, if l.length ≤ p then 2 else 3)
def word (l : List UInt8) : List UInt8 → Nat → Except Er Nat
  | [], p => .ok p
  | c :: t, p => if l[p]? = some c then word l t (p + 1) else .error (here l p)
def number (l : List UInt8) (p : Nat) : Except Er (JV × Nat) :=
  if Num.scan (l.drop p) = 0 then .error (p, if p + 1 = l.length then 2 else 3)
  else match Num.parse ((l.drop p).take (Num.scan (l.drop p))) with
    | .error e => .error (p, e)
    | .ok (n, d, x) => .ok (.mk 3 false n ⟨d.toArray⟩ x ⟨#[]⟩ [] [], p + Num.scan (l.drop p))
def quoted (l : List UInt8) (p : Nat) : Except Er (ByteArray × Nat) :=
  match Quote.scan (l.drop p) with
    | .error e => .error (p, e)
    | .ok (s, n) => .ok (⟨s.toArray⟩, p + n)
def text (l : List UInt8) (p : Nat) : Except Er (JV × Nat) :=
  match quoted l p with
    | .error x => .error x
    | .ok (s, q) => .ok (.mk 4 false false ⟨#[]⟩ 0 s [] [], q)
/-- What stands behind a thing: the end, or a comma. -/
def ends (l : List UInt8) (last : UInt8) (p : Nat) : Except Er (Bool × Nat) :=
  if l[skip l p]? = some last then .ok (true, skip l p + 1)
  else if l[skip l p]? = some 44 then .ok (false, skip l (skip l p + 1))
  else .error (here l (skip l p))
def items (l : List UInt8) (val : Val) : Nat → Nat → List JV → Except Er (List JV × Nat)
  | 0, p, _ => .error (p, 3)
  | n + 1, p, acc => match val p with
    | .error x => .error x
    | .ok (v, q) => match ends l 93 q with
      | .error x => .error x
      | .ok (true, r) => .ok (acc ++ [v], r)
      | .ok (false, r) => items l val n r (acc ++ [v])
def listOf (vs : List JV) : JV := .mk 5 false false ⟨#[]⟩ 0 ⟨#[]⟩ [] vs
def list (l : List UInt8) (val : Val) (p : Nat) : Except Er (JV × Nat) :=
  if l[skip l (p + 1)]? = some 93 then .ok (listOf [], skip l (p + 1) + 1)
  else match items l val (l.length + 1) (skip l (p + 1)) [] with
    | .error x => .error x
    | .ok (vs, r) => .ok (listOf vs, r)
def key (l : List UInt8) (ks : List ByteArray) (p : Nat) : Except Er (ByteArray × Nat) :=
  if l[p]? = some 34 then match quoted l p with
    | .error x => .error x
    | .ok (k, q) => if ks.any (fun x => decide (x = k)) then .error (p, 6) else .ok (k, q)
  else .error (here l p)
def colon (l : List UInt8) (p : Nat) : Except Er Nat :=
  if l[skip l p]? = some 58 then .ok (skip l (skip l p + 1)) else .error (here l (skip l p))
def members (l : List UInt8) (val : Val) : Nat → Nat → List ByteArray → List JV → Except Er (List ByteArray × List JV × Nat)
  | 0, p, _, _ => .error (p, 3)
  | n + 1, p, ks, vs => match key l ks p with
    | .error x => .error x
    | .ok (k, q) => match colon l q with
      | .error x => .error x
      | .ok r => match val r with
        | .error x => .error x
        | .ok (v, t) => match ends l 125 t with
          | .error x => .error x
          | .ok (true, u) => .ok (ks ++ [k], vs ++ [v], u)
          | .ok (false, u) => members l val n u (ks ++ [k]) (vs ++ [v])
def objectOf (ks : List ByteArray) (vs : List JV) : JV := .mk 6 false false ⟨#[]⟩ 0 ⟨#[]⟩ ks vs
def object (l : List UInt8) (val : Val) (p : Nat) : Except Er (JV × Nat) :=
  if l[skip l (p + 1)]? = some 125 then .ok (objectOf [] [], skip l (p + 1) + 1)
  else match members l val (l.length + 1) (skip l (p + 1)) [] [] with
    | .error x => .error x
    | .ok (ks, vs, r) => .ok (objectOf ks vs, r)
def plain (kind : Int) (is : Bool) : JV := .mk kind is false ⟨#[]⟩ 0 ⟨#[]⟩ [] []
/-- A value that is a given word. -/
def wordV (l : List UInt8) (w : List UInt8) (v : JV) (p : Nat) : Except Er (JV × Nat) :=
  match word l w p with
  | .error x => .error x
  | .ok q => .ok (v, q)
/-- The way by which what begins with a byte is read. -/
def way (c : UInt8) : Nat :=
  if c = 34 then 1 else if c = 45 ∨ (48 ≤ c.toNat ∧ c.toNat ≤ 57) then 2 else if c = 123 then 3 else if c = 91 then 4 else if c = 116 then 5 else if c = 102 then 6 else if c = 110 then 7 else 0
/-- A value so deep that d more may be. -/
def value (l : List UInt8) : Nat → Val
  | 0, p => match l[p]? with
    | none => .error (p, 2)
    | some c => .error (p, if way c = 0 then 3 else 5)
  | d + 1, p => match l[p]? with
    | none => .error (p, 2)
    | some c => match way c with
      | 0 => .error (p, 3)
      | 1 => text l p
      | 2 => number l p
      | 3 => object l (value l d) p
      | 4 => list l (value l d) p
      | 5 => wordV l [116, 114, 117, 101] (plain 2 true) p
      | 6 => wordV l [102, 97, 108, 115, 101] (plain 2 false) p
      | _ => wordV l [110, 117, 108, 108] (plain 1 false) p
/-- The value of a text, where it goes wrong, and how. -/
def parse (l : List UInt8) : JV × Int × Nat :=
  if 1048576 < l.length then (.zero, 0, 4)
  else match value l 64 (skip l 0) with
    | .error (b, e) => (.zero, b, e)
    | .ok (v, q) => if skip l q < l.length then (.zero, skip l q, 14) else (v, -1, 0)
end Go.Proofs.YtehffmcfmdjknaaGreatDoor.Jdec
/- What jdec reads, in plain Lean: where it ends. -/
namespace Go.Proofs.YtehffmcfmdjknaaGreatDoor.Jdec
set_option linter.unusedVariables false
set_option linter.unusedSimpArgs false

theorem scan_err {l : List UInt8} {k : Nat} (h : Quote.scan l = .error k) : k ≠ 0 := by
  have h4 : ∀ n m l k, Quote.four n m l = .error k → k ≠ 0 := by
    intro n
    induction n with
    | zero => intro m l k h; cases h
    | succ n ih =>
      intro m l k h
      cases l with
      | nil => unfold Quote.four at h; injection h with h; omega
      | cons c l =>
        unfold Quote.four at h
        split at h
        · injection h with h; omega
        · exact ih _ _ _ h
  have hn : ∀ l k, Quote.number l = .error k → k ≠ 0 := by
    intro l k h
    unfold Quote.number at h
    repeat' split at h
    all_goals first
      | (cases h; done)
      | (injection h with h; subst h; omega)
      | (injection h with h; subst h; exact h4 _ _ _ _ (by assumption))
  have he : ∀ l k, Quote.escape l = .error k → k ≠ 0 := by
    intro l k h
    unfold Quote.escape at h
    repeat' split at h
    all_goals first
      | (cases h; done)
      | (injection h with h; subst h; omega)
      | (injection h with h; subst h; exact hn _ _ (by assumption))
  have hp : ∀ l k, Quote.part l = .error k → k ≠ 0 := by
    intro l k h
    unfold Quote.part at h
    repeat' split at h
    all_goals first
      | (cases h; done)
      | (injection h with h; subst h; omega)
      | (injection h with h; subst h; exact he _ _ (by assumption))
  have hps : ∀ n l p out k, Quote.parts n l p out = .error k → k ≠ 0 := by
    intro n
    induction n with
    | zero => intro l p out k h; injection h with h; omega
    | succ n ih =>
      intro l p out k h
      unfold Quote.parts at h
      split at h
      · injection h with h; subst h; exact hp _ _ (by assumption)
      · exact ih _ _ _ _ h
      · cases h
  unfold Quote.scan at h
  split at h
  · injection h with h; omega
  · split at h
    · injection h with h; omega
    · exact hps _ _ _ _ _ h
theorem parse_err {l : List UInt8} {k : Nat} (h : Num.parse l = .error k) : k = 3 ∨ k = 4 := by
  have hf : ∀ neg d x, Num.fin neg d x = .error k → k = 3 ∨ k = 4 := by
    intro neg d x h
    unfold Num.fin at h
    simp only [] at h
    split at h
    · cases h
    · split at h
      · cases h
      · injection h with h; omega
  have hp : ∀ neg d x, Num.point neg d x = .error k → k = 3 ∨ k = 4 := by
    intro neg d x h
    unfold Num.point at h
    split at h <;> exact hf _ _ _ h
  unfold Num.parse at h
  split at h
  · injection h with h; omega
  · unfold Num.mant at h
    split at h <;> exact hp _ _ _ h
theorem quote_fits {l o : List UInt8} {n : Nat} (h : Quote.scan l = .ok (o, n)) : 1 ≤ n ∧ n ≤ l.length ∧ o.length ≤ n := by
  unfold Quote.scan at h
  split at h
  · cases h
  · split at h
    · cases h
    · rename_i h0 _
      have := Quote.parts_size _ _ _ _ _ _ h
      rw [List.length_drop] at this
      simp only [List.length_nil] at this
      omega
theorem get_lt {l : List UInt8} {p : Nat} {c : UInt8} (h : l[p]? = some c) : p < l.length := (List.getElem?_eq_some_iff.1 h).1
theorem skip_ge (l : List UInt8) (p : Nat) : p ≤ skip l p := by unfold skip; omega
theorem skip_le (l : List UInt8) (p : Nat) (h : p ≤ l.length) : skip l p ≤ l.length := by
  have := (List.takeWhile_prefix (l := l.drop p) blankJ).length_le
  rw [List.length_drop] at this
  unfold skip; omega
theorem skip_end (l : List UInt8) (p : Nat) (h : l.length ≤ p) : skip l p = p := by
  unfold skip; rw [List.drop_of_length_le h]; rfl
theorem skip_blank (l : List UInt8) (p : Nat) (h : p < l.length) (hb : blankJ l[p] = true) : skip l p = skip l (p + 1) := by
  unfold skip
  rw [List.drop_eq_getElem_cons h, List.takeWhile_cons, if_pos hb, List.length_cons]; omega
theorem skip_other (l : List UInt8) (p : Nat) (h : p < l.length) (hb : blankJ l[p] = false) : skip l p = p := by
  unfold skip
  rw [List.drop_eq_getElem_cons h, List.takeWhile_cons, if_neg (by rw [hb]; decide)]; rfl

/-- An error's place and number. -/
def EOk (l : List UInt8) (x : Er) : Prop := x.1 ≤ l.length ∧ x.2 ≠ 0
theorem here_ok (l : List UInt8) (p : Nat) (h : p ≤ l.length) : EOk l (here l p) := by
  unfold here EOk; refine ⟨h, ?_⟩; dsimp only; split <;> decide
/-- What is read ends behind its beginning. -/
structure Fits (l : List UInt8) (p : Nat) {α : Type} (r : Except Er α) (e : α → Nat) : Prop where
  ok : ∀ v, r = .ok v → p < e v ∧ e v ≤ l.length
  err : ∀ x, r = .error x → EOk l x
theorem word_fits (l : List UInt8) : ∀ (w : List UInt8) (p : Nat), p ≤ l.length → (∀ q, word l w p = .ok q → q = p + w.length ∧ q ≤ l.length) ∧ ∀ x, word l w p = .error x → EOk l x
  | [], p, h => ⟨fun q hq => by injection hq with hq; subst hq; exact ⟨rfl, h⟩, fun x hx => by cases hx⟩
  | c :: w, p, h => by
    unfold word
    by_cases hc : l[p]? = some c
    · rw [if_pos hc]
      have ih := word_fits l w (p + 1) (get_lt hc)
      exact ⟨fun q hq => by have := ih.1 q hq; simp only [List.length_cons]; omega, ih.2⟩
    · rw [if_neg hc]
      exact ⟨fun q hq => (by cases hq), fun x hx => (by injection hx with hx; subst hx; exact here_ok l p h)⟩
theorem wordV_fits (l : List UInt8) (w : List UInt8) (v : JV) (p : Nat) (h : p ≤ l.length) (hw : 0 < w.length) : Fits l p (wordV l w v p) (·.2) := by
  obtain ⟨h1, h2⟩ := word_fits l w p h
  unfold wordV
  cases hx : word l w p with
  | error x => exact ⟨fun v hv => (by cases hv), fun y hy => (by injection hy with hy; subst hy; exact h2 _ hx)⟩
  | ok q => exact ⟨fun y hy => (by injection hy with hy; subst hy; have := h1 _ hx; simp only; omega), fun y hy => (by cases hy)⟩
theorem number_fits (l : List UInt8) (p : Nat) (h : p ≤ l.length) : Fits l p (number l p) (·.2) := by
  unfold number
  have hs := Num.scan_le (l.drop p)
  rw [List.length_drop] at hs
  split
  · exact ⟨fun v hv => (by cases hv), fun y hy => (by injection hy with hy; subst hy; refine ⟨h, ?_⟩; dsimp only; split <;> decide)⟩
  · split
    · rename_i e he
      exact ⟨fun v hv => (by cases hv), fun y hy => (by injection hy with hy; subst hy; have := parse_err he; exact ⟨h, by dsimp only; omega⟩)⟩
    · exact ⟨fun y hy => (by injection hy with hy; subst hy; simp only; omega), fun y hy => (by cases hy)⟩
theorem quoted_fits (l : List UInt8) (p : Nat) (h : p ≤ l.length) : Fits l p (quoted l p) (·.2) := by
  unfold quoted
  split
  · rename_i e he
    exact ⟨fun v hv => (by cases hv), fun y hy => (by injection hy with hy; subst hy; exact ⟨h, scan_err he⟩)⟩
  · rename_i o n hn
    have := quote_fits hn
    rw [List.length_drop] at this
    exact ⟨fun y hy => (by injection hy with hy; subst hy; simp only; omega), fun y hy => (by cases hy)⟩
theorem text_fits (l : List UInt8) (p : Nat) (h : p ≤ l.length) : Fits l p (text l p) (·.2) := by
  have hq := quoted_fits l p h
  unfold text
  cases hx : quoted l p with
  | error x => exact ⟨fun v hv => (by cases hv), fun y hy => (by injection hy with hy; subst hy; exact hq.err _ hx)⟩
  | ok q => exact ⟨fun y hy => (by injection hy with hy; subst hy; exact hq.ok _ hx), fun y hy => (by cases hy)⟩
theorem ends_fits (l : List UInt8) (c : UInt8) (p : Nat) (h : p ≤ l.length) : Fits l p (ends l c p) (·.2) := by
  have h1 := skip_ge l p
  have h2 := skip_le l p h
  unfold ends
  split
  · rename_i hc
    have := get_lt hc
    exact ⟨fun y hy => (by injection hy with hy; subst hy; simp only; omega), fun y hy => (by cases hy)⟩
  · split
    · rename_i hc
      have h3 := get_lt hc
      have h4 := skip_ge l (skip l p + 1)
      have h5 := skip_le l (skip l p + 1) h3
      exact ⟨fun y hy => (by injection hy with hy; subst hy; simp only; omega), fun y hy => (by cases hy)⟩
    · exact ⟨fun v hv => (by cases hv), fun y hy => (by injection hy with hy; subst hy; exact here_ok l _ h2)⟩
/-- A way to read values. -/
def ValOk (l : List UInt8) (val : Val) : Prop := ∀ p, p ≤ l.length → Fits l p (val p) (·.2)
theorem items_fits (l : List UInt8) (val : Val) (hv : ValOk l val) : ∀ (n p : Nat) (acc : List JV), p ≤ l.length → Fits l p (items l val n p acc) (·.2)
  | 0, p, acc, h => ⟨fun v hv => (by cases hv), fun y hy => (by injection hy with hy; subst hy; exact ⟨h, by simp⟩)⟩
  | n + 1, p, acc, h => by
    have f1 := hv p h
    unfold items
    cases hx : val p with
    | error x => exact ⟨fun v hv => (by cases hv), fun y hy => (by injection hy with hy; subst hy; exact f1.err _ hx)⟩
    | ok vq =>
      obtain ⟨v, q⟩ := vq
      have g1 := f1.ok _ hx
      have f2 := ends_fits l 93 q g1.2
      simp only at g1 ⊢
      cases hy : ends l 93 q with
      | error x => exact ⟨fun v hv => (by cases hv), fun y hy' => (by injection hy' with hy'; subst hy'; exact f2.err _ hy)⟩
      | ok br =>
        obtain ⟨b, r⟩ := br
        have g2 := f2.ok _ hy
        simp only at g2
        cases b
        · have f3 := items_fits l val hv n r (acc ++ [v]) g2.2
          exact ⟨fun y hy => (by have := f3.ok y hy; omega), f3.err⟩
        · exact ⟨fun y hy => (by injection hy with hy; subst hy; simp only; omega), fun y hy => (by cases hy)⟩
theorem list_fits (l : List UInt8) (val : Val) (hv : ValOk l val) (p : Nat) (h : p < l.length) : Fits l p (list l val p) (·.2) := by
  have h1 := skip_ge l (p + 1)
  have h2 := skip_le l (p + 1) h
  unfold list
  split
  · rename_i hc
    have := get_lt hc
    exact ⟨fun y hy => (by injection hy with hy; subst hy; simp only; omega), fun y hy => (by cases hy)⟩
  · have f1 := items_fits l val hv (l.length + 1) _ [] h2
    cases hx : items l val (l.length + 1) (skip l (p + 1)) [] with
    | error x => exact ⟨fun v hv => (by cases hv), fun y hy => (by injection hy with hy; subst hy; exact f1.err _ hx)⟩
    | ok q => exact ⟨fun y hy => (by injection hy with hy; subst hy; have := f1.ok _ hx; simp only; omega), fun y hy => (by cases hy)⟩
theorem key_fits (l : List UInt8) (ks : List ByteArray) (p : Nat) (h : p ≤ l.length) : Fits l p (key l ks p) (·.2) := by
  have hq := quoted_fits l p h
  unfold key
  split
  · cases hx : quoted l p with
    | error x => exact ⟨fun v hv => (by cases hv), fun y hy => (by injection hy with hy; subst hy; exact hq.err _ hx)⟩
    | ok q =>
      simp only
      split
      · exact ⟨fun v hv => (by cases hv), fun y hy => (by injection hy with hy; subst hy; exact ⟨h, by simp⟩)⟩
      · exact ⟨fun y hy => (by injection hy with hy; subst hy; exact hq.ok _ hx), fun y hy => (by cases hy)⟩
  · exact ⟨fun v hv => (by cases hv), fun y hy => (by injection hy with hy; subst hy; exact here_ok l p h)⟩
theorem colon_fits (l : List UInt8) (p : Nat) (h : p ≤ l.length) : Fits l p (colon l p) id := by
  have h1 := skip_ge l p
  have h2 := skip_le l p h
  unfold colon
  split
  · rename_i hc
    have h3 := get_lt hc
    have h4 := skip_ge l (skip l p + 1)
    have h5 := skip_le l (skip l p + 1) h3
    exact ⟨fun y hy => (by injection hy with hy; subst hy; simp only [id]; omega), fun y hy => (by cases hy)⟩
  · exact ⟨fun v hv => (by cases hv), fun y hy => (by injection hy with hy; subst hy; exact here_ok l _ h2)⟩
theorem members_fits (l : List UInt8) (val : Val) (hv : ValOk l val) : ∀ (n p : Nat) (ks : List ByteArray) (vs : List JV), p ≤ l.length → Fits l p (members l val n p ks vs) (·.2.2)
  | 0, p, ks, vs, h => ⟨fun v hv => (by cases hv), fun y hy => (by injection hy with hy; subst hy; exact ⟨h, by simp⟩)⟩
  | n + 1, p, ks, vs, h => by
    have f0 := key_fits l ks p h
    unfold members
    cases hx : key l ks p with
    | error x => exact ⟨fun v hv => (by cases hv), fun y hy => (by injection hy with hy; subst hy; exact f0.err _ hx)⟩
    | ok kq =>
      obtain ⟨k, q⟩ := kq
      have g0 := f0.ok _ hx
      simp only at g0 ⊢
      have f1 := colon_fits l q g0.2
      cases hx : colon l q with
      | error x => exact ⟨fun v hv => (by cases hv), fun y hy => (by injection hy with hy; subst hy; exact f1.err _ hx)⟩
      | ok r =>
        have g1 := f1.ok _ hx
        simp only [id] at g1 ⊢
        have f2 := hv r g1.2
        cases hx : val r with
        | error x => exact ⟨fun v hv => (by cases hv), fun y hy => (by injection hy with hy; subst hy; exact f2.err _ hx)⟩
        | ok vt =>
          obtain ⟨v, t⟩ := vt
          have g2 := f2.ok _ hx
          simp only at g2 ⊢
          have f3 := ends_fits l 125 t g2.2
          cases hx : ends l 125 t with
          | error x => exact ⟨fun v hv => (by cases hv), fun y hy => (by injection hy with hy; subst hy; exact f3.err _ hx)⟩
          | ok bu =>
            obtain ⟨b, u⟩ := bu
            have g3 := f3.ok _ hx
            simp only at g3
            cases b
            · have f4 := members_fits l val hv n u (ks ++ [k]) (vs ++ [v]) g3.2
              exact ⟨fun y hy => (by have := f4.ok y hy; omega), f4.err⟩
            · exact ⟨fun y hy => (by injection hy with hy; subst hy; simp only; omega), fun y hy => (by cases hy)⟩
theorem object_fits (l : List UInt8) (val : Val) (hv : ValOk l val) (p : Nat) (h : p < l.length) : Fits l p (object l val p) (·.2) := by
  have h1 := skip_ge l (p + 1)
  have h2 := skip_le l (p + 1) h
  unfold object
  split
  · rename_i hc
    have := get_lt hc
    exact ⟨fun y hy => (by injection hy with hy; subst hy; simp only; omega), fun y hy => (by cases hy)⟩
  · have f1 := members_fits l val hv (l.length + 1) _ [] [] h2
    cases hx : members l val (l.length + 1) (skip l (p + 1)) [] [] with
    | error x => exact ⟨fun v hv => (by cases hv), fun y hy => (by injection hy with hy; subst hy; exact f1.err _ hx)⟩
    | ok q =>
      obtain ⟨ks, vs, r⟩ := q
      exact ⟨fun y hy => (by injection hy with hy; subst hy; have h3 := f1.ok _ hx; simp only at h3 ⊢; omega), fun y hy => (by cases hy)⟩
theorem value_fits (l : List UInt8) : ∀ d, ValOk l (value l d)
  | 0, p, h => by
    unfold value
    split
    · exact ⟨fun v hv => (by cases hv), fun y hy => (by injection hy with hy; subst hy; exact ⟨h, by simp⟩)⟩
    · exact ⟨fun v hv => (by cases hv), fun y hy => (by injection hy with hy; subst hy; refine ⟨h, ?_⟩; dsimp only; split <;> decide)⟩
  | d + 1, p, h => by
    unfold value
    split
    · exact ⟨fun v hv => (by cases hv), fun y hy => (by injection hy with hy; subst hy; exact ⟨h, by simp⟩)⟩
    · rename_i c hc
      have hlt := get_lt hc
      split
      · exact ⟨fun v hv => (by cases hv), fun y hy => (by injection hy with hy; subst hy; exact ⟨h, by simp⟩)⟩
      · exact text_fits l p h
      · exact number_fits l p h
      · exact object_fits l _ (value_fits l d) p hlt
      · exact list_fits l _ (value_fits l d) p hlt
      · exact wordV_fits l _ _ p h (by decide)
      · exact wordV_fits l _ _ p h (by decide)
      · exact wordV_fits l _ _ p h (by decide)
end Go.Proofs.YtehffmcfmdjknaaGreatDoor.Jdec
/- A value of JSON in memory. -/
namespace Go.Proofs.YtehffmcfmdjknaaGreatDoor.Jdec
open Go.RowKit
set_option linter.unusedVariables false
set_option linter.unusedSimpArgs false

/-- A value's words. -/
structure Raw where
  kind : Int
  is : Bool
  neg : Bool
  dig : ByteArray
  exp : Int
  str : ByteArray
  ka : Option Addr
  kn : Nat
  kc : Nat
  va : Option Addr
  vn : Nat
  vc : Nat
def Raw.val (r : Raw) : Value := .agg #[.int .i64 r.kind, .bool r.is, .bool r.neg, .string r.dig, .int .i64 r.exp, .string r.str, .slice r.ka r.kn r.kc, .slice r.va r.vn r.vc]
def Raw.cells (r : Raw) : List Value := [.int .i64 r.kind, .bool r.is, .bool r.neg, .string r.dig, .int .i64 r.exp, .string r.str, .slice r.ka r.kn r.kc, .slice r.va r.vn r.vc]
def Raw.zero : Raw := ⟨0, false, false, ⟨#[]⟩, 0, ⟨#[]⟩, none, 0, 0, none, 0, 0⟩
/-- Texts in a block that is one of A's. -/
def IsTexts (w : World) (A : Nat → Prop) (a : Option Addr) (l : List ByteArray) : Prop :=
  l = [] ∨ ∃ b o, a = some ⟨b, o, none⟩ ∧ A b ∧ b < w.heap.size ∧ ∀ i (h : i < l.length), w.cell? ⟨b, o + i, none⟩ = some (.string l[i])
/-- A value's words stand at a place. -/
def CellsAt (w : World) (b o : Nat) (r : Raw) : Prop := ∀ j u, r.cells[j]? = some u → w.cell? ⟨b, o + j, none⟩ = some u
/-- The words are a value's, whose parts lie in blocks of A's. -/
inductive IsV (w : World) (A : Nat → Prop) : Raw → JV → Prop where
  | mk (r : Raw) (keys : List ByteArray) (kids : List JV) (f : Nat → Raw) : r.kn = keys.length → r.vn = kids.length → IsTexts w A r.ka keys →
      (kids = [] ∨ ∃ b o, r.va = some ⟨b, o, none⟩ ∧ A b ∧ b < w.heap.size ∧ ∀ i, i < kids.length → CellsAt w b (o + i * 8) (f i)) →
      (∀ i (h : i < kids.length), IsV w A (f i) kids[i]) → IsV w A r (.mk r.kind r.is r.neg r.dig r.exp r.str keys kids)

/-- What there was, and is one of A's, is still there, and one of A''s. -/
structure Turn (w w' : World) (A A' : Nat → Prop) : Prop where
  size : w.heap.size ≤ w'.heap.size
  block : ∀ b, A b → b < w.heap.size → w'.heap[b]? = w.heap[b]? ∧ A' b
theorem IsTexts.turn {w w' : World} {A A' : Nat → Prop} {a : Option Addr} {l : List ByteArray} (h : IsTexts w A a l) (t : Turn w w' A A') : IsTexts w' A' a l := by
  rcases h with h | ⟨b, o, ha, hA, hb, hc⟩
  · exact .inl h
  · obtain ⟨h1, h2⟩ := t.block b hA hb
    exact .inr ⟨b, o, ha, h2, Nat.lt_of_lt_of_le hb t.size, fun i hi => (World.cell?_of_block h1).trans (hc i hi)⟩
theorem IsV.turn {w w' : World} {A A' : Nat → Prop} {r : Raw} {v : JV} (h : IsV w A r v) (t : Turn w w' A A') : IsV w' A' r v := by
  induction h with
  | mk r keys kids f h1 h2 h3 h4 h5 ih =>
    refine .mk r keys kids f h1 h2 (h3.turn t) ?_ ih
    rcases h4 with h4 | ⟨b, o, ha, hA, hb, hc⟩
    · exact .inl h4
    · obtain ⟨g1, g2⟩ := t.block b hA hb
      exact .inr ⟨b, o, ha, g2, Nat.lt_of_lt_of_le hb t.size, fun i hi j u hu => (World.cell?_of_block g1).trans (hc i hi j u hu)⟩
theorem Turn.refl (w : World) (A : Nat → Prop) : Turn w w A A := ⟨Nat.le_refl _, fun b h _ => ⟨rfl, h⟩⟩
theorem Turn.mono (w : World) {A A' : Nat → Prop} (h : ∀ b, A b → b < w.heap.size → A' b) : Turn w w A A' := ⟨Nat.le_refl _, fun b hA hb => ⟨rfl, h b hA hb⟩⟩
theorem Turn.grown {w w' : World} {A : Nat → Prop} {row : Option Nat} (h : w.grownBy w' row) (hA : ∀ b, A b → some b ≠ row) : Turn w w' A A := ⟨h.size, fun b hb hl => ⟨h.block b hl (hA b hb), hb⟩⟩
theorem Turn.below {w w' : World} {A : Nat → Prop} (h : Below w.heap.size w w') : Turn w w' A A := ⟨h.size, fun b hb hl => ⟨h.block b hl, hb⟩⟩

/-- A value that has no parts. -/
theorem IsV.bare (w : World) (A : Nat → Prop) (kind : Int) (is neg : Bool) (dig : ByteArray) (exp : Int) (str : ByteArray) (ka va : Option Addr) (kc vc : Nat) : IsV w A ⟨kind, is, neg, dig, exp, str, ka, 0, kc, va, 0, vc⟩ (.mk kind is neg dig exp str [] []) :=
  .mk ⟨kind, is, neg, dig, exp, str, ka, 0, kc, va, 0, vc⟩ [] [] (fun _ => Raw.zero) rfl rfl (.inl rfl) (.inl rfl) (fun i h => absurd h (Nat.not_lt_zero _))

/-- A row of values that the call owns. -/
def Kids (w : World) (B : Nat) (v : Value) (ts : List JV) : Prop :=
  ∃ rs : List Raw, rs.length = ts.length ∧ w.ownsRow B 29 8 v ts.length (rs.flatMap Raw.cells) ∧
    ∀ i (h : i < rs.length) (h' : i < ts.length), IsV w (fun b => B ≤ b ∧ some b ≠ v.ownBlock) rs[i] ts[i]
theorem Kids.nil (w : World) (B : Nat) : Kids w B (.slice none 0 0) [] := ⟨[], rfl, World.ownsRow_nil _ _ _ _, fun i h => absurd h (Nat.not_lt_zero _)⟩
theorem Kids.form {w : World} {B : Nat} {v : Value} {ts : List JV} (h : Kids w B v ts) : ∃ a c, v = .slice a ts.length c := by
  obtain ⟨rs, h1, h2, h3⟩ := h
  rcases h2.2 with ⟨rfl, h0⟩ | ⟨g, cap, cur, rfl, _⟩
  · exact ⟨none, 0, by rw [h0]⟩
  · exact ⟨_, _, rfl⟩
/-- What turns elsewhere leaves it. -/
theorem Kids.kept {w w' : World} {B : Nat} {v : Value} {ts : List JV} {row : Option Nat} (h : Kids w B v ts) (hg : w.grownBy w' row) (hr : ∀ k, row = some k → k < B) : Kids w' B v ts := by
  obtain ⟨rs, h1, h2, h3⟩ := h
  refine ⟨rs, h1, h2.kept hg ?_, fun i hi hi' => (h3 i hi hi').turn (Turn.grown hg (fun b hb e => ?_))⟩
  · cases hv : v.ownBlock with
    | none => exact .inl rfl
    | some k =>
      have := (h2.lt k hv).1
      exact .inr (fun e => by have := hr k e.symm; omega)
  · have := hr b e.symm
    omega
theorem flat_cells_len (rs : List Raw) : (rs.flatMap Raw.cells).length = rs.length * 8 := by
  induction rs with
  | nil => rfl
  | cons r rs ih => rw [List.flatMap_cons, List.length_append, ih, List.length_cons]; simp [Raw.cells]; omega
theorem flat_cells_at : ∀ (rs : List Raw) (i : Nat) (h : i < rs.length) (j : Nat) (u : Value), rs[i].cells[j]? = some u → (rs.flatMap Raw.cells)[i * 8 + j]? = some u
  | r :: rs, 0, h, j, u, hu => by
    have hu : r.cells[j]? = some u := hu
    have hj := (List.getElem?_eq_some_iff.1 hu).1
    rw [List.flatMap_cons, Nat.zero_mul, Nat.zero_add, List.getElem?_append_left hj]; exact hu
  | r :: rs, i + 1, h, j, u, hu => by
    have := flat_cells_at rs i (by simpa using h) j u hu
    have h8 : r.cells.length = 8 := rfl
    rw [List.flatMap_cons, List.getElem?_append_right (by omega), h8, show (i + 1) * 8 + j - 8 = i * 8 + j by omega]
    exact this
/-- The row's values, read. -/
theorem Kids.isV {w : World} {B : Nat} {a : Option Addr} {n c : Nat} {ts : List JV} (h : Kids w B (.slice a n c) ts) :
    n = ts.length ∧ ∃ f : Nat → Raw, (ts = [] ∨ ∃ b o, a = some ⟨b, o, none⟩ ∧ B ≤ b ∧ b < w.heap.size ∧ ∀ i, i < ts.length → CellsAt w b (o + i * 8) (f i)) ∧ ∀ i (h : i < ts.length), IsV w (fun b => B ≤ b) (f i) ts[i] := by
  obtain ⟨rs, h1, h2, h3⟩ := h
  obtain ⟨a', c', hv⟩ := Kids.form ⟨rs, h1, h2, h3⟩
  injection hv with e1 e2 e3
  refine ⟨e2, fun i => rs.getD i Raw.zero, ?_, fun i hi => ?_⟩
  · rcases h2.2 with ⟨hx, h0⟩ | ⟨g, cap, cur, hx, hg, _⟩
    · exact .inl (List.length_eq_zero_iff.1 h0)
    · injection hx with x1 x2 x3
      refine .inr ⟨g, 0, x1, hg, (h2.lt g (by rw [x1]; rfl)).2, fun i hi j u hu => ?_⟩
      have hir : i < rs.length := by omega
      have hu' : rs[i].cells[j]? = some u := by
        have : rs.getD i Raw.zero = rs[i] := by simp [List.getD, hir]
        rw [← this]; exact hu
      have := h2.cells (g := g) (by rw [x1]; rfl) _ _ (flat_cells_at rs i hir j u hu')
      rw [Addr.add_lit, Nat.zero_add] at this
      rw [Nat.zero_add]; exact this
  · have hir : i < rs.length := by omega
    have : rs.getD i Raw.zero = rs[i] := by simp [List.getD, hir]
    show IsV w (fun b => B ≤ b) (rs.getD i Raw.zero) ts[i]
    rw [this]
    exact (h3 i hir hi).turn (Turn.mono w (fun b hb _ => hb.1))
/-- A value more in the row: what an append leaves. -/
theorem Kids.snoc {w w' : World} {B : Nat} {v v' : Value} {ts : List JV} {r : Raw} {t : JV} (rs : List Raw) (h1 : rs.length = ts.length) (h2 : w.ownsRow B 29 8 v ts.length (rs.flatMap Raw.cells))
    (h3 : ∀ i (h : i < rs.length) (h' : i < ts.length), IsV w (fun b => B ≤ b ∧ some b ≠ v.ownBlock) rs[i] ts[i]) (hr : IsV w (fun b => B ≤ b ∧ some b ≠ v.ownBlock) r t)
    (hown : w'.ownsRow B 29 8 v' (ts.length + 1) (rs.flatMap Raw.cells ++ r.cells)) (hg : w.grownBy w' v.ownBlock) (hl : v'.ownBlock = v.ownBlock ∨ v'.ownBlock = some w.heap.size) : Kids w' B v' (ts ++ [t]) := by
  have T : Turn w w' (fun b => B ≤ b ∧ some b ≠ v.ownBlock) (fun b => B ≤ b ∧ some b ≠ v'.ownBlock) := ⟨hg.size, fun b hb hlt => ⟨hg.block b hlt hb.2, hb.1, by
    rcases hl with e | e
    · rw [e]; exact hb.2
    · rw [e]; intro x; injection x with x; omega⟩⟩
  refine ⟨rs ++ [r], by simp [h1], by simpa using hown, fun i hi hi' => ?_⟩
  by_cases hlt : i < rs.length
  · rw [List.getElem_append_left hlt, List.getElem_append_left (by omega)]
    exact (h3 i hlt (by omega)).turn T
  · have he : i = rs.length := by simp at hi; omega
    subst he
    have e1 : (rs ++ [r])[rs.length] = r := by simp
    have e2 : (ts ++ [t])[rs.length]'(by simp [h1]) = t := by simp [← h1]
    rw [e1, e2]
    exact hr.turn T
end Go.Proofs.YtehffmcfmdjknaaGreatDoor.Jdec
