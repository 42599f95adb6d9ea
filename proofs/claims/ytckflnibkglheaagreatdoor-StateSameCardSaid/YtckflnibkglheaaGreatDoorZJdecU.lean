/- What package jdec computes, in plain Lean. -/
import Derived.Test.YtckflnibkglheaaGreatDoorZPlainA
import Derived.Test.YtckflnibkglheaaGreatDoorZNumW
import Derived.Maps.AppendAt
import Derived.WalkKit
namespace Go.Proofs.YtckflnibkglheaaGreatDoor.Jdec

/-- A value of JSON. -/
inductive JV where
  | mk (kind : Int) (is neg : Bool) (dig : ByteArray) (exp : Int) (str : ByteArray) (keys : List ByteArray) (kids : List JV)
def JV.zero : JV := .mk 0 false false ⟨#[]⟩ 0 ⟨#[]⟩ [] []
/-- An error: its place and its number. -/
abbrev Er := Nat × Nat
/-- A value at a place, and where it ends. -/
abbrev Val := Nat → Except Er (JV × Nat)
def blankJ (c : UInt8) : Bool := c == 9 || c == 10 || c == 13 || c == 32
/-- Where blanks end. -/
def skip (l : List UInt8) (p : Nat) : Nat := p + ((l.drop p).takeWhile blankJ).length
/-- The error of what can't go on. -/
def here (l : List UInt8) (p : Nat) : Er := (p, if l.length ≤ p then 2 else 3)
def word (l : List UInt8) : List UInt8 → Nat → Except Er Nat
  | [], p => .ok p
  | c :: t, p => if l[p]? = some c then word l t (p + 1) else .error (here l p)
def number (l : List UInt8) (p : Nat) : Except Er (JV × Nat) :=
  if Num.scan (l.drop p) = 0 then .error (p, if p + 1 = l.length then 2 else 3)
  else match Num.parse ((l.drop p).take (Num.scan (l.drop p))) with
    | .error e => .error (p, e)
    | .ok (n, d, x) => .ok (.mk 3 false n ⟨d.toArray⟩ x ⟨#[]⟩ [] [], p + Num.scan (l.drop p))
def quoted (l : List UInt8) (p : Nat) : Except Er (ByteArray × Nat) :=
  match Quote.scan (l.drop p) with
    | .error e => .error (p, e)
    | .ok (s, n) => .ok (⟨s.toArray⟩, p + n)
def text (l : List UInt8) (p : Nat) : Except Er (JV × Nat) :=
  match quoted l p with
    | .error x => .error x
    | .ok (s, q) => .ok (.mk 4 false false ⟨#[]⟩ 0 s [] [], q)
/-- What stands behind a thing: the end, or a comma. -/
def ends (l : List UInt8) (last : UInt8) (p : Nat) : Except Er (Bool × Nat) :=
  if l[skip l p]? = some last then .ok (true, skip l p + 1)
  else if l[skip l p]? = some 44 then .ok (false, skip l (skip l p + 1))
  else .error (here l (skip l p))
def items (l : List UInt8) (val : Val) : Nat → Nat → List JV → Except Er (List JV × Nat)
  | 0, p, _ => .error (p, 3)
  | n + 1, p, acc => match val p with
    | .error x => .error x
    | .ok (v, q) => match ends l 93 q with
      | .error x => .error x
      | .ok (true, r) => .ok (acc ++ [v], r)
      | .ok (false, r) => items l val n r (acc ++ [v])
def listOf (vs : List JV) : JV := .mk 5 false false ⟨#[]⟩ 0 ⟨#[]⟩ [] vs
def list (l : List UInt8) (val : Val) (p : Nat) : Except Er (JV × Nat) :=
  if l[skip l (p + 1)]? = some 93 then .ok (listOf [], skip l (p + 1) + 1)
  else match items l val (l.length + 1) (skip l (p + 1)) [] with
    | .error x => .error x
    | .ok (vs, r) => .ok (listOf vs, r)
def key (l : List UInt8) (ks : List ByteArray) (p : Nat) : Except Er (ByteArray × Nat) :=
  if l[p]? = some 34 then match quoted l p with
    | .error x => .error x
    | .ok (k, q) => if ks.any (fun x => decide (x = k)) then .error (p, 6) else .ok (k, q)
  else .error (here l p)
def colon (l : List UInt8) (p : Nat) : Except Er Nat :=
  if l[skip l p]? = some 58 then .ok (skip l (skip l p + 1)) else .error (here l (skip l p))
def members (l : List UInt8) (val : Val) : Nat → Nat → List ByteArray → List JV → Except Er (List ByteArray × List JV × Nat)
  | 0, p, _, _ => .error (p, 3)
  | n + 1, p, ks, vs => match key l ks p with
    | .error x => .error x
    | .ok (k, q) => match colon l q with
      | .error x => .error x
      | .ok r => match val r with
        | .error x => .error x
        | .ok (v, t) => match ends l 125 t with
          | .error x => .error x
          | .ok (true, u) => .ok (ks ++ [k], vs ++ [v], u)
          | .ok (false, u) => members l val n u (ks ++ [k]) (vs ++ [v])
def objectOf (ks : List ByteArray) (vs : List JV) : JV := .mk 6 false false ⟨#[]⟩ 0 ⟨#[]⟩ ks vs
def object (l : List UInt8) (val : Val) (p : Nat) : Except Er (JV × Nat) :=
  if l[skip l (p + 1)]? = some 125 then .ok (objectOf [] [], skip l (p + 1) + 1)
  else match members l val (l.length + 1) (skip l (p + 1)) [] [] with
    | .error x => .error x
    | .ok (ks, vs, r) => .ok (objectOf ks vs, r)
def plain (kind : Int) (is : Bool) : JV := .mk kind is false ⟨#[]⟩ 0 ⟨#[]⟩ [] []
/-- A value that is a given word. -/
def wordV (l : List UInt8) (w : List UInt8) (v : JV) (p : Nat) : Except Er (JV × Nat) :=
  match word l w p with
  | .error x => .error x
  | .ok q => .ok (v, q)
/-- The way by which what begins with a byte is read. -/
def way (c : UInt8) : Nat :=
  if c = 34 then 1 else if c = 45 ∨ (48 ≤ c.toNat ∧ c.toNat ≤ 57) then 2 else if c = 123 then 3 else if c = 91 then 4 else if c = 116 then 5 else if c = 102 then 6 else if c = 110 then 7 else 0
/-- A value so deep that d more may be. -/
def value (l : List UInt8) : Nat → Val
  | 0, p => match l[p]? with
    | none => .error (p, 2)
    | some c => .error (p, if way c = 0 then 3 else 5)
  | d + 1, p => match l[p]? with
    | none => .error (p, 2)
    | some c => match way c with
      | 0 => .error (p, 3)
      | 1 => text l p
      | 2 => number l p
      | 3 => object l (value l d) p
      | 4 => list l (value l d) p
      | 5 => wordV l [116, 114, 117, 101] (plain 2 true) p
      | 6 => wordV l [102, 97, 108, 115, 101] (plain 2 false) p
      | _ => wordV l [110, 117, 108, 108] (plain 1 false) p
/-- The value of a text, where it goes wrong, and how. -/
def parse (l : List UInt8) : JV × Int × Nat :=
  if 1048576 < l.length then (.zero, 0, 4)
  else match value l 64 (skip l 0) with
    | .error (b, e) => (.zero, b, e)
    | .ok (v, q) => if skip l q < l.length then (.zero, skip l q, 14) else (v, -1, 0)
end Go.Proofs.YtckflnibkglheaaGreatDoor.Jdec
/- What jdec reads, in plain Lean: where it ends. -/
namespace Go.Proofs.YtckflnibkglheaaGreatDoor.Jdec
set_option linter.unusedVariables false
set_option linter.unusedSimpArgs false

theorem scan_err {l : List UInt8} {k : Nat} (h : Quote.scan l = .error k) : k ≠ 0 := by
  have h4 : ∀ n m l k, Quote.four n m l = .error k → k ≠ 0 := by
    intro n
    induction n with
    | zero => intro m l k h; cases h
    | succ n ih =>
      intro m l k h
      cases l with
      | nil => unfold Quote.four at h; injection h with h; omega
      | cons c l =>
        unfold Quote.four at h
        split at h
        · injection h with h; omega
        · exact ih _ _ _ h
  have hn : ∀ l k, Quote.number l = .error k → k ≠ 0 := by
    intro l k h
    unfold Quote.number at h
    repeat' split at h
    all_goals first
      | (cases h; done)
      | (injection h with h; subst h; omega)
      | (injection h with h; subst h; exact h4 _ _ _ _ (by assumption))
  have he : ∀ l k, Quote.escape l = .error k → k ≠ 0 := by
    intro l k h
    unfold Quote.escape at h
    repeat' split at h
    all_goals first
      | (cases h; done)
      | (injection h with h; subst h; omega)
      | (injection h with h; subst h; exact hn _ _ (by assumption))
  have hp : ∀ l k, Quote.part l = .error k → k ≠ 0 := by
    intro l k h
    unfold Quote.part at h
    repeat' split at h
    all_goals first
      | (cases h; done)
      | (injection h with h; subst h; omega)
      | (injection h with h; subst h; exact he _ _ (by assumption))
  have hps : ∀ n l p out k, Quote.parts n l p out = .error k → k ≠ 0 := by
    intro n
    induction n with
    | zero => intro l p out k h; injection h with h; omega
    | succ n ih =>
      intro l p out k h
      unfold Quote.parts at h
      split at h
      · injection h with h; subst h; exact hp _ _ (by assumption)
      · exact ih _ _ _ _ h
      · cases h
  unfold Quote.scan at h
  split at h
  · injection h with h; omega
  · split at h
    · injection h with h; omega
    · exact hps _ _ _ _ _ h
theorem parse_err {l : List UInt8} {k : Nat} (h : Num.parse l = .error k) : k = 3 ∨ k = 4 := by
  have hf : ∀ neg d x, Num.fin neg d x = .error k → k = 3 ∨ k = 4 := by
    intro neg d x h
    unfold Num.fin at h
    simp only [] at h
    split at h
    · cases h
    · split at h
      · cases h
      · injection h with h; omega
  have hp : ∀ neg d x, Num.point neg d x = .error k → k = 3 ∨ k = 4 := by
    intro neg d x h
    unfold Num.point at h
    split at h <;> exact hf _ _ _ h
  unfold Num.parse at h
  split at h
  · injection h with h; omega
  · unfold Num.mant at h
    split at h <;> exact hp _ _ _ h
theorem quote_fits {l o : List UInt8} {n : Nat} (h : Quote.scan l = .ok (o, n)) : 1 ≤ n ∧ n ≤ l.length ∧ o.length ≤ n := by
  unfold Quote.scan at h
  split at h
  · cases h
  · split at h
    · cases h
    · rename_i h0 _
      have := Quote.parts_size _ _ _ _ _ _ h
      rw [List.length_drop] at this
      simp only [List.length_nil] at this
      omega
/-- An error's place and number. -/
def EOk (l : List UInt8) (x : Er) : Prop := x.1 ≤ l.length ∧ x.2 ≠ 0
/-- What is read ends behind its beginning. -/
structure Fits (l : List UInt8) (p : Nat) {α : Type} (r : Except Er α) (e : α → Nat) : Prop where
  ok : ∀ v, r = .ok v → p < e v ∧ e v ≤ l.length
  err : ∀ x, r = .error x → EOk l x
end Go.Proofs.YtckflnibkglheaaGreatDoor.Jdec
/- A value of JSON in memory. -/
namespace Go.Proofs.YtckflnibkglheaaGreatDoor.Jdec
open Go.RowKit
set_option linter.unusedVariables false
set_option linter.unusedSimpArgs false

/-- A value's words. -/
structure Raw where
  kind : Int
  is : Bool
  neg : Bool
  dig : ByteArray
  exp : Int
  str : ByteArray
  ka : Option Addr
  kn : Nat
  kc : Nat
  va : Option Addr
  vn : Nat
  vc : Nat
def Raw.val (r : Raw) : Value := .agg #[.int .i64 r.kind, .bool r.is, .bool r.neg, .string r.dig, .int .i64 r.exp, .string r.str, .slice r.ka r.kn r.kc, .slice r.va r.vn r.vc]
def Raw.cells (r : Raw) : List Value := [.int .i64 r.kind, .bool r.is, .bool r.neg, .string r.dig, .int .i64 r.exp, .string r.str, .slice r.ka r.kn r.kc, .slice r.va r.vn r.vc]
def Raw.zero : Raw := ⟨0, false, false, ⟨#[]⟩, 0, ⟨#[]⟩, none, 0, 0, none, 0, 0⟩
/-- Texts in a block that is one of A's. -/
def IsTexts (w : World) (A : Nat → Prop) (a : Option Addr) (l : List ByteArray) : Prop :=
  l = [] ∨ ∃ b o, a = some ⟨b, o, none⟩ ∧ A b ∧ b < w.heap.size ∧ ∀ i (h : i < l.length), w.cell? ⟨b, o + i, none⟩ = some (.string l[i])
/-- A value's words stand at a place. -/
def CellsAt (w : World) (b o : Nat) (r : Raw) : Prop := ∀ j u, r.cells[j]? = some u → w.cell? ⟨b, o + j, none⟩ = some u
/-- The words are a value's, whose parts lie in blocks of A's. -/
inductive IsV (w : World) (A : Nat → Prop) : Raw → JV → Prop where
  | mk (r : Raw) (keys : List ByteArray) (kids : List JV) (f : Nat → Raw) : r.kn = keys.length → r.vn = kids.length → IsTexts w A r.ka keys →
      (kids = [] ∨ ∃ b o, r.va = some ⟨b, o, none⟩ ∧ A b ∧ b < w.heap.size ∧ ∀ i, i < kids.length → CellsAt w b (o + i * 8) (f i)) →
      (∀ i (h : i < kids.length), IsV w A (f i) kids[i]) → IsV w A r (.mk r.kind r.is r.neg r.dig r.exp r.str keys kids)

/-- What there was, and is one of A's, is still there, and one of A''s. -/
structure Turn (w w' : World) (A A' : Nat → Prop) : Prop where
  size : w.heap.size ≤ w'.heap.size
  block : ∀ b, A b → b < w.heap.size → w'.heap[b]? = w.heap[b]? ∧ A' b
theorem IsTexts.turn {w w' : World} {A A' : Nat → Prop} {a : Option Addr} {l : List ByteArray} (h : IsTexts w A a l) (t : Turn w w' A A') : IsTexts w' A' a l := by
  rcases h with h | ⟨b, o, ha, hA, hb, hc⟩
  · exact .inl h
  · obtain ⟨h1, h2⟩ := t.block b hA hb
    exact .inr ⟨b, o, ha, h2, Nat.lt_of_lt_of_le hb t.size, fun i hi => (World.cell?_of_block h1).trans (hc i hi)⟩
theorem IsV.turn {w w' : World} {A A' : Nat → Prop} {r : Raw} {v : JV} (h : IsV w A r v) (t : Turn w w' A A') : IsV w' A' r v := by
  induction h with
  | mk r keys kids f h1 h2 h3 h4 h5 ih =>
    refine .mk r keys kids f h1 h2 (h3.turn t) ?_ ih
    rcases h4 with h4 | ⟨b, o, ha, hA, hb, hc⟩
    · exact .inl h4
    · obtain ⟨g1, g2⟩ := t.block b hA hb
      exact .inr ⟨b, o, ha, g2, Nat.lt_of_lt_of_le hb t.size, fun i hi j u hu => (World.cell?_of_block g1).trans (hc i hi j u hu)⟩
theorem Turn.refl (w : World) (A : Nat → Prop) : Turn w w A A := ⟨Nat.le_refl _, fun b h _ => ⟨rfl, h⟩⟩
theorem Turn.mono (w : World) {A A' : Nat → Prop} (h : ∀ b, A b → b < w.heap.size → A' b) : Turn w w A A' := ⟨Nat.le_refl _, fun b hA hb => ⟨rfl, h b hA hb⟩⟩
theorem Turn.grown {w w' : World} {A : Nat → Prop} {row : Option Nat} (h : w.grownBy w' row) (hA : ∀ b, A b → some b ≠ row) : Turn w w' A A := ⟨h.size, fun b hb hl => ⟨h.block b hl (hA b hb), hb⟩⟩
theorem Turn.below {w w' : World} {A : Nat → Prop} (h : Below w.heap.size w w') : Turn w w' A A := ⟨h.size, fun b hb hl => ⟨h.block b hl, hb⟩⟩

/-- A value that has no parts. -/
theorem IsV.bare (w : World) (A : Nat → Prop) (kind : Int) (is neg : Bool) (dig : ByteArray) (exp : Int) (str : ByteArray) (ka va : Option Addr) (kc vc : Nat) : IsV w A ⟨kind, is, neg, dig, exp, str, ka, 0, kc, va, 0, vc⟩ (.mk kind is neg dig exp str [] []) :=
  .mk ⟨kind, is, neg, dig, exp, str, ka, 0, kc, va, 0, vc⟩ [] [] (fun _ => Raw.zero) rfl rfl (.inl rfl) (.inl rfl) (fun i h => absurd h (Nat.not_lt_zero _))

/-- A row of values that the call owns. -/
def Kids (w : World) (B : Nat) (v : Value) (ts : List JV) : Prop :=
  ∃ rs : List Raw, rs.length = ts.length ∧ w.ownsRow B 112 8 v ts.length (rs.flatMap Raw.cells) ∧
    ∀ i (h : i < rs.length) (h' : i < ts.length), IsV w (fun b => B ≤ b ∧ some b ≠ v.ownBlock) rs[i] ts[i]
theorem Kids.nil (w : World) (B : Nat) : Kids w B (.slice none 0 0) [] := ⟨[], rfl, World.ownsRow_nil _ _ _ _, fun i h => absurd h (Nat.not_lt_zero _)⟩
theorem Kids.form {w : World} {B : Nat} {v : Value} {ts : List JV} (h : Kids w B v ts) : ∃ a c, v = .slice a ts.length c := by
  obtain ⟨rs, h1, h2, h3⟩ := h
  rcases h2.2 with ⟨rfl, h0⟩ | ⟨g, cap, cur, rfl, _⟩
  · exact ⟨none, 0, by rw [h0]⟩
  · exact ⟨_, _, rfl⟩
/-- What turns elsewhere leaves it. -/
theorem Kids.kept {w w' : World} {B : Nat} {v : Value} {ts : List JV} {row : Option Nat} (h : Kids w B v ts) (hg : w.grownBy w' row) (hr : ∀ k, row = some k → k < B) : Kids w' B v ts := by
  obtain ⟨rs, h1, h2, h3⟩ := h
  refine ⟨rs, h1, h2.kept hg ?_, fun i hi hi' => (h3 i hi hi').turn (Turn.grown hg (fun b hb e => ?_))⟩
  · cases hv : v.ownBlock with
    | none => exact .inl rfl
    | some k =>
      have := (h2.lt k hv).1
      exact .inr (fun e => by have := hr k e.symm; omega)
  · have := hr b e.symm
    omega
end Go.Proofs.YtckflnibkglheaaGreatDoor.Jdec
