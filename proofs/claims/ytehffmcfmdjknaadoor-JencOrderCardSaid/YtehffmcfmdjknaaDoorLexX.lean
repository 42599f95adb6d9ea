/- lex.remark, lex.aside, lex.sign. -/
import Derived.Test.YtehffmcfmdjknaaDoorLexW
import Derived.Test.YtehffmcfmdjknaaDoorQuoteC
namespace Go.Proofs.YtehffmcfmdjknaaDoor.Lex
open Go.RowKit Go.Proofs.YtehffmcfmdjknaaDoor.Utf Go.Proofs.YtehffmcfmdjknaaDoor.Strs
set_option linter.unusedVariables false
set_option linter.unusedSimpArgs false
set_option maxRecDepth 100000

/-- The library's variable that strings.Index reads. -/
structure MaxL (w : World) : Prop where
  cell : ∃ m : Int, w.cell? ⟨0, 0, none⟩ = some (.int .i64 m)
theorem MaxL.lt {w : World} (T : MaxL w) : 0 < w.heap.size := by
  obtain ⟨m, h⟩ := T.cell
  unfold World.cell? at h
  split at h
  · rename_i h1; exact heap_lt h1
  · cases h
theorem MaxL.kept {w w' : World} (T : MaxL w) (h : w'.heap[0]? = w.heap[0]?) : MaxL w' := by
  obtain ⟨m, hm⟩ := T.cell; exact ⟨m, (World.cell?_of_block h).trans hm⟩
theorem MaxL.stays {w w' : World} (T : MaxL w) (h : Below w.heap.size w w') : MaxL w' := T.kept (h.block _ T.lt)

theorem comment_eq (kind : Nat) (l : List UInt8) (x y : Nat) (h : within l = (x, y)) : comment kind l = if y ≠ 0 then (0, 0, x, y) else (kind, l.length, 0, 0) := by
  unfold comment; rw [h]
theorem within_le (l : List UInt8) : (within l).1 ≤ l.length := by
  unfold within
  have hs : ∀ (n : Nat) (l : List UInt8) (p : Nat) (x : Nat × Nat), x ∈ scal n l p → x.1 ≤ p + l.length := by
    intro n
    induction n with
    | zero => intro l p x h; cases h
    | succ n ih =>
      intro l p x h
      unfold scal at h
      split at h
      · cases h
      split at h
      · cases h
      have h1 := (one_size_le l).1
      rcases List.mem_cons.1 h with rfl | h
      · simp
      · have := ih _ _ _ h
        rw [List.length_drop] at this
        omega
  have hb : ∀ (n : Nat) (l : List UInt8) (p q : Nat), bad n l p = some q → q ≤ p + l.length := by
    intro n
    induction n with
    | zero => intro l p q h; cases h
    | succ n ih =>
      intro l p q h
      unfold bad at h
      split at h
      · cases h
      split at h
      · injection h with h; omega
      have h1 := (one_size_le l).1
      have := ih _ _ _ h
      rw [List.length_drop] at this
      omega
  split
  · rename_i x hx
    have := hs _ _ _ _ (List.mem_of_find?_eq_some hx)
    simpa using this
  · split
    · rename_i p hp
      have := hb _ _ _ _ hp
      simpa using this
    · exact Nat.zero_le _

end Go.Proofs.YtehffmcfmdjknaaDoor.Lex
/- lex.aside, lex.sign. -/
namespace Go.Proofs.YtehffmcfmdjknaaDoor.Lex
open Go.RowKit Go.Proofs.YtehffmcfmdjknaaDoor.Utf Go.Proofs.YtehffmcfmdjknaaDoor.Strs
set_option linter.unusedVariables false
set_option linter.unusedSimpArgs false
set_option maxRecDepth 100000

theorem index_room (sub : List UInt8) : ∀ l : List UInt8, sub ≠ [] → 0 ≤ Lib.index l sub → (Lib.index l sub).toNat + sub.length ≤ l.length
  | [], h, h0 => by
    rw [Lib.index, if_neg (by simp [h])] at h0
    omega
  | b :: l, h, h0 => by
    rw [Lib.index] at h0 ⊢
    by_cases hp : sub.isPrefixOf (b :: l) = true
    · rw [if_pos hp]
      have := (List.isPrefixOf_iff_prefix.1 hp).length_le
      simpa using this
    · rw [if_neg hp] at h0 ⊢
      by_cases hm : (Lib.index l sub == -1) = true
      · rw [if_pos hm] at h0; omega
      · rw [if_neg hm] at h0 ⊢
        have hge := Lib.index_ge l sub
        have hne : Lib.index l sub ≠ -1 := fun e => hm (beq_iff_eq.2 e)
        have := index_room sub l h (by omega)
        simp only [List.length_cons]
        omega

theorem sign_le (l : List UInt8) : sign l ≤ 2 := by unfold sign; (repeat' split) <;> omega
end Go.Proofs.YtehffmcfmdjknaaDoor.Lex
/- lex.next. -/
namespace Go.Proofs.YtehffmcfmdjknaaDoor.Lex
open Go.RowKit Go.Proofs.YtehffmcfmdjknaaDoor.Utf Go.Proofs.YtehffmcfmdjknaaDoor.Strs
set_option linter.unusedVariables false
set_option linter.unusedSimpArgs false
set_option maxRecDepth 100000

/-- What next leaves. -/
def NPost (s : ByteArray) (w : World) (e : Ending) (w' : World) : Prop := e = .returned (val (next s.data.toList)) ∧ Below w.heap.size w w'
theorem scan_err {l : List UInt8} {k : Nat} (h : Quote.scan l = .error k) : k ≠ 0 := by
  have h4 : ∀ n m l k, Quote.four n m l = .error k → k ≠ 0 := by
    intro n
    induction n with
    | zero => intro m l k h; cases h
    | succ n ih =>
      intro m l k h
      cases l with
      | nil => unfold Quote.four at h; injection h with h; omega
      | cons c l =>
        unfold Quote.four at h
        split at h
        · injection h with h; omega
        · exact ih _ _ _ h
  have hn : ∀ l k, Quote.number l = .error k → k ≠ 0 := by
    intro l k h
    unfold Quote.number at h
    repeat' split at h
    all_goals first
      | (cases h; done)
      | (injection h with h; subst h; omega)
      | (injection h with h; subst h; exact h4 _ _ _ _ (by assumption))
  have he : ∀ l k, Quote.escape l = .error k → k ≠ 0 := by
    intro l k h
    unfold Quote.escape at h
    repeat' split at h
    all_goals first
      | (cases h; done)
      | (injection h with h; subst h; omega)
      | (injection h with h; subst h; exact hn _ _ (by assumption))
  have hp : ∀ l k, Quote.part l = .error k → k ≠ 0 := by
    intro l k h
    unfold Quote.part at h
    repeat' split at h
    all_goals first
      | (cases h; done)
      | (injection h with h; subst h; omega)
      | (injection h with h; subst h; exact he _ _ (by assumption))
  have hps : ∀ n l p out k, Quote.parts n l p out = .error k → k ≠ 0 := by
    intro n
    induction n with
    | zero => intro l p out k h; injection h with h; omega
    | succ n ih =>
      intro l p out k h
      unfold Quote.parts at h
      split at h
      · injection h with h; subst h; exact hp _ _ (by assumption)
      · exact ih _ _ _ _ h
      · cases h
  unfold Quote.scan at h
  split at h
  · injection h with h; omega
  · split at h
    · injection h with h; omega
    · exact hps _ _ _ _ _ h

end Go.Proofs.YtehffmcfmdjknaaDoor.Lex
