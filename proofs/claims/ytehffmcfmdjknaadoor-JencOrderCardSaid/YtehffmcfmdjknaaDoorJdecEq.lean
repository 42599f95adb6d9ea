/- The values of a text are no longer than it. -/
import Derived.Test.YtehffmcfmdjknaaDoorJdecU
import Derived.Test.YtehffmcfmdjknaaDoorJdecP
namespace Go.Proofs.YtehffmcfmdjknaaDoor.Jdec
set_option linter.unusedVariables false
set_option linter.unusedSimpArgs false

/-- Lists of at most N. -/
inductive Small (N : Nat) : JV → Prop where
  | mk (k : Int) (i n : Bool) (d : ByteArray) (e : Int) (s : ByteArray) (ks : List ByteArray) (vs : List JV) : ks.length ≤ N → vs.length ≤ N → (∀ j (h : j < vs.length), Small N vs[j]) → Small N (.mk k i n d e s ks vs)
theorem Small.bare (N : Nat) (k : Int) (i n : Bool) (d : ByteArray) (e : Int) (s : ByteArray) : Small N (.mk k i n d e s [] []) := .mk _ _ _ _ _ _ _ _ (Nat.zero_le _) (Nat.zero_le _) (fun j h => absurd h (Nat.not_lt_zero _))
def SmallVal (l : List UInt8) (val : Val) : Prop := ∀ p v q, p ≤ l.length → val p = .ok (v, q) → Small l.length v
theorem small_snoc {N : Nat} {vs : List JV} {v : JV} (h : ∀ j (h : j < vs.length), Small N vs[j]) (hv : Small N v) : ∀ j (h : j < (vs ++ [v]).length), Small N (vs ++ [v])[j] := by
  intro j hj
  by_cases hlt : j < vs.length
  · rw [List.getElem_append_left hlt]; exact h j hlt
  · have he : j = vs.length := by simp at hj; omega
    subst he
    rw [List.getElem_append_right (Nat.le_refl _)]
    simpa using hv
theorem items_small (l : List UInt8) (val : Val) (hok : ValOk l val) (hv : SmallVal l val) : ∀ (n p : Nat) (acc : List JV) (x : List JV × Nat), p ≤ l.length → acc.length ≤ p → (∀ j (h : j < acc.length), Small l.length acc[j]) → items l val n p acc = .ok x →
    x.1.length ≤ l.length ∧ ∀ j (h : j < x.1.length), Small l.length x.1[j]
  | 0, p, acc, x, _, _, _, h => by cases h
  | n + 1, p, acc, x, hp, ha, hs, h => by
    rw [items] at h
    cases h0 : val p with
    | error y => rw [h0] at h; cases h
    | ok r =>
      obtain ⟨v, q⟩ := r
      have g1 := (hok p hp).ok _ h0
      have sv := hv p v q hp h0
      rw [h0] at h
      simp only at g1 h
      cases h1 : ends l 93 q with
      | error y => rw [h1] at h; cases h
      | ok z =>
        obtain ⟨b, r⟩ := z
        have g2 := (ends_fits l 93 q g1.2).ok _ h1
        simp only at g2
        rw [h1] at h
        have hl : (acc ++ [v]).length ≤ r := by rw [List.length_append, List.length_singleton]; omega
        cases b
        · exact items_small l val hok hv n r (acc ++ [v]) x g2.2 hl (small_snoc hs sv) h
        · simp only at h
          injection h with h
          subst h
          exact ⟨by simp only; omega, small_snoc hs sv⟩
theorem members_small (l : List UInt8) (val : Val) (hok : ValOk l val) (hv : SmallVal l val) : ∀ (n p : Nat) (ks : List ByteArray) (vs : List JV) (x : List ByteArray × List JV × Nat), p ≤ l.length → ks.length ≤ p → vs.length ≤ p → (∀ j (h : j < vs.length), Small l.length vs[j]) → members l val n p ks vs = .ok x →
    x.1.length ≤ l.length ∧ x.2.1.length ≤ l.length ∧ ∀ j (h : j < x.2.1.length), Small l.length x.2.1[j]
  | 0, p, ks, vs, x, _, _, _, _, h => by cases h
  | n + 1, p, ks, vs, x, hp, hk0, ha, hs, h => by
    rw [members] at h
    cases hk : key l ks p with
    | error y => rw [hk] at h; cases h
    | ok r =>
      obtain ⟨k, q⟩ := r
      have g0 := (key_fits l ks p hp).ok _ hk
      rw [hk] at h
      simp only at g0 h
      cases hc : colon l q with
      | error y => rw [hc] at h; cases h
      | ok r =>
        have g1 := (colon_fits l q g0.2).ok _ hc
        rw [hc] at h
        simp only [id] at g1 h
        cases h0 : val r with
        | error y => rw [h0] at h; cases h
        | ok z =>
          obtain ⟨v, t⟩ := z
          have g2 := (hok r g1.2).ok _ h0
          have sv := hv r v t g1.2 h0
          rw [h0] at h
          simp only at g2 h
          cases h1 : ends l 125 t with
          | error y => rw [h1] at h; cases h
          | ok z =>
            obtain ⟨b, u⟩ := z
            have g3 := (ends_fits l 125 t g2.2).ok _ h1
            simp only at g3
            rw [h1] at h
            have hl : (vs ++ [v]).length ≤ u := by rw [List.length_append, List.length_singleton]; omega
            have hl2 : (ks ++ [k]).length ≤ u := by rw [List.length_append, List.length_singleton]; omega
            cases b
            · exact members_small l val hok hv n u (ks ++ [k]) (vs ++ [v]) x g3.2 hl2 hl (small_snoc hs sv) h
            · simp only at h
              injection h with h
              subst h
              exact ⟨by simp only; omega, by simp only; omega, small_snoc hs sv⟩
theorem value_small (l : List UInt8) : ∀ d, SmallVal l (value l d)
  | 0, p, v, q, _, h => by
    rw [value] at h
    cases hc : l[p]? with
    | none => rw [hc] at h; cases h
    | some c => rw [hc] at h; cases h
  | d + 1, p, v, q, hp, h => by
    have wd : ∀ w kd is, wordV l w (plain kd is) p = .ok (v, q) → Small l.length v := by
      intro w kd is h
      unfold wordV at h
      cases hw : word l w p with
      | error y => rw [hw] at h; cases h
      | ok r =>
        rw [hw] at h
        injection h with h
        injection h with h _
        rw [← h]
        exact Small.bare _ _ _ _ _ _ _
    rw [value] at h
    cases hc : l[p]? with
    | none => rw [hc] at h; cases h
    | some c =>
      have hlt := get_lt hc
      have hs := skip_le l (p + 1) hlt
      have hs2 := skip_ge l (p + 1)
      rw [hc] at h
      simp only at h
      split at h
      · cases h
      · unfold text at h
        cases hq : quoted l p with
        | error y => rw [hq] at h; cases h
        | ok r =>
          rw [hq] at h
          injection h with h
          injection h with h _
          rw [← h]; exact Small.bare _ _ _ _ _ _ _
      · unfold number at h
        split at h
        · cases h
        · split at h
          · cases h
          · injection h with h
            injection h with h _
            rw [← h]; exact Small.bare _ _ _ _ _ _ _
      · unfold object at h
        split at h
        · injection h with h
          injection h with h _
          rw [← h]; exact Small.bare _ _ _ _ _ _ _
        · cases hi : members l (value l d) (l.length + 1) (skip l (p + 1)) [] [] with
          | error y => rw [hi] at h; cases h
          | ok r =>
            obtain ⟨ks, vs, r⟩ := r
            have := members_small l _ (value_fits l d) (value_small l d) _ _ [] [] _ hs (Nat.zero_le _) (Nat.zero_le _) (fun j h => absurd h (Nat.not_lt_zero _)) hi
            rw [hi] at h
            injection h with h
            injection h with h _
            rw [← h]
            exact .mk _ _ _ _ _ _ _ _ this.1 this.2.1 this.2.2
      · unfold list at h
        split at h
        · injection h with h
          injection h with h _
          rw [← h]; exact Small.bare _ _ _ _ _ _ _
        · cases hi : items l (value l d) (l.length + 1) (skip l (p + 1)) [] with
          | error y => rw [hi] at h; cases h
          | ok r =>
            obtain ⟨vs, r⟩ := r
            have := items_small l _ (value_fits l d) (value_small l d) _ _ [] _ hs (Nat.zero_le _) (fun j h => absurd h (Nat.not_lt_zero _)) hi
            rw [hi] at h
            injection h with h
            injection h with h _
            rw [← h]
            exact .mk _ _ _ _ _ _ _ _ (Nat.zero_le _) this.1 this.2
      · exact wd _ _ _ h
      · exact wd _ _ _ h
      · exact wd _ _ _ h
theorem parse_small_tree (l : List UInt8) : Small l.length (parse l).1 := by
  have z : Small l.length JV.zero := Small.bare _ _ _ _ _ _ _
  unfold parse
  split
  · exact z
  · cases hv : value l 64 (skip l 0) with
    | error y => exact z
    | ok r =>
      obtain ⟨v, q⟩ := r
      simp only
      split
      · exact z
      · exact value_small l 64 _ v q (skip_le l 0 (Nat.zero_le _)) hv
end Go.Proofs.YtehffmcfmdjknaaDoor.Jdec
/- tabulariumref08.Same of two values that are alike. -/
namespace Go.Proofs.YtehffmcfmdjknaaDoor.Jdec
open Go.RowKit Go.Proofs.YtehffmcfmdjknaaDoor.Strs
set_option linter.unusedVariables false
set_option linter.unusedSimpArgs false
set_option maxRecDepth 100000

theorem CellsAt.below {w w' : World} {b o : Nat} {r : Raw} (h : CellsAt w b o r) (hb : b < w.heap.size) (g : Below w.heap.size w w') : CellsAt w' b o r := fun j u hu => (World.cell?_of_block (g.block b hb)).trans (h j u hu)
theorem CellsAt.eight {w : World} {b o : Nat} {r : Raw} (h : CellsAt w b o r) :
    w.cell? ⟨b, o, none⟩ = some (.int .i64 r.kind) ∧ w.cell? ⟨b, o + 1, none⟩ = some (.bool r.is) ∧ w.cell? ⟨b, o + 2, none⟩ = some (.bool r.neg) ∧ w.cell? ⟨b, o + 3, none⟩ = some (.string r.dig) ∧ w.cell? ⟨b, o + 4, none⟩ = some (.int .i64 r.exp) ∧ w.cell? ⟨b, o + 5, none⟩ = some (.string r.str) ∧ w.cell? ⟨b, o + 6, none⟩ = some (.slice r.ka r.kn r.kc) ∧ w.cell? ⟨b, o + 7, none⟩ = some (.slice r.va r.vn r.vc) :=
  ⟨h 0 _ rfl, h 1 _ rfl, h 2 _ rfl, h 3 _ rfl, h 4 _ rfl, h 5 _ rfl, h 6 _ rfl, h 7 _ rfl⟩
theorem IsV.parts {w : World} {A : Nat → Prop} {r : Raw} {k : Int} {i n : Bool} {d : ByteArray} {e : Int} {s : ByteArray} {ks : List ByteArray} {vs : List JV} (h : IsV w A r (.mk k i n d e s ks vs)) :
    ∃ ka kc va vc, r = Raw.mk k i n d e s ka ks.length kc va vs.length vc ∧ IsTexts w A ka ks ∧ ∃ f : Nat → Raw, (vs = [] ∨ ∃ b o, va = some ⟨b, o, none⟩ ∧ b < w.heap.size ∧ ∀ i, i < vs.length → CellsAt w b (o + i * 8) (f i)) ∧ ∀ i (h : i < vs.length), IsV w A (f i) vs[i] := by
  generalize hz : JV.mk k i n d e s ks vs = z at h
  cases h with
  | mk _ keys kids f h1 h2 h3 h4 h5 =>
    injection hz with e1 e2 e3 e4 e5 e6 e7 e8
    subst e7 e8
    obtain ⟨kd, is, ng, dg, ex, st, ka, kn, kc, va, vn, vc⟩ := r
    simp only at h1 h2 e1 e2 e3 e4 e5 e6
    subst e1 e2 e3 e4 e5 e6 h1 h2
    refine ⟨ka, kc, va, vc, rfl, h3, f, ?_, h5⟩
    rcases h4 with h4 | ⟨b, o, q1, _, q3, q4⟩
    · exact .inl h4
    · exact .inr ⟨b, o, q1, q3, q4⟩
theorem IsV.behind {w w' : World} {A : Nat → Prop} {r : Raw} {t : JV} (h : IsV w A r t) (g : Below w.heap.size w w') : IsV w' A r t := h.turn (Turn.below g)
theorem same_keep {w w' : World} (g : Below w.drew.heap.size w.drew w') {b j : Nat} {v : Value} (h : w.cell? ⟨b, j, none⟩ = some v) : w'.cell? ⟨b, j, none⟩ = some v :=
  (World.cell?_of_block (w := w.drew) (a := ⟨b, j, none⟩) (g.block b (World.block_lt_of_cell? w _ h))).trans h

end Go.Proofs.YtehffmcfmdjknaaDoor.Jdec
