/- The values of a text are no longer than it. -/
import Derived.Test.YtehffmcfmdjknaaGreatDoorJdecU
import Derived.Test.YtehffmcfmdjknaaGreatDoorJdecP
namespace Go.Proofs.YtehffmcfmdjknaaGreatDoor.Jdec
set_option linter.unusedVariables false
set_option linter.unusedSimpArgs false

/-- Lists of at most N. -/
inductive Small (N : Nat) : JV → Prop where
  | mk (k : Int) (i n : Bool) (d : ByteArray) (e : Int) (s : ByteArray) (ks : List ByteArray) (vs : List JV) : ks.length ≤ N → vs.length ≤ N → (∀ j (h : j < vs.length), Small N vs[j]) → Small N (.mk k i n d e s ks vs)
theorem Small.bare (N : Nat) (k : Int) (i n : Bool) (d : ByteArray) (e : Int) (s : ByteArray) : Small N (.mk k i n d e s [] []) := .mk _ _ _ _ _ _ _ _ (Nat.zero_le _) (Nat.zero_le _) (fun j h => absurd h (Nat.not_lt_zero _))
def SmallVal (l : List UInt8) (val : Val) : Prop := ∀ p v q, p ≤ l.length → val p = .ok (v, q) → Small l.length v
theorem small_snoc {N : Nat} {vs : List JV} {v : JV} (h : ∀ j (h : j < vs.length), Small N vs[j]) (hv : Small N v) : ∀ j (h : j < (vs ++ [v]).length), Small N (vs ++ [v])[j] := by
  intro j hj
  by_cases hlt : j < vs.length
  · rw [List.getElem_append_left hlt]; exact h j hlt
  · have he : j = vs.length := by simp at hj; omega
    subst he
    rw [List.getElem_append_right (Nat.le_refl _)]
    simpa using hv
theorem items_small (l : List UInt8) (val : Val) (hok : ValOk l val) (hv : SmallVal l val) : ∀ (n p : Nat) (acc : List JV) (x : List JV × Nat), p ≤ l.length → acc.length ≤ p → (∀ j (h : j < acc.length), Small l.length acc[j]) → items l val n p acc = .ok x →
    x.1.length ≤ l.length ∧ ∀ j (h : j < x.1.length), Small l.length x.1[j]
  | 0, p, acc, x, _, _, _, h => by cases h
  | n + 1, p, acc, x, hp, ha, hs, h => by
    rw [items] at h
    cases h0 : val p with
    | error y => rw [h0] at h; cases h
    | ok r =>
      obtain ⟨v, q⟩ := r
      have g1 := (hok p hp).ok _ h0
      have sv := hv p v q hp h0
      rw [h0] at h
      simp only at g1 h
      cases h1 : ends l 93 q with
      | error y => rw [h1] at h; cases h
      | ok z =>
        obtain ⟨b, r⟩ := z
        have g2 := (ends_fits l 93 q g1.2).ok _ h1
        simp only at g2
        rw [h1] at h
        have hl : (acc ++ [v]).length ≤ r := by rw [List.length_append, List.length_singleton]; omega
        cases b
        · exact items_small l val hok hv n r (acc ++ [v]) x g2.2 hl (small_snoc hs sv) h
        · simp only at h
          injection h with h
          subst h
          exact ⟨by simp only; omega, small_snoc hs sv⟩
theorem members_small (l : List UInt8) (val : Val) (hok : ValOk l val) (hv : SmallVal l val) : ∀ (n p : Nat) (ks : List ByteArray) (vs : List JV) (x : List ByteArray × List JV × Nat), p ≤ l.length → ks.length ≤ p → vs.length ≤ p → (∀ j (h : j < vs.length), Small l.length vs[j]) → members l val n p ks vs = .ok x →
    x.1.length ≤ l.length ∧ x.2.1.length ≤ l.length ∧ ∀ j (h : j < x.2.1.length), Small l.length x.2.1[j]
  | 0, p, ks, vs, x, _, _, _, _, h => by cases h
  | n + 1, p, ks, vs, x, hp, hk0, ha, hs, h => by
    rw [members] at h
    cases hk : key l ks p with
    | error y => rw [hk] at h; cases h
    | ok r =>
      obtain ⟨k, q⟩ := r
      have g0 := (key_fits l ks p hp).ok _ hk
      rw [hk] at h
      simp only at g0 h
      cases hc : colon l q with
      | error y => rw [hc] at h; cases h
      | ok r =>
        have g1 := (colon_fits l q g0.2).ok _ hc
        rw [hc] at h
        simp only [id] at g1 h
        cases h0 : val r with
        | error y => rw [h0] at h; cases h
        | ok z =>
          obtain ⟨v, t⟩ := z
          have g2 := (hok r g1.2).ok _ h0
          have sv := hv r v t g1.2 h0
          rw [h0] at h
          simp only at g2 h
          cases h1 : ends l 125 t with
          | error y => rw [h1] at h; cases h
          | ok z =>
            obtain ⟨b, u⟩ := z
            have g3 := (ends_fits l 125 t g2.2).ok _ h1
            simp only at g3
            rw [h1] at h
            have hl : (vs ++ [v]).length ≤ u := by rw [List.length_append, List.length_singleton]; omega
            have hl2 : (ks ++ [k]).length ≤ u := by rw [List.length_append, List.length_singleton]; omega
            cases b
            · exact members_small l val hok hv n u (ks ++ [k]) (vs ++ [v]) x g3.2 hl2 hl (small_snoc hs sv) h
            · simp only at h
              injection h with h
              subst h
              exact ⟨by simp only; omega, by simp only; omega, small_snoc hs sv⟩
theorem value_small (l : List UInt8) : ∀ d, SmallVal l (value l d)
  | 0, p, v, q, _, h => by
    rw [value] at h
    cases hc : l[p]? with
    | none => rw [hc] at h; cases h
    | some c => rw [hc] at h; cases h
  | d + 1, p, v, q, hp, h => by
    have wd : ∀ w kd is, wordV l w (plain kd is) p = .ok (v, q) → Small l.length v := by
      intro w kd is h
      unfold wordV at h
      cases hw : word l w p with
      | error y => rw [hw] at h; cases h
      | ok r =>
        rw [hw] at h
        injection h with h
        injection h with h _
        rw [← h]
        exact Small.bare _ _ _ _ _ _ _
    rw [value] at h
    cases hc : l[p]? with
    | none => rw [hc] at h; cases h
    | some c =>
      have hlt := get_lt hc
      have hs := skip_le l (p + 1) hlt
      have hs2 := skip_ge l (p + 1)
      rw [hc] at h
      simp only at h
      split at h
      · cases h
      · unfold text at h
        cases hq : quoted l p with
        | error y => rw [hq] at h; cases h
        | ok r =>
          rw [hq] at h
          injection h with h
          injection h with h _
          rw [← h]; exact Small.bare _ _ _ _ _ _ _
      · unfold number at h
        split at h
        · cases h
        · split at h
          · cases h
          · injection h with h
            injection h with h _
            rw [← h]; exact Small.bare _ _ _ _ _ _ _
      · unfold object at h
        split at h
        · injection h with h
          injection h with h _
          rw [← h]; exact Small.bare _ _ _ _ _ _ _
        · cases hi : members l (value l d) (l.length + 1) (skip l (p + 1)) [] [] with
          | error y => rw [hi] at h; cases h
          | ok r =>
            obtain ⟨ks, vs, r⟩ := r
            have := members_small l _ (value_fits l d) (value_small l d) _ _ [] [] _ hs (Nat.zero_le _) (Nat.zero_le _) (fun j h => absurd h (Nat.not_lt_zero _)) hi
            rw [hi] at h
            injection h with h
            injection h with h _
            rw [← h]
            exact .mk _ _ _ _ _ _ _ _ this.1 this.2.1 this.2.2
      · unfold list at h
        split at h
        · injection h with h
          injection h with h _
          rw [← h]; exact Small.bare _ _ _ _ _ _ _
        · cases hi : items l (value l d) (l.length + 1) (skip l (p + 1)) [] with
          | error y => rw [hi] at h; cases h
          | ok r =>
            obtain ⟨vs, r⟩ := r
            have := items_small l _ (value_fits l d) (value_small l d) _ _ [] _ hs (Nat.zero_le _) (fun j h => absurd h (Nat.not_lt_zero _)) hi
            rw [hi] at h
            injection h with h
            injection h with h _
            rw [← h]
            exact .mk _ _ _ _ _ _ _ _ (Nat.zero_le _) this.1 this.2
      · exact wd _ _ _ h
      · exact wd _ _ _ h
      · exact wd _ _ _ h
theorem parse_small_tree (l : List UInt8) : Small l.length (parse l).1 := by
  have z : Small l.length JV.zero := Small.bare _ _ _ _ _ _ _
  unfold parse
  split
  · exact z
  · cases hv : value l 64 (skip l 0) with
    | error y => exact z
    | ok r =>
      obtain ⟨v, q⟩ := r
      simp only
      split
      · exact z
      · exact value_small l 64 _ v q (skip_le l 0 (Nat.zero_le _)) hv
end Go.Proofs.YtehffmcfmdjknaaGreatDoor.Jdec
/- tabulariumref08.Same of two values that are alike. -/
namespace Go.Proofs.YtehffmcfmdjknaaGreatDoor.Jdec
open Go.RowKit Go.Proofs.YtehffmcfmdjknaaGreatDoor.Strs
set_option linter.unusedVariables false
set_option linter.unusedSimpArgs false
set_option maxRecDepth 100000

set_option maxHeartbeats 1000000 in
theorem texts_eq (ks : List ByteArray) (A A' : Nat → Prop) (ka ka' : Option Addr) (kc kc' : Nat) (w : World) (h : IsTexts w A ka ks) (h' : IsTexts w A' ka' ks) (hl : ks.length ≤ 4611686018427387904) :
    Calls Tryz.prog 21 #[.slice ka ks.length kc, .slice ka' ks.length kc'] w fun e w' => e = .returned (.bool true) ∧ ∃ n, w' = w.drewN n := by
  have H := Hid.out (p := Hid _) h
  have H' := Hid.out (p := Hid _) h'
  clear h h'
  go_enter Tryz.func21, Tryz.ntmps21
  go_wp2_with fail
  go_loopw [5] (fun p wr => ∃ i n : Nat, p = .int .i64 i ∧ i ≤ ks.length ∧ wr = w.drewN n) (fun p _ => ks.length - (intOf p).toNat)
  case atStart => exact ⟨0, 0, rfl, Nat.zero_le _, rfl⟩
  case round =>
    obtain ⟨i, n, rfl, hi, rfl⟩ := hrel
    by_cases hlt : i < ks.length
    · have hne : ks ≠ [] := fun e => by rw [e] at hlt; simp at hlt
      obtain ⟨b, o, rfl, _, _, hc⟩ := H.out.resolve_left hne
      obtain ⟨b', o', rfl, _, _, hc'⟩ := H'.out.resolve_left hne
      have k2 := hc i hlt
      have g2 := hc' i hlt
      generalize ks[i] = x at *
      have q2 : (x.toList != x.toList) = false := by simp
      clear hc hc'
      go_wp2_with fail
      go_quiet (fail)
      go_wp2_with fail
      go_roundw
      case rel => exact ⟨i + 1, _, by go_num, by omega, rfl⟩
      case measure => simp [intOf]; omega
    · go_wp2_with fail
      go_ret
      exact ⟨rfl, n, rfl⟩
theorem CellsAt.below {w w' : World} {b o : Nat} {r : Raw} (h : CellsAt w b o r) (hb : b < w.heap.size) (g : Below w.heap.size w w') : CellsAt w' b o r := fun j u hu => (World.cell?_of_block (g.block b hb)).trans (h j u hu)
theorem CellsAt.eight {w : World} {b o : Nat} {r : Raw} (h : CellsAt w b o r) :
    w.cell? ⟨b, o, none⟩ = some (.int .i64 r.kind) ∧ w.cell? ⟨b, o + 1, none⟩ = some (.bool r.is) ∧ w.cell? ⟨b, o + 2, none⟩ = some (.bool r.neg) ∧ w.cell? ⟨b, o + 3, none⟩ = some (.string r.dig) ∧ w.cell? ⟨b, o + 4, none⟩ = some (.int .i64 r.exp) ∧ w.cell? ⟨b, o + 5, none⟩ = some (.string r.str) ∧ w.cell? ⟨b, o + 6, none⟩ = some (.slice r.ka r.kn r.kc) ∧ w.cell? ⟨b, o + 7, none⟩ = some (.slice r.va r.vn r.vc) :=
  ⟨h 0 _ rfl, h 1 _ rfl, h 2 _ rfl, h 3 _ rfl, h 4 _ rfl, h 5 _ rfl, h 6 _ rfl, h 7 _ rfl⟩
theorem IsV.parts {w : World} {A : Nat → Prop} {r : Raw} {k : Int} {i n : Bool} {d : ByteArray} {e : Int} {s : ByteArray} {ks : List ByteArray} {vs : List JV} (h : IsV w A r (.mk k i n d e s ks vs)) :
    ∃ ka kc va vc, r = Raw.mk k i n d e s ka ks.length kc va vs.length vc ∧ IsTexts w A ka ks ∧ ∃ f : Nat → Raw, (vs = [] ∨ ∃ b o, va = some ⟨b, o, none⟩ ∧ b < w.heap.size ∧ ∀ i, i < vs.length → CellsAt w b (o + i * 8) (f i)) ∧ ∀ i (h : i < vs.length), IsV w A (f i) vs[i] := by
  generalize hz : JV.mk k i n d e s ks vs = z at h
  cases h with
  | mk _ keys kids f h1 h2 h3 h4 h5 =>
    injection hz with e1 e2 e3 e4 e5 e6 e7 e8
    subst e7 e8
    obtain ⟨kd, is, ng, dg, ex, st, ka, kn, kc, va, vn, vc⟩ := r
    simp only at h1 h2 e1 e2 e3 e4 e5 e6
    subst e1 e2 e3 e4 e5 e6 h1 h2
    refine ⟨ka, kc, va, vc, rfl, h3, f, ?_, h5⟩
    rcases h4 with h4 | ⟨b, o, q1, _, q3, q4⟩
    · exact .inl h4
    · exact .inr ⟨b, o, q1, q3, q4⟩
theorem IsV.behind {w w' : World} {A : Nat → Prop} {r : Raw} {t : JV} (h : IsV w A r t) (g : Below w.heap.size w w') : IsV w' A r t := h.turn (Turn.below g)
/-- Alike. -/
def Alike (t : JV) : Prop := ∀ (ra rb : Raw) (A A' : Nat → Prop) (w : World), IsV w A ra t → IsV w A' rb t → Calls Tryz.prog 12 #[ra.val, rb.val] w fun e w' => e = .returned (.bool true) ∧ Below w.heap.size w w'

theorem same_keep {w w' : World} (g : Below w.drew.heap.size w.drew w') {b j : Nat} {v : Value} (h : w.cell? ⟨b, j, none⟩ = some v) : w'.cell? ⟨b, j, none⟩ = some v :=
  (World.cell?_of_block (w := w.drew) (a := ⟨b, j, none⟩) (g.block b (World.block_lt_of_cell? w _ h))).trans h

set_option maxHeartbeats 8000000 in
theorem same_step (N : Nat) (hN : N ≤ 4611686018427387904) (k : Int) (is ng : Bool) (d : ByteArray) (e : Int) (s : ByteArray) (ks : List ByteArray) (vs : List JV) (hk : ks.length ≤ N) (hv : vs.length ≤ N) (IH : ∀ j (h : j < vs.length), Alike vs[j]) : Alike (.mk k is ng d e s ks vs) := by
  intro ra rb A A' w h h'
  obtain ⟨ka, kc, va, vc, rfl, ht, f, hc, hi⟩ := h.parts
  obtain ⟨ka', kc', va', vc', rfl, ht', f', hc', hi'⟩ := h'.parts
  have HIH := Hid.out (p := Hid _) IH
  have HT : Hid (IsTexts w A ka ks) := ht
  have HT' : Hid (IsTexts w A' ka' ks) := ht'
  have HC := Hid.out (p := Hid _) hc
  have HC' := Hid.out (p := Hid _) hc'
  have HI := Hid.out (p := Hid _) hi
  have HI' := Hid.out (p := Hid _) hi'
  clear h h' ht ht' hc hc' hi hi' IH
  dsimp only [Raw.val]
  go_enter Tryz.func12, Tryz.ntmps12
  go_wp2_with fail
  obtain ⟨b1, hb1⟩ : ∃ b1, w.heap.size = b1 := ⟨_, rfl⟩
  obtain ⟨w2, hw2⟩ : ∃ w2, (w.alloc (.cells #[.int .i64 k, .bool is, .bool ng, .string d, .int .i64 e, .string s, .slice ka ks.length kc, .slice va vs.length vc] 29)).alloc (.cells #[.int .i64 k, .bool is, .bool ng, .string d, .int .i64 e, .string s, .slice ka' ks.length kc', .slice va' vs.length vc'] 29) = w2 := ⟨_, rfl⟩
  have B2 : Hid (Below w.heap.size w w2) := by rw [← hw2]; exact ((Below.refl _ _).alloc (Nat.le_refl _) _).alloc (by simp) _
  have V1 : Hid (w2.heap[b1]? = some (.cells #[.int .i64 k, .bool is, .bool ng, .string d, .int .i64 e, .string s, .slice ka ks.length kc, .slice va vs.length vc] 29 (0, 0))) := by rw [← hw2, ← hb1]; exact heap_alloc_old (heap_alloc_new _ _)
  have V2 : Hid (w2.heap[b1 + 1]? = some (.cells #[.int .i64 k, .bool is, .bool ng, .string d, .int .i64 e, .string s, .slice ka' ks.length kc', .slice va' vs.length vc'] 29 (0, 0))) := by
    have := heap_alloc_new (w.alloc (.cells #[.int .i64 k, .bool is, .bool ng, .string d, .int .i64 e, .string s, .slice ka ks.length kc, .slice va vs.length vc] 29)) (.cells #[.int .i64 k, .bool is, .bool ng, .string d, .int .i64 e, .string s, .slice ka' ks.length kc', .slice va' vs.length vc'] 29)
    rw [show (w.alloc (.cells #[.int .i64 k, .bool is, .bool ng, .string d, .int .i64 e, .string s, .slice ka ks.length kc, .slice va vs.length vc] 29)).heap.size = w.heap.size + 1 by simp] at this
    rw [← hw2, ← hb1]
    exact this
  have HT2 : Hid (IsTexts w2 A ka ks) := HT.out.turn (Turn.below B2.out)
  have HT2' : Hid (IsTexts w2 A' ka' ks) := HT'.out.turn (Turn.below B2.out)
  rw [hw2, hb1]
  have HB1 := Hid.out (p := Hid _) hb1
  clear hw2 hb1 HT HT'
  refine (texts_eq ks A A' ka ka' kc kc' w2 HT2.out HT2'.out (by omega)).mono ?_
  rintro x w3 ⟨rfl, n3, rfl⟩
  have c16 : w2.cell? ⟨b1, 7, none⟩ = some (.slice va vs.length vc) := cell_of V1.out 7
  have c26 : w2.cell? ⟨b1 + 1, 7, none⟩ = some (.slice va' vs.length vc') := cell_of V2.out 7
  have B3 : Hid (Below w.heap.size w (w2.drewN n3)) := B2.out.trans (below_drewN _ _ _)
  have V13 : Hid ((w2.drewN n3).heap[b1]? = some (.cells #[.int .i64 k, .bool is, .bool ng, .string d, .int .i64 e, .string s, .slice ka ks.length kc, .slice va vs.length vc] 29 (0, 0))) := V1.out
  have V23 : Hid ((w2.drewN n3).heap[b1 + 1]? = some (.cells #[.int .i64 k, .bool is, .bool ng, .string d, .int .i64 e, .string s, .slice ka' ks.length kc', .slice va' vs.length vc'] 29 (0, 0))) := V2.out
  have c1 : (w2.drewN n3).cell? ⟨b1, 7, none⟩ = some (.slice va vs.length vc) := cell_of V13.out 7
  have c2 : (w2.drewN n3).cell? ⟨b1 + 1, 7, none⟩ = some (.slice va' vs.length vc') := cell_of V23.out 7
  clear HT2 HT2' c16 c26 V1 V2 B2
  generalize w2.drewN n3 = w3 at *
  go_wp2_with fail
  go_loopw [5] (fun p wr => ∃ i : Nat, p = .int .i64 i ∧ i ≤ vs.length ∧ Hid (Below w3.heap.size w3 wr)) (fun p _ => vs.length - (intOf p).toNat)
  case atStart => exact ⟨0, rfl, Nat.zero_le _, Below.refl _ _⟩
  case round =>
    obtain ⟨i, rfl, hi, hB⟩ := hrel
    have hs3 : b1 + 1 < w3.heap.size := heap_lt V23.out
    have V14 := Hid.out (p := Hid _) ((hB.out.block b1 (by omega)).trans V13.out)
    have V24 := Hid.out (p := Hid _) ((hB.out.block (b1 + 1) hs3).trans V23.out)
    have d1 : wr.cell? ⟨b1, 7, none⟩ = some (.slice va vs.length vc) := cell_of V14.out 7
    have d2 : wr.cell? ⟨b1 + 1, 7, none⟩ = some (.slice va' vs.length vc') := cell_of V24.out 7
    by_cases hlt : i < vs.length
    · have hne : vs ≠ [] := fun e => by rw [e] at hlt; simp at hlt
      obtain ⟨g, o, rfl, hg, hcs⟩ := HC.out.resolve_left hne
      obtain ⟨g', o', rfl, hg', hcs'⟩ := HC'.out.resolve_left hne
      have Bw : Hid (Below w.heap.size w wr) := B3.out.trans (hB.out.mono B3.out.size)
      have K1 := Hid.out (p := Hid _) ((hcs i hlt).below hg Bw.out)
      have K2 := Hid.out (p := Hid _) ((hcs' i hlt).below hg' Bw.out)
      have I1 := Hid.out (p := Hid _) ((HI.out i hlt).behind Bw.out)
      have I2 := Hid.out (p := Hid _) ((HI'.out i hlt).behind Bw.out)
      have hal := HIH.out i hlt
      have HAL := Hid.out (p := Hid _) hal
      clear hcs hcs' hal
      generalize f i = x at *
      generalize f' i = y at *
      have K1c : CellsAt wr g (o + i * 8) x := K1.out
      have K2c : CellsAt wr g' (o' + i * 8) y := K2.out
      obtain ⟨u0, u1, u2, u3, u4, u5, u6, u7⟩ := K1c.eight
      obtain ⟨v0, v1, v2, v3, v4, v5, v6, v7⟩ := K2c.eight
      have hcall := HAL.out x y A A' wr.drew (I1.out.behind ((Below.refl _ _).drew)) (I2.out.behind ((Below.refl _ _).drew))
      have HCL := Hid.out (p := Hid _) hcall
      clear K1 K2 K1c K2c I1 I2 HAL hcall V14 V24
      go_wp2_with fail
      go_region_held3 (fun w' => w'.cell? ⟨b1, 7, none⟩ = some (.slice (some ⟨g, o, none⟩) vs.length vc) ∧ w'.cell? ⟨b1 + 1, 7, none⟩ = some (.slice (some ⟨g', o', none⟩) vs.length vc') ∧ w'.cell? ⟨g, o + i * 8, none⟩ = some (.int .i64 x.kind) ∧ w'.cell? ⟨g, o + i * 8 + 1, none⟩ = some (.bool x.is) ∧ w'.cell? ⟨g, o + i * 8 + 2, none⟩ = some (.bool x.neg) ∧ w'.cell? ⟨g, o + i * 8 + 3, none⟩ = some (.string x.dig) ∧ w'.cell? ⟨g, o + i * 8 + 4, none⟩ = some (.int .i64 x.exp) ∧ w'.cell? ⟨g, o + i * 8 + 5, none⟩ = some (.string x.str) ∧ w'.cell? ⟨g, o + i * 8 + 6, none⟩ = some (.slice x.ka x.kn x.kc) ∧ w'.cell? ⟨g, o + i * 8 + 7, none⟩ = some (.slice x.va x.vn x.vc) ∧ w'.cell? ⟨g', o' + i * 8, none⟩ = some (.int .i64 y.kind) ∧ w'.cell? ⟨g', o' + i * 8 + 1, none⟩ = some (.bool y.is) ∧ w'.cell? ⟨g', o' + i * 8 + 2, none⟩ = some (.bool y.neg) ∧ w'.cell? ⟨g', o' + i * 8 + 3, none⟩ = some (.string y.dig) ∧ w'.cell? ⟨g', o' + i * 8 + 4, none⟩ = some (.int .i64 y.exp) ∧ w'.cell? ⟨g', o' + i * 8 + 5, none⟩ = some (.string y.str) ∧ w'.cell? ⟨g', o' + i * 8 + 6, none⟩ = some (.slice y.ka y.kn y.kc) ∧ w'.cell? ⟨g', o' + i * 8 + 7, none⟩ = some (.slice y.va y.vn y.vc)) (go_keep)
        ((go_at_call 12; refine (Calls.mono HCL.out ?_); rintro z w5 ⟨rfl, hb5⟩; have kp := @same_keep _ _ hb5; have d1n := kp d1; have d2n := kp d2; have u0n := kp u0; have u1n := kp u1; have u2n := kp u2; have u3n := kp u3; have u4n := kp u4; have u5n := kp u5; have u6n := kp u6; have u7n := kp u7; have v0n := kp v0; have v1n := kp v1; have v2n := kp v2; have v3n := kp v3; have v4n := kp v4; have v5n := kp v5; have v6n := kp v6; have v7n := kp v7; have B5 : Hid (Below w3.heap.size w3 w5) := (hB.out.drew).trans (hb5.mono (by have := hB.out.size; exact this)); clear kp hb5 d1 d2 u0 u1 u2 u3 u4 u5 u6 u7 v0 v1 v2 v3 v4 v5 v6 v7))
      all_goals
        go_wp2_with fail
        go_roundw
        case rel => exact ⟨i + 1, by go_num, by omega, B5.out⟩
        case measure => simp [intOf]; omega
    · go_wp2_with fail
      go_ret
      exact ⟨rfl, B3.out.trans (hB.out.mono B3.out.size)⟩
theorem same_alike (N : Nat) (hN : N ≤ 4611686018427387904) (t : JV) (h : Small N t) : Alike t := by
  induction h with
  | mk k i n d e s ks vs h1 h2 h3 ih => exact same_step N hN k i n d e s ks vs h1 h2 ih
end Go.Proofs.YtehffmcfmdjknaaGreatDoor.Jdec
