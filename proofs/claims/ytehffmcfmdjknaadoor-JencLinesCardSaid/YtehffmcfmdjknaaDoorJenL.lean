/- How many lines a wide print has, in plain Lean. -/
import Derived.Test.YtehffmcfmdjknaaDoorJenW
namespace Go.Proofs.YtehffmcfmdjknaaDoor.Jdec
set_option linter.unusedVariables false
set_option linter.unusedSimpArgs false

mutual
/-- How many things there are in a value's lists and objects, and ends of these. -/
def JV.lines : JV → Nat
  | .mk _ _ _ _ _ _ _ vs => (if vs.length = 0 then 0 else vs.length + 1) + liness vs
def liness : List JV → Nat
  | [] => 0
  | v :: t => v.lines + liness t
end
theorem lines_mk (k : Int) (i n : Bool) (d : ByteArray) (e : Int) (s : ByteArray) (ks : List ByteArray) (vs : List JV) : (JV.mk k i n d e s ks vs).lines = (if vs.length = 0 then 0 else vs.length + 1) + liness vs := by rw [JV.lines]
theorem liness_nil : liness [] = 0 := by rw [liness]
theorem liness_cons (v : JV) (t : List JV) : liness (v :: t) = v.lines + liness t := by rw [liness]
theorem cnt_zero {l : List UInt8} (h : ∀ c ∈ l, c ≠ 10) : l.count 10 = 0 := List.count_eq_zero.2 fun hm => h 10 hm rfl
theorem decDigits_no (u : Nat) : ∀ c ∈ Lib.decDigits u, c ≠ 10 := by
  induction u using Nat.strongRecOn with
  | _ u ih =>
    intro c hc
    rw [Lib.decDigits] at hc
    have hd : UInt8.ofNat (48 + u % 10) ≠ 10 := by
      intro h
      have := congrArg UInt8.toNat h
      simp at this
      omega
    split at hc
    · simp at hc; rw [hc]; intro h
      have := congrArg UInt8.toNat h
      simp at this
      omega
    · rcases List.mem_append.1 hc with hc | hc
      · exact ih (u / 10) (by omega) c hc
      · simp at hc; rw [hc]; intro h
        have := congrArg UInt8.toNat h
        simp at this
        omega
theorem itoa_no (x : Int) : ∀ c ∈ Lib.itoa x, c ≠ 10 := by
  unfold Lib.itoa
  intro c hc
  split at hc
  · rcases List.mem_cons.1 hc with rfl | hc
    · decide
    · exact decDigits_no _ c hc
  · exact decDigits_no _ c hc
theorem right_digits {n : Bool} {d : List UInt8} {x : Int} (h : Num.right n d x = true) : ∀ c ∈ d, 48 ≤ c.toNat ∧ c.toNat ≤ 57 := by
  unfold Num.right at h
  split at h
  · rename_i h0; subst h0; intro c hc; cases hc
  · split at h
    · cases h
    · simp only [Bool.and_eq_true, List.all_eq_true] at h
      intro c hc
      have := h.1.1 c hc
      unfold Num.isDigit at this
      simp only [Bool.and_eq_true, decide_eq_true_eq] at this
      exact this
theorem nfront_no (n : Bool) : ∀ c ∈ nfront n, c ≠ 10 := by cases n <;> simp [nfront]
theorem nprint_no (n : Bool) (d : List UInt8) (x : Int) (h : Num.right n d x = true) : ∀ c ∈ nprint n d x, c ≠ 10 := by
  have hd : ∀ c ∈ d, c ≠ 10 := fun c hc e => by
    have := right_digits h c hc
    rw [e] at this
    exact absurd this.1 (by decide)
  have hf := nfront_no n
  have hi := itoa_no x
  intro c hc
  unfold nprint at hc
  split at hc
  · simp at hc; rw [hc]; decide
  · split at hc
    · simp only [List.mem_append, List.mem_replicate] at hc
      rcases hc with (hc | hc) | ⟨_, rfl⟩
      · exact hf c hc
      · exact hd c hc
      · decide
    · split at hc
      · simp only [List.mem_append, List.mem_cons] at hc
        rcases hc with (hc | hc) | rfl | hc
        · exact hf c hc
        · exact hd c hc
        · decide
        · exact hi c hc
      · split at hc
        · simp only [List.mem_append, List.mem_cons] at hc
          rcases hc with (hc | hc) | rfl | hc
          · exact hf c hc
          · exact hd c (List.mem_of_mem_take hc)
          · decide
          · exact hd c (List.mem_of_mem_drop hc)
        · simp only [List.mem_append, List.mem_replicate, List.mem_cons, List.not_mem_nil, or_false] at hc
          rcases hc with ((hc | rfl | rfl) | ⟨_, rfl⟩) | hc
          · exact hf c hc
          · decide
          · decide
          · decide
          · exact hd c hc
theorem hexd_no (n : Nat) : Quote.hexd n ≠ 10 := by
  unfold Quote.hexd
  intro h
  have : ∀ m : Fin 17, [48, 49, 50, 51, 52, 53, 54, 55, 56, 57, 97, 98, 99, 100, 101, 102].getD m.val (0 : UInt8) ≠ 10 := by decide
  by_cases hn : n < 17
  · exact this ⟨n, hn⟩ h
  · rw [List.getD_eq_getElem?_getD, List.getElem?_eq_none (by simp; omega)] at h
    exact absurd h (by decide)
theorem qp_no (b : UInt8) : ∀ c ∈ Quote.qp b, c ≠ 10 := by
  intro c hc
  unfold Quote.qp at hc
  split at hc
  · simp only [List.mem_cons, List.not_mem_nil, or_false] at hc
    rcases hc with rfl | rfl
    · decide
    · intro h
      have h2 := congrArg UInt8.toNat h
      rename_i h0
      have hs : Quote.short b.toNat < 256 := by
        have := UInt8.toNat_lt b
        unfold Quote.short; (repeat' split) <;> omega
      rw [UInt8.toNat_ofNat', Nat.mod_eq_of_lt hs] at h2
      unfold Quote.short at h2
      repeat' split at h2
      all_goals simp at h2
      all_goals omega
  · split at hc
    · simp only [List.mem_cons, List.not_mem_nil, or_false] at hc
      rcases hc with rfl | rfl | rfl | rfl | rfl | rfl
      · decide
      · decide
      · decide
      · decide
      · exact hexd_no _
      · exact hexd_no _
    · simp only [List.mem_singleton] at hc
      rw [hc]
      intro h
      rename_i h1 h2
      rw [h] at h2
      exact h2 (by decide)
theorem qprint_no (l : List UInt8) : ∀ c ∈ Quote.qprint l, c ≠ 10 := by
  intro c hc
  unfold Quote.qprint at hc
  simp only [List.cons_append, List.mem_cons, List.mem_append, List.mem_flatMap, List.not_mem_nil, or_false] at hc
  rcases hc with rfl | ⟨b, _, hb⟩ | rfl
  · decide
  · exact qp_no b c hb
  · decide
theorem lineP_cnt (dp : Nat) : (lineP true dp).count 10 = 1 := by
  show (10 :: List.replicate (2 * dp) 32).count (10 : UInt8) = 1
  rw [List.count_cons_self, List.count_replicate]
  simp
theorem keyP_cnt (obj : Bool) (ks : List ByteArray) (i : Nat) : (keyP true obj ks i).count 10 = 0 := by
  refine cnt_zero fun c hc => ?_
  unfold keyP at hc
  split at hc
  · rcases List.mem_append.1 hc with hc | hc
    · exact qprint_no _ c hc
    · simp [colonP] at hc
      rcases hc with rfl | rfl <;> decide
  · cases hc
theorem firstP_cnt (b : Bool) : (firstP b).count 10 = 0 := by cases b <;> rfl
theorem lastP_cnt (b : Bool) : (lastP b).count 10 = 0 := by cases b <;> rfl
theorem kidsP_cnt (dp : Nat) (obj : Bool) (ks : List ByteArray) : ∀ (vs : List JV) (i : Nat), (∀ v ∈ vs, (v.print true (dp + 1)).count 10 = v.lines) → (kidsP true dp obj ks i vs).count 10 = vs.length + liness vs
  | [], i, _ => by rw [kidsP_nil, liness_nil]; rfl
  | v :: t, i, hv => by
    have ih := kidsP_cnt dp obj ks t (i + 1) (fun u hu => hv u (List.mem_cons_of_mem _ hu))
    have h1 := hv v (List.mem_cons_self ..)
    have h4 : (if i = 0 then firstP obj else [44]).count 10 = 0 := by split; exact firstP_cnt obj; rfl
    rw [kidsP_cons, liness_cons]
    simp only [List.count_append, h4, lineP_cnt, keyP_cnt, h1, ih, List.length_cons]
    omega
/-- A wide print has a line more for each of these. -/
theorem print_lines (t : JV) (hg : GoodQ t) : ∀ dp, (t.print true dp).count 10 = t.lines := by
  induction hg with
  | mk k i n d e s ks vs O hk ih =>
    intro dp
    have hz : k < 5 → liness vs = 0 ∧ vs.length = 0 := fun h => by
      have := O.kids h
      rw [List.length_eq_zero_iff] at this
      subst this
      exact ⟨liness_nil, rfl⟩
    rw [print_mk, lines_mk]
    split
    · obtain ⟨h1, h2⟩ := hz (by omega); rw [h1, if_pos h2]; rfl
    · split
      · obtain ⟨h1, h2⟩ := hz (by omega); rw [h1, if_pos h2]; split <;> rfl
      · split
        · obtain ⟨h1, h2⟩ := hz (by omega); rw [h1, if_pos h2]; exact cnt_zero (nprint_no n _ e O.right)
        · split
          · obtain ⟨h1, h2⟩ := hz (by omega); rw [h1, if_pos h2]; exact cnt_zero (qprint_no _)
          · split
            · rename_i h5
              rw [List.count_append, firstP_cnt, lastP_cnt]
              rw [List.length_eq_zero_iff] at h5
              subst h5
              rw [liness_nil]
            · rename_i h5
              rw [List.count_append, List.count_append, lineP_cnt, lastP_cnt, kidsP_cnt dp _ ks vs 0 (fun v hv => by
                obtain ⟨j, hj, rfl⟩ := List.getElem_of_mem hv
                exact ih j hj (dp + 1))]
              omega
/-- A value, and all in it. -/
theorem lines_ex : True := trivial
end Go.Proofs.YtehffmcfmdjknaaDoor.Jdec
