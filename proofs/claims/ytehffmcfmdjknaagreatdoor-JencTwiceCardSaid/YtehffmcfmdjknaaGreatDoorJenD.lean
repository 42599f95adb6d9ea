/- What is not too great: how deep, how many, how long, in plain Lean. -/
import Derived.Test.YtehffmcfmdjknaaGreatDoorJenC
namespace Go.Proofs.YtehffmcfmdjknaaGreatDoor.Jdec
set_option linter.unusedVariables false
set_option linter.unusedSimpArgs false

/-- Texts that aren't too long. -/
inductive Fine : JV → Prop where
  | mk (k : Int) (i n : Bool) (d : ByteArray) (e : Int) (s : ByteArray) (ks : List ByteArray) (vs : List JV) : d.size ≤ 1200 → s.size ≤ 2000 → (∀ x ∈ ks, x.size ≤ 2000) → (∀ j (h : j < vs.length), Fine vs[j]) → Fine (.mk k i n d e s ks vs)
mutual
/-- How many values and keys there are. -/
def JV.mass : JV → Nat
  | .mk _ _ _ _ _ _ ks vs => 1 + ks.length + masses vs
def masses : List JV → Nat
  | [] => 0
  | v :: t => v.mass + masses t
end
theorem masses_nil : masses [] = 0 := by rw [masses]
theorem masses_cons (v : JV) (t : List JV) : masses (v :: t) = v.mass + masses t := by rw [masses]
theorem mass_mk (k : Int) (i n : Bool) (d : ByteArray) (e : Int) (s : ByteArray) (ks : List ByteArray) (vs : List JV) : (JV.mk k i n d e s ks vs).mass = 1 + ks.length + masses vs := by rw [JV.mass]
theorem deepN_mk (k : Int) (i n : Bool) (d : ByteArray) (e : Int) (s : ByteArray) (ks : List ByteArray) (vs : List JV) : (JV.mk k i n d e s ks vs).deepN = (if k = 5 ∨ k = 6 then deepNs vs else 0) + 1 := by rw [JV.deepN]
theorem keysRoom_fine : ∀ (ks : List ByteArray) (l r : Int), keysRoom ks l = some r → 0 ≤ r → ∀ x ∈ ks, x.size ≤ 2000
  | [], l, r, h, hr, x, hx => by cases hx
  | k :: t, l, r, h, hr, x, hx => by
    unfold keysRoom at h
    split at h
    · injection h with h; omega
    · split at h
      · cases h
      · rcases List.mem_cons.1 hx with rfl | hx
        · omega
        · exact keysRoom_fine t _ r h hr x hx
mutual
theorem room_fine (v : JV) (dp l : Int) (hl : 0 ≤ l) (h : 0 ≤ v.room dp l) : Fine v ∧ (v.mass : Int) + v.room dp l ≤ l ∧ dp ≤ 70 ∧ (v.deepN : Int) + dp ≤ 71 := by
  cases v with
  | mk k is ng d e s ks vs =>
    rw [JV.room] at h ⊢
    by_cases hc : 70 < dp ∨ 2000 < s.size ∨ 1200 < d.size
    · rw [if_pos hc] at h; omega
    · rw [if_neg hc] at h ⊢
      cases hk : keysRoom ks (l - 1 - (ks.length : Int) - (((s.size + d.size) / 50 : Nat) : Int)) with
      | none => rw [hk] at h; simp only at h; omega
      | some r =>
        rw [hk] at h
        simp only at h ⊢
        have h1 := keysRoom_le _ _ _ hk
        have hr0 : 0 ≤ r := by
          by_cases hr : r < 0
          · rw [roomsL_neg _ _ _ hr] at h; exact h
          · omega
        have hkf := keysRoom_fine _ _ _ hk hr0
        obtain ⟨f1, f2, f3⟩ := rooms_fine vs (dp + 1) r hr0 h
        refine ⟨.mk k is ng d e s ks vs (by omega) (by omega) hkf f1, ?_, by omega, ?_⟩
        · rw [mass_mk]; omega
        · rw [deepN_mk]
          split
          · rcases f3 with f3 | f3
            · rw [f3, deepNs_nil]; omega
            · omega
          · omega
theorem rooms_fine (vs : List JV) (dp l : Int) (hl : 0 ≤ l) (h : 0 ≤ roomsL vs dp l) : (∀ j (hj : j < vs.length), Fine vs[j]) ∧ (masses vs : Int) + roomsL vs dp l ≤ l ∧ (vs = [] ∨ (deepNs vs : Int) + dp ≤ 71) := by
  cases vs with
  | nil => rw [roomsL_nil]; exact ⟨fun j hj => absurd hj (Nat.not_lt_zero _), by rw [masses_nil]; omega, .inl rfl⟩
  | cons v t =>
    rw [roomsL_next _ _ _ _ hl] at h ⊢
    have hv0 : 0 ≤ v.room dp l := by
      by_cases hr : v.room dp l < 0
      · rw [roomsL_neg _ _ _ hr] at h; exact h
      · omega
    obtain ⟨a1, a2, a3, a4⟩ := room_fine v dp l hl hv0
    obtain ⟨b1, b2, b3⟩ := rooms_fine t dp _ hv0 h
    refine ⟨fun j hj => ?_, by rw [masses_cons]; omega, .inr ?_⟩
    · cases j with
      | zero => exact a1
      | succ j => exact b1 j (by simpa using hj)
    · rw [deepNs_cons]
      rcases b3 with b3 | b3
      · rw [b3, deepNs_nil]; omega
      · omega
end
/-- What isn't too great. -/
theorem great_no (t : JV) (h : ¬ t.room 1 400 < 0) : Fine t ∧ t.mass ≤ 400 ∧ t.deepN ≤ 70 := by
  obtain ⟨h1, h2, _, h4⟩ := room_fine t 1 400 (by omega) (by omega)
  exact ⟨h1, by omega, by omega⟩
end Go.Proofs.YtehffmcfmdjknaaGreatDoor.Jdec
