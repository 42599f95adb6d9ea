/- tabulariumlaw18.StateEmpties. -/
import Derived.Test.YtckflnibkglheaaGreatDoorYSLsE
namespace Go.Proofs.YtckflnibkglheaaGreatDoor.State
open Go.RowKit Go.Shelf Go.Proofs.YtckflnibkglheaaGreatDoor.Utf Go.Proofs.YtckflnibkglheaaGreatDoor.Strs Go.Proofs.YtckflnibkglheaaGreatDoor.Addr
open Go.Proofs.YtckflnibkglheaaGreatDoor.Jdec (IsTexts Turn infoStr gb_set gb_below gb_refl)
set_option linter.unusedVariables false
set_option linter.unusedSimpArgs false
set_option maxRecDepth 100000

/-- What is left after so many drops, from by on. -/
structure Emp (l0 : List Rec) (bn i : Nat) (l : List Rec) : Prop where
 len : l.length + i = l0.length
 mem : ∀ x, x ∈ l ↔ ∃ j, ∃ h : j < l0.length, l0[j] = x ∧ ∀ k, k < i → (k + bn) % l0.length ≠ j
theorem mod_ne {n k i b : Nat} (h1 : k < i) (h2 : i < n) : (k + b) % n ≠ (i + b) % n := by
 intro e
 have h := Nat.sub_mod_eq_zero_of_mod_eq e.symm
 have e2 : i + b - (k + b) = i - k := by omega
 rw [e2, Nat.mod_eq_of_lt (by omega)] at h
 omega
theorem Emp.has {l0 l : List Rec} {bn i q : Nat} (h : Emp l0 bn i l) (hi : i < l0.length) (hq : (i + bn) % l0.length = q) (hql : q < l0.length) : l0[q] ∈ l := by
 subst hq
 exact (h.mem _).2 ⟨_, hql, rfl, fun k hk => mod_ne hk hi⟩
theorem Emp.step {l0 l : List Rec} {bn i q : Nat} (h : Emp l0 bn i l) (hg0 : Good l0) (hg : Good l) (hi : i < l0.length) (hq : (i + bn) % l0.length = q) (hql : q < l0.length) {j : Nat} (hj : j < l.length) (e : l[j].a = l0[q].a) : Emp l0 bn (i + 1) (dropR l j) := by
 refine ⟨by rw [dropR_len hj]; have := h.len; omega, fun x => ?_⟩
 rw [mem_drop hg hj, h.mem, e]
 constructor
 ·rintro ⟨⟨m, hm, rfl, hk⟩, hn⟩
  refine ⟨m, hm, rfl, fun k hk2 => ?_⟩
  by_cases hki : k = i
  ·subst hki; rw [hq]; intro e2; subst e2; exact hn rfl
  ·exact hk k (by omega)
 ·rintro ⟨m, hm, rfl, hk⟩
  refine ⟨⟨m, hm, rfl, fun k hk2 => hk k (by omega)⟩, fun e2 => ?_⟩
  have := hg0.idx hm hql e2
  exact hk i (by omega) (by rw [hq]; exact this.symm)
theorem Emp.done {l0 l : List Rec} {bn : Nat} (h : Emp l0 bn l0.length l) : l = [] := by
 have := h.len
 exact List.length_eq_zero_iff.1 (by omega)
end Go.Proofs.YtckflnibkglheaaGreatDoor.State
