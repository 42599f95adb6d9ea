/- tabulariumlaw18.StateOrder. -/
import Derived.Test.YtckflnibkglheaaGreatDoorYSLsF
namespace Go.Proofs.YtckflnibkglheaaGreatDoor.State
open Go.RowKit Go.Shelf Go.Proofs.YtckflnibkglheaaGreatDoor.Utf Go.Proofs.YtckflnibkglheaaGreatDoor.Strs Go.Proofs.YtckflnibkglheaaGreatDoor.Addr
open Go.Proofs.YtckflnibkglheaaGreatDoor.Jdec (IsTexts Turn infoStr gb_set gb_below gb_refl)
set_option linter.unusedVariables false
set_option linter.unusedSimpArgs false
set_option maxRecDepth 100000

theorem PutIs.len_new {l l' : List Rec} {r : Rec} (h : PutIs l r l') (hg : Good l) (hp : r.a.place < 18446744073709551616) (hn : ∀ x ∈ l, x.a ≠ r.a) : l'.length = l.length + 1 := by
 obtain ⟨i, nx, h1, h2, rfl⟩ := h
 have h3 := next_le h2 h1
 rcases h2 with ⟨hI, _⟩ | ⟨_, rfl⟩
 ·obtain ⟨hi, e⟩ := (is_iff hg hp i).1 hI
  exact absurd e (hn _ (List.getElem_mem hi))
 ·rw [putR, List.length_append, List.length_cons, List.length_take, List.length_drop]; omega
/-- Records of no more than the statements take, right, of addresses of their own. -/
structure Own (l : List Rec) (i : Nat) : Prop where
 s : ∀ j (h : j < l.length), j < i → Small l[j]
 r : ∀ j (h : j < l.length), j < i → recB l[j] = true
 d : ∀ j k (h : j < l.length) (h2 : k < l.length), j < i → k < j → l[k].a ≠ l[j].a
theorem Own.ne {l : List Rec} (h : Own l l.length) {j k : Nat} (hj : j < l.length) (hk : k < l.length) (e : j ≠ k) : l[j].a ≠ l[k].a := by
 rcases Nat.lt_or_gt_of_ne e with h1 | h1
 ·exact h.d k j hk hj hk h1
 ·exact fun e2 => h.d j k hj hk hj h1 e2.symm
/-- What has been put, from f on. -/
structure Putn (l0 : List Rec) (f : Nat → Nat) (i : Nat) (l : List Rec) : Prop where
 len : l.length = i
 mem : ∀ x, x ∈ l ↔ ∃ k, k < i ∧ ∃ h : f k < l0.length, l0[f k] = x
theorem Putn.new {l0 l : List Rec} {f : Nat → Nat} {i : Nat} (h : Putn l0 f i l) (ho : Own l0 l0.length) (hf : ∀ k, k < i → f k ≠ f i) (hi : f i < l0.length) : ∀ x ∈ l, x.a ≠ l0[f i].a := fun x hx => by
 obtain ⟨k, hk, h1, rfl⟩ := (h.mem x).1 hx
 exact ho.ne h1 hi (hf k hk)
theorem Putn.step {l0 l l' : List Rec} {f : Nat → Nat} {i : Nat} (h : Putn l0 f i l) (ho : Own l0 l0.length) (hf : ∀ k, k < i → f k ≠ f i) (hi : f i < l0.length) (hg : Good l) (hp : PutIs l l0[f i] l') : Putn l0 f (i + 1) l' := by
 have hr := ho.r _ hi hi
 have hs := ho.s _ hi hi
 have hn := h.new ho hf hi
 refine ⟨by rw [hp.len_new hg hs.p hn, h.len], fun x => ?_⟩
 rw [hp.mem hg hr hs, h.mem]
 constructor
 ·rintro (rfl | ⟨⟨k, hk, h1, rfl⟩, _⟩)
  ·exact ⟨i, by omega, hi, rfl⟩
  ·exact ⟨k, by omega, h1, rfl⟩
 ·rintro ⟨k, hk, h1, rfl⟩
  by_cases e : k = i
  ·subst e; exact .inl rfl
  ·exact .inr ⟨⟨k, by omega, h1, rfl⟩, ho.ne h1 hi (hf k (by omega))⟩
theorem mod_onto {n b j : Nat} (hj : j < n) : ∃ k, k < n ∧ (k + b) % n = j := by
 have hd : b % n < n := Nat.mod_lt _ (by omega)
 have e : ∀ k, (k + b) % n = (k + b % n) % n := fun k => by rw [Nat.add_mod_mod]
 by_cases h : b % n ≤ j
 ·exact ⟨j - b % n, by omega, by rw [e, Nat.sub_add_cancel h, Nat.mod_eq_of_lt hj]⟩
 ·exact ⟨j + n - b % n, by omega, by rw [e, Nat.sub_add_cancel (by omega), Nat.add_mod_right, Nat.mod_eq_of_lt hj]⟩
theorem Putn.both {l0 l m : List Rec} {b : Nat} (h : Putn l0 (fun k => k) l0.length l) (h' : Putn l0 (fun k => (k + b) % l0.length) l0.length m) (hg : Good l) (hg' : Good m) : l = m := by
 refine good_ext hg.o hg'.o fun x => ?_
 rw [h.mem, h'.mem]
 constructor
 ·rintro ⟨j, hj, _, rfl⟩
  obtain ⟨k, hk, e⟩ := mod_onto (b := b) hj
  exact ⟨k, hk, by show (k + b) % l0.length < l0.length; omega, by simp only [e]⟩
 ·rintro ⟨k, hk, h1, rfl⟩
  exact ⟨_, h1, h1, rfl⟩
/-- A state in a box, in the making by puts; its records lie in blocks of A. -/
structure OI (w5 : World) (xb : Nat) (A : Nat → Prop) (l0 : List Rec) (f : Nat → Nat) (i : Nat) (l : List Rec) (a : Option Addr) (c : Nat) (wr : World) : Prop where
 V : wr.heap[xb]? = some (.cells (staArr a c ⟨0, ⟨#[]⟩, l⟩) 26 (0, 0))
 R : IsRecs wr A a l
 C : l.length ≤ c
 G : Good l
 P : Putn l0 f i l
theorem OI.turn {w5 : World} {xb : Nat} {A : Nat → Prop} {l0 : List Rec} {f : Nat → Nat} {i : Nat} {l : List Rec} {a : Option Addr} {c : Nat} {wr w' : World} (h : OI w5 xb A l0 f i l a c wr) (t : Turn wr w' A A) (hv : w'.heap[xb]? = wr.heap[xb]?) : OI w5 xb A l0 f i l a c w' :=
 ⟨hv.trans h.V, h.R.turn t, h.C, h.G, h.P⟩
end Go.Proofs.YtckflnibkglheaaGreatDoor.State
