/- Stable sorting in plain Lean: insertion, blocks exchanged, rotation, the merge by symmetry. -/
import Derived.Test.YtehghladpnpcoaaGreatDoorZJdecU
import Derived.Test.YtehghladpnpcoaaGreatDoorZLift
import Derived.Deep.MidRow
import Derived.Deep.RegionHeld3
set_option linter.unusedVariables false
set_option linter.unusedSimpArgs false
namespace Go.Proofs.YtehghladpnpcoaaGreatDoor.Stable
variable {α : Type}
structure Weak (lt : α → α → Bool) : Prop where
 asym : ∀ x y, lt x y = true → lt y x = false
 trans : ∀ x y z, lt y x = false → lt z y = false → lt z x = false
theorem Weak.irrefl {lt : α → α → Bool} (h : Weak lt) (x : α) : lt x x = false := by
 cases e : lt x x
 ·rfl
 ·have := h.asym x x e; rw [e] at this; cases this
def swp (f : Nat → α) (i j : Nat) : Nat → α := fun k => if k = i then f j else if k = j then f i else f k
def PermF (n : Nat) (f g : Nat → α) : Prop := ((List.range n).map g).Perm ((List.range n).map f)
theorem swp_perm (n : Nat) (f : Nat → α) {i j : Nat} (hi : i < n) (hj : j < n) : PermF n f (swp f i j) := by
 have e : (List.range n).map (swp f i j) = ((List.range n).map fun k => if k = i then j else if k = j then i else k).map f := by
  rw [List.map_map]
  apply List.map_congr_left
  intro k _
  simp only [swp, Function.comp]
  repeat' split
  all_goals rfl
 unfold PermF
 rw [e]
 apply List.Perm.map
 rw [List.perm_ext_iff_of_nodup]
 ·intro x
  simp only [List.mem_map, List.mem_range]
  constructor
  ·rintro ⟨k, hk, rfl⟩
   repeat' split
   all_goals omega
  ·intro hx
   by_cases h1 : x = j
   ·exact ⟨i, hi, by rw [if_pos rfl, h1]⟩
   ·by_cases h2 : x = i
    ·by_cases h3 : j = i
     ·omega
     ·exact ⟨j, hj, by rw [if_neg h3, if_pos rfl, h2]⟩
    ·exact ⟨x, hx, by rw [if_neg h2, if_neg h1]⟩
 ·unfold List.Nodup
  rw [List.pairwise_map]
  refine List.Pairwise.imp ?_ (List.nodup_range (n := n))
  intro a b hab e
  apply hab
  repeat' split at e
  all_goals omega
 ·exact List.nodup_range
structure Mix (n a b : Nat) (f g : Nat → α) : Prop where
 out : ∀ i, ¬ (a ≤ i ∧ i < b) → g i = f i
 ins : ∀ i, a ≤ i → i < b → ∃ j, a ≤ j ∧ j < b ∧ g i = f j
 perm : PermF n f g
theorem Mix.refl (n a b : Nat) (f : Nat → α) : Mix n a b f f := ⟨fun _ _ => rfl, fun i h1 h2 => ⟨i, h1, h2, rfl⟩, List.Perm.refl _⟩
theorem Mix.trans {n a b : Nat} {f g h : Nat → α} (h1 : Mix n a b f g) (h2 : Mix n a b g h) : Mix n a b f h :=
 ⟨fun i hi => (h2.out i hi).trans (h1.out i hi), fun i ha hb => by
  obtain ⟨j, hj1, hj2, e⟩ := h2.ins i ha hb
  obtain ⟨k, hk1, hk2, e2⟩ := h1.ins j hj1 hj2
  exact ⟨k, hk1, hk2, e.trans e2⟩, h2.perm.trans h1.perm⟩
theorem Mix.mono {n a b a' b' : Nat} {f g : Nat → α} (h : Mix n a b f g) (ha : a' ≤ a) (hb : b ≤ b') : Mix n a' b' f g :=
 ⟨fun i hi => h.out i (by omega), fun i h1 h2 => by
  by_cases hi : a ≤ i ∧ i < b
  ·obtain ⟨j, hj1, hj2, e⟩ := h.ins i hi.1 hi.2
   exact ⟨j, by omega, by omega, e⟩
  ·exact ⟨i, h1, h2, h.out i hi⟩, h.perm⟩
theorem Mix.swp {n a b : Nat} (f : Nat → α) {i j : Nat} (h1 : a ≤ i) (h2 : i < b) (h3 : a ≤ j) (h4 : j < b) (hb : b ≤ n) : Mix n a b f (swp f i j) := by
 refine ⟨fun k hk => ?_, fun k hk1 hk2 => ?_, swp_perm n f (by omega) (by omega)⟩
 ·unfold Stable.swp
  rw [if_neg (by omega), if_neg (by omega)]
 ·unfold Stable.swp
  split
  ·exact ⟨j, h3, h4, rfl⟩
  ·split
   ·exact ⟨i, h1, h2, rfl⟩
   ·exact ⟨k, hk1, hk2, rfl⟩
def swr (f : Nat → α) (a b n : Nat) : Nat → α := fun i => if a ≤ i ∧ i < a + n then f (i - a + b) else if b ≤ i ∧ i < b + n then f (i - b + a) else f i
def rot (f : Nat → α) (a m b : Nat) : Nat → α := fun i => if a ≤ i ∧ i < a + (b - m) then f (i + (m - a)) else if a + (b - m) ≤ i ∧ i < b then f (i - (b - m)) else f i
theorem swr_zero (f : Nat → α) (a b : Nat) : swr f a b 0 = f := by
 funext i; unfold swr; rw [if_neg (by omega), if_neg (by omega)]
theorem swr_succ (f : Nat → α) (a b n : Nat) (h : a + (n + 1) ≤ b) : swp (swr f a b n) (a + n) (b + n) = swr f a b (n + 1) := by
 funext i; unfold swp swr
 repeat' split
 all_goals first | omega | (congr 1; omega) | rfl
theorem rot_left (f : Nat → α) (m i j : Nat) (hi : i ≤ m) (hj : 0 < j) (h : j < i) : rot (swr f (m - i) m j) (m - (i - j)) m (m + j) = rot f (m - i) m (m + j) := by
 funext k; unfold rot swr
 have e1 : m + j - m = j := by omega
 have e2 : m - (m - i) = i := by omega
 have e3 : m - (m - (i - j)) = i - j := by omega
 simp only [e1, e2, e3]
 repeat' split
 all_goals first | omega | (congr 1; omega) | rfl
theorem rot_right (f : Nat → α) (m i j : Nat) (hi : i ≤ m) (hi0 : 0 < i) (h : i < j) : rot (swr f (m - i) (m + j - i) i) (m - i) m (m + (j - i)) = rot f (m - i) m (m + j) := by
 funext k; unfold rot swr
 have e1 : m + j - m = j := by omega
 have e2 : m - (m - i) = i := by omega
 have e3 : m + (j - i) - m = j - i := by omega
 simp only [e1, e2, e3]
 repeat' split
 all_goals first | omega | (congr 1; omega) | rfl
theorem rot_same (f : Nat → α) (m i : Nat) (hi : i ≤ m) : swr f (m - i) m i = rot f (m - i) m (m + i) := by
 funext k; unfold rot swr
 have e1 : m + i - m = i := by omega
 have e2 : m - (m - i) = i := by omega
 simp only [e1, e2]
 repeat' split
 all_goals first | omega | (congr 1; omega) | rfl
theorem rot_none (f : Nat → α) (a m : Nat) : rot f a m m = f := by
 funext k; unfold rot
 rw [if_neg (by omega)]
 split
 ·congr 1; omega
 ·rfl
theorem rot_none' (f : Nat → α) (m b : Nat) : rot f m m b = f := by
 funext k; unfold rot
 split
 ·congr 1; omega
 ·rw [if_neg (by omega)]
theorem rot_up (f : Nat → α) (a k : Nat) (h : a ≤ k) : swp (rot f a (a + 1) (k + 1)) k (k + 1) = rot f a (a + 1) (k + 2) := by
 funext i; unfold swp rot
 have e1 : k + 1 - (a + 1) = k - a := by omega
 have e2 : k + 2 - (a + 1) = k - a + 1 := by omega
 have e3 : a + 1 - a = 1 := by omega
 simp only [e1, e2, e3]
 repeat' split
 all_goals first | omega | (congr 1; omega) | rfl
theorem rot_down (f : Nat → α) (m k : Nat) (h : k + 1 ≤ m) : swp (rot f (k + 1) m (m + 1)) (k + 1) k = rot f k m (m + 1) := by
 funext i; unfold swp rot
 have e1 : m + 1 - m = 1 := by omega
 simp only [e1]
 repeat' split
 all_goals first | omega | (congr 1; omega) | rfl
def SortedOn (lt : α → α → Bool) (a b : Nat) (f : Nat → α) : Prop := ∀ i j, a ≤ i → i ≤ j → j < b → lt (f j) (f i) = false
theorem sorted_one {lt : α → α → Bool} (h : Weak lt) {a b : Nat} (hb : b ≤ a + 1) (f : Nat → α) : SortedOn lt a b f := fun i j h1 h2 h3 => by
 obtain rfl : i = j := by omega
 exact h.irrefl _
theorem SortedOn.congr {lt : α → α → Bool} {a b : Nat} {f g : Nat → α} (h : SortedOn lt a b f) (e : ∀ i, a ≤ i → i < b → g i = f i) : SortedOn lt a b g := fun i j h1 h2 h3 => by
 rw [e i h1 (by omega), e j (by omega) h3]; exact h i j h1 h2 h3
theorem SortedOn.sub {lt : α → α → Bool} {a b a' b' : Nat} {f : Nat → α} (h : SortedOn lt a b f) (ha : a ≤ a') (hb : b' ≤ b) : SortedOn lt a' b' f := fun i j h1 h2 h3 => h i j (by omega) h2 (by omega)
theorem sorted_join {lt : α → α → Bool} {a m b : Nat} {f : Nat → α} (h1 : SortedOn lt a m f) (h2 : SortedOn lt m b f) (h3 : ∀ i j, a ≤ i → i < m → m ≤ j → j < b → lt (f j) (f i) = false) : SortedOn lt a b f := fun i j hi hij hj => by
 by_cases h4 : j < m
 ·exact h1 i j hi hij h4
 ·by_cases h5 : m ≤ i
  ·exact h2 i j h5 hij hj
  ·exact h3 i j hi (by omega) (by omega) hj
theorem merge_first {lt : α → α → Bool} (W : Weak lt) {a b i : Nat} {f : Nat → α} (hs : SortedOn lt (a + 1) b f) (hi1 : a + 1 ≤ i) (hi2 : i ≤ b) (lo : ∀ c, a + 1 ≤ c → c < i → lt (f c) (f a) = true) (hi : ∀ c, i ≤ c → c < b → lt (f c) (f a) = false) : SortedOn lt a b (rot f a (a + 1) i) := by
 have g1 : ∀ x, a ≤ x → x < i - 1 → rot f a (a + 1) i x = f (x + 1) := fun x h1 h2 => by
  unfold rot; rw [if_pos (by omega)]; congr 1; omega
 have g2 : rot f a (a + 1) i (i - 1) = f a := by
  unfold rot; rw [if_neg (by omega), if_pos (by omega)]; congr 1; omega
 have g3 : ∀ x, i ≤ x → rot f a (a + 1) i x = f x := fun x h1 => by
  unfold rot; rw [if_neg (by omega), if_neg (by omega)]
 intro x y h1 h2 h3
 by_cases hx : x < i - 1
 ·rw [g1 x h1 hx]
  by_cases hy : y < i - 1
  ·rw [g1 y (by omega) hy]; exact hs _ _ (by omega) (by omega) (by omega)
  ·by_cases hy2 : y = i - 1
   ·subst hy2; rw [g2]; exact W.asym _ _ (lo _ (by omega) (by omega))
   ·rw [g3 y (by omega)]; exact hs _ _ (by omega) (by omega) h3
 ·by_cases hx2 : x = i - 1
  ·subst hx2; rw [g2]
   by_cases hy2 : y = i - 1
   ·subst hy2; rw [g2]; exact W.irrefl _
   ·rw [g3 y (by omega)]; exact hi _ (by omega) h3
  ·rw [g3 x (by omega), g3 y (by omega)]; exact hs _ _ (by omega) h2 h3
theorem merge_last {lt : α → α → Bool} (W : Weak lt) {a m i : Nat} {f : Nat → α} (hs : SortedOn lt a m f) (hi1 : a ≤ i) (hi2 : i ≤ m) (lo : ∀ c, a ≤ c → c < i → lt (f m) (f c) = false) (hi : ∀ c, i ≤ c → c < m → lt (f m) (f c) = true) : SortedOn lt a (m + 1) (rot f i m (m + 1)) := by
 have g1 : ∀ x, x < i → rot f i m (m + 1) x = f x := fun x h1 => by
  unfold rot; rw [if_neg (by omega), if_neg (by omega)]
 have g2 : rot f i m (m + 1) i = f m := by
  unfold rot; rw [if_pos (by omega)]; congr 1; omega
 have g3 : ∀ x, i < x → x ≤ m → rot f i m (m + 1) x = f (x - 1) := fun x h1 h2 => by
  unfold rot; rw [if_neg (by omega), if_pos (by omega)]; congr 1; omega
 intro x y h1 h2 h3
 by_cases hx : x < i
 ·rw [g1 x hx]
  by_cases hy : y < i
  ·rw [g1 y hy]; exact hs _ _ h1 h2 (by omega)
  ·by_cases hy2 : y = i
   ·subst hy2; rw [g2]; exact lo _ h1 hx
   ·rw [g3 y (by omega) (by omega)]; exact hs _ _ h1 (by omega) (by omega)
 ·by_cases hx2 : x = i
  ·subst hx2; rw [g2]
   by_cases hy2 : y = x
   ·subst hy2; rw [g2]; exact W.irrefl _
   ·rw [g3 y (by omega) (by omega)]; exact W.asym _ _ (hi _ (by omega) (by omega))
  ·rw [g3 x (by omega) (by omega), g3 y (by omega) (by omega)]; exact hs _ _ (by omega) (by omega) (by omega)
structure Cut (lt : α → α → Bool) (f : Nat → α) (p s0 r0 s r : Nat) : Prop where
 s1 : s0 ≤ s
 s2 : s ≤ r
 s3 : r ≤ r0
 lo : ∀ c, s0 ≤ c → c < s → lt (f (p - c)) (f c) = false
 hi : ∀ c, r ≤ c → c < r0 → lt (f (p - c)) (f c) = true
theorem Cut.init (lt : α → α → Bool) (f : Nat → α) (p : Nat) {s r : Nat} (h : s ≤ r) : Cut lt f p s r s r := ⟨Nat.le_refl _, h, Nat.le_refl _, fun c _ _ => by omega, fun c _ _ => by omega⟩
structure Span (a m b mid s0 r0 : Nat) : Prop where
 e : mid = (a + b) / 2
 am : a < m
 mb : m < b
 c : (mid < m ∧ s0 = mid + m - b ∧ r0 = mid) ∨ (m ≤ mid ∧ s0 = a ∧ r0 = m)
theorem Span.s0 {a m b mid s0 r0 : Nat} (h : Span a m b mid s0 r0) : a ≤ s0 ∧ s0 ≤ r0 ∧ r0 ≤ m ∧ ∀ c, s0 ≤ c → c < r0 → m ≤ mid + m - 1 - c ∧ mid + m - 1 - c < b ∧ c < mid + m - 1 + 1 := by
 obtain ⟨h1, h2, h3, h4⟩ := h
 rcases h4 with ⟨h5, rfl, rfl⟩ | ⟨h5, rfl, rfl⟩
 ·exact ⟨by omega, by omega, by omega, fun c _ _ => by omega⟩
 ·exact ⟨by omega, by omega, by omega, fun c _ _ => by omega⟩
theorem Cut.left {lt : α → α → Bool} (W : Weak lt) {f : Nat → α} {a m b mid s0 r0 s r c : Nat} (h : Cut lt f (mid + m - 1) s0 r0 s r) (S : Span a m b mid s0 r0) (h1 : SortedOn lt a m f) (h2 : SortedOn lt m b f) (hc : s ≤ c) (hr : c < r) (ht : lt (f (mid + m - 1 - c)) (f c) = false) : Cut lt f (mid + m - 1) s0 r0 (c + 1) r := by
 obtain ⟨q1, q2, q3, q4⟩ := S.s0
 have := h.s1
 have := h.s3
 refine ⟨by omega, by omega, h.s3, fun d hd1 hd2 => ?_, h.hi⟩
 by_cases e : d = c
 ·subst e; exact ht
 ·have e1 := h1 d c (by omega) (by omega) (by omega)
  have k1 := q4 d (by omega) (by omega)
  have k2 := q4 c (by omega) (by omega)
  have e2 := h2 (mid + m - 1 - c) (mid + m - 1 - d) (by omega) (by omega) (by omega)
  exact W.trans _ _ _ (W.trans _ _ _ e1 ht) e2
theorem Cut.right {lt : α → α → Bool} (W : Weak lt) {f : Nat → α} {a m b mid s0 r0 s r c : Nat} (h : Cut lt f (mid + m - 1) s0 r0 s r) (S : Span a m b mid s0 r0) (h1 : SortedOn lt a m f) (h2 : SortedOn lt m b f) (hc : s ≤ c) (hr : c < r) (ht : lt (f (mid + m - 1 - c)) (f c) = true) : Cut lt f (mid + m - 1) s0 r0 s c := by
 obtain ⟨q1, q2, q3, q4⟩ := S.s0
 have := h.s1
 have := h.s3
 refine ⟨h.s1, hc, by omega, h.lo, fun d hd1 hd2 => ?_⟩
 by_cases e : d = c
 ·subst e; exact ht
 ·have e1 := h1 c d (by omega) (by omega) (by omega)
  have k1 := q4 d (by omega) (by omega)
  have k2 := q4 c (by omega) (by omega)
  have e2 := h2 (mid + m - 1 - d) (mid + m - 1 - c) (by omega) (by omega) (by omega)
  cases e3 : lt (f (mid + m - 1 - d)) (f d)
  ·have := W.trans _ _ _ (W.trans _ _ _ e1 e3) e2
   rw [ht] at this; cases this
  ·rfl
theorem cut_rot {lt : α → α → Bool} (W : Weak lt) {f : Nat → α} {a m b mid s0 r0 s : Nat} (h : Cut lt f (mid + m - 1) s0 r0 s s) (S : Span a m b mid s0 r0) (h1 : SortedOn lt a m f) (h2 : SortedOn lt m b f) :
  a ≤ s ∧ s ≤ m ∧ s ≤ mid ∧ m ≤ mid + m - s ∧ mid ≤ mid + m - s ∧ mid + m - s ≤ b ∧
  SortedOn lt a s (rot f s m (mid + m - s)) ∧ SortedOn lt s mid (rot f s m (mid + m - s)) ∧ SortedOn lt mid (mid + m - s) (rot f s m (mid + m - s)) ∧ SortedOn lt (mid + m - s) b (rot f s m (mid + m - s)) ∧
  ∀ i j, a ≤ i → i < mid → mid ≤ j → j < b → lt (rot f s m (mid + m - s) j) (rot f s m (mid + m - s) i) = false := by
 obtain ⟨q1, q2, q3, q4⟩ := S.s0
 have z1 := h.s1
 have z3 := h.s3
 have hm := S.e
 have am := S.am
 have mb := S.mb
 have hsm : s ≤ mid := by rcases S.c with ⟨_, e1, e2⟩ | ⟨_, e1, e2⟩ <;> omega
 have heb : mid + m - s ≤ b := by rcases S.c with ⟨_, e1, e2⟩ | ⟨_, e1, e2⟩ <;> omega
 have g1 : ∀ x, x < s → rot f s m (mid + m - s) x = f x := fun x hx => by unfold rot; rw [if_neg (by omega), if_neg (by omega)]
 have g2 : ∀ x, s ≤ x → x < mid → rot f s m (mid + m - s) x = f (x + (m - s)) := fun x hx hx2 => by unfold rot; rw [if_pos (by omega)]
 have g3 : ∀ x, mid ≤ x → x < mid + m - s → rot f s m (mid + m - s) x = f (x - (mid - s)) := fun x hx hx2 => by
  unfold rot; rw [if_neg (by omega), if_pos (by omega)]; congr 1; omega
 have g4 : ∀ x, mid + m - s ≤ x → rot f s m (mid + m - s) x = f x := fun x hx => by unfold rot; rw [if_neg (by omega), if_neg (by omega)]
 refine ⟨by omega, by omega, hsm, by omega, by omega, heb, ?_, ?_, ?_, ?_, ?_⟩
 ·intro i j hi hij hj
  rw [g1 i (by omega), g1 j hj]; exact h1 i j hi hij (by omega)
 ·intro i j hi hij hj
  rw [g2 i hi (by omega), g2 j (by omega) hj]; exact h2 _ _ (by omega) (by omega) (by omega)
 ·intro i j hi hij hj
  rw [g3 i hi (by omega), g3 j (by omega) hj]; exact h1 _ _ (by omega) (by omega) (by omega)
 ·intro i j hi hij hj
  rw [g4 i hi, g4 j (by omega)]; exact h2 _ _ (by omega) (by omega) hj
 ·intro i j hi him hj hjb
  by_cases hi2 : i < s
  ·rw [g1 i hi2]
   by_cases hj2 : j < mid + m - s
   ·rw [g3 j hj hj2]; exact h1 _ _ hi (by omega) (by omega)
   ·rw [g4 j (by omega)]
    by_cases hs : s0 < s
    ·have e := h.lo (s - 1) (by omega) (by omega)
     have e1 := h1 i (s - 1) hi (by omega) (by omega)
     have e2 := h2 (mid + m - 1 - (s - 1)) j (by have := q4 (s - 1) (by omega) (by omega); omega) (by omega) hjb
     exact W.trans _ _ _ (W.trans _ _ _ e1 e) e2
    ·exfalso; rcases S.c with ⟨_, e1, e2⟩ | ⟨_, e1, e2⟩ <;> omega
  ·rw [g2 i (by omega) him]
   by_cases hj2 : j < mid + m - s
   ·rw [g3 j hj hj2]
    by_cases hs : s < r0
    ·have e := W.asym _ _ (h.hi s (Nat.le_refl _) hs)
     have k := q4 s z1 hs
     have e1 := h2 (i + (m - s)) (mid + m - 1 - s) (by omega) (by omega) (by omega)
     have e2 := h1 s (j - (mid - s)) (by omega) (by omega) (by omega)
     exact W.trans _ _ _ (W.trans _ _ _ e1 e) e2
    ·exfalso; rcases S.c with ⟨_, e1, e2⟩ | ⟨_, e1, e2⟩ <;> omega
   ·rw [g4 j (by omega)]; exact h2 _ _ (by omega) (by omega) hjb
theorem halves {lt : α → α → Bool} {n a mid b : Nat} {f g h : Nat → α} (hle : ∀ i j, a ≤ i → i < mid → mid ≤ j → j < b → lt (f j) (f i) = false) (m1 : Mix n a mid f g) (s1 : SortedOn lt a mid g) (m2 : Mix n mid b g h) (s2 : SortedOn lt mid b h) : SortedOn lt a b h := by
 refine sorted_join (s1.congr fun i h1 h2 => m2.out i (by omega)) s2 fun i j h1 h2 h3 h4 => ?_
 rw [m2.out i (by omega)]
 obtain ⟨k, k1, k2, e⟩ := m2.ins j h3 h4
 obtain ⟨l, l1, l2, e2⟩ := m1.ins i h1 h2
 rw [e, e2, m1.out k (by omega)]
 exact hle l k l1 l2 k1 k2
structure Ins (lt : α → α → Bool) (a i j : Nat) (f : Nat → α) : Prop where
 s : ∀ p q, a ≤ p → p ≤ q → q ≤ i → p ≠ j → q ≠ j → lt (f q) (f p) = false
 h : ∀ q, j < q → q ≤ i → lt (f q) (f j) = false
theorem Ins.init {lt : α → α → Bool} (W : Weak lt) {a i : Nat} {f : Nat → α} (h : SortedOn lt a i f) : Ins lt a i i f := ⟨fun p q h1 h2 h3 h4 h5 => h p q h1 h2 (by omega), fun q _ _ => by omega⟩
theorem Ins.step {lt : α → α → Bool} (W : Weak lt) {a i j : Nat} {f : Nat → α} (h : Ins lt a i (j + 1) f) (ha : a ≤ j) (hi : j + 1 ≤ i) (ht : lt (f (j + 1)) (f j) = true) : Ins lt a i j (swp f (j + 1) j) := by
 have e1 : swp f (j + 1) j (j + 1) = f j := by unfold swp; rw [if_pos rfl]
 have e2 : swp f (j + 1) j j = f (j + 1) := by unfold swp; rw [if_neg (by omega), if_pos rfl]
 have e3 : ∀ x, x ≠ j + 1 → x ≠ j → swp f (j + 1) j x = f x := fun x h1 h2 => by unfold swp; rw [if_neg h1, if_neg h2]
 refine ⟨fun p q h1 h2 h3 h4 h5 => ?_, fun q h1 h2 => ?_⟩
 ·by_cases hp : p = j + 1
  ·subst hp
   rw [e1]
   by_cases hq : q = j + 1
   ·subst hq; rw [e1]; exact W.irrefl _
   ·rw [e3 q hq h5]; exact h.s j q ha (by omega) h3 (by omega) hq
  ·rw [e3 p hp h4]
   by_cases hq : q = j + 1
   ·subst hq; rw [e1]; exact h.s p j h1 (by omega) (by omega) hp (by omega)
   ·rw [e3 q hq h5]; exact h.s p q h1 h2 h3 hp hq
 ·rw [e2]
  by_cases hq : q = j + 1
  ·subst hq; rw [e1]; exact W.asym _ _ ht
  ·rw [e3 q hq (by omega)]; exact h.h q (by omega) h2
theorem Ins.done {lt : α → α → Bool} (W : Weak lt) {a i j : Nat} {f : Nat → α} (h : Ins lt a i j f) (ha : a ≤ j) (hi : j ≤ i) (ht : j = a ∨ ∃ k, j = k + 1 ∧ a ≤ k ∧ lt (f j) (f k) = false) : SortedOn lt a (i + 1) f := by
 intro p q h1 h2 h3
 by_cases hp : p = j
 ·subst hp
  by_cases hq : q = p
  ·subst hq; exact W.irrefl _
  ·exact h.h q (by omega) (by omega)
 ·by_cases hq : q = j
  ·subst hq
   rcases ht with rfl | ⟨k, rfl, hk, ht⟩
   ·omega
   ·by_cases hpk : p = k
    ·subst hpk; exact ht
    ·exact W.trans _ _ _ (h.s p k h1 (by omega) (by omega) hp (by omega)) ht
  ·exact h.s p q h1 h2 (by omega) hp hq
variable {α : Type}
section
variable {lt : α → α → Bool} {f : Nat → α}
theorem bin1_t (W : Weak lt) {m b h : Nat} (hs : SortedOn lt m b f) (x : α) (hb : h < b) (ht : lt (f h) x = true) : ∀ c, m ≤ c → c < h + 1 → lt (f c) x = true := fun c h1 h2 => by
 cases e : lt (f c) x
 ·have := W.trans _ _ _ e (hs c h h1 (by omega) hb)
  rw [ht] at this; cases this
 ·rfl
theorem bin1_f (W : Weak lt) {m b h : Nat} (hs : SortedOn lt m b f) (x : α) (hm : m ≤ h) (ht : lt (f h) x = false) : ∀ c, h ≤ c → c < b → lt (f c) x = false := fun c h1 h2 =>
 W.trans _ _ _ ht (hs h c hm h1 h2)
theorem bin2_t (W : Weak lt) {a m h : Nat} (hs : SortedOn lt a m f) (x : α) (hm : h < m) (ht : lt x (f h) = false) : ∀ c, a ≤ c → c < h + 1 → lt x (f c) = false := fun c h1 h2 =>
 W.trans _ _ _ (hs c h h1 (by omega) hm) ht
theorem bin2_f (W : Weak lt) {a m h : Nat} (hs : SortedOn lt a m f) (x : α) (ha : a ≤ h) (ht : lt x (f h) = true) : ∀ c, h ≤ c → c < m → lt x (f c) = true := fun c h1 h2 => by
 cases e : lt x (f c)
 ·have := W.trans _ _ _ (hs h c ha h1 h2) e
  rw [ht] at this; cases this
 ·rfl
end
theorem rot_mix (n : Nat) (f : Nat → α) {a m b : Nat} (h1 : a ≤ m) (h2 : m ≤ b) (hb : b ≤ n) : Mix n a b f (rot f a m b) := by
 refine ⟨fun i hi => ?_, fun i hi1 hi2 => ?_, ?_⟩
 ·unfold rot
  rw [if_neg (by omega), if_neg (by omega)]
 ·unfold rot
  by_cases e : i < a + (b - m)
  ·rw [if_pos ⟨hi1, e⟩]; exact ⟨_, by omega, by omega, rfl⟩
  ·rw [if_neg (by omega), if_pos ⟨by omega, hi2⟩]; exact ⟨_, by omega, by omega, rfl⟩
 ·have e : (List.range n).map (rot f a m b) = ((List.range n).map fun i => if a ≤ i ∧ i < a + (b - m) then i + (m - a) else if a + (b - m) ≤ i ∧ i < b then i - (b - m) else i).map f := by
   rw [List.map_map]
   apply List.map_congr_left
   intro k _
   simp only [rot, Function.comp]
   repeat' split
   all_goals rfl
  unfold PermF
  rw [e]
  apply List.Perm.map
  rw [List.perm_ext_iff_of_nodup]
  ·intro x
   simp only [List.mem_map, List.mem_range]
   constructor
   ·rintro ⟨k, hk, rfl⟩
    repeat' split
    all_goals omega
   ·intro hx
    by_cases h3 : m ≤ x ∧ x < b
    ·exact ⟨x - (m - a), by omega, by rw [if_pos (by omega)]; omega⟩
    ·by_cases h4 : a ≤ x ∧ x < m
     ·exact ⟨x + (b - m), by omega, by rw [if_neg (by omega), if_pos (by omega)]; omega⟩
     ·exact ⟨x, hx, by rw [if_neg (by omega), if_neg (by omega)]⟩
  ·unfold List.Nodup
   rw [List.pairwise_map]
   refine List.Pairwise.imp ?_ (List.nodup_range (n := n))
   intro x y hxy e
   apply hxy
   repeat' split at e
   all_goals omega
  ·exact List.nodup_range
def Runs (lt : α → α → Bool) (s n : Nat) (g : Nat → α) : Prop := ∀ u, SortedOn lt (u * s) (min (u * s + s) n) g
structure Done (lt : α → α → Bool) (d n a : Nat) (g : Nat → α) : Prop where
 t : ∃ t, a = t * d
 h : ∀ u, u * d + d ≤ a → SortedOn lt (u * d) (u * d + d) g
theorem Done.init (lt : α → α → Bool) {d : Nat} (n : Nat) (hd : 0 < d) (g : Nat → α) : Done lt d n 0 g := ⟨⟨0, by omega⟩, fun u hu => by omega⟩
theorem Done.step {lt : α → α → Bool} {d n a : Nat} {g h : Nat → α} (hd : 0 < d) (D : Done lt d n a g) (hm : Mix n a (a + d) g h) (hs : SortedOn lt a (a + d) h) : Done lt d n (a + d) h := by
 obtain ⟨t, ht⟩ := D.t
 refine ⟨⟨t + 1, by rw [Nat.succ_mul]; omega⟩, fun u hu => ?_⟩
 by_cases e : u = t
 ·subst e; rw [← ht]; exact hs
 ·have hlt : u * d + d ≤ a := by
   rw [ht]
   rcases Nat.lt_or_ge u t with h1 | h1
   ·have := Nat.mul_le_mul_right d (Nat.succ_le_of_lt h1); rw [Nat.succ_mul] at this; exact this
   ·have h2 : t + 1 ≤ u := by omega
    have := Nat.mul_le_mul_right d h2; rw [Nat.succ_mul] at this; omega
  exact (D.h u hlt).congr fun i h1 h2 => hm.out i (by omega)
theorem Done.last {lt : α → α → Bool} (W : Weak lt) {d n a : Nat} {g h : Nat → α} (hd : 0 < d) (D : Done lt d n a g) (ha : a ≤ n) (hn : n < a + d) (hm : Mix n a n g h) (hs : SortedOn lt a n h) : Runs lt d n h := by
 obtain ⟨t, ht⟩ := D.t
 intro u
 rcases Nat.lt_trichotomy u t with h1 | h1 | h1
 ·have h2 : u * d + d ≤ a := by
   rw [ht]; have := Nat.mul_le_mul_right d (Nat.succ_le_of_lt h1); rw [Nat.succ_mul] at this; exact this
  rw [show min (u * d + d) n = u * d + d by omega]
  exact (D.h u h2).congr fun i h3 h4 => hm.out i (by omega)
 ·subst h1
  rw [← ht, show min (a + d) n = n by omega]; exact hs
 ·have h2 : a + d ≤ u * d := by
   rw [ht]; have := Nat.mul_le_mul_right d (Nat.succ_le_of_lt h1); rw [Nat.succ_mul] at this; exact this
  exact sorted_one W (by omega) h
theorem Runs.all {lt : α → α → Bool} {s n : Nat} {g : Nat → α} (h : Runs lt s n g) (hn : n ≤ s) : SortedOn lt 0 n g := by
 have := h 0
 rw [show min (0 * s + s) n = n by omega, Nat.zero_mul] at this
 exact this
structure Rest (lt : α → α → Bool) (s n a : Nat) (g : Nat → α) : Prop where
 t : ∃ t, a = t * (2 * s)
 h : ∀ u, a ≤ u * s → SortedOn lt (u * s) (min (u * s + s) n) g
theorem Rest.init {lt : α → α → Bool} {s n : Nat} {g : Nat → α} (h : Runs lt s n g) : Rest lt s n 0 g := ⟨⟨0, by omega⟩, fun u _ => h u⟩
theorem Rest.one {lt : α → α → Bool} {s n a : Nat} {g : Nat → α} (R : Rest lt s n a g) : SortedOn lt a (min (a + s) n) g := by
 obtain ⟨t, ht⟩ := R.t
 have e : a = (2 * t) * s := by rw [ht, Nat.mul_comm 2 t, Nat.mul_assoc]
 have := R.h (2 * t) (by omega)
 rw [← e] at this; exact this
theorem Rest.two {lt : α → α → Bool} {s n a : Nat} {g : Nat → α} (R : Rest lt s n a g) : SortedOn lt (a + s) (min (a + s + s) n) g := by
 obtain ⟨t, ht⟩ := R.t
 have e : a = (2 * t) * s := by rw [ht, Nat.mul_comm 2 t, Nat.mul_assoc]
 have e2 : a + s = (2 * t + 1) * s := by rw [Nat.succ_mul]; omega
 have := R.h (2 * t + 1) (by omega)
 rw [← e2] at this; exact this
theorem Rest.step {lt : α → α → Bool} {s n a : Nat} {g h : Nat → α} (R : Rest lt s n a g) (hm : Mix n a (a + 2 * s) g h) : Rest lt s n (a + 2 * s) h := by
 obtain ⟨t, ht⟩ := R.t
 exact ⟨⟨t + 1, by have := Nat.add_mul t 1 (2 * s); omega⟩, fun u hu => (R.h u (by omega)).congr fun i h1 h2 => hm.out i (by omega)⟩
open Go.RowKit Go.Shelf
open Go.Proofs.YtehghladpnpcoaaGreatDoor.Jdec (gb_set gb_below gb_drew gb_refl)
theorem heap_many {b : Nat} {T : TypeId} {fr : Nat × Nat} : ∀ (vs : List Value) (w : World) (c : Array Value) (k : Nat), w.heap[b]? = some (.cells c T fr) → ∃ c', (w.setCells b k vs).heap[b]? = some (.cells c' T fr)
 | [], w, c, k, h => ⟨c, h⟩
 | v :: t, w, c, k, h => heap_many t _ _ _ (heap_set_same h v)
theorem gb_many (b : Nat) : ∀ (vs : List Value) (w : World) (k : Nat), w.grownBy (w.setCells b k vs) (some b)
 | [], w, k => gb_refl _ _
 | v :: t, w, k => (gb_set w b k v).trans (gb_many b t _ _)
structure Elem {α : Type} (P : Program) (T : TypeId) (W : Nat) (enc : α → List Value) : Prop where
 u : ∃ d, P.underlying T = some d ∧ d.isRow = true
 i : (P.info? T).map (·.size) = some W
 len : ∀ x, (enc x).length = W
 one : ∀ x, ∀ v ∈ enc x, v.oneCell' = true
structure ArrG {α : Type} (T : TypeId) (W : Nat) (enc : α → List Value) (w : World) (b o n : Nat) (f : Nat → α) : Prop where
 h : ∃ cs, w.heap[b]? = some (.cells cs T (0, 0))
 c : ∀ i, i < n → w.rangeAt b (o + i * W) (enc (f i))
section
variable {α : Type} {P : Program} {T : TypeId} {W : Nat} {enc : α → List Value} {w w' : World} {b o n : Nat} {f : Nat → α}
theorem ArrG.lt (h : ArrG T W enc w b o n f) : b < w.heap.size := by
 obtain ⟨cs, h1⟩ := h.h
 exact heap_lt h1
theorem ArrG.stays (h : ArrG T W enc w b o n f) (hb : Below w.heap.size w w') : ArrG T W enc w' b o n f := by
 obtain ⟨cs, h1⟩ := h.h
 have h2 := (hb.block _ (heap_lt h1)).trans h1
 refine ⟨⟨cs, h2⟩, fun i hi j v hv => ?_⟩
 have := h.c i hi j v hv
 rw [cell_of h1] at this
 rw [cell_of h2]; exact this
theorem ArrG.drew (h : ArrG T W enc w b o n f) : ArrG T W enc w.drew b o n f := h.stays ((Below.refl _ _).drew)
theorem ArrG.there (E : Elem P T W enc) (h : ArrG T W enc w b o n f) {i : Nat} (hi : i < n) : w.there b (o + i * W) W := fun j hj => by
 obtain ⟨cs, h1⟩ := h.h
 exact ⟨(h.c i hi).isSome j (by rw [E.len]; exact hj), frozen_of h1 _⟩
theorem ArrG.load (E : Elem P T W enc) (h : ArrG T W enc w b o n f) {i : Nat} (hi : i < n) : (Instr.loadAt T (.pointer (some ⟨b, o + i * W, none⟩))).run P w = .ok (.agg (enc (f i)).toArray) w := by
 obtain ⟨d, hd, hr⟩ := E.u
 exact run_loadAt_mid w b _ T (enc (f i)) d (h.c i hi) hd hr (by rw [E.i, E.len])
theorem store_mid (E : Elem P T W enc) (x : α) {k : Nat} (h : w.there b k W) : (Instr.storeAt T (.pointer (some ⟨b, k, none⟩)) (.agg (enc x).toArray)).run P w = .ok () (w.setCells b k (enc x)) := by
 have := run_storeAt_mid (P := P) w b k T (enc x).toArray (by simpa [E.len] using h) (by simp [E.i, E.len]) (all_oneCell_toArray (E.one x))
 simpa using this
theorem apart (W o x y : Nat) (h : x ≠ y) : o + x * W + W ≤ o + y * W ∨ o + y * W + W ≤ o + x * W := by
 rcases Nat.lt_or_gt_of_ne h with h | h
 ·have := Nat.mul_le_mul_right W (Nat.succ_le_of_lt h)
  rw [Nat.succ_mul] at this
  omega
 ·have := Nat.mul_le_mul_right W (Nat.succ_le_of_lt h)
  rw [Nat.succ_mul] at this
  omega
theorem ArrG.swaps (E : Elem P T W enc) (h : ArrG T W enc w b o n f) {i j : Nat} (hi : i < n) (hj : j < n) : ∃ Vi Vj w1 w2,
  (Instr.loadAt T (.pointer (some ⟨b, o + i * W, none⟩))).run P w = .ok Vi w ∧ (Instr.loadAt T (.pointer (some ⟨b, o + j * W, none⟩))).run P w = .ok Vj w ∧
  (Instr.storeAt T (.pointer (some ⟨b, o + i * W, none⟩)) Vj).run P w = .ok () w1 ∧ (Instr.storeAt T (.pointer (some ⟨b, o + j * W, none⟩)) Vi).run P w1 = .ok () w2 ∧
  Hid (ArrG T W enc w2 b o n (swp f i j)) ∧ Hid (w.grownBy w2 (some b)) := by
 have ti := h.there E hi
 have tj := h.there E hj
 refine ⟨_, _, _, _, h.load E hi, h.load E hj, store_mid E (f j) ti, store_mid E (f i) (World.there_setCells tj _ _ _), ⟨?_, fun k hk => ?_⟩, (gb_many b _ _ _).trans (gb_many b _ _ _)⟩
 ·obtain ⟨cs, h1⟩ := h.h
  obtain ⟨c1, h2⟩ := heap_many (enc (f j)) w cs (o + i * W) h1
  exact heap_many (enc (f i)) _ c1 (o + j * W) h2
 ·by_cases kj : k = j
  ·subst kj
   have e : swp f i k k = f i := by
    unfold swp
    by_cases ki : k = i
    ·subst ki; rw [if_pos rfl]
    ·rw [if_neg ki, if_pos rfl]
   rw [e]
   exact World.rangeAt_setCells_same _ _ _ _ (World.there_setCells (by rw [E.len]; exact tj) _ _ _)
  ·have kj2 : ¬ j = k := fun e => kj e.symm
   have ap := apart W o k j kj
   by_cases ki : k = i
   ·subst ki
    have e : swp f k j k = f j := by unfold swp; rw [if_pos rfl]
    rw [e]
    refine World.rangeAt_setCells_apart (World.rangeAt_setCells_same _ _ _ _ (by rw [E.len]; exact ti)) _ _ _ (.inr ?_)
    rw [E.len, E.len]; exact ap
   ·have e : swp f i j k = f k := by unfold swp; rw [if_neg ki, if_neg kj]
    rw [e]
    refine World.rangeAt_setCells_apart (World.rangeAt_setCells_apart (h.c k hk) _ _ _ (.inr ?_)) _ _ _ (.inr ?_)
    ·rw [E.len, E.len]; exact apart W o k i ki
    ·rw [E.len, E.len]; exact ap
end
def ltOf {α : Type} (cv : α → α → Int) (x y : α) : Bool := decide (cv x y < 0)
def CmpAt {α : Type} (P : Program) (F : FuncId) (enc : α → List Value) (cv : α → α → Int) (kb b : Nat) (w : World) : Prop :=
 ∀ W, w.grownBy W (some b) → ∀ x y : α, Calls P F #[.agg (enc x).toArray, .agg (enc y).toArray, .pointer (some ⟨kb, 0, none⟩)] W fun e w' => e = .returned (.int .i64 (cv x y)) ∧ Below W.heap.size W w'
theorem CmpAt.grow {α : Type} {P : Program} {F : FuncId} {enc : α → List Value} {cv : α → α → Int} {kb b : Nat} {w w' : World} (h : CmpAt P F enc cv kb b w) (hg : w.grownBy w' (some b)) : CmpAt P F enc cv kb b w' :=
 fun W hW x y => h W (hg.trans hW) x y
theorem exec_loadAt {P : Program} {op : Oper} {ρ : Operand → Value} {w : World} {ty : TypeId} {x : Operand} (ho : op.op = .load ty x) {p V : Value} (hx : ρ x = p) (h : (Instr.loadAt ty p).run P w = .ok V w) : (execOp ρ op).run P w = .ok (.value V) w := by
 unfold execOp
 simp only [ho, hx, Sem.run_bind, h, Result.andThen_ok]
 rfl
theorem wp_loadAt {P : Program} {op : Oper} {a : Act} {w : World} {K : Act → World → Prop} {Q : Exit → Act → World → Prop} {ty : TypeId} {x : Operand} (ho : op.op = .load ty x) {p V : Value} (hx : a.eval x = p) (h : (Instr.loadAt ty p).run P w = .ok V w) (hk : K (a.put op.dst V) w) : op.wp P a w K Q := by
 unfold Oper.wp
 rw [exec_loadAt ho hx h]
 exact hk
theorem wp_storeAt {P : Program} {op : Oper} {a : Act} {w w' : World} {K : Act → World → Prop} {Q : Exit → Act → World → Prop} {ty : TypeId} {x y : Operand} (ho : op.op = .store ty x y) {p V : Value} (hx : a.eval x = p) (hy : a.eval y = V) (h : (Instr.storeAt ty p V).run P w = .ok () w') (hk : K (a.put op.dst undef) w') : op.wp P a w K Q := by
 unfold Oper.wp execOp
 simp only [ho, hx, hy, Sem.run_bind, h, Result.andThen_ok]
 exact hk
end Go.Proofs.YtehghladpnpcoaaGreatDoor.Stable
