/- Contracts of the reference meter and of told. -/
import Derived.Test.YtckpdpmjgkjefaaMeter4
import Derived.Outline
namespace Go.Proofs.Ytckpdpmjgkjefaa.Meter
open Go.RowKit Go.Proofs.Ytckpdpmjgkjefaa.Atom
set_option linter.unusedVariables false

abbrev refV (l u p f : Int) : Value := .agg #[.int .i64 l, .int .i64 u, .int .i64 p, .int .i64 f]
def RefTold (w : World) (ok : Bool) (l u p f : Int) (e : Ending) (w' : World) : Prop := e = .returned (.tuple #[.agg #[.int .i64 l, .int .i64 u, .int .i64 p, .int .i64 f], .bool ok]) ∧ Below w.heap.size w w'

theorem refNew_any (l : Int) (w : World) : Calls Try.prog 14 #[.int .i64 l] w fun e w' => e = .returned (.agg #[.int .i64 (max l 0), .int .i64 0, .int .i64 0, .int .i64 0]) ∧ Below w.heap.size w w' := by
  by_cases hl : l < 0
  · have hm : Hid (max l 0 = 0) := by unfold Hid; omega
    go_enter Try.func14, Try.ntmps14
    go_wp2_with fail
    refine bodyPost_ret (v := .agg #[.int .i64 0, .int .i64 0, .int .i64 0, .int .i64 0]) (by simp [results, Try.results14, go_sem]) rfl ⟨?_, (Below.refl _ _).alloc (Nat.le_refl _) _⟩
    rw [hm.out]
  · have hm : Hid (max l 0 = l) := by unfold Hid; omega
    go_enter Try.func14, Try.ntmps14
    go_wp2_with fail
    refine bodyPost_ret (v := .agg #[.int .i64 l, .int .i64 0, .int .i64 0, .int .i64 0]) (by simp [results, Try.results14, go_sem]) rfl ⟨?_, (Below.refl _ _).alloc (Nat.le_refl _) _⟩
    rw [hm.out]

theorem refTake_neg (l u p f n : Int) (w : World) (h0 : 0 ≤ u) (h1 : u ≤ l) (h2 : l ≤ 9223372036854775807) (hf : 0 ≤ f) (hf' : f < 9223372036854775807) (hn : n < 0) :
    Calls Try.prog 17 #[.agg #[.int .i64 l, .int .i64 u, .int .i64 p, .int .i64 f], .int .i64 n] w (RefTold w false l u p (f + 1)) := by
  have hd : decide (n < 0) = true := by simpa using hn
  go_enter Try.func17, Try.ntmps17
  go_wp2_with fail
  exact bodyPost_ret (v := .tuple #[.agg #[.int .i64 l, .int .i64 u, .int .i64 p, .int .i64 (f + 1)], .bool false]) (by simp [results, Try.results17, go_sem]) rfl ⟨rfl, ((Below.refl _ _).alloc (Nat.le_refl _) _).alloc (by simp) _⟩

theorem refTake_big (l u p f n : Int) (w : World) (h0 : 0 ≤ u) (h1 : u ≤ l) (h2 : l ≤ 9223372036854775807) (hf : 0 ≤ f) (hf' : f < 9223372036854775807) (hn : 0 ≤ n) (hb : l - u < n) :
    Calls Try.prog 17 #[.agg #[.int .i64 l, .int .i64 u, .int .i64 p, .int .i64 f], .int .i64 n] w (RefTold w false l u p (f + 1)) := by
  have hd : decide (n < 0) = false := by simpa using hn
  have hd2 : decide (l - u < n) = true := by simpa using hb
  go_enter Try.func17, Try.ntmps17
  go_wp2_with fail
  exact bodyPost_ret (v := .tuple #[.agg #[.int .i64 l, .int .i64 u, .int .i64 p, .int .i64 (f + 1)], .bool false]) (by simp [results, Try.results17, go_sem]) rfl ⟨rfl, ((Below.refl _ _).alloc (Nat.le_refl _) _).alloc (by simp) _⟩

theorem refTake_up (l u p f n : Int) (w : World) (h0 : 0 ≤ u) (h1 : u ≤ l) (h2 : l ≤ 9223372036854775807) (hf : 0 ≤ f) (hf' : f < 9223372036854775807) (hn : 0 ≤ n) (hb : n ≤ l - u) (hp : p < u + n) :
    Calls Try.prog 17 #[.agg #[.int .i64 l, .int .i64 u, .int .i64 p, .int .i64 f], .int .i64 n] w (RefTold w true l (u + n) (u + n) f) := by
  have hd : decide (n < 0) = false := by simpa using hn
  have hd2 : decide (l - u < n) = false := by simpa using hb
  go_enter Try.func17, Try.ntmps17
  go_wp2_with fail
  exact bodyPost_ret (v := .tuple #[.agg #[.int .i64 l, .int .i64 (u + n), .int .i64 (u + n), .int .i64 f], .bool true]) (by simp [results, Try.results17, go_sem]) rfl ⟨rfl, ((Below.refl _ _).alloc (Nat.le_refl _) _).alloc (by simp) _⟩

theorem refTake_in (l u p f n : Int) (w : World) (h0 : 0 ≤ u) (h1 : u ≤ l) (h2 : l ≤ 9223372036854775807) (hf : 0 ≤ f) (hf' : f < 9223372036854775807) (hn : 0 ≤ n) (hb : n ≤ l - u) (hp : u + n ≤ p) :
    Calls Try.prog 17 #[.agg #[.int .i64 l, .int .i64 u, .int .i64 p, .int .i64 f], .int .i64 n] w (RefTold w true l (u + n) p f) := by
  have hd : decide (n < 0) = false := by simpa using hn
  have hd2 : decide (l - u < n) = false := by simpa using hb
  go_enter Try.func17, Try.ntmps17
  go_wp2_with fail
  exact bodyPost_ret (v := .tuple #[.agg #[.int .i64 l, .int .i64 (u + n), .int .i64 p, .int .i64 f], .bool true]) (by simp [results, Try.results17, go_sem]) rfl ⟨rfl, ((Below.refl _ _).alloc (Nat.le_refl _) _).alloc (by simp) _⟩

theorem refGive_neg (l u p f n : Int) (w : World) (h0 : 0 ≤ u) (h1 : u ≤ l) (h2 : l ≤ 9223372036854775807) (hf : 0 ≤ f) (hf' : f < 9223372036854775807) (hn : n < 0) :
    Calls Try.prog 16 #[.agg #[.int .i64 l, .int .i64 u, .int .i64 p, .int .i64 f], .int .i64 n] w (RefTold w false l u p (f + 1)) := by
  have hd : decide (n < 0) = true := by simpa using hn
  go_enter Try.func16, Try.ntmps16
  go_wp2_with fail
  exact bodyPost_ret (v := .tuple #[.agg #[.int .i64 l, .int .i64 u, .int .i64 p, .int .i64 (f + 1)], .bool false]) (by simp [results, Try.results16, go_sem]) rfl ⟨rfl, ((Below.refl _ _).alloc (Nat.le_refl _) _).alloc (by simp) _⟩

theorem refGive_big (l u p f n : Int) (w : World) (h0 : 0 ≤ u) (h1 : u ≤ l) (h2 : l ≤ 9223372036854775807) (hf : 0 ≤ f) (hf' : f < 9223372036854775807) (hn : 0 ≤ n) (hb : u < n) :
    Calls Try.prog 16 #[.agg #[.int .i64 l, .int .i64 u, .int .i64 p, .int .i64 f], .int .i64 n] w (RefTold w false l u p (f + 1)) := by
  have hd : decide (n < 0) = false := by simpa using hn
  have hd2 : decide (u < n) = true := by simpa using hb
  go_enter Try.func16, Try.ntmps16
  go_wp2_with fail
  exact bodyPost_ret (v := .tuple #[.agg #[.int .i64 l, .int .i64 u, .int .i64 p, .int .i64 (f + 1)], .bool false]) (by simp [results, Try.results16, go_sem]) rfl ⟨rfl, ((Below.refl _ _).alloc (Nat.le_refl _) _).alloc (by simp) _⟩

theorem refGive_ok (l u p f n : Int) (w : World) (h0 : 0 ≤ u) (h1 : u ≤ l) (h2 : l ≤ 9223372036854775807) (hf : 0 ≤ f) (hf' : f < 9223372036854775807) (hn : 0 ≤ n) (hb : n ≤ u) :
    Calls Try.prog 16 #[.agg #[.int .i64 l, .int .i64 u, .int .i64 p, .int .i64 f], .int .i64 n] w (RefTold w true l (u - n) p f) := by
  have hd : decide (n < 0) = false := by simpa using hn
  have hd2 : decide (u < n) = false := by simpa using hb
  go_enter Try.func16, Try.ntmps16
  go_wp2_with fail
  exact bodyPost_ret (v := .tuple #[.agg #[.int .i64 l, .int .i64 (u - n), .int .i64 p, .int .i64 f], .bool true]) (by simp [results, Try.results16, go_sem]) rfl ⟨rfl, ((Below.refl _ _).alloc (Nat.le_refl _) _).alloc (by simp) _⟩

theorem refTake_ok (l u p f n : Int) (w : World) (h0 : 0 ≤ u) (h1 : u ≤ l) (h2 : l ≤ 9223372036854775807) (hf : 0 ≤ f) (hf' : f < 9223372036854775807) (hn : 0 ≤ n) (hb : n ≤ l - u) :
    Calls Try.prog 17 #[.agg #[.int .i64 l, .int .i64 u, .int .i64 p, .int .i64 f], .int .i64 n] w (RefTold w true l (u + n) (max p (u + n)) f) := by
  by_cases hp : p < u + n
  · rw [show max p (u + n) = u + n by omega]
    exact refTake_up l u p f n w h0 h1 h2 hf hf' hn hb hp
  · rw [show max p (u + n) = p by omega]
    exact refTake_in l u p f n w h0 h1 h2 hf hf' hn hb (by omega)
theorem refTake_no (l u p f n : Int) (w : World) (h0 : 0 ≤ u) (h1 : u ≤ l) (h2 : l ≤ 9223372036854775807) (hf : 0 ≤ f) (hf' : f < 9223372036854775807) (hn : n < 0 ∨ l - u < n) :
    Calls Try.prog 17 #[.agg #[.int .i64 l, .int .i64 u, .int .i64 p, .int .i64 f], .int .i64 n] w (RefTold w false l u p (f + 1)) := by
  by_cases hp : n < 0
  · exact refTake_neg l u p f n w h0 h1 h2 hf hf' hp
  · exact refTake_big l u p f n w h0 h1 h2 hf hf' (by omega) (by omega)
theorem refGive_no (l u p f n : Int) (w : World) (h0 : 0 ≤ u) (h1 : u ≤ l) (h2 : l ≤ 9223372036854775807) (hf : 0 ≤ f) (hf' : f < 9223372036854775807) (hn : n < 0 ∨ u < n) :
    Calls Try.prog 16 #[.agg #[.int .i64 l, .int .i64 u, .int .i64 p, .int .i64 f], .int .i64 n] w (RefTold w false l u p (f + 1)) := by
  by_cases hp : n < 0
  · exact refGive_neg l u p f n w h0 h1 h2 hf hf' hp
  · exact refGive_big l u p f n w h0 h1 h2 hf hf' (by omega) (by omega)

/-! ### told -/
theorem q_of {P : Program} {f : FuncId} {args : Array Value} {w : World} {n : Nat} {v : Value} (h : Calls P f args (w.drewN n) fun e w' => e = .returned v ∧ w.drewN n = w') :
    Calls P f args (w.drewN n) fun e w'' => e = .returned v ∧ ∃ m, w'' = w.drewN m :=
  Calls.quiet_of_same (h.mono fun _ _ h => ⟨h.1, h.2.symm⟩)
theorem told_any (b r : Nat) (l u p f : Int) (w : World) (h : Mtr w b r l u p f) (h0 : 0 ≤ u) (h1 : u ≤ l) (h2 : l ≤ 9223372036854775807) :
    Calls Try.prog 15 #[.pointer (some ⟨b, 0, none⟩), .agg #[.int .i64 l, .int .i64 u, .int .i64 p, .int .i64 f]] w fun e w' => e = .returned (.bool true) ∧ Below w.heap.size w w' := by
  have hl := h.lt
  have hx : Ex (w.heap.size) w (w.alloc (.cells #[.int .i64 l, .int .i64 u, .int .i64 p, .int .i64 f] 30)) := (Ex.refl _ _).alloc _
  have M : ∀ n, Mtr ((w.alloc (.cells #[.int .i64 l, .int .i64 u, .int .i64 p, .int .i64 f] 30)).drewN n) b r l u p f := fun n => (h.ex hx (by omega) (by omega)).drewN n
  have hu := fun n => q_of (used_any b r _ _ _ _ _ (M n))
  have hp := fun n => q_of (peak_any b r _ _ _ _ _ (M n))
  have hf := fun n => q_of (refused_any b r _ _ _ _ _ (M n))
  have hv := fun n => Calls.quiet_of (left_any b r _ _ _ _ _ (M n) h0 h1 h2)
  clear h hx M
  have HU := Hid.out (p := Hid _) hu; clear hu
  have HP := Hid.out (p := Hid _) hp; clear hp
  have HF := Hid.out (p := Hid _) hf; clear hf
  have HV := Hid.out (p := Hid _) hv; clear hv
  go_enter Try.func15, Try.ntmps15
  go_wp2_with fail
  go_quiet ((first | (go_at_call 10; exact HU.out _) | (go_at_call 11; exact HV.out _) | (go_at_call 13; exact HP.out _) | (go_at_call 18; exact HF.out _)))
  go_wp2_with fail
  go_ret
  exact ⟨rfl, ((Below.refl _ _).alloc (Nat.le_refl _) _).trans (below_drewN _ _ _)⟩
end Go.Proofs.Ytckpdpmjgkjefaa.Meter
