/- Contracts of package meter and walks of its laws, over the seat's program. -/
import Derived.Test.YtckpdpmjgkjefaaMeter3
import Derived.Outline
namespace Go.Proofs.Ytckpdpmjgkjefaa.Meter
open Go.RowKit Go.Proofs.Ytckpdpmjgkjefaa.Atom
set_option linter.unusedVariables false

theorem Mtr.drewN {w : World} {b r : Nat} {l u p f : Int} (h : Mtr w b r l u p f) (n : Nat) : Mtr (w.drewN n) b r l u p f := ⟨h.ne, h.own, h.shown⟩
theorem below_drewN (B : Nat) (w : World) (n : Nat) : Below B w (w.drewN n) := ⟨rfl, rfl, rfl, Nat.le_refl _, fun _ _ => rfl⟩

theorem take_ok (b r : Nat) (l u p f n : Int) (w : World) (h : Mtr w b r l u p f) (h0 : 0 ≤ u) (h1 : u ≤ l) (h2 : l ≤ 9223372036854775807) (hf : 0 ≤ f) (hf' : f < 9223372036854775807) (hn : 0 ≤ n) (hb : n ≤ l - u) :
    Calls Try.prog 9 #[.pointer (some ⟨b, 0, none⟩), .int .i64 n] w (Told w b true l (u + n) (max p (u + n)) f) := by
  by_cases hp : p < u + n
  · rw [show max p (u + n) = u + n by omega]
    exact take_up b r l u p f n w h h0 h1 h2 hf hf' hn hb hp
  · rw [show max p (u + n) = p by omega]
    exact take_in b r l u p f n w h h0 h1 h2 hf hf' hn hb (by omega)
theorem take_no (b r : Nat) (l u p f n : Int) (w : World) (h : Mtr w b r l u p f) (h0 : 0 ≤ u) (h1 : u ≤ l) (h2 : l ≤ 9223372036854775807) (hf : 0 ≤ f) (hf' : f < 9223372036854775807) (hn : n < 0 ∨ l - u < n) :
    Calls Try.prog 9 #[.pointer (some ⟨b, 0, none⟩), .int .i64 n] w (Told w b false l u p (f + 1)) := by
  by_cases hp : n < 0
  · exact take_neg b r l u p f n w h h0 h1 h2 hf hf' hp
  · exact take_big b r l u p f n w h h0 h1 h2 hf hf' (by omega) (by omega)
theorem give_no (b r : Nat) (l u p f n : Int) (w : World) (h : Mtr w b r l u p f) (h0 : 0 ≤ u) (h1 : u ≤ l) (h2 : l ≤ 9223372036854775807) (hf : 0 ≤ f) (hf' : f < 9223372036854775807) (hn : n < 0 ∨ u < n) :
    Calls Try.prog 12 #[.pointer (some ⟨b, 0, none⟩), .int .i64 n] w (Told w b false l u p (f + 1)) := by
  by_cases hp : n < 0
  · exact give_neg b r l u p f n w h h0 h1 h2 hf hf' hp
  · exact give_big b r l u p f n w h h0 h1 h2 hf hf' (by omega) (by omega)

/-- wakes: true; nothing that was there has turned. -/
theorem wakes_any (w : World) : Calls Try.prog 7 #[] w fun e w' => e = .returned (.bool true) ∧ Below w.heap.size w w' := by
  go_enter Try.func7, Try.ntmps7
  go_wp2_with fail
  refine (new_any _ _).mono ?_
  rintro e w1 ⟨b, r, rfl, hb, _, hm, hbel⟩
  have H1 : Hid (Below w.heap.size w w1) := hbel; clear hbel
  have M1 : Hid (Mtr w1 b r (max 5 0) 0 0 0) := hm; clear hm
  go_wp2_with fail
  refine (take_ok b r _ 0 0 0 3 w1 M1.out (by omega) (by omega) (by omega) (by omega) (by omega) (by omega) (by omega)).mono ?_
  rintro e w2 ⟨rfl, r2, hm, hx, _⟩
  have H2 : Hid (Below w.heap.size w w2) := H1.out.trans (hx.below hb H1.out.size); clear hx
  have M2 : Hid (Mtr w2 b r2 (max 5 0) (0 + 3) (max 0 (0 + 3)) 0) := hm; clear hm
  go_wp2_with fail
  refine (take_no b r2 _ _ _ _ 3 w2 M2.out (by omega) (by omega) (by omega) (by omega) (by omega) (by omega)).mono ?_
  rintro e w3 ⟨rfl, r3, hm, hx, _⟩
  have H3 : Hid (Below w.heap.size w w3) := H2.out.trans (hx.below hb H2.out.size); clear hx
  have M3 : Hid (Mtr w3 b r3 (max 5 0) (0 + 3) (max 0 (0 + 3)) (0 + 1)) := hm; clear hm
  go_wp2_with fail
  refine (left_any b r3 _ _ _ _ w3 M3.out (by omega) (by omega) (by omega)).mono ?_
  rintro e w4 ⟨rfl, n4, rfl⟩
  go_wp2_with fail
  refine (refused_any b r3 _ _ _ _ _ (M3.out.drewN n4)).mono ?_
  rintro e w5 ⟨rfl, rfl⟩
  go_wp2_with fail
  go_ret
  exact ⟨rfl, H3.out.trans ⟨rfl, rfl, rfl, Nat.le_refl _, fun _ _ => rfl⟩⟩
end Go.Proofs.Ytckpdpmjgkjefaa.Meter
