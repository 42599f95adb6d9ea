/- utf.tail and utf.Put. -/
import Derived.Test.YtbfkgddhpabioaaDoorUtfF
import Derived.Test.YtbfkgddhpabioaaDoorPlainA
import Derived.Test.YtbfkgddhpabioaaDoorFrame
import Derived.WalkLawsBesides
namespace Go.Proofs.YtbfkgddhpabioaaDoor.Utf
open Go.RowKit Go.Proofs.YtbfkgddhpabioaaDoor.Quote
set_option linter.unusedVariables false
set_option linter.unusedSimpArgs false
set_option maxRecDepth 100000

theorem or128 : ∀ x : Nat, x < 64 → bits .or .i64 128 (x : Int) = ((128 + x : Nat) : Int) := by decide +kernel
theorem and63' (c : Nat) (hc : c < 4611686018427387904) : bits .and .i64 (c : Int) 63 = ((c % 64 : Nat) : Int) := by
  have := Bits.and_nat c 63 (by omega) (by omega)
  rw [show ((63 : Nat) : Int) = 63 from rfl] at this
  rw [this]
  have e := Nat.and_two_pow_sub_one_eq_mod c 6
  simp only [Nat.reducePow, Nat.reduceSub] at e
  rw [e]
theorem tail_eq (c : Nat) (hc : c < 4611686018427387904) : bits .or .i64 128 (bits .and .i64 (c : Int) 63) = ((128 + c % 64 : Nat) : Int) := by
  rw [and63' c hc]; exact or128 _ (by omega)

theorem tail_any (c : Nat) (w : World) (hc : c < 4611686018427387904) : Calls Tryd.prog 141 #[.int .i64 c] w fun e w' => e = .returned (.int .u8 ((128 + c % 64 : Nat) : Int)) ∧ w = w' := by
  have h1 := Hid.out (p := Hid _) (tail_eq c hc)
  go_enter Tryd.func141, Tryd.ntmps141
  go_wp2
  go_ret
  refine ⟨?_, rfl⟩
  show Ending.returned (Value.int IntKind.u8 (bits BinOp.or IntKind.i64 128 (bits BinOp.and IntKind.i64 (↑c) 63) % 256)) = _
  rw [h1.out]
  congr 2
  omega

theorem or192 : ∀ x : Nat, x < 32 → bits .or .i64 192 (x : Int) = ((192 + x : Nat) : Int) := by decide +kernel
theorem or224 : ∀ x : Nat, x < 16 → bits .or .i64 224 (x : Int) = ((224 + x : Nat) : Int) := by decide +kernel
theorem or240 : ∀ x : Nat, x < 8 → bits .or .i64 240 (x : Int) = ((240 + x : Nat) : Int) := by decide +kernel

theorem conv_back {W : World} (a : Addr) (n cap : Nat) (l : List UInt8) (hl : l.length = n) (hc : ∀ j (hj : j < l.length), W.cell? (a.add j) = some (.int .u8 (l[j].toNat : Int))) :
    (convert 22 9 (.slice (some a) n cap)).run Tryd.prog W = .ok (.string ⟨l.toArray⟩) W := by
  subst hl
  exact run_convert_bytes_back W _ _ 5 a cap l (by kernel_rfl) (by kernel_rfl) (by kernel_rfl) hc
theorem new_cells {w : World} {cs : Array Value} {e : TypeId} (l : List UInt8) (hsz : cs.size = l.length) (h : ∀ j (hj : j < l.length), cs[j]? = some (.int .u8 (l[j].toNat : Int))) (j : Nat) (hj : j < l.length) :
    (w.alloc (.cells cs e)).cell? ((⟨w.heap.size, 0, none⟩ : Addr).add j) = some (.int .u8 (l[j].toNat : Int)) := by
  have e1 : ((⟨w.heap.size, 0, none⟩ : Addr).add j) = ⟨w.heap.size, j, none⟩ := by unfold Addr.add; split <;> simp_all
  rw [e1, cell_of (heap_alloc_new w _)]
  exact h j hj
theorem ofNat_u8 (n : Nat) (h : n < 256) : (UInt8.ofNat n).toNat = n := by simp; omega

theorem put_no (c : Nat) (w : World) (h1 : scalarB c = false) :
    Calls Tryd.prog 129 #[.int .i64 c] w fun e w' => e = .returned (.tuple #[.string ⟨(put c).toArray⟩, .bool false]) ∧ Below w.heap.size w w' := by
  have hp : put c = [] := by unfold put; rw [h1]; rfl
  have HP := Hid.out (p := Hid _) hp; clear hp
  have H1 := Hid.out (p := Hid _) h1; clear h1
  go_enter Tryd.func129, Tryd.ntmps129
  go_wp2_with fail
  refine (isScalar_eq c false H1.out w).mono ?_
  rintro e w' ⟨rfl, rfl⟩
  go_wp2_with fail
  go_ret2
  rw [HP.out]
  exact ⟨rfl, Below.refl _ _⟩

theorem put_1 (c : Nat) (w : World) (h1 : scalarB c = true) (h2 : width c = 1) :
    Calls Tryd.prog 129 #[.int .i64 c] w fun e w' => e = .returned (.tuple #[.string ⟨(put c).toArray⟩, .bool true]) ∧ Below w.heap.size w w' := by
  have hc : c ≤ 1114111 := by simp only [scalarB, Bool.and_eq_true, decide_eq_true_eq] at h1; exact h1.1
  have hw : 0 ≤ c ∧ c < 128 := by unfold width at h2; (repeat' split at h2) <;> omega
  have hp : put c = [UInt8.ofNat (c)] := by unfold put; rw [if_pos h1, h2]; rfl
  have HP := Hid.out (p := Hid _) hp; clear hp
  have H1 := Hid.out (p := Hid _) h1; clear h1
  have H2 := Hid.out (p := Hid _) h2; clear h2
  go_enter Tryd.func129, Tryd.ntmps129
  go_wp2_with fail
  refine (isScalar_eq c true H1.out w).mono ?_
  rintro e w' ⟨rfl, rfl⟩
  go_wp2_with fail
  refine (width_eq c 1 H2.out w).mono ?_
  rintro e w' ⟨rfl, rfl⟩
  go_wp2_with fail
  rw [conv_back ⟨w.heap.size, 0, none⟩ 1 1 (put c) (by rw [HP.out]; rfl) (new_cells _ (by rw [HP.out]; rfl) (by
    rw [HP.out]
    intro j hj
    match j, hj with
    | 0, _ =>
      show some (Value.int .u8 ((c : Int))) = some (Value.int .u8 ((UInt8.ofNat (c)).toNat : Int))
      rw [ofNat_u8 _ (by omega)]
      skip
      first | done | rfl | (congr 2 <;> omega)
    ))]
  simp only [Result.andThen]
  rw [Oper.upon_value]
  go_wp2_with fail
  go_ret2
  exact ⟨rfl, (Below.refl _ _).alloc (Nat.le_refl _) _⟩

theorem put_2 (c : Nat) (w : World) (h1 : scalarB c = true) (h2 : width c = 2) :
    Calls Tryd.prog 129 #[.int .i64 c] w fun e w' => e = .returned (.tuple #[.string ⟨(put c).toArray⟩, .bool true]) ∧ Below w.heap.size w w' := by
  have hc : c ≤ 1114111 := by simp only [scalarB, Bool.and_eq_true, decide_eq_true_eq] at h1; exact h1.1
  have hw : 128 ≤ c ∧ c < 2048 := by unfold width at h2; (repeat' split at h2) <;> omega
  have hp : put c = [UInt8.ofNat (192 + c / 64), UInt8.ofNat (128 + c % 64)] := by unfold put; rw [if_pos h1, h2]; rfl
  have HP := Hid.out (p := Hid _) hp; clear hp
  have H1 := Hid.out (p := Hid _) h1; clear h1
  have H2 := Hid.out (p := Hid _) h2; clear h2
  go_enter Tryd.func129, Tryd.ntmps129
  go_wp2_with fail
  refine (isScalar_eq c true H1.out w).mono ?_
  rintro e w' ⟨rfl, rfl⟩
  go_wp2_with fail
  refine (width_eq c 2 H2.out w).mono ?_
  rintro e w' ⟨rfl, rfl⟩
  go_wp2_with fail
  refine (tail_any c w (by omega)).mono ?_
  rintro e w' ⟨rfl, rfl⟩
  go_wp2_with fail
  rw [conv_back ⟨w.heap.size, 0, none⟩ 2 2 (put c) (by rw [HP.out]; rfl) (new_cells _ (by rw [HP.out]; rfl) (by
    rw [HP.out]
    intro j hj
    match j, hj with
    | 0, _ =>
      show some (Value.int .u8 (bits .or .i64 192 ((c : Int) / 64) % 256)) = some (Value.int .u8 ((UInt8.ofNat (192 + c / 64)).toNat : Int))
      rw [ofNat_u8 _ (by omega)]
      rw [show ((c : Int) / 64) = ((c / 64 : Nat) : Int) by omega, or192 _ (by omega)]
      first | done | rfl | (congr 2 <;> omega)
    | 1, _ =>
      show some (Value.int .u8 (((128 + c % 64 : Nat) : Int))) = some (Value.int .u8 ((UInt8.ofNat (128 + c % 64)).toNat : Int))
      rw [ofNat_u8 _ (by omega)]
      skip
      first | done | rfl | (congr 2 <;> omega)
    ))]
  simp only [Result.andThen]
  rw [Oper.upon_value]
  go_wp2_with fail
  go_ret2
  exact ⟨rfl, (Below.refl _ _).alloc (Nat.le_refl _) _⟩

theorem put_3 (c : Nat) (w : World) (h1 : scalarB c = true) (h2 : width c = 3) :
    Calls Tryd.prog 129 #[.int .i64 c] w fun e w' => e = .returned (.tuple #[.string ⟨(put c).toArray⟩, .bool true]) ∧ Below w.heap.size w w' := by
  have hc : c ≤ 1114111 := by simp only [scalarB, Bool.and_eq_true, decide_eq_true_eq] at h1; exact h1.1
  have hw : 2048 ≤ c ∧ c < 65536 := by unfold width at h2; (repeat' split at h2) <;> omega
  have hp : put c = [UInt8.ofNat (224 + c / 4096), UInt8.ofNat (128 + c / 64 % 64), UInt8.ofNat (128 + c % 64)] := by unfold put; rw [if_pos h1, h2]; rfl
  have HP := Hid.out (p := Hid _) hp; clear hp
  have H1 := Hid.out (p := Hid _) h1; clear h1
  have H2 := Hid.out (p := Hid _) h2; clear h2
  go_enter Tryd.func129, Tryd.ntmps129
  go_wp2_with fail
  refine (isScalar_eq c true H1.out w).mono ?_
  rintro e w' ⟨rfl, rfl⟩
  go_wp2_with fail
  refine (width_eq c 3 H2.out w).mono ?_
  rintro e w' ⟨rfl, rfl⟩
  go_wp2_with fail
  rw [show ((c : Int) / 64 : Int) = ((c / 64 : Nat) : Int) by omega]
  refine (tail_any (c / 64) w (by omega)).mono ?_
  rintro e w' ⟨rfl, rfl⟩
  go_wp2_with fail
  refine (tail_any c w (by omega)).mono ?_
  rintro e w' ⟨rfl, rfl⟩
  go_wp2_with fail
  rw [conv_back ⟨w.heap.size, 0, none⟩ 3 3 (put c) (by rw [HP.out]; rfl) (new_cells _ (by rw [HP.out]; rfl) (by
    rw [HP.out]
    intro j hj
    match j, hj with
    | 0, _ =>
      show some (Value.int .u8 (bits .or .i64 224 ((c : Int) / 4096) % 256)) = some (Value.int .u8 ((UInt8.ofNat (224 + c / 4096)).toNat : Int))
      rw [ofNat_u8 _ (by omega)]
      rw [show ((c : Int) / 4096) = ((c / 4096 : Nat) : Int) by omega, or224 _ (by omega)]
      first | done | rfl | (congr 2 <;> omega)
    | 1, _ =>
      show some (Value.int .u8 (((128 + c / 64 % 64 : Nat) : Int))) = some (Value.int .u8 ((UInt8.ofNat (128 + c / 64 % 64)).toNat : Int))
      rw [ofNat_u8 _ (by omega)]
      skip
      first | done | rfl | (congr 2 <;> omega)
    | 2, _ =>
      show some (Value.int .u8 (((128 + c % 64 : Nat) : Int))) = some (Value.int .u8 ((UInt8.ofNat (128 + c % 64)).toNat : Int))
      rw [ofNat_u8 _ (by omega)]
      skip
      first | done | rfl | (congr 2 <;> omega)
    ))]
  simp only [Result.andThen]
  rw [Oper.upon_value]
  go_wp2_with fail
  go_ret2
  exact ⟨rfl, (Below.refl _ _).alloc (Nat.le_refl _) _⟩

theorem put_4 (c : Nat) (w : World) (h1 : scalarB c = true) (h2 : width c = 4) :
    Calls Tryd.prog 129 #[.int .i64 c] w fun e w' => e = .returned (.tuple #[.string ⟨(put c).toArray⟩, .bool true]) ∧ Below w.heap.size w w' := by
  have hc : c ≤ 1114111 := by simp only [scalarB, Bool.and_eq_true, decide_eq_true_eq] at h1; exact h1.1
  have hw : 65536 ≤ c ∧ c < 1114112 := by unfold width at h2; (repeat' split at h2) <;> omega
  have hp : put c = [UInt8.ofNat (240 + c / 262144), UInt8.ofNat (128 + c / 4096 % 64), UInt8.ofNat (128 + c / 64 % 64), UInt8.ofNat (128 + c % 64)] := by unfold put; rw [if_pos h1, h2]; rfl
  have HP := Hid.out (p := Hid _) hp; clear hp
  have H1 := Hid.out (p := Hid _) h1; clear h1
  have H2 := Hid.out (p := Hid _) h2; clear h2
  go_enter Tryd.func129, Tryd.ntmps129
  go_wp2_with fail
  refine (isScalar_eq c true H1.out w).mono ?_
  rintro e w' ⟨rfl, rfl⟩
  go_wp2_with fail
  refine (width_eq c 4 H2.out w).mono ?_
  rintro e w' ⟨rfl, rfl⟩
  go_wp2_with fail
  rw [show ((c : Int) / 4096 : Int) = ((c / 4096 : Nat) : Int) by omega]
  refine (tail_any (c / 4096) w (by omega)).mono ?_
  rintro e w' ⟨rfl, rfl⟩
  go_wp2_with fail
  rw [show ((c : Int) / 64 : Int) = ((c / 64 : Nat) : Int) by omega]
  refine (tail_any (c / 64) w (by omega)).mono ?_
  rintro e w' ⟨rfl, rfl⟩
  go_wp2_with fail
  refine (tail_any c w (by omega)).mono ?_
  rintro e w' ⟨rfl, rfl⟩
  go_wp2_with fail
  rw [conv_back ⟨w.heap.size, 0, none⟩ 4 4 (put c) (by rw [HP.out]; rfl) (new_cells _ (by rw [HP.out]; rfl) (by
    rw [HP.out]
    intro j hj
    match j, hj with
    | 0, _ =>
      show some (Value.int .u8 (bits .or .i64 240 ((c : Int) / 262144) % 256)) = some (Value.int .u8 ((UInt8.ofNat (240 + c / 262144)).toNat : Int))
      rw [ofNat_u8 _ (by omega)]
      rw [show ((c : Int) / 262144) = ((c / 262144 : Nat) : Int) by omega, or240 _ (by omega)]
      first | done | rfl | (congr 2 <;> omega)
    | 1, _ =>
      show some (Value.int .u8 (((128 + c / 4096 % 64 : Nat) : Int))) = some (Value.int .u8 ((UInt8.ofNat (128 + c / 4096 % 64)).toNat : Int))
      rw [ofNat_u8 _ (by omega)]
      skip
      first | done | rfl | (congr 2 <;> omega)
    | 2, _ =>
      show some (Value.int .u8 (((128 + c / 64 % 64 : Nat) : Int))) = some (Value.int .u8 ((UInt8.ofNat (128 + c / 64 % 64)).toNat : Int))
      rw [ofNat_u8 _ (by omega)]
      skip
      first | done | rfl | (congr 2 <;> omega)
    | 3, _ =>
      show some (Value.int .u8 (((128 + c % 64 : Nat) : Int))) = some (Value.int .u8 ((UInt8.ofNat (128 + c % 64)).toNat : Int))
      rw [ofNat_u8 _ (by omega)]
      skip
      first | done | rfl | (congr 2 <;> omega)
    ))]
  simp only [Result.andThen]
  rw [Oper.upon_value]
  go_wp2_with fail
  go_ret2
  exact ⟨rfl, (Below.refl _ _).alloc (Nat.le_refl _) _⟩

/-- Put of a scalar. -/
theorem put_any (c : Nat) (w : World) (h : scalarB c = true) :
    Calls Tryd.prog 129 #[.int .i64 c] w fun e w' => e = .returned (.tuple #[.string ⟨(put c).toArray⟩, .bool true]) ∧ Below w.heap.size w w' := by
  by_cases h1 : width c = 1
  · exact put_1 c w h h1
  by_cases h2 : width c = 2
  · exact put_2 c w h h2
  by_cases h3 : width c = 3
  · exact put_3 c w h h3
  · exact put_4 c w h (by unfold width at *; (repeat' split) <;> simp_all)
end Go.Proofs.YtbfkgddhpabioaaDoor.Utf
