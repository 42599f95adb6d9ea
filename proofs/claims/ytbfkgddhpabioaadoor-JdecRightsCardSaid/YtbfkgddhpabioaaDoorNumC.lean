/- num.Scan. -/
import Derived.Test.YtbfkgddhpabioaaDoorNumW
namespace Go.Proofs.YtbfkgddhpabioaaDoor.Num
open Go.RowKit
set_option linter.unusedVariables false
set_option linter.unusedSimpArgs false
set_option maxRecDepth 100000

theorem scan_any (s : ByteArray) (w : World) (hs : s.size ≤ 4611686018427387904) (T : Steps w) :
    Calls Tryd.prog 58 #[.string s] w fun e w' => e = .returned (.int .i64 (scan s.data.toList)) ∧ ∃ n, w' = w.drewN n := by
  have HT := Hid.out (p := Hid _) T; clear T
  go_enter Tryd.func58, Tryd.ntmps58
  go_wp2_with fail
  go_loopw [3, 4, 5, 8] (fun p3 p4 p5 p8 wr => ∃ (i st k : Nat), i ≤ s.size ∧ k ≤ s.size ∧ st < 9 ∧ p3 = .int .i64 k ∧ p4 = .int .i64 st ∧ p8 = .int .i64 i ∧ Hid (∃ n, wr = w.drewN n) ∧ Hid (scan s.data.toList = from_ st i k (s.data.toList.drop i))) (fun p3 p4 p5 p8 _ => s.size - (intOf p8).toNat)
  case atStart => exact ⟨0, 0, 0, Nat.zero_le _, Nat.zero_le _, by omega, rfl, rfl, rfl, ⟨0, rfl⟩, rfl⟩
  case round =>
    obtain ⟨i, st, k, hi, hk, hst, rfl, rfl, rfl, hw, hsc⟩ := hrel
    by_cases hlt : i < s.size
    · have T2 : Hid (Steps wr) := by obtain ⟨n, rfl⟩ := hw.out; exact ⟨fun st sg h1 h2 => HT.out.cell st sg h1 h2⟩
      have hsg := sgn_lt s[i].toNat
      have hcl := T2.out.cell st (sgn s[i].toNat) hst hsg
      have hle := step_le st hst _ hsg
      have hcons := drop_byte s i hlt
      have HS : Hid (from_ st i k (s.data.toList.drop i) = if step st (sgn s[i].toNat) = 9 then k else from_ (step st (sgn s[i].toNat)) (i + 1) (if whole (step st (sgn s[i].toNat)) then i + 1 else k) (s.data.toList.drop (i + 1))) := by rw [Hid, hcons, from_]
      clear hcons
      generalize hc : s[i].toNat = c at *
      generalize hg : sgn c = sg at *
      generalize hx : step st sg = x at *
      have hgs : Hid (sgn c = sg) := hg
      clear hg hx
      have hsig : ∀ n, Calls Tryd.prog 80 #[.int .u8 c] (wr.drewN n) fun e w'' => e = .returned (.int .i64 sg) ∧ ∃ m, w'' = wr.drewN m := fun n =>
        Calls.quiet_of_same ((signOf_any c (wr.drewN n)).mono fun e w' h => ⟨by rw [h.1, hgs.out], h.2.symm⟩)
      go_wp2_with fail
      go_quiet ((go_at_call 80; exact hsig _))
      have W2 : Hid (∃ n, wr.drewN nq = w.drewN n) := by obtain ⟨n, rfl⟩ := hw.out; exact ⟨_, World.drewN_drewN _ _ _⟩
      generalize wr.drewN nq = w2 at *
      by_cases h9 : x = 9
      · have q9 : ((x : Int) == 9) = true := by rw [beq_iff_eq]; omega
        have HF : Hid (scan s.data.toList = k) := by rw [Hid, hsc.out, HS.out, if_pos h9]
        clear h9
        go_wp2_with fail
        go_ret
        exact ⟨by rw [HF.out]; rfl, W2.out⟩
      · have q9 : ((x : Int) == 9) = false := by rw [beq_eq_false_iff_ne]; omega
        have hx9 : x < 9 := by omega
        go_wp2_with fail
        refine (isWhole_any x hx9 w2).mono ?_
        rintro e w' ⟨rfl, rfl⟩
        cases hwh : whole x
        · have HF : Hid (scan s.data.toList = from_ x (i + 1) k (s.data.toList.drop (i + 1))) := by rw [Hid, hsc.out, HS.out, if_neg h9, hwh]; rfl
          clear hwh h9
          go_wp2_with fail
          go_roundw
          case rel => exact ⟨i + 1, x, k, by omega, hk, hx9, rfl, rfl, by go_num, W2.out, HF.out⟩
          case measure => simp [intOf]; omega
        · have HF : Hid (scan s.data.toList = from_ x (i + 1) (i + 1) (s.data.toList.drop (i + 1))) := by rw [Hid, hsc.out, HS.out, if_neg h9, hwh]; rfl
          clear hwh h9
          go_wp2_with fail
          go_roundw
          case rel => exact ⟨i + 1, x, i + 1, by omega, by omega, hx9, by go_num, rfl, by go_num, W2.out, HF.out⟩
          case measure => simp [intOf]; omega
    · have hend : s.data.toList.drop i = [] := by apply List.drop_eq_nil_of_le; simp; omega
      have HF : Hid (scan s.data.toList = k) := by rw [Hid, hsc.out, hend, from_]
      clear hend
      go_wp2_with fail
      go_ret
      exact ⟨by rw [HF.out]; rfl, hw.out⟩
end Go.Proofs.YtbfkgddhpabioaaDoor.Num
