/- lex.ident, lex.decimal, lex.within. -/
import Derived.Test.YtbfkgddhpabioaaDoorLexW
import Derived.Test.YtbfkgddhpabioaaDoorQuoteC
namespace Go.Proofs.YtbfkgddhpabioaaDoor.Lex
open Go.RowKit Go.Shelf Go.Proofs.YtbfkgddhpabioaaDoor.Utf Go.Proofs.YtbfkgddhpabioaaDoor.Strs
set_option linter.unusedVariables false
set_option linter.unusedSimpArgs false
set_option maxRecDepth 100000
attribute [local go_sem] Oper.semAt_some

set_option maxHeartbeats 2000000 in
theorem ident_any (s : ByteArray) (w : World) (h0 : 0 < s.size) (hs : s.size ≤ 4611686018427387904) :
    Calls Tryd.prog 68 #[.string s] w fun e w' => e = .returned (.int .i64 (ident s.data.toList)) ∧ w = w' := by
  go_enter Tryd.func68, Tryd.ntmps68
  go_wp2_with fail
  go_loop [3] (fun p3 => ∃ n : Nat, 1 ≤ n ∧ n ≤ s.size ∧ p3 = .int .i64 n ∧ Hid (ident s.data.toList = n + ((s.data.toList.drop n).takeWhile inId).length)) (fun p3 => s.size - (intOf p3).toNat)
  case atStart => exact ⟨1, Nat.le_refl _, h0, rfl, rfl⟩
  case round =>
    obtain ⟨n, h1, hn, rfl, hid⟩ := hrel
    by_cases hlt : n < s.size
    · have hcons : Hid (s.data.toList.drop n = s[n] :: s.data.toList.drop (n + 1)) := Num.drop_byte s n hlt
      go_wp2_with fail
      refine (letter_any s[n].toNat w).mono ?_
      rintro e w' ⟨rfl, rfl⟩
      cases hl : letterB s[n].toNat
      · go_wp2_with fail
        refine (digit_any s[n].toNat w).mono ?_
        rintro e w' ⟨rfl, rfl⟩
        cases hd : digitB s[n].toNat
        · have HF : Hid (ident s.data.toList = n) := by
            rw [Hid, hid.out, hcons.out, List.takeWhile_cons, if_neg (by simp [inId, hl, hd])]; rfl
          clear hl hd
          go_wp2_with fail
          go_ret
          exact ⟨by rw [HF.out]; rfl, rfl⟩
        · have HF : Hid (ident s.data.toList = n + 1 + ((s.data.toList.drop (n + 1)).takeWhile inId).length) := by
            rw [Hid, hid.out, hcons.out, List.takeWhile_cons, if_pos (by simp [inId, hd])]; simp; omega
          clear hl hd
          go_wp2_with fail
          go_round
          case rel => exact ⟨n + 1, by omega, by omega, by go_num, HF.out⟩
          case measure => simp [intOf]; omega
      · have HF : Hid (ident s.data.toList = n + 1 + ((s.data.toList.drop (n + 1)).takeWhile inId).length) := by
          rw [Hid, hid.out, hcons.out, List.takeWhile_cons, if_pos (by simp [inId, hl])]; simp; omega
        clear hl
        go_wp2_with fail
        go_round
        case rel => exact ⟨n + 1, by omega, by omega, by go_num, HF.out⟩
        case measure => simp [intOf]; omega
    · have HF : Hid (ident s.data.toList = n) := by
        rw [Hid, hid.out, List.drop_of_length_le (by simp; omega)]; rfl
      obtain rfl : n = s.size := by omega
      go_wp2_with fail
      go_ret
      exact ⟨by rw [HF.out]; rfl, rfl⟩

theorem parse_err {l : List UInt8} {k : Nat} (h : Num.parse l = .error k) : k = 3 ∨ k = 4 := by
  have hf : ∀ neg d x, Num.fin neg d x = .error k → k = 3 ∨ k = 4 := by
    intro neg d x h
    unfold Num.fin at h
    simp only [] at h
    split at h
    · cases h
    · split at h
      · cases h
      · injection h with h; omega
  have hp : ∀ neg d x, Num.point neg d x = .error k → k = 3 ∨ k = 4 := by
    intro neg d x h
    unfold Num.point at h
    split at h <;> exact hf _ _ _ h
  unfold Num.parse at h
  split at h
  · injection h with h; omega
  · unfold Num.mant at h
    split at h <;> exact hp _ _ _ h

set_option maxHeartbeats 2000000 in
theorem decimal_any (s : ByteArray) (w : World) (hs : s.size ≤ 2147483648) (T : Num.Steps w) :
    Calls Tryd.prog 70 #[.string s] w fun e w' => e = .returned (val (decimal s.data.toList)) ∧ Below w.heap.size w w' := by
  have HT := Hid.out (p := Hid _) T; clear T
  obtain ⟨n, hn⟩ : ∃ n, n = Num.scan s.data.toList := ⟨_, rfl⟩
  have hle := Num.scan_le s.data.toList
  rw [← hn, show s.data.toList.length = s.size by simp] at hle
  have hdec : Hid (decimal s.data.toList = match Num.parse (s.data.toList.take n) with
    | .error e => (0, 0, 0, e)
    | .ok _ => (2, n, 0, 0)) := by rw [Hid, decimal, ← hn]; cases Num.parse (s.data.toList.take n) <;> rfl
  have hscan := Num.scan_any s w (by omega) HT.out
  rw [← hn] at hscan
  clear hn
  go_enter Tryd.func70, Tryd.ntmps70
  go_wp2_with fail
  refine hscan.mono ?_
  rintro e w1 ⟨rfl, m, hw1⟩
  have B1 : Hid (Below w.heap.size w w1) := by rw [hw1]; exact below_drewN _ _ _
  have T1 : Hid (Num.Steps w1) := HT.out.stays B1.out
  clear hw1 hscan
  go_wp2_with fail
  refine (Num.parse_any (s.extract 0 n) w1 (by rw [ByteArray.size_extract]; omega) T1.out).mono ?_
  rintro e w2 ⟨rfl, hb2⟩
  have B2 : Hid (Below w.heap.size w w2) := B1.out.trans (hb2.mono B1.out.size)
  clear hb2
  rw [show (s.extract 0 n).data.toList = s.data.toList.take n by rw [Lib.extract_data]; simp]
  cases hp : Num.parse (s.data.toList.take n) with
  | error k =>
    have hk := parse_err hp
    have hq : ((k : Int) != 0) = true := by rw [bne_iff_ne]; omega
    have HV : Hid (val (decimal s.data.toList) = .tuple #[.int .i64 0, .int .i64 0, .int .i64 0, .int .i64 k]) := by rw [Hid, hdec.out, hp]; rfl
    have HP : Num.parseV (s.data.toList.take n) = .tuple #[.agg #[.bool false, .string ⟨#[]⟩, .int .i64 0], .int .i64 k] := by rw [Num.parseV, hp]
    rw [HP]
    clear hp HP
    go_wp2_with fail
    refine bodyPost_ret (v := .tuple #[.int .i64 0, .int .i64 0, .int .i64 0, .int .i64 k]) (by simp [results, Tryd.results70, go_sem]) rfl ⟨by rw [HV.out], B2.out.alloc B2.out.size _⟩
  | ok x =>
    obtain ⟨g, d, x⟩ := x
    have HV : Hid (val (decimal s.data.toList) = .tuple #[.int .i64 2, .int .i64 n, .int .i64 0, .int .i64 0]) := by rw [Hid, hdec.out, hp]; rfl
    have HP : Num.parseV (s.data.toList.take n) = .tuple #[.agg #[.bool g, .string ⟨d.toArray⟩, .int .i64 x], .int .i64 0] := by rw [Num.parseV, hp]
    rw [HP]
    clear hp HP
    go_wp2_with fail
    refine bodyPost_ret (v := .tuple #[.int .i64 2, .int .i64 n, .int .i64 0, .int .i64 0]) (by simp [results, Tryd.results70, go_sem]) rfl ⟨by rw [HV.out], B2.out.alloc B2.out.size _⟩
end Go.Proofs.YtbfkgddhpabioaaDoor.Lex
