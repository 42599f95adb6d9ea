/- tabulariumref02.One: the walk. -/
import Derived.Test.YtbfkgddhpabioaaDoorRefA
import Derived.Test.YtbfkgddhpabioaaDoorQuoteZ
import Derived.IntWalk
import Derived.Deep.RegionWith
namespace Go.Proofs.YtbfkgddhpabioaaDoor.Utf
open Go.RowKit Go.Proofs.YtbfkgddhpabioaaDoor.Quote Go.Proofs.YtbfkgddhpabioaaDoor.Strs
set_option linter.unusedVariables false
set_option linter.unusedSimpArgs false
set_option maxRecDepth 100000

theorem str_of (a : ByteArray) (l : List UInt8) (h : a.data.toList = l) : a = ⟨l.toArray⟩ := by
  subst h; rfl
theorem ext_data (s : ByteArray) (k q n : Nat) (h : k + n = q) : (s.extract k q).data.toList = (s.data.toList.drop k).take n := by
  subst h
  rw [Lib.extract_data]
  congr 1
  omega
def ROne (s : ByteArray) (k : Nat) (w : World) (e : Ending) (w' : World) : Prop :=
  e = .returned (.tuple #[.int .i64 (one (s.data.toList.drop k)).1, .int .i64 (one (s.data.toList.drop k)).2]) ∧ Below w.heap.size w w'

set_option maxHeartbeats 2000000 in
theorem rone_any (s : ByteArray) (k : Nat) (w : World) (hk : k ≤ s.size) (hs : s.size ≤ 4611686018427387904) :
    Calls Tryd.prog 79 #[.string s, .int .i64 k] w (ROne s k w) := by
  go_enter Tryd.func79, Tryd.ntmps79
  go_wp2_with fail
  go_loopw [6] (fun p6 wr => ∃ n : Nat, 1 ≤ n ∧ n ≤ 5 ∧ p6 = .int .i64 n ∧ Hid (∀ j, 1 ≤ j → j < n → j ≤ s.size - k → putI (guess ((s.data.toList.drop k).take j)) ≠ (s.data.toList.drop k).take j) ∧ Hid (Below w.heap.size w wr)) (fun p6 _ => 5 - (intOf p6).toNat)
  case atStart => exact ⟨1, by omega, by omega, rfl, fun j h1 h2 => by omega, Below.refl _ _⟩
  case round =>
    obtain ⟨n, h1, h5, rfl, hno, hb⟩ := hrel
    by_cases hlt : n ≤ 4 ∧ k + n ≤ s.size
    · obtain ⟨hn4, hkn⟩ := hlt
      obtain ⟨q, hq⟩ : ∃ q : Nat, k + n = q := ⟨_, rfl⟩
      have hqq : (k : Int) + (n : Int) = (q : Int) := by omega
      have hd1 : decide ((n : Int) ≤ 4) = true := by rw [decide_eq_true_eq]; omega
      have hd2 : decide ((q : Int) ≤ (s.size : Int)) = true := by rw [decide_eq_true_eq]; omega
      have hq1 : k ≤ q := by omega
      have hq2 : q ≤ s.size := by omega
      have hx : (s.extract k q).data.toList = (s.data.toList.drop k).take n := ext_data s k q n hq
      have hxs : (s.extract k q).size = n := by rw [ByteArray.size_extract]; omega
      obtain ⟨x, hxe⟩ : ∃ x, x = s.extract k q := ⟨_, rfl⟩
      rw [← hxe] at hx hxs
      have hgu := guess_any x wr (by omega) (by omega)
      rw [hx] at hgu
      have hlen : n ≤ (s.data.toList.drop k).length := by rw [List.length_drop]; simp; omega
      have hyes := one_hit (s.data.toList.drop k) n h1 hn4 hlen
      have HXE := Hid.out (p := Hid _) hxe; clear hxe
      have HX := Hid.out (p := Hid _) hx; clear hx
      have HXS := Hid.out (p := Hid _) hxs; clear hxs
      have HQ := Hid.out (p := Hid _) hq; clear hq
      have HG := Hid.out (p := Hid _) hgu; clear hgu
      have HY := Hid.out (p := Hid _) hyes; clear hyes
      clear hlen
      obtain ⟨g, hg⟩ : ∃ g, guess ((s.data.toList.drop k).take n) = g := ⟨_, rfl⟩
      rw [hg] at HG HY
      have HGE := Hid.out (p := Hid _) hg; clear hg
      go_wp2_with fail
      rw [← HXE.out]
      refine (Calls.mono HG.out ?_)
      rintro e w1 ⟨rfl, hb1⟩
      have B1 : Hid (Below w.heap.size w w1) := hb.out.trans (hb1.mono hb.out.size)
      clear hb1 HG
      have hxr := HXE.out.symm
      have hwr : IntKind.i64.wrap (q : Int) = (q : Int) := IntWalk.i64_in _ (by omega)
      cases hc : (putI g == x.toList)
      · have HN : Hid (∀ j, 1 ≤ j → j < n + 1 → j ≤ s.size - k → putI (guess ((s.data.toList.drop k).take j)) ≠ (s.data.toList.drop k).take j) := by
          intro j j1 j2 j3
          by_cases hj : j = n
          · subst hj
            rw [HGE.out, ← HX.out]
            have hc' := hc
            rw [Lib.toList_data, beq_eq_false_iff_ne] at hc'
            exact hc'
          · exact hno.out j j1 (by omega) j3
        go_wp2_with fail
        go_region_with (go_at_call 101; refine (rput_any g w1.drew).mono ?_; rintro e w2 ⟨rfl, hb2⟩; have B2 : Hid (Below w.heap.size w w2) := (B1.out.drew).trans (hb2.mono B1.out.size); clear hb2)
        all_goals
          go_wp2_with fail
          go_roundw
          case rel => exact ⟨n + 1, by omega, by omega, by go_num, HN.out, B2.out⟩
          case measure => simp [intOf]; omega
      · have HF : Hid (one (s.data.toList.drop k) = (g.toNat, n) ∧ 0 ≤ g) := by
          have hc' := hc
          rw [Lib.toList_data, beq_iff_eq] at hc'
          obtain ⟨y1, y2⟩ := HY.out (by rw [← HX.out]; exact hc')
          exact ⟨Prod.ext (by simp only; omega) y2, by omega⟩
        go_wp2_with fail
        go_region_with (go_at_call 101; refine (rput_any g w1.drew).mono ?_; rintro e w2 ⟨rfl, hb2⟩; have B2 : Hid (Below w.heap.size w w2) := (B1.out.drew).trans (hb2.mono B1.out.size); clear hb2)
        all_goals
          go_wp2_with fail
          go_ret2
          refine ⟨?_, B2.out⟩
          rw [HF.out.1]
          have h0 := HF.out.2
          show Ending.returned (.tuple #[.int .i64 g, .int .i64 n]) = Ending.returned (.tuple #[.int .i64 (g.toNat : Nat), .int .i64 n])
          rw [show ((g.toNat : Nat) : Int) = g by omega]
    · have HF : Hid (one (s.data.toList.drop k) = (0, 0)) := by
        refine one_miss _ (fun j j1 j2 j3 => hno.out j j1 ?_ ?_)
        · rw [List.length_drop] at j3; simp at j3; omega
        · rw [List.length_drop] at j3; simpa using j3
      have hn5 : decide ((n : Int) ≤ 4) = true → decide ((k : Int) + (n : Int) ≤ (s.size : Int)) = false := by
        intro h; rw [decide_eq_true_eq] at h; rw [decide_eq_false_iff_not]; omega
      by_cases h4 : n ≤ 4
      · have hd1 : decide ((n : Int) ≤ 4) = true := by rw [decide_eq_true_eq]; omega
        have hd2 := hn5 hd1
        clear hn5 hlt h4
        go_wp2_with fail
        go_ret2
        exact ⟨by rw [HF.out]; rfl, hb.out⟩
      · have hd1 : decide ((n : Int) ≤ 4) = false := by rw [decide_eq_false_iff_not]; omega
        clear hn5 hlt h4
        go_wp2_with fail
        go_ret2
        exact ⟨by rw [HF.out]; rfl, hb.out⟩
end Go.Proofs.YtbfkgddhpabioaaDoor.Utf
