/- tabulariumlaw11.LexParses: the program's tokens are the reference's. -/
import Derived.Test.YtbfkgddhpabioaaDoorLawA
namespace Go.Proofs.YtbfkgddhpabioaaDoor.Lex
open Go.RowKit Go.Proofs.YtbfkgddhpabioaaDoor.Utf Go.Proofs.YtbfkgddhpabioaaDoor.Strs
set_option linter.unusedVariables false
set_option linter.unusedSimpArgs false
set_option maxRecDepth 100000

theorem toks_len : ∀ (n : Nat) (l : List UInt8) (p : Nat), (toks n l p).1.length ≤ l.length
  | 0, _, _ => Nat.zero_le _
  | n + 1, [], _ => Nat.zero_le _
  | n + 1, c :: t, p => by
    unfold toks
    by_cases hb : blank c = true
    · simp only [hb, if_true]
      have := toks_len n t (p + 1)
      simp only [List.length_cons]; omega
    · simp only [hb, Bool.false_eq_true, if_false]
      by_cases he : (next (c :: t)).2.2.2 ≠ 0
      · rw [if_pos he]; simp
      · rw [if_neg he]
        have hf := ((next_fits (c :: t) (by simp)).size (by omega))
        have := toks_len n ((c :: t).drop (next (c :: t)).2.1) (p + (next (c :: t)).2.1)
        rw [List.length_drop] at this
        simp only [List.length_cons] at *
        omega
theorem toksAt_len (l : List UInt8) : (toksAt l 0).1.length ≤ l.length := by
  have := toks_len (l.length - 0 + 1) (l.drop 0) 0
  rw [List.drop_zero] at this
  exact this
theorem IsToks.alloc {w : World} {v : Value} {l : List TokZ} (h : IsToks w v l) (o : Obj) : IsToks (w.alloc o) v l := h.stays ((Below.refl _ _).alloc (Nat.le_refl _) _)

theorem lexParses_big (s : ByteArray) (w : World) (T : Tabs w) (hs : 1500 < s.size) (hm : s.size ≤ 9223372036854775807) :
    Calls Tryd.prog 6 #[.string s] w fun e w' => e = .returned (.bool true) ∧ Below w.heap.size w w' := by
  have hw := wakes_any w T
  go_enter Tryd.func6, Tryd.ntmps6
  go_wp2_with fail
  refine hw.mono ?_
  rintro e w1 ⟨rfl, hb1⟩
  have B1 : Hid (Below w.heap.size w w1) := hb1
  clear hb1
  go_wp2_with fail
  go_ret
  exact ⟨rfl, B1.out⟩

set_option maxHeartbeats 4000000 in
theorem lexParses_small (s : ByteArray) (w : World) (T : Tabs w) (hs : s.size ≤ 1500) :
    Calls Tryd.prog 6 #[.string s] w fun e w' => e = .returned (.bool true) ∧ Below w.heap.size w w' := by
  have hw := wakes_any w T
  have HT := Hid.out (p := Hid _) T; clear T
  have hl : ¬ 1048576 < s.data.toList.length := by simp; omega
  obtain ⟨L, at_, e_, hx⟩ : ∃ L a e, toksAt s.data.toList 0 = (L, a, e) := ⟨_, _, _, rfl⟩
  have hr := fun w => rparse_any s w (by omega)
  unfold RParse at hr
  rw [hx] at hr
  have HR := Hid.out (p := Hid _) hr; clear hr
  have hLl : L.length ≤ 1500 := by
    have := toksAt_len s.data.toList
    rw [hx, show s.data.toList.length = s.size by simp] at this
    simp only at this; omega
  have hp := fun w T => parse_any s w (by omega) T
  unfold PPost at hp
  by_cases he : e_ = 0
  · subst he
    rw [parse_ok hl (by rw [hx]), hx] at hp
    have HP := Hid.out (p := Hid _) hp
    clear hp hl hx
    go_enter Tryd.func6, Tryd.ntmps6
    go_wp2_with fail
    refine hw.mono ?_
    rintro e w1 ⟨rfl, hb1⟩
    have B1 : Hid (Below w.heap.size w w1) := hb1
    have T1 : Hid (Tabs w1) := HT.out.stays hb1
    clear hb1 hw
    go_wp2_with fail
    refine (Calls.mono (HP.out _ T1.out) ?_)
    rintro e w2 ⟨v, rfl, hv, hb2⟩
    have B2 : Hid (Below w.heap.size w w2) := B1.out.trans (hb2.mono B1.out.size)
    obtain ⟨va, vc, rfl⟩ := hv.form
    have V2 : Hid (IsToks w2 (.slice va L.length vc) (L.map zt)) := hv.reads
    clear hv hb2
    go_wp2_with fail
    refine (Calls.mono (HR.out _) ?_)
    rintro e w3 ⟨u, rfl, hu, hb3⟩
    have B3 : Hid (Below w.heap.size w w3) := B2.out.trans (hb3.mono B2.out.size)
    obtain ⟨ua, uc, rfl⟩ := hu.form
    have V3 : Hid (IsToks w3 (.slice va L.length vc) (L.map zt)) := V2.out.stays hb3
    have U3 : Hid (IsToks w3 (.slice ua L.length uc) (L.map zt)) := hu.reads
    have hwh : whereAt (L, at_, 0) = -1 := rfl
    rw [hwh]
    clear hu hb3 hwh
    go_wp2_with fail
    refine (whole_any _ _ _ _ _ (V3.out.alloc _) (U3.out.alloc _) (by rw [List.length_map]; omega) (by rw [List.length_map]; omega)).mono ?_
    rintro e w4 ⟨rfl, n, rfl⟩
    rw [show decide (L.map zt = L.map zt) = true from decide_eq_true rfl]
    go_wp2_with fail
    go_ret
    exact ⟨rfl, (B3.out.alloc B3.out.size _).trans (below_drewN _ _ _)⟩
  · have hwh : whereAt (L, at_, e_) = (at_ : Int) := by rw [whereAt, if_pos he]
    rw [hwh] at HR
    rw [parse_bad hl (by rw [hx]; exact he), hx] at hp
    have HP := Hid.out (p := Hid _) hp
    have hne : ((e_ : Int) != 0) = true := by rw [bne_iff_ne]; omega
    have hne2 : ((e_ : Int) == 0) = false := by rw [beq_eq_false_iff_ne]; omega
    clear hp hl hx he hwh
    go_enter Tryd.func6, Tryd.ntmps6
    go_wp2_with fail
    refine hw.mono ?_
    rintro e w1 ⟨rfl, hb1⟩
    have B1 : Hid (Below w.heap.size w w1) := hb1
    have T1 : Hid (Tabs w1) := HT.out.stays hb1
    clear hb1 hw
    go_wp2_with fail
    refine (Calls.mono (HP.out _ T1.out) ?_)
    rintro e w2 ⟨v, rfl, hv, hb2⟩
    have B2 : Hid (Below w.heap.size w w2) := B1.out.trans (hb2.mono B1.out.size)
    obtain ⟨va, vc, rfl⟩ := hv.form
    clear hv hb2
    go_wp2_with fail
    refine (Calls.mono (HR.out _) ?_)
    rintro e w3 ⟨u, rfl, hu, hb3⟩
    have B3 : Hid (Below w.heap.size w w3) := B2.out.trans (hb3.mono B2.out.size)
    obtain ⟨ua, uc, rfl⟩ := hu.form
    clear hu hb3
    go_wp2_with fail
    go_ret
    exact ⟨rfl, B3.out.alloc B3.out.size _⟩

theorem lexParses_any (s : ByteArray) (w : World) (T : Tabs w) (hm : s.size ≤ 9223372036854775807) :
    Calls Tryd.prog 6 #[.string s] w fun e w' => e = .returned (.bool true) ∧ Below w.heap.size w w' := by
  by_cases h : 1500 < s.size
  · exact lexParses_big s w T h hm
  · exact lexParses_small s w T (by omega)
end Go.Proofs.YtbfkgddhpabioaaDoor.Lex
