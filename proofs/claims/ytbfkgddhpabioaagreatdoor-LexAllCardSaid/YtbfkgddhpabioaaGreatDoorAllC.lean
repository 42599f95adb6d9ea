/- tabulariumlaw11.LexAll: the tokens are told one by one. -/
import Derived.Test.YtbfkgddhpabioaaGreatDoorAllB
import Derived.Test.YtbfkgddhpabioaaGreatDoorLawA
import Derived.Deep.RegionLaw
namespace Go.Proofs.YtbfkgddhpabioaaGreatDoor.Lex
open Go.RowKit Go.Proofs.YtbfkgddhpabioaaGreatDoor.Utf Go.Proofs.YtbfkgddhpabioaaGreatDoor.Strs
set_option linter.unusedVariables false
set_option linter.unusedSimpArgs false
set_option maxRecDepth 100000

theorem tokz_len : ∀ (n : Nat) (l : List UInt8) (p : Nat), (toks n l p).1.length ≤ l.length
  | 0, _, _ => Nat.zero_le _
  | n + 1, [], _ => Nat.zero_le _
  | n + 1, c :: t, p => by
    unfold toks
    by_cases hb : blank c = true
    · simp only [hb, if_true]
      have := tokz_len n t (p + 1)
      simp only [List.length_cons]; omega
    · simp only [hb, Bool.false_eq_true, if_false]
      by_cases he : (next (c :: t)).2.2.2 ≠ 0
      · rw [if_pos he]; simp
      · rw [if_neg he]
        have hf := ((next_fits (c :: t) (by simp)).size (by omega))
        have := tokz_len n ((c :: t).drop (next (c :: t)).2.1) (p + (next (c :: t)).2.1)
        rw [List.length_drop] at this
        simp only [List.length_cons] at *
        omega
theorem tokzAt_len (l : List UInt8) : (toksAt l 0).1.length ≤ l.length := by
  have := tokz_len (l.length - 0 + 1) (l.drop 0) 0
  rw [List.drop_zero] at this
  exact this
theorem Row.form2 {w : World} {B : Nat} {v : Value} {l : List Tok} (h : Row w B v l) : ∃ a c, v = .slice a l.length c ∧ l.length ≤ c := by
  rcases h.2 with ⟨h1, h2⟩ | ⟨g, cap, cur, hv, _, _, hk, _⟩
  · exact ⟨none, 0, by rw [h1, h2], by omega⟩
  · exact ⟨_, _, hv, hk⟩
theorem IsToks.cut {w : World} {a : Option Addr} {c : Nat} {l : List TokZ} (h : IsToks w (.slice a l.length c) l) (n : Nat) (hn : n ≤ l.length) : IsToks w (.slice a n c) (l.take n) := by
  obtain ⟨a', c', hv, h⟩ := h
  injection hv with h1 h2 h3
  subst h1 h3
  have hl : (l.take n).length = n := by rw [List.length_take]; omega
  refine ⟨a, c, by rw [hl], ?_⟩
  rcases Nat.eq_zero_or_pos n with h0 | h0
  · exact .inl (by rw [h0]; rfl)
  · rcases h with h | ⟨b, o, ha, ht⟩
    · rw [h] at hn; simp at hn; omega
    · refine .inr ⟨b, o, ha, ⟨fun i hi => ?_, fun i hi => ?_, fun i hi => ?_, fun _ => ht.lt (by omega)⟩⟩
      · rw [List.getElem_take]; exact ht.k i (by rw [hl] at hi; omega)
      · rw [List.getElem_take]; exact ht.t i (by rw [hl] at hi; omega)
      · rw [List.getElem_take]; exact ht.p i (by rw [hl] at hi; omega)
theorem field_L (a : Option Addr) (n c : Nat) (b d : Int) : ∀ w, Sem.run Tryz.prog (Instr.field 40 (.agg #[.slice a n c, .int .i64 b, .int .i64 d]) 0) w = .ok (.slice a n c) w := fun _ => by kernel_rfl

theorem lexAll_big (s : ByteArray) (c : Nat) (w : World) (T : Tabs w) (hs : 1500 < s.size) (hm : s.size ≤ 9223372036854775807) :
    Calls Tryz.prog 4 #[.string s, .int .u8 c] w fun e w' => e = .returned (.bool true) ∧ Below w.heap.size w w' := by
  have hw := wakes_any w T
  go_enter Tryz.func4, Tryz.ntmps4
  go_wp2_with fail
  refine hw.mono ?_
  rintro e w1 ⟨rfl, hb1⟩
  have B1 : Hid (Below w.heap.size w w1) := hb1
  clear hb1
  go_wp2_with fail
  go_ret
  exact ⟨rfl, B1.out⟩

set_option maxHeartbeats 4000000 in
theorem lexAll_small (s : ByteArray) (c : Nat) (w : World) (T : Tabs w) (hs : s.size ≤ 1500) (hc : c < 256) :
    Calls Tryz.prog 4 #[.string s, .int .u8 c] w fun e w' => e = .returned (.bool true) ∧ Below w.heap.size w w' := by
  have hw := wakes_any w T
  have HT := Hid.out (p := Hid _) T; clear T
  obtain ⟨L, at_, e_, hx⟩ : ∃ L a e, toksAt s.data.toList 0 = (L, a, e) := ⟨_, _, _, rfl⟩
  have hr := fun w => rparse_any s w (by omega)
  unfold RParse at hr
  rw [hx] at hr
  have HR := Hid.out (p := Hid _) hr; clear hr
  have hLl : L.length ≤ 1500 := by
    have := tokzAt_len s.data.toList
    rw [hx, show s.data.toList.length = s.size by simp] at this
    simp only at this; omega
  have ht := fun w m (hm : m ≤ 9999) T => told_any s m w hs hm T
  rw [hx] at ht
  have HTO := Hid.out (p := Hid _) ht
  obtain ⟨q, hq⟩ : ∃ q, (if L.length < c then L.length else c) = q := ⟨_, rfl⟩
  have hql : q ≤ L.length := by rw [← hq]; split <;> omega
  have hm : (if (L.length : Int) < (c : Int) then (L.length : Int) else (c : Int)) = (q : Int) := by rw [← hq]; split <;> split <;> omega
  have hmn : min (c : Int) (L.length : Int) = (q : Int) := by rw [← hq]; split <;> omega
  have hcw : IntKind.i64.wrap (c : Int) = (c : Int) := IntWalk.i64_in _ (by omega)
  clear ht hx hq
  go_enter Tryz.func4, Tryz.ntmps4
  go_wp2_with fail
  refine hw.mono ?_
  rintro e w1 ⟨rfl, hb1⟩
  have B1 : Hid (Below w.heap.size w w1) := hb1
  have T1 : Hid (Tabs w1) := HT.out.stays hb1
  clear hb1 hw
  go_wp2_with fail
  refine (Calls.mono (HR.out w1) ?_)
  rintro e w2 ⟨u, rfl, hu, hb2⟩
  have B2 : Hid (Below w.heap.size w w2) := B1.out.trans (hb2.mono B1.out.size)
  have T2 : Hid (Tabs w2) := T1.out.stays hb2
  obtain ⟨ua, uc, rfl, huc⟩ := hu.form2
  have U2 : Hid (IsToks w2 (.slice ua L.length uc) (L.map zt)) := hu.reads
  have hquc : q ≤ uc := by omega
  have hfd := field_L ua L.length uc (whereAt (L, at_, e_)) e_
  clear hu hb2 HR
  go_wp2_with fail
  have H9 : Hid (∀ w, Tabs w → Calls Tryz.prog 12 #[.string s, .int .i64 9999] w fun e w' => ∃ v, e = .returned v ∧ Row w' w.heap.size v (L.take 9999) ∧ Below w.heap.size w w') := fun w T => HTO.out w 9999 (Nat.le_refl _) T
  have T2d : Hid (Tabs w2.drew) := T2.out.stays (Below.refl _ _).drew
  have U2d : Hid (IsToks w2.drew (.slice ua L.length uc) (L.map zt)) := U2.out.stays (Below.refl _ _).drew
  have B2d : Hid (Below w.heap.size w w2.drew) := B2.out.drew
  clear T2 U2 B2
  have d1 : decide (L.map zt = L.map zt) = true := by simp
  have d2 : decide ((L.map zt).take q = (L.map zt).take q) = true := by simp
  have hL9 : L.length ≤ 9999 := by omega
  have hLm : (L.map zt).length ≤ 4611686018427387904 := by rw [List.length_map]; omega
  have hLq : ((L.map zt).take q).length ≤ 4611686018427387904 := by rw [List.length_take, List.length_map]; omega
  have hq9 : q ≤ 9999 := by omega
  have hlq : (L.take q).length = q := by rw [List.length_take]; omega
  have HLQ := Hid.out (p := Hid _) hlq; clear hlq
  have D1 := Hid.out (p := Hid _) d1; clear d1
  have D2 := Hid.out (p := Hid _) d2; clear d2
  go_region_law
    (first
      | (go_simp; go_at_call 11; refine (whole_any _ _ _ _ w5 V5.out U5.out hLq hLq).mono ?_; rintro e w6 ⟨rfl, n6, hw6⟩; have B6 : Hid (Below w.heap.size w w6) := B5.out.trans (by rw [hw6]; exact below_drewN _ _ _); clear hw6; rw [D2.out])
      | (go_simp; go_at_call 12; refine (Calls.mono (HTO.out w4 q hq9 T4.out) ?_); rintro e w5 ⟨v2, rfl, hv2, hb5⟩; obtain ⟨xa, xc, rfl⟩ := hv2.form; have B5 : Hid (Below w.heap.size w w5) := B4.out.trans (hb5.mono B4.out.size); have U5 : Hid (IsToks w5 (.slice ua q uc) ((L.map zt).take q)) := IsToks.cut (l := L.map zt) (by rw [List.length_map]; exact U4.out.stays hb5) q (by rw [List.length_map]; exact hql); have V5 : Hid (IsToks w5 (.slice xa q xc) ((L.map zt).take q)) := (by have := hv2.reads; rw [HLQ.out, List.map_take] at this; exact this); clear hv2 hb5; rw [HLQ.out])
      | (go_simp; go_at_call 11; refine (whole_any _ _ _ _ w3 V3.out U3.out hLm hLm).mono ?_; rintro e w4 ⟨rfl, n, hw4⟩; have b34 : Below w3.heap.size w3 w4 := (by rw [hw4]; exact below_drewN _ _ _); clear hw4; have B4 : Hid (Below w.heap.size w w4) := B3.out.trans (b34.mono B3.out.size); have T4 : Hid (Tabs w4) := T3.out.stays b34; have U4 : Hid (IsToks w4 (.slice ua L.length uc) (L.map zt)) := U3.out.stays b34; clear b34; rw [D1.out])
      | (go_simp; go_at_call 12; refine (Calls.mono (H9.out w2.drew T2d.out) ?_); rintro e w3 ⟨v, rfl, hv, hb3⟩; rw [List.take_of_length_le hL9] at hv; obtain ⟨va, vc, rfl⟩ := hv.form; have B3 : Hid (Below w.heap.size w w3) := B2d.out.trans (hb3.mono B2d.out.size); have T3 : Hid (Tabs w3) := T2d.out.stays hb3; have U3 : Hid (IsToks w3 (.slice ua L.length uc) (L.map zt)) := U2d.out.stays hb3; have V3 : Hid (IsToks w3 (.slice va L.length vc) (L.map zt)) := hv.reads; clear hv hb3))
  all_goals
    go_wp2_with fail
    go_ret
    exact ⟨rfl, B6.out⟩

theorem lexAll_wf (s : ByteArray) (hs : s.size ≤ maxLen) (a1 : Int) (w1 : (Lit.int .u8 a1).wf = true) (w : World) (T : Tabs w) :
    Calls Tryz.prog 4 #[.string s, .int .u8 a1] w fun e w' => e = .returned (.bool true) ∧ Below w.heap.size w w' := by
  have h1 : IntKind.u8.min = 0 := rfl
  have h2 : IntKind.u8.max = 255 := rfl
  simp only [Lit.wf, Bool.and_eq_true, decide_eq_true_eq] at w1
  unfold maxLen at hs
  obtain ⟨c, rfl⟩ : ∃ c : Nat, a1 = (c : Int) := ⟨a1.toNat, by omega⟩
  by_cases h : 1500 < s.size
  · exact lexAll_big s c w T h (by omega)
  · exact lexAll_small s c w T (by omega) (by omega)
end Go.Proofs.YtbfkgddhpabioaaGreatDoor.Lex
