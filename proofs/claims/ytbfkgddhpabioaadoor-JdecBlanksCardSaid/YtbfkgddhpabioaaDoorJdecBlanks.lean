/- tabulariumlaw09.JdecBlanks: blanks ahead of a text, and behind it. -/
import Derived.Test.YtbfkgddhpabioaaDoorJdecEq
import Derived.Test.YtbfkgddhpabioaaDoorJdecAp
import Derived.Test.YtbfkgddhpabioaaDoorJdecBk
namespace Go.Proofs.YtbfkgddhpabioaaDoor.Jdec
open Go.RowKit Go.Proofs.YtbfkgddhpabioaaDoor.Strs
set_option linter.unusedVariables false
set_option linter.unusedSimpArgs false
set_option maxRecDepth 100000

theorem parse_at (s : ByteArray) (w : World) (t : JV) (at_ : Int) (e : Nat) (hm : s.size ≤ 9223372036854775807) (T : JTabs w) (h : parse s.data.toList = (t, at_, e)) :
    Calls Tryd.prog 11 #[.string s] w fun x w' => ∃ a : Raw, x = .returned (.tuple #[a.val, .int .i64 at_, .int .i64 e]) ∧ IsV w' (fun _ => True) a t ∧ Below w.heap.size w w' :=
  (parse_any s w hm T).mono fun x w' ⟨a, h1, h2, h3⟩ => ⟨a, by rw [h1, h], by rw [h] at h2; exact h2.turn (Turn.mono _ (fun _ _ _ => trivial)), h3⟩
theorem blanks_big (s : ByteArray) (va vb : Value) (a b : List UInt8) (w : World) (T : JTabs w) (ha : IsBts w va a) (hb : IsBts w vb b) (hal : a.length ≤ 9223372036854775807) (hbl : b.length ≤ 9223372036854775807) (hsl : s.size ≤ 9223372036854775807) (h : 1500 < s.size ∨ 50 < a.length ∨ 50 < b.length) :
    Calls Tryd.prog 3 #[.string s, va, vb] w fun e w' => e = .returned (.bool true) ∧ Below w.heap.size w w' := by
  have hw := wakes_any w T
  obtain ⟨a1, c1, rfl, _⟩ := ha
  obtain ⟨a2, c2, rfl, _⟩ := hb
  by_cases h1 : 1500 < s.size
  · go_enter Tryd.func3, Tryd.ntmps3
    go_wp2_with fail
    refine hw.mono ?_
    rintro e w1 ⟨rfl, hb1⟩
    have B1 : Hid (Below w.heap.size w w1) := hb1
    clear hb1
    go_wp2_with fail
    go_ret
    exact ⟨rfl, B1.out⟩
  · have h1' : s.size ≤ 1500 := by omega
    by_cases h2 : 50 < a.length
    · clear h h1
      go_enter Tryd.func3, Tryd.ntmps3
      go_wp2_with fail
      refine hw.mono ?_
      rintro e w1 ⟨rfl, hb1⟩
      have B1 : Hid (Below w.heap.size w w1) := hb1
      clear hb1
      go_wp2_with fail
      go_ret
      exact ⟨rfl, B1.out⟩
    · have h2' : a.length ≤ 50 := by omega
      have h3 : 50 < b.length := by omega
      clear h h1 h2
      go_enter Tryd.func3, Tryd.ntmps3
      go_wp2_with fail
      refine hw.mono ?_
      rintro e w1 ⟨rfl, hb1⟩
      have B1 : Hid (Below w.heap.size w w1) := hb1
      clear hb1
      go_wp2_with fail
      go_ret
      exact ⟨rfl, B1.out⟩

theorem parse_place (l : List UInt8) (h : (parse l).2.2 ≠ 0) : 0 ≤ (parse l).2.1 ∧ (parse l).2.1 ≤ l.length := by
  have hk := skip_le l 0 (Nat.zero_le _)
  have f := value_fits l 64 (skip l 0) hk
  unfold parse at h ⊢
  by_cases hb : 1048576 < l.length
  · rw [if_pos hb]; simp
  · rw [if_neg hb] at h ⊢
    cases hv : value l 64 (skip l 0) with
    | error y =>
      obtain ⟨b, e⟩ := y
      have := (f.err _ hv).1
      simp only at this ⊢
      omega
    | ok r =>
      obtain ⟨v, q⟩ := r
      rw [hv] at h
      have g := f.ok _ hv
      have := skip_le l q g.2
      simp only at h ⊢
      by_cases hq : skip l q < l.length
      · rw [if_pos hq]; simp only; omega
      · rw [if_neg hq] at h; simp at h

set_option maxHeartbeats 16000000 in
theorem blanks_main (s : ByteArray) (va vb : Value) (a b : List UInt8) (w : World) (T : JTabs w) (ha : IsBts w va a) (hb : IsBts w vb b) (hal : a.length ≤ 50) (hbl : b.length ≤ 50) (hsl : s.size ≤ 1500) :
    Calls Tryd.prog 3 #[.string s, va, vb] w fun e w' => e = .returned (.bool true) ∧ Below w.heap.size w w' := by
  have hw := wakes_any w T
  have HT : Hid (JTabs w) := T
  have HA := Hid.out (p := Hid _) ha
  have HB := Hid.out (p := Hid _) hb
  obtain ⟨a1, c1, rfl, _⟩ := ha
  obtain ⟨a2, c2, rfl, _⟩ := hb
  have HA : Hid (IsBts w (.slice a1 a.length c1) a) := HA.out
  have HB : Hid (IsBts w (.slice a2 b.length c2) b) := HB.out
  have hl : s.data.toList.length = s.size := by simp
  obtain ⟨t, at_, e, hp0⟩ : ∃ t at_ e, parse s.data.toList = (t, at_, e) := ⟨_, _, _, rfl⟩
  have hsm := parse_small_tree s.data.toList
  rw [hp0, hl] at hsm
  have HSM : Hid (Alike t) := same_alike s.size (by omega) t hsm
  have HP0 := Hid.out (p := Hid _) hp0
  have HL := Hid.out (p := Hid _) hl
  clear T hsm hp0 hl
  go_enter Tryd.func3, Tryd.ntmps3
  go_wp2_with fail
  refine hw.mono ?_
  rintro x w1 ⟨rfl, hb1⟩
  have B1 : Hid (Below w.heap.size w w1) := hb1
  have T1 : Hid (JTabs w1) := JTabs.stays ⟨HT.out.z, HT.out.m⟩ hb1
  clear hb1 hw
  go_wp2_with fail
  refine (parse_at s w1 t at_ e (by omega) ⟨T1.out.z, T1.out.m⟩ HP0.out).mono ?_
  rintro x w2 ⟨r0, rfl, i0, b2⟩
  dsimp only [Raw.val]
  have B2 := Hid.out (p := Hid _) (B1.out.trans (b2.mono B1.out.size))
  have I2 : Hid (IsV w2 (fun _ => True) r0 t) := i0
  clear i0 b2 B1 T1
  go_wp2_with fail
  obtain ⟨b7, hb7⟩ : ∃ b7, w2.heap.size = b7 := ⟨_, rfl⟩
  obtain ⟨w3, hw3⟩ : ∃ w3, w2.alloc (.cells #[.int .i64 r0.kind, .bool r0.is, .bool r0.neg, .string r0.dig, .int .i64 r0.exp, .string r0.str, .slice r0.ka r0.kn r0.kc, .slice r0.va r0.vn r0.vc] 29) = w3 := ⟨_, rfl⟩
  have g3 : Below w2.heap.size w2 w3 := by rw [← hw3]; exact (Below.refl _ _).alloc (Nat.le_refl _) _
  have V3 : Hid (w3.heap[b7]? = some (.cells r0.arr 29 (0, 0))) := by rw [← hw3, ← hb7]; exact heap_alloc_new _ _
  have B3 := Hid.out (p := Hid _) (B2.out.trans (g3.mono B2.out.size))
  have I3 := Hid.out (p := Hid _) (I2.out.behind g3)
  have A3 : Hid (IsBts w3 (.slice a1 a.length c1) a) := HA.out.stays B3.out
  rw [hw3, hb7]
  clear hw3 hb7 g3 B2 I2
  refine (lblanks_any _ a w3 A3.out (by omega)).mono ?_
  rintro x w3' ⟨d1, rfl, hd1, hdb1, rfl⟩
  have hd1s : d1.size ≤ 50 := by omega
  have HD1 := Hid.out (p := Hid _) hd1
  have hpa := parse_ahead d1.data.toList s.data.toList hdb1 (by rw [List.length_append, HL.out, show d1.data.toList.length = d1.size by simp]; omega)
  obtain ⟨t1, on, e1, hp1⟩ : ∃ t at_ e, parse (d1.data.toList ++ s.data.toList) = (t, at_, e) := ⟨_, _, _, rfl⟩
  rw [hp1, HP0.out] at hpa
  obtain ⟨h1, h2, h3, h4⟩ := hpa
  simp only at h1 h2 h3 h4
  subst h1 h2
  have hdl : (d1.data.toList.length : Int) = (a.length : Int) := by rw [← hd1]; simp
  have H3 := Hid.out (p := Hid _) h3
  have H4 : Hid (e1 ≠ 0 → on = at_ + (a.length : Int)) := fun h => by rw [← hdl]; exact h4 h
  have HP1 : Hid (parse (d1 ++ s).data.toList = (t1, on, e1)) := by rw [Hid, ← hp1]; congr 1
  have hz1 : Hid ((d1 ++ s).size ≤ 1600) := by rw [Hid, ByteArray.size_append]; omega
  clear hd1 hdb1 hp1 h3 h4 hdl A3
  have T3 : Hid (JTabs w3) := JTabs.stays ⟨HT.out.z, HT.out.m⟩ B3.out
  go_wp2_with fail
  refine (parse_at (d1 ++ s) w3 t1 on e1 (by have := hz1.out; omega) ⟨T3.out.z, T3.out.m⟩ HP1.out).mono ?_
  rintro x w4 ⟨r1, rfl, i1, b4⟩
  dsimp only [Raw.val]
  have B4 := Hid.out (p := Hid _) (B3.out.trans (b4.mono B3.out.size))
  have I4 := Hid.out (p := Hid _) (I3.out.behind b4)
  have V4 := Hid.out (p := Hid _) ((b4.block b7 (heap_lt V3.out)).trans V3.out)
  have J4 : Hid (IsV w4 (fun _ => True) r1 t1) := i1
  clear i1 b4 B3 I3 V3 T3
  go_wp2_with fail
  obtain ⟨b10, hb10⟩ : ∃ b10, w4.heap.size = b10 := ⟨_, rfl⟩
  obtain ⟨w5, hw5⟩ : ∃ w5, w4.alloc (.cells #[.int .i64 r1.kind, .bool r1.is, .bool r1.neg, .string r1.dig, .int .i64 r1.exp, .string r1.str, .slice r1.ka r1.kn r1.kc, .slice r1.va r1.vn r1.vc] 29) = w5 := ⟨_, rfl⟩
  have g5 : Below w4.heap.size w4 w5 := by rw [← hw5]; exact (Below.refl _ _).alloc (Nat.le_refl _) _
  have U5 : Hid (w5.heap[b10]? = some (.cells r1.arr 29 (0, 0))) := by rw [← hw5, ← hb10]; exact heap_alloc_new _ _
  have V5 := Hid.out (p := Hid _) ((g5.block b7 (heap_lt V4.out)).trans V4.out)
  have B5 := Hid.out (p := Hid _) (B4.out.trans (g5.mono B4.out.size))
  have I5 := Hid.out (p := Hid _) (I4.out.behind g5)
  have J5 := Hid.out (p := Hid _) (J4.out.behind g5)
  have A5 : Hid (IsBts w5 (.slice a2 b.length c2) b) := HB.out.stays B5.out
  rw [hw5, hb10]
  clear hw5 hb10 g5 B4 I4 V4 J4
  refine (lblanks_any _ b w5 A5.out (by omega)).mono ?_
  rintro x w5' ⟨d2, rfl, hd2, hdb2, rfl⟩
  have hd2s : d2.size ≤ 50 := by omega
  obtain ⟨t2, in_, e2, hp2⟩ : ∃ t at_ e, parse (s.data.toList ++ d2.data.toList) = (t, at_, e) := ⟨_, _, _, rfl⟩
  have HPB : Hid (e1 = 0 → (t1, at_, e1) = (t2, in_, e2) ∧ at_ = -1) := by
    intro h
    have := parse_behind d2.data.toList s.data.toList hdb2 (by rw [List.length_append, HL.out, show d2.data.toList.length = d2.size by simp]; omega) (by rw [HP0.out]; exact h)
    rw [hp2, HP0.out] at this
    exact ⟨this.1.symm, this.2⟩
  have HP2 : Hid (parse (s ++ d2).data.toList = (t2, in_, e2)) := by rw [Hid, ← hp2]; congr 1
  have hz2 : Hid ((s ++ d2).size ≤ 1600) := by rw [Hid, ByteArray.size_append]; omega
  clear hd2 hdb2 hp2 A5
  have T5 : Hid (JTabs w5) := JTabs.stays ⟨HT.out.z, HT.out.m⟩ B5.out
  go_wp2_with fail
  refine (parse_at (s ++ d2) w5 t2 in_ e2 (by have := hz2.out; omega) ⟨T5.out.z, T5.out.m⟩ HP2.out).mono ?_
  rintro x w6 ⟨r2, rfl, i2, b6⟩
  dsimp only [Raw.val]
  have B6 := Hid.out (p := Hid _) (B5.out.trans (b6.mono B5.out.size))
  have I6 := Hid.out (p := Hid _) (I5.out.behind b6)
  have J6 := Hid.out (p := Hid _) (J5.out.behind b6)
  have V6 := Hid.out (p := Hid _) ((b6.block b7 (heap_lt V5.out)).trans V5.out)
  have U6 := Hid.out (p := Hid _) ((b6.block b10 (heap_lt U5.out)).trans U5.out)
  have L6 : Hid (IsV w6 (fun _ => True) r2 t2) := i2
  clear i2 b6 B5 I5 V5 U5 J5 T5
  obtain ⟨b13, hb13⟩ : ∃ b13, w6.heap.size = b13 := ⟨_, rfl⟩
  obtain ⟨w7, hw7⟩ : ∃ w7, w6.alloc (.cells #[.int .i64 r2.kind, .bool r2.is, .bool r2.neg, .string r2.dig, .int .i64 r2.exp, .string r2.str, .slice r2.ka r2.kn r2.kc, .slice r2.va r2.vn r2.vc] 29) = w7 := ⟨_, rfl⟩
  have g7 : Below w6.heap.size w6 w7 := by rw [← hw7]; exact (Below.refl _ _).alloc (Nat.le_refl _) _
  have X7 : Hid (w7.heap[b13]? = some (.cells r2.arr 29 (0, 0))) := by rw [← hw7, ← hb13]; exact heap_alloc_new _ _
  have V7 := Hid.out (p := Hid _) ((g7.block b7 (heap_lt V6.out)).trans V6.out)
  have U7 := Hid.out (p := Hid _) ((g7.block b10 (heap_lt U6.out)).trans U6.out)
  have B7 := Hid.out (p := Hid _) (B6.out.trans (g7.mono B6.out.size))
  have I7 := Hid.out (p := Hid _) (I6.out.behind g7)
  have J7 := Hid.out (p := Hid _) (J6.out.behind g7)
  have L7 := Hid.out (p := Hid _) (L6.out.behind g7)
  clear g7 B6 I6 V6 U6 J6 L6
  have hplace : Hid (e1 ≠ 0 → 0 ≤ at_ ∧ at_ ≤ 1500) := by
    intro h
    have := parse_place s.data.toList (by rw [HP0.out]; exact h)
    rw [HP0.out, HL.out] at this
    simp only at this
    omega
  obtain ⟨⟨xa, xb, xc, xd, xe, xf, xg, xh⟩, _⟩ := val_cells V7.out
  obtain ⟨⟨ya, yb, yc, yd, ye, yf, yg, yh⟩, _⟩ := val_cells U7.out
  have HSame := Hid.out (p := Hid _) (HSM.out r0 r1 _ _ w7 I7.out J7.out)
  by_cases he : e1 = 0
  · subst he
    have hon : on = -1 := H3.out rfl
    obtain ⟨hpb, hat⟩ := HPB.out rfl
    injection hpb with q1 q2
    injection q2 with q2 q3
    subst hon hat q1 q2 q3
    clear hplace H3 H4 HPB
    go_wp2_with fail
    refine (Calls.mono HSame.out ?_)
    rintro x w8 ⟨rfl, b8⟩
    have V8 := Hid.out (p := Hid _) ((b8.block b7 (heap_lt V7.out)).trans V7.out)
    have X8 := Hid.out (p := Hid _) ((b8.block b13 (heap_lt X7.out)).trans X7.out)
    have B8 := Hid.out (p := Hid _) (B7.out.trans (b8.mono B7.out.size))
    have HS2 := Hid.out (p := Hid _) (HSM.out r0 r2 _ _ w8 (I7.out.behind b8) (L7.out.behind b8))
    clear b8 V7 X7 U7 I7 J7 L7 HSame xa xb xc xd xe xf xg xh ya yb yc yd ye yf yg yh
    obtain ⟨⟨xa, xb, xc, xd, xe, xf, xg, xh⟩, _⟩ := val_cells V8.out
    obtain ⟨⟨ya, yb, yc, yd, ye, yf, yg, yh⟩, _⟩ := val_cells X8.out
    go_wp2_with fail
    refine (Calls.mono HS2.out ?_)
    rintro x w9 ⟨rfl, b9⟩
    have B9 := Hid.out (p := Hid _) (B8.out.trans (b9.mono B8.out.size))
    clear b9
    go_wp2_with fail
    go_ret
    exact ⟨rfl, B9.out⟩
  · have hon := H4.out he
    subst hon
    obtain ⟨hp1, hp2⟩ := hplace.out he
    have qe : ((e1 : Int) == 0) = false := by rw [beq_eq_false_iff_ne]; omega
    clear he H3 H4 HPB hplace
    go_wp2_with fail
    refine (Calls.mono HSame.out ?_)
    rintro x w8 ⟨rfl, b8⟩
    have B8 := Hid.out (p := Hid _) (B7.out.trans (b8.mono B7.out.size))
    clear b8
    go_wp2_with fail
    go_ret
    exact ⟨by simp, B8.out⟩
theorem jdecBlanks_any (s : ByteArray) (va vb : Value) (a b : List UInt8) (w : World) (T : JTabs w) (ha : IsBts w va a) (hb : IsBts w vb b) (hal : a.length ≤ 9223372036854775807) (hbl : b.length ≤ 9223372036854775807) (hsl : s.size ≤ 9223372036854775807) :
    Calls Tryd.prog 3 #[.string s, va, vb] w fun e w' => e = .returned (.bool true) ∧ Below w.heap.size w w' := by
  by_cases h : 1500 < s.size ∨ 50 < a.length ∨ 50 < b.length
  · exact blanks_big s va vb a b w T ha hb hal hbl hsl h
  · exact blanks_main s va vb a b w T ha hb (by omega) (by omega) (by omega)
end Go.Proofs.YtbfkgddhpabioaaDoor.Jdec
