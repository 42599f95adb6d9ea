/- tabulariumlaw11.LexJoins: the text that a text's tokens make, joined, has the same tokens. -/
import Derived.Test.YtbfkgddhpabioaaDoorJoinA
import Derived.Test.YtbfkgddhpabioaaDoorLawPR
namespace Go.Proofs.YtbfkgddhpabioaaDoor.Lex
open Go.RowKit Go.Proofs.YtbfkgddhpabioaaDoor.Utf Go.Proofs.YtbfkgddhpabioaaDoor.Strs
set_option linter.unusedVariables false
set_option linter.unusedSimpArgs false
set_option maxRecDepth 100000

theorem kt_zt (L : List Tok) : (L.map zt).map kt = (L.map ktn).map (fun x => ((x.1 : Int), (⟨x.2.toArray⟩ : ByteArray))) := by
  rw [List.map_map, List.map_map]; rfl
theorem same_of_ktn {L L' : List Tok} (h : L.map ktn = L'.map ktn) : sameB (L.map zt) (L'.map zt) = true := by
  rw [sameB, decide_eq_true_eq, kt_zt, kt_zt, h]
theorem joined_append (L L' : List Tok) : joined (L ++ L') = joined L ++ joined L' := by unfold joined; rw [List.flatMap_append]
theorem joined_take (L : List Tok) (i : Nat) (h : i < L.length) : joined (L.take (i + 1)) = joined (L.take i) ++ jnEnd L[i] := by
  rw [List.take_succ_eq_append_getElem h, joined_append]; simp [joined]
theorem joined_le (L : List Tok) (i : Nat) : (joined (L.take i)).length ≤ (joined L).length := by
  have h : joined L = joined (L.take i) ++ joined (L.drop i) := by rw [← joined_append, List.take_append_drop]
  rw [h, List.length_append]; omega

theorem lexJoins_big (s : ByteArray) (w : World) (T : Tabs w) (hs : 1500 < s.size) (hm : s.size ≤ 9223372036854775807) :
    Calls Tryd.prog 8 #[.string s] w fun e w' => e = .returned (.bool true) ∧ Below w.heap.size w w' := by
  have hw := wakes_any w T
  go_enter Tryd.func8, Tryd.ntmps8
  go_wp2_with fail
  refine hw.mono ?_
  rintro e w1 ⟨rfl, hb1⟩
  have B1 : Hid (Below w.heap.size w w1) := hb1
  clear hb1
  go_wp2_with fail
  go_ret
  exact ⟨rfl, B1.out⟩

theorem lexJoins_bad (s : ByteArray) (w : World) (T : Tabs w) (hs : s.size ≤ 1500) (he : (toksAt s.data.toList 0).2.2 ≠ 0) :
    Calls Tryd.prog 8 #[.string s] w fun e w' => e = .returned (.bool true) ∧ Below w.heap.size w w' := by
  have hw := wakes_any w T
  have HT := Hid.out (p := Hid _) T; clear T
  obtain ⟨L, at_, e_, hx⟩ : ∃ L a e, toksAt s.data.toList 0 = (L, a, e) := ⟨_, _, _, rfl⟩
  rw [hx] at he
  have hr := fun w => rparse_any s w (by omega)
  unfold RParse at hr
  rw [hx] at hr
  have hwh : whereAt (L, at_, e_) = (at_ : Int) := by rw [whereAt, if_pos he]
  rw [hwh] at hr
  have HR := Hid.out (p := Hid _) hr; clear hr
  have hne : ((e_ : Int) != 0) = true := by rw [bne_iff_ne]; simp only at he; omega
  clear hx he hwh
  go_enter Tryd.func8, Tryd.ntmps8
  go_wp2_with fail
  refine hw.mono ?_
  rintro e w1 ⟨rfl, hb1⟩
  have B1 : Hid (Below w.heap.size w w1) := hb1
  clear hb1 hw
  go_wp2_with fail
  refine (Calls.mono (HR.out _) ?_)
  rintro e w3 ⟨u, rfl, hu, hb3⟩
  have B3 : Hid (Below w.heap.size w w3) := B1.out.trans (hb3.mono B1.out.size)
  obtain ⟨ua, uc, rfl⟩ := hu.form
  clear hu hb3
  go_wp2_with fail
  go_ret
  exact ⟨rfl, B3.out.alloc B3.out.size _⟩

set_option maxHeartbeats 8000000 in
theorem lexJoins_ok (s : ByteArray) (w : World) (T : Tabs w) (hs : s.size ≤ 1500) (he : (toksAt s.data.toList 0).2.2 = 0) :
    Calls Tryd.prog 8 #[.string s] w fun e w' => e = .returned (.bool true) ∧ Below w.heap.size w w' := by
  have hw := wakes_any w T
  have HT := Hid.out (p := Hid _) T; clear T
  have hlen := toksAt_len s.data.toList
  obtain ⟨hjl, hj0, hjk⟩ := joins s.data.toList he
  have hl : s.data.toList.length = s.size := by simp
  rw [hl] at hlen hjl
  obtain ⟨L, at_, e_, hx⟩ : ∃ L a e, toksAt s.data.toList 0 = (L, a, e) := ⟨_, _, _, rfl⟩
  rw [hx] at he hlen hjl hj0 hjk
  simp only at he hlen hjl hj0 hjk
  subst he
  have hr := fun w => rparse_any s w (by omega)
  unfold RParse at hr
  rw [hx] at hr
  have hwh : whereAt (L, at_, 0) = -1 := rfl
  rw [hwh] at hr
  have HR := Hid.out (p := Hid _) hr; clear hr
  have HJ0 := Hid.out (p := Hid _) hj0
  have HJK := Hid.out (p := Hid _) hjk
  have hjl' : (joined L).length ≤ 3000 := by omega
  have HJL := Hid.out (p := Hid _) hjl'
  clear hx hwh hj0 hjk hjl hl hjl'
  go_enter Tryd.func8, Tryd.ntmps8
  go_wp2_with fail
  refine hw.mono ?_
  rintro e w1 ⟨rfl, hb1⟩
  have B1 : Hid (Below w.heap.size w w1) := hb1
  have T1 : Hid (Tabs w1) := HT.out.stays hb1
  clear hb1 hw
  go_wp2_with fail
  refine (Calls.mono (HR.out _) ?_)
  rintro e w3 ⟨u, rfl, hu, hb3⟩
  have B3 : Hid (Below w.heap.size w w3) := B1.out.trans (hb3.mono B1.out.size)
  have T3 : Hid (Tabs w3) := T1.out.stays hb3
  have U3 : IsToks w3 u (L.map zt) := hu.reads
  obtain ⟨ua, uc, rfl⟩ := hu.form
  obtain ⟨o4, ho4⟩ : ∃ o4 : Obj, o4 = .cells #[.slice ua L.length uc, .int .i64 (-1), .int .i64 0] 45 := ⟨_, rfl⟩
  have U4 : Hid (IsToks (w3.alloc o4) (.slice ua L.length uc) (L.map zt)) := U3.alloc _
  have B4 : Hid (Below w.heap.size w (w3.alloc o4)) := B3.out.alloc B3.out.size _
  have T4 : Hid (Tabs (w3.alloc o4)) := T3.out.stays ((Below.refl _ _).alloc (Nat.le_refl _) _)
  rw [ho4] at U4 B4 T4
  clear hu hb3 U3 ho4 o4
  go_wp2_with fail
  go_loopw [4, 23] (fun p4 p23 wr => ∃ (a : ByteArray) (i : Nat), p4 = .string a ∧ p23 = .int .i64 i ∧ i ≤ L.length ∧ a.size ≤ 3000 ∧ Hid (a.data.toList = joined (L.take i)) ∧ Hid (Below (w3.heap.size + 1) (w3.alloc (.cells #[.slice ua L.length uc, .int .i64 (-1), .int .i64 0] 45)) wr)) (fun _ p23 _ => L.length - (intOf p23).toNat)
  case atStart => exact ⟨_, 0, rfl, rfl, Nat.zero_le _, by decide, rfl, Below.refl _ _⟩
  case round =>
    obtain ⟨a, i, rfl, rfl, hi, ha, hA, hBr⟩ := hrel
    by_cases hlt : i < L.length
    · have hlz : i < (L.map zt).length := by simpa using hlt
      obtain ⟨g, o, rfl, K⟩ : ∃ g o, ua = some ⟨g, o, none⟩ ∧ Toks wr g o (L.map zt) := by
        obtain ⟨a', c', hv, ha'⟩ := U4.out.stays (hBr.out.mono (by simp))
        injection hv with h1 h2 h3
        subst h1
        exact ha'.resolve_left (fun e => by rw [e] at hlz; simp at hlz)
      have k1 := K.k i hlz
      have k2 := K.t i hlz
      have k3 := K.p i hlz
      have hjt := joined_take L i hlt
      have hjle := joined_le L (i + 1)
      simp only [List.getElem_map] at k1 k2 k3
      generalize L[i] = x at *
      obtain ⟨kd, tx, pl⟩ := x
      simp only [zt] at k1 k2 k3
      have hts : (⟨tx.toArray⟩ : ByteArray).size = tx.length := by show tx.toArray.size = _; rw [List.size_toArray]
      have HTS := Hid.out (p := Hid _) (show (⟨tx.toArray⟩ : ByteArray).data.toList = tx from rfl)
      obtain ⟨t, ht⟩ : ∃ t, (⟨tx.toArray⟩ : ByteArray) = t := ⟨_, rfl⟩
      rw [ht] at k2 hts HTS
      have hBn : Hid (Below (w3.heap.size + 1) (w3.alloc (.cells #[.slice (some ⟨g, o, none⟩) L.length uc, .int .i64 (-1), .int .i64 0] 45)) (wr.alloc (.cells #[.int .i64 kd, .string t, .int .i64 pl] 49))) := hBr.out.alloc (by have := hBr.out.size; simp at this; omega) _
      have hasz : a.size = (joined (L.take i)).length := by rw [← hA.out]; simp
      rw [hjt] at hjle
      simp only [jnEnd, List.length_append] at hjle
      clear ht K hlz
      have HJT := Hid.out (p := Hid _) hjt
      have h3000 := HJL.out
      by_cases h5 : kd = 5
      · subst h5
        have hz0 : a.size + tx.length ≤ 3000 := by omega
        have hsz : Hid ((a ++ t).size ≤ 3000) := by rw [Hid, ByteArray.size_append]; omega
        have HA : Hid ((a ++ t).data.toList = joined (L.take (i + 1))) := by
          rw [Hid, HJT.out, ← hA.out]; simp [jnEnd, HTS.out]
        clear hjle hasz hjt
        go_wp2_with fail
        go_roundw
        case rel => exact ⟨_, i + 1, rfl, by go_num, by omega, hsz.out, HA.out, hBn.out⟩
        case measure => simp [intOf]; omega
      · have q5 : ((kd : Int) == 5) = false := by rw [beq_eq_false_iff_ne]; omega
        rw [if_neg h5] at hjle
        have hz1 : tx.length + 1 ≤ 3000 := by simp at hjle; omega
        have hz0 : a.size + (tx.length + 1) ≤ 3000 := by simp at hjle; omega
        have hsz : Hid ((a ++ (t ++ ⟨#[32]⟩)).size ≤ 3000) := by
          rw [Hid, ByteArray.size_append, ByteArray.size_append]
          have : (⟨#[32]⟩ : ByteArray).size = 1 := rfl
          omega
        have HA : Hid ((a ++ (t ++ ⟨#[32]⟩)).data.toList = joined (L.take (i + 1))) := by
          rw [Hid, HJT.out, ← hA.out]; simp [jnEnd, HTS.out, h5]
        clear hjle hasz hjt h5
        go_wp2_with fail
        go_roundw
        case rel => exact ⟨_, i + 1, rfl, by go_num, by omega, hsz.out, HA.out, hBn.out⟩
        case measure => simp [intOf]; omega
    · have hAll : Hid (a.data.toList = joined L) := by
        have := hA.out
        rw [List.take_of_length_le (by omega)] at this
        exact this
      have hBs : Hid (Below (w3.heap.size + 1) (w3.alloc (.cells #[.slice ua L.length uc, .int .i64 (-1), .int .i64 0] 45)) wr) := hBr
      have T5 : Hid (Tabs wr) := T4.out.stays (hBr.out.mono (by simp))
      have U5 : Hid (IsToks wr (.slice ua L.length uc) (L.map zt)) := U4.out.stays (hBr.out.mono (by simp))
      have B5 : Hid (Below w.heap.size w wr) := B4.out.trans (hBr.out.mono (by have := B3.out.size; omega))
      have hal : a.data.toList.length = a.size := by simp
      have hp := fun w T => parse_any a w (by omega) T
      unfold PPost at hp
      rw [parse_ok (by rw [hal]; omega) (by rw [hAll.out]; exact HJ0.out), hAll.out] at hp
      have hXL : (toksAt (joined L) 0).1.length = L.length := by
        have := congrArg List.length HJK.out
        rwa [List.length_map, List.length_map] at this
      have HSM : Hid (sameB ((toksAt (joined L) 0).1.map zt) (L.map zt) = true) := same_of_ktn HJK.out
      generalize (toksAt (joined L) 0).1 = X at *
      have HP := Hid.out (p := Hid _) hp
      have HXL := Hid.out (p := Hid _) hXL
      clear hp hal hXL
      go_wp2_with fail
      refine (Calls.mono (HP.out _ T5.out) ?_)
      rintro e w6 ⟨v, rfl, hv, hb6⟩
      have B6 : Hid (Below w.heap.size w w6) := B5.out.trans (hb6.mono B5.out.size)
      have U6 : Hid (IsToks w6 (.slice ua L.length uc) (L.map zt)) := U5.out.stays hb6
      have V6 : IsToks w6 v (X.map zt) := hv.reads
      obtain ⟨va, vc, rfl⟩ := hv.form
      have HV6 := Hid.out (p := Hid _) V6
      have c0 : w6.cell? ⟨w3.heap.size, 0, none⟩ = some (.slice ua L.length uc) := by
        have hb := hBs.out
        have e1 : wr.heap[w3.heap.size]? = _ := hb.block w3.heap.size (Nat.lt_succ_self _)
        have e2 : w6.heap[w3.heap.size]? = wr.heap[w3.heap.size]? := hb6.block _ (by have := hb.size; simp at this; omega)
        rw [cell_of (e2.trans (e1.trans (heap_alloc_new _ _)))]; rfl
      clear hv hb6 V6
      go_wp2_with fail
      refine (rsame_any _ _ (X.map zt) (L.map zt) w6 HV6.out U6.out (by rw [List.length_map]; have := HXL.out; omega) (by rw [List.length_map]; omega)).mono ?_
      rintro e w7 ⟨rfl, hb7⟩
      have B7 : Hid (Below w.heap.size w w7) := B6.out.trans (hb7.mono B6.out.size)
      rw [HSM.out]
      clear hb7
      go_wp2_with fail
      go_ret
      exact ⟨rfl, B7.out⟩

theorem lexJoins_any (s : ByteArray) (w : World) (T : Tabs w) (hm : s.size ≤ 9223372036854775807) :
    Calls Tryd.prog 8 #[.string s] w fun e w' => e = .returned (.bool true) ∧ Below w.heap.size w w' := by
  by_cases h : 1500 < s.size
  · exact lexJoins_big s w T h hm
  · by_cases he : (toksAt s.data.toList 0).2.2 = 0
    · exact lexJoins_ok s w T (by omega) he
    · exact lexJoins_bad s w T (by omega) he
end Go.Proofs.YtbfkgddhpabioaaDoor.Lex
