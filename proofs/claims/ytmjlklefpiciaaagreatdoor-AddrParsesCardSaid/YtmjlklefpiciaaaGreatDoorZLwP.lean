/- tabulariumlaw17.AddrParses: the walk. -/
import Derived.Test.YtmjlklefpiciaaaGreatDoorZLwA
import Derived.Test.YtmjlklefpiciaaaGreatDoorZAdU
namespace Go.Proofs.YtmjlklefpiciaaaGreatDoor.Addr
open Go.RowKit Go.Shelf Go.Proofs.YtmjlklefpiciaaaGreatDoor.Utf Go.Proofs.YtmjlklefpiciaaaGreatDoor.Strs
open Go.Proofs.YtmjlklefpiciaaaGreatDoor.Jdec (IsTexts)
set_option linter.unusedVariables false
set_option linter.unusedSimpArgs false
set_option maxRecDepth 100000

theorem headL_len (ks : List ByteArray) (ty nm : List UInt8) : (∀ k ∈ ks, k.size ≤ (headL ks ty nm).length) ∧ ks.length ≤ (headL ks ty nm).length ∧ ty.length ≤ (headL ks ty nm).length ∧ nm.length ≤ (headL ks ty nm).length := by
  have h1 : (headL ks ty nm).length = (pathL ks).length + (ty.length + (nm.length + 1)) := by simp [headL]
  have h2 : ∀ ks : List ByteArray, (∀ k ∈ ks, k.size ≤ (pathL ks).length) ∧ ks.length ≤ (pathL ks).length := by
    intro ks
    induction ks with
    | nil => exact ⟨fun k h => (by cases h), Nat.zero_le _⟩
    | cons k ks ih =>
      have e : (pathL (k :: ks)).length = k.size + 8 + (pathL ks).length := by
        have e1 : pathL (k :: ks) = modL k ++ pathL ks := rfl
        have e2 : (modL k).length = k.size + 8 := by simp [modL, moduleL]
        rw [e1, List.length_append, e2]
      refine ⟨fun x hx => ?_, by rw [e, List.length_cons]; have := ih.2; omega⟩
      rcases List.mem_cons.1 hx with rfl | hx
      · omega
      · have := ih.1 x hx; omega
  have h3 := h2 ks
  exact ⟨fun k hk => by have := h3.1 k hk; omega, by have := h3.2; omega, by omega, by omega⟩
/-- What is read of a text of a thousand bytes may be printed. -/
theorem reads_at {l : List UInt8} {a : Adr} (h : Reads l a) (hl : l.length ≤ 1000) {w : World} {pa : Option Addr} (ht : IsTexts w (fun _ => True) pa a.path) : AdrAt w pa a := by
  have hp := reads_place h
  obtain ⟨hr, t, hlt, htl, hk⟩ := h
  have h1 := headL_len a.path a.type.data.toList a.name.data.toList
  have h2 : (headL a.path a.type.data.toList a.name.data.toList).length + t.length = l.length := by rw [hlt, List.length_append]
  have hw : a.word.size ≤ t.length := by
    have := keyP_word (l := t) (k := (a.key, a.place, a.word)) (by rw [keyP_eq t htl]; exact hk)
    exact this
  have hty : a.type.data.toList.length = a.type.size := by simp
  have hnm : a.name.data.toList.length = a.name.size := by simp
  exact ⟨ht, by omega, fun x hx => by have := h1.1 x hx; omega, by omega, by omega, by omega, by omega⟩
theorem keyL_len (a : Adr) (hw : a.word.size ≤ 3000) (hp : a.place < 18446744073709551616) : (keyL a).length ≤ 18010 := by
  unfold keyL
  split
  · have := Lib.nDigits_le20 a.place hp
    rw [List.length_cons, List.length_append, Lib.decDigits_length, List.length_singleton]
    omega
  · split
    · have h1 := Quote.qps_len a.word.data.toList
      have h2 : a.word.data.toList.length = a.word.size := by simp
      have h3 : Quote.qprint a.word.data.toList = 34 :: (a.word.data.toList.flatMap Quote.qp ++ [34]) := rfl
      rw [h3]
      simp only [List.length_append, List.length_cons, List.length_nil]
      omega
    · exact Nat.zero_le _
theorem printA_len {w : World} {pa : Option Addr} {a : Adr} (h : AdrAt w pa a) : (printA a).length ≤ 100000 := by
  unfold printA
  split
  · rename_i hr
    have hp20 := (right_parts hr).len
    have h1 := path_size a.path 3000 h.s
    have h2 : (pathL a.path).length ≤ 60160 := Nat.le_trans h1 (by have := Nat.mul_le_mul_right (3000 + 8) hp20; omega)
    have h3 := keyL_len a h.wd h.p
    have hty : a.type.data.toList.length = a.type.size := by simp
    have hnm : a.name.data.toList.length = a.name.size := by simp
    have h4 := h.ty
    have h5 := h.nm
    simp only [printR, headL, List.length_append, List.length_cons]
    omega
  · exact Nat.zero_le _
set_option maxHeartbeats 4000000 in
theorem addrParses_any (s : ByteArray) (w : World) (T : TabsP w) (hs : s.size ≤ 9223372036854775807) :
    Calls Tryz.prog 10 #[.string s] w fun e w' => e = .returned (.bool true) ∧ Below w.heap.size w w' := by
  have hwk := wakes17 w T
  have HWK : Hid (Calls Tryz.prog 36 #[] w fun e w' => e = .returned (.bool true) ∧ Below w.heap.size w w') := hwk
  clear hwk
  by_cases hbig : 1000 < s.size
  · have q1 : decide ((1000 : Int) < (s.size : Int)) = true := by rw [decide_eq_true_eq]; omega
    have q2 : decide (1000 < s.size) = true := by rw [decide_eq_true_eq]; omega
    go_enter Tryz.func10, Tryz.ntmps10
    go_wp2_with fail
    refine (Calls.mono HWK.out ?_)
    rintro z w1 ⟨rfl, hb1⟩
    have B1 := Hid.out (p := Hid _) hb1
    clear hb1
    go_wp2_with fail
    go_ret
    exact ⟨rfl, B1.out⟩
  have q1 : decide ((1000 : Int) < (s.size : Int)) = false := by rw [decide_eq_false_iff_not]; omega
  have q2 : decide (1000 < s.size) = false := by rw [decide_eq_false_iff_not]; omega
  have hse : parseP s.data.toList = parseR s.data.toList := parse_eq _
  have hl : s.data.toList.length = s.size := by simp
  have HT := Hid.out (p := Hid _) T
  have HOP : Hid (∀ w', Below w.heap.size w w' → Calls Tryz.prog 39 #[.string s] w' (APost (parseR s.data.toList) w')) := fun w' h' => by
    rw [← hse]; exact parse_any s w' (by omega) (T.stays h')
  have HOR : Hid (∀ w', Calls Tryz.prog 40 #[.string s] w' (RPost (parseR s.data.toList) w')) := fun w' => rparse_any s w' (by omega)
  have HRD : Hid (∀ a, parseR s.data.toList = some a → Reads s.data.toList a) := fun a h => (parseR_iff _ _).1 h
  have HL : Hid (s.data.toList.length ≤ 1000) := by rw [Hid, hl]; omega
  obtain ⟨r, hr⟩ : ∃ r, parseR s.data.toList = r := ⟨_, rfl⟩
  rw [hr] at HOP HOR HRD
  obtain ⟨x, hx⟩ : ∃ x, r.getD zeroA = x := ⟨_, rfl⟩
  have HX := Hid.out (p := Hid _) hx
  obtain ⟨bo, hbo⟩ : ∃ b, r.isSome = b := ⟨_, rfl⟩
  have HBO := Hid.out (p := Hid _) hbo
  have HRX : Hid (bo = true → Reads s.data.toList x) := fun h => by
    cases r with
    | none => rw [← hbo] at h; cases h
    | some a => rw [← hx]; exact HRD.out a rfl
  have HPL : Hid (x.path.length ≤ 1000) := by
    cases r with
    | none => rw [Hid, ← hx]; exact Nat.zero_le _
    | some a =>
      obtain ⟨_, t, hlt, _, _⟩ := HRD.out a rfl
      have h1 := (headL_len a.path a.type.data.toList a.name.data.toList).2.1
      have h2 : (headL a.path a.type.data.toList a.name.data.toList).length + t.length = s.data.toList.length := by rw [hlt, List.length_append]
      have h3 := HL.out
      rw [Hid, ← hx]
      show a.path.length ≤ 1000
      omega
  clear hse hr hx hbo T hl HRD
  go_enter Tryz.func10, Tryz.ntmps10
  go_wp2_with fail
  refine (Calls.mono HWK.out ?_)
  rintro z w1 ⟨rfl, hb1⟩
  have B1 : Hid (Below w.heap.size w w1) := hb1
  have hop := HOP.out w1 hb1
  have HOP1 : Hid (Calls Tryz.prog 39 #[.string s] w1 (APost r w1)) := hop
  clear hop hb1 HOP HWK
  go_wp2_with fail
  refine (Calls.mono HOP1.out ?_)
  rintro z w2 hz
  obtain ⟨er, her⟩ : ∃ er, (if r.isSome then (0 : Int) else 3) = er := ⟨_, rfl⟩
  have HER : Hid ((if bo then (0 : Int) else 3) = er) := by rw [Hid, ← HBO.out]; exact her
  obtain ⟨pa, pc, rfl, t2, B2⟩ := hz.to x HX.out er her
  obtain ⟨w3, hw3, V3, B3⟩ := adr_new w2 pa pc x
  have B23 : Hid (Below w1.heap.size w1 w3) := B2.out.trans (B3.out.mono B2.out.size)
  have t3 : Hid (IsTexts w3 (fun _ => True) pa x.path) := t2.out.turn (Jdec.Turn.below B3.out)
  have hor := HOR.out w3
  have HOR3 : Hid (Calls Tryz.prog 40 #[.string s] w3 (RPost r w3)) := hor
  clear hz her hor HOR HOP1
  go_wp2_with fail
  refine (Calls.mono HOR3.out ?_)
  rintro z w4 hz
  obtain ⟨pb, pd, rfl, t4, B4⟩ := hz.to x HX.out bo HBO.out
  obtain ⟨w5, hw5, V5, B5⟩ := adr_new w4 pb pd x
  have hl3 := heap_lt V3.out
  have hs4 := B4.out.size
  have V35 : Hid (w5.heap[w2.heap.size]? = some (.cells (arrA pa pc x) 29 (0, 0))) := (B5.out.block _ (by omega)).trans ((B4.out.block _ hl3).trans V3.out)
  have t5 : Hid (IsTexts w5 (fun _ => True) pb x.path) := t4.out.turn (Jdec.Turn.below B5.out)
  have t35 : Hid (IsTexts w5 (fun _ => True) pa x.path) := (t3.out.turn (Jdec.Turn.below B4.out)).turn (Jdec.Turn.below B5.out)
  have B05 : Hid (Below w.heap.size w w5) := B1.out.trans ((B23.out.trans (B4.out.mono B23.out.size |>.trans (B5.out.mono (by have := B23.out.size; omega)))).mono B1.out.size)
  have HSA := same_words x x pa pb pc pd w5 t35.out t5.out (by have := HPL.out; omega) rfl
  obtain ⟨x0, x1, x2, x3, x4, x5⟩ := adr_cells V35.out
  obtain ⟨u0, u1, u2, u3, u4, u5⟩ := adr_cells V5.out
  have hl5 := heap_lt V35.out
  clear hz HOR3
  go_wp2_with fail
  refine (Calls.mono HSA.out ?_)
  rintro z w6 ⟨rfl, hb6⟩
  have V36 : Hid (w6.heap[w2.heap.size]? = some (.cells (arrA pa pc x) 29 (0, 0))) := (hb6.block _ hl5).trans V35.out
  have B06 : Hid (Below w.heap.size w w6) := B05.out.trans (hb6.mono B05.out.size)
  have t36 : Hid (IsTexts w6 (fun _ => True) pa x.path) := t35.out.turn (Jdec.Turn.below hb6)
  have hl6 := heap_lt V36.out
  clear hb6 x0 x1 x2 x3 x4 x5 u0 u1 u2 u3 u4 u5 HSA
  obtain ⟨x0, x1, x2, x3, x4, x5⟩ := adr_cells V36.out
  cases bo
  · have e3 : er = 3 := HER.out.symm
    subst e3
    go_wp2_with fail
    go_ret
    exact ⟨rfl, B06.out⟩
  · have e0 : er = 0 := HER.out.symm
    subst e0
    have hrd := HRX.out rfl
    have hat := reads_at hrd HL.out t36.out
    have hpr := hat.print pc (HT.out.stays B06.out).a
    have hpl := printA_len hat
    obtain ⟨y, hy⟩ : ∃ y, (⟨(printA x).toArray⟩ : ByteArray) = y := ⟨_, rfl⟩
    have hyd : y.data.toList = printA x := by rw [← hy]
    have hys : y.size ≤ 100000 := by rw [data_size hyd]; exact hpl
    rw [hy] at hpr
    have HPR : Hid (Calls Tryz.prog 41 #[.agg #[.slice pa x.path.length pc, .string x.type, .string x.name, .int .i64 x.key, .int .u64 x.place, .string x.word]] w6 fun e w' => e = .returned (.string y) ∧ Below w6.heap.size w6 w') := hpr
    have HPA : Hid (∀ w', Below w.heap.size w w' → Calls Tryz.prog 39 #[.string y] w' (APost (some x) w')) := fun w' h' => by
      have h := parse_any y w' (by omega) (HT.out.stays h')
      rw [hyd, parse_print hrd.1 (reads_place hrd)] at h
      exact h
    have HRI : Hid (rightA x = true) := hrd.1
    have HAT := Hid.out (p := Hid _) hat
    clear hrd hat hpr hpl hy hyd hys
    go_wp2_with fail
    refine (Calls.mono HPR.out ?_)
    rintro z w7 ⟨rfl, hb7⟩
    have V37 : Hid (w7.heap[w2.heap.size]? = some (.cells (arrA pa pc x) 29 (0, 0))) := (hb7.block _ hl6).trans V36.out
    have B67 : Hid (Below w6.heap.size w6 w7) := hb7
    have B07 : Hid (Below w.heap.size w w7) := B06.out.trans (hb7.mono B06.out.size)
    have hpa := HPA.out w7 B07.out
    have HPA7 : Hid (Calls Tryz.prog 39 #[.string y] w7 (APost (some x) w7)) := hpa
    clear hb7 hpa HPR HPA x0 x1 x2 x3 x4 x5
    go_wp2_with fail
    refine (Calls.mono HPA7.out ?_)
    rintro z w8 hz
    obtain ⟨pe, pf, rfl, t8, B8⟩ := hz.to x rfl 0 rfl
    obtain ⟨w9, hw9, V9, B9⟩ := adr_new w8 pe pf x
    have hs8 := B8.out.size
    have hl7 := heap_lt V37.out
    have V39 : Hid (w9.heap[w2.heap.size]? = some (.cells (arrA pa pc x) 29 (0, 0))) := (B9.out.block _ (by omega)).trans ((B8.out.block _ hl7).trans V37.out)
    have B69 : Hid (Below w6.heap.size w6 w9) := B67.out.trans ((B8.out.trans (B9.out.mono hs8)).mono B67.out.size)
    have B09 : Hid (Below w.heap.size w w9) := B06.out.trans (B69.out.mono B06.out.size)
    have t9 : Hid (IsTexts w9 (fun _ => True) pe x.path) := t8.out.turn (Jdec.Turn.below B9.out)
    have hri := (HAT.out.stays B69.out).right pc (HT.out.stays B09.out).a
    rw [HRI.out] at hri
    have HR9 : Hid (Calls Tryz.prog 42 #[.agg #[.slice pa x.path.length pc, .string x.type, .string x.name, .int .i64 x.key, .int .u64 x.place, .string x.word]] w9 fun e w' => e = .returned (.bool true) ∧ Below w9.heap.size w9 w') := hri
    obtain ⟨x0, x1, x2, x3, x4, x5⟩ := adr_cells V39.out
    have hl9 := heap_lt V39.out
    have hl9b := heap_lt V9.out
    clear hz hri HPA7
    go_wp2_with fail
    refine (Calls.mono HR9.out ?_)
    rintro z w10 ⟨rfl, hb10⟩
    have V310 : Hid (w10.heap[w2.heap.size]? = some (.cells (arrA pa pc x) 29 (0, 0))) := (hb10.block _ hl9).trans V39.out
    have V910 : Hid (w10.heap[w8.heap.size]? = some (.cells (arrA pe pf x) 29 (0, 0))) := (hb10.block _ hl9b).trans V9.out
    have B610 : Hid (Below w6.heap.size w6 w10) := B69.out.trans (hb10.mono B69.out.size)
    have B010 : Hid (Below w.heap.size w w10) := B06.out.trans (B610.out.mono B06.out.size)
    have HS10 := same_words x x pa pe pc pf w10 (t36.out.turn (Jdec.Turn.below B610.out)) (t9.out.turn (Jdec.Turn.below hb10)) (by have := HPL.out; omega) rfl
    clear hb10 x0 x1 x2 x3 x4 x5 HR9
    obtain ⟨x0, x1, x2, x3, x4, x5⟩ := adr_cells V310.out
    obtain ⟨u0, u1, u2, u3, u4, u5⟩ := adr_cells V910.out
    go_wp2_with fail
    refine (Calls.mono HS10.out ?_)
    rintro z w11 ⟨rfl, hb11⟩
    have B011 : Hid (Below w.heap.size w w11) := B010.out.trans (hb11.mono B010.out.size)
    clear hb11
    go_wp2_with fail
    go_ret
    exact ⟨rfl, B011.out⟩
end Go.Proofs.YtmjlklefpiciaaaGreatDoor.Addr
