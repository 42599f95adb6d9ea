/- jdec.Parse. -/
import Derived.Test.YtehffmcfmdjknaaGreatDoorJdecD
import Derived.Laws.StructEq
namespace Go.Proofs.YtehffmcfmdjknaaGreatDoor.Jdec
open Go.RowKit Go.Proofs.YtehffmcfmdjknaaGreatDoor.Strs
set_option linter.unusedVariables false
set_option linter.unusedSimpArgs false
set_option maxRecDepth 100000

/-- What Parse tells. -/
def PPost (l : List UInt8) (w : World) (x : Ending) (w' : World) : Prop :=
  ∃ a : Raw, x = .returned (.tuple #[a.val, .int .i64 (parse l).2.1, .int .i64 (parse l).2.2]) ∧ IsV w' (fun j => w.heap.size ≤ j) a (parse l).1 ∧ Below w.heap.size w w'
theorem res3 {F : Func} {p q r : Tmp} (hr : F.results = #[.cell p 29, .tmp q, .tmp r]) (tm : Array Value) {w' : World} {b : Nat} {a : Raw}
    (hb : w'.heap[b]? = some (.cells a.arr 29 (0, 0))) (hp : tm.getD p undef = .pointer (some ⟨b, 0, none⟩)) :
    (results F tm).run Tryz.prog w' = .ok (.tuple #[a.val, tm.getD q undef, tm.getD r undef]) w' := by
  have hp' : tm[p]?.getD undef = .pointer (some ⟨b, 0, none⟩) := by simpa using hp
  have hl := run_loadVar_row (P := Tryz.prog) w' b _ 29 _ _ _ hb Tryz.underlying29 rfl infoVal
  simp [results, hr, hp', asAddr, hl]
  rfl
theorem parse_below {w w2 : World} {a : Raw} (hb : w2.heap[w.heap.size]? = some (.cells a.arr 29 (0, 0))) (B : Below w.heap.size w w2) {x0 x1 x2 x3 x4 x5 x6 x7 : Value} :
    Below w.heap.size w ((((((((w2.setCell ⟨w.heap.size, 0, none⟩ x0).setCell ⟨w.heap.size, 1, none⟩ x1).setCell ⟨w.heap.size, 2, none⟩ x2).setCell ⟨w.heap.size, 3, none⟩ x3).setCell ⟨w.heap.size, 4, none⟩ x4).setCell ⟨w.heap.size, 5, none⟩ x5).setCell ⟨w.heap.size, 6, none⟩ x6).setCell ⟨w.heap.size, 7, none⟩ x7) := by
  have G := gb8 w2 w.heap.size x0 x1 x2 x3 x4 x5 x6 x7
  exact ⟨G.os.trans B.os, G.tape.trans B.tape, G.output.trans B.output, Nat.le_trans B.size G.size, fun k hk => (G.block k (Nat.lt_of_lt_of_le hk B.size) (by simp; omega)).trans (B.block k hk)⟩
theorem parse_fin {F : Func} {p q r : Tmp} (hr : F.results = #[.cell p 29, .tmp q, .tmp r]) {tm : Array Value} {a c : Raw} {w w2 : World} {R : Ending → World → Prop}
    (hb : w2.heap[w.heap.size]? = some (.cells a.arr 29 (0, 0))) (hp : tm.getD p undef = .pointer (some ⟨w.heap.size, 0, none⟩)) (B : Below w.heap.size w w2)
    (hR : R (.returned (.tuple #[c.val, tm.getD q undef, tm.getD r undef])) ((((((((w2.setCell ⟨w.heap.size, 0, none⟩ (.int .i64 c.kind)).setCell ⟨w.heap.size, 1, none⟩ (.bool c.is)).setCell ⟨w.heap.size, 2, none⟩ (.bool c.neg)).setCell ⟨w.heap.size, 3, none⟩ (.string c.dig)).setCell ⟨w.heap.size, 4, none⟩ (.int .i64 c.exp)).setCell ⟨w.heap.size, 5, none⟩ (.string c.str)).setCell ⟨w.heap.size, 6, none⟩ (.slice c.ka c.kn c.kc)).setCell ⟨w.heap.size, 7, none⟩ (.slice c.va c.vn c.vc))) :
    bodyPost Tryz.prog F R Exit.ret { tmps := tm, defers := [] }
    ((((((((w2.setCell ⟨w.heap.size, 0, none⟩ (.int .i64 c.kind)).setCell ⟨w.heap.size, 1, none⟩ (.bool c.is)).setCell ⟨w.heap.size, 2, none⟩ (.bool c.neg)).setCell ⟨w.heap.size, 3, none⟩ (.string c.dig)).setCell ⟨w.heap.size, 4, none⟩ (.int .i64 c.exp)).setCell ⟨w.heap.size, 5, none⟩ (.string c.str)).setCell ⟨w.heap.size, 6, none⟩ (.slice c.ka c.kn c.kc)).setCell ⟨w.heap.size, 7, none⟩ (.slice c.va c.vn c.vc)) :=
  bodyPost_ret (res3 hr tm (set8 hb c) hp) rfl hR

theorem parse_fin2 {F : Func} {p q r : Tmp} (hr : F.results = #[.cell p 29, .tmp q, .tmp r]) {tm : Array Value} {a : Raw} {w' : World} {b : Nat} {R : Ending → World → Prop}
    (hb : w'.heap[b]? = some (.cells a.arr 29 (0, 0))) (hp : tm.getD p undef = .pointer (some ⟨b, 0, none⟩)) (hR : R (.returned (.tuple #[a.val, tm.getD q undef, tm.getD r undef])) w') :
    bodyPost Tryz.prog F R Exit.ret { tmps := tm, defers := [] } w' := bodyPost_ret (res3 hr tm hb hp) rfl hR
theorem drew_heap (w : World) : w.drew.heap = w.heap := rfl
theorem parse_fin_d {F : Func} {p q r : Tmp} (hr : F.results = #[.cell p 29, .tmp q, .tmp r]) {tm : Array Value} {a c : Raw} {w w2 : World} {R : Ending → World → Prop}
    (hb : w2.heap[w.heap.size]? = some (.cells a.arr 29 (0, 0))) (hp : tm.getD p undef = .pointer (some ⟨w.heap.size, 0, none⟩))
    (hR : R (.returned (.tuple #[c.val, tm.getD q undef, tm.getD r undef])) (World.drew ((((((((w2.setCell ⟨w.heap.size, 0, none⟩ (.int .i64 c.kind)).setCell ⟨w.heap.size, 1, none⟩ (.bool c.is)).setCell ⟨w.heap.size, 2, none⟩ (.bool c.neg)).setCell ⟨w.heap.size, 3, none⟩ (.string c.dig)).setCell ⟨w.heap.size, 4, none⟩ (.int .i64 c.exp)).setCell ⟨w.heap.size, 5, none⟩ (.string c.str)).setCell ⟨w.heap.size, 6, none⟩ (.slice c.ka c.kn c.kc)).setCell ⟨w.heap.size, 7, none⟩ (.slice c.va c.vn c.vc)))) :
    bodyPost Tryz.prog F R Exit.ret { tmps := tm, defers := [] } (World.drew ((((((((w2.setCell ⟨w.heap.size, 0, none⟩ (.int .i64 c.kind)).setCell ⟨w.heap.size, 1, none⟩ (.bool c.is)).setCell ⟨w.heap.size, 2, none⟩ (.bool c.neg)).setCell ⟨w.heap.size, 3, none⟩ (.string c.dig)).setCell ⟨w.heap.size, 4, none⟩ (.int .i64 c.exp)).setCell ⟨w.heap.size, 5, none⟩ (.string c.str)).setCell ⟨w.heap.size, 6, none⟩ (.slice c.ka c.kn c.kc)).setCell ⟨w.heap.size, 7, none⟩ (.slice c.va c.vn c.vc))) :=
  bodyPost_ret (res3 hr tm (b := w.heap.size) (a := c) (by rw [drew_heap]; exact set8 hb c) hp) rfl hR
theorem parse_big (s : ByteArray) (w : World) (hs : 1048576 < s.size) (hm : s.size ≤ 9223372036854775807) :
    Calls Tryz.prog 17 #[.string s] w (PPost s.data.toList w) := by
  have HF : Hid (parse s.data.toList = (.zero, 0, 4)) := by rw [Hid, parse, if_pos (by simpa using hs)]
  obtain ⟨w1, hw1⟩ : ∃ w1, w.alloc (.cells #[.int .i64 0, .bool false, .bool false, .string ⟨#[]⟩, .int .i64 0, .string ⟨#[]⟩, .slice none 0 0, .slice none 0 0] 29) = w1 := ⟨_, rfl⟩
  have ZZ : Hid (w1.heap[w.heap.size]? = some (.cells Raw.zero.arr 29 (0, 0))) := by rw [← hw1]; exact heap_alloc_new _ _
  have BB : Hid (Below w.heap.size w w1) := by rw [← hw1]; exact (Below.refl _ _).alloc (Nat.le_refl _) _
  obtain ⟨⟨z0, z1, z2, z3, z4, z5, z6, z7⟩, y0, y1, y2, y3, y4, y5, y6, y7⟩ := val_cells ZZ.out
  go_enter Tryz.func17, Tryz.ntmps17
  go_wp2_with fail
  refine parse_fin (c := Raw.zero) rfl ZZ.out rfl BB.out ?_
  unfold PPost
  rw [HF.out]
  exact ⟨_, rfl, IsV.bare _ _ 0 false false ⟨#[]⟩ 0 ⟨#[]⟩ none none 0 0, parse_below ZZ.out BB.out⟩

set_option maxHeartbeats 8000000 in
theorem parse_small (s : ByteArray) (w : World) (hs : s.size ≤ 1048576) (TZ : Utf.Sizes w) (TM : Num.Steps w) :
    Calls Tryz.prog 17 #[.string s] w (PPost s.data.toList w) := by
  have hl : s.data.toList.length = s.size := by simp
  obtain ⟨k0, hk0⟩ : ∃ k0, skip s.data.toList 0 = k0 := ⟨_, rfl⟩
  have hks : k0 ≤ s.size := by have := skip_le s.data.toList 0 (by omega); omega
  have HL : Hid (parse s.data.toList = match value s.data.toList 64 k0 with
    | .error (b, e) => (.zero, (b : Int), e)
    | .ok (v, q) => if skip s.data.toList q < s.size then (.zero, (skip s.data.toList q : Int), 14) else (v, -1, 0)) := by
    rw [Hid, parse, if_neg (by omega), hk0, hl]; rfl
  have hft := value_fits s.data.toList 64 k0 (by omega)
  have HFT := Hid.out (p := Hid _) hft
  have hbl := fun P V w h => blanks_any P s 0 V 0 0 w (by omega) (Nat.zero_le _) h
  rw [hk0] at hbl
  have HB := Hid.out (p := Hid _) hbl
  clear hk0 hbl hft
  obtain ⟨w1, hw1⟩ : ∃ w1, w.alloc (.cells #[.int .i64 0, .bool false, .bool false, .string ⟨#[]⟩, .int .i64 0, .string ⟨#[]⟩, .slice none 0 0, .slice none 0 0] 29) = w1 := ⟨_, rfl⟩
  have Z1 : Hid (w1.heap[w.heap.size]? = some (.cells Raw.zero.arr 29 (0, 0))) := by rw [← hw1]; exact heap_alloc_new _ _
  have B1 : Hid (Below w.heap.size w w1) := by rw [← hw1]; exact (Below.refl _ _).alloc (Nat.le_refl _) _
  have S1 : Hid (w1.heap.size = w.heap.size + 1) := by rw [← hw1]; simp [Hid]
  have HTZ : Hid (Utf.Sizes w) := TZ
  have HTM : Hid (Num.Steps w) := TM
  clear TZ TM
  go_enter Tryz.func17, Tryz.ntmps17
  go_wp2_with fail
  refine (ways_any w1).mono ?_
  rintro x w2 ⟨rfl, rfl⟩
  obtain ⟨vb, hvb⟩ : ∃ vb, w1.heap.size = vb := ⟨_, rfl⟩
  obtain ⟨w2, hw2⟩ : ∃ w2, w1.alloc (.cells waysArr 87) = w2 := ⟨_, rfl⟩
  have Y2 : Hid (w2.heap[vb]? = some (.cells waysArr 87 (0, 0))) := by rw [← hw2, ← hvb]; exact heap_alloc_new _ _
  have S2 : Hid (w2.heap.size = vb + 1) := by rw [← hw2, ← hvb]; simp [Hid]
  have Z2 : Hid (w2.heap[w.heap.size]? = some (.cells Raw.zero.arr 29 (0, 0))) := by rw [← hw2]; exact heap_alloc_old Z1.out
  have B2 : Hid (Below w.heap.size w w2) := by rw [← hw2]; exact B1.out.alloc B1.out.size _
  rw [hw2, hvb]
  have SV : Hid (vb = w.heap.size + 1) := by rw [← hvb]; exact S1.out
  clear hw2 hvb hw1 Z1 B1 S1
  go_wp2_with fail
  obtain ⟨P, hPP⟩ : ∃ P, w2.heap.size = P := ⟨_, rfl⟩
  obtain ⟨w3, hw3⟩ : ∃ w3, w2.alloc (.cells #[.string s, .int .i64 0, .slice (some ⟨vb, 0, none⟩) 7 7, .int .i64 0, .int .i64 0] 66) = w3 := ⟨_, rfl⟩
  have HPR : Hid (w.heap.size < P) := by have := S2.out; have := SV.out; rw [Hid]; omega
  have P3 : Hid (Psr w3 P s 0 (.slice (some ⟨vb, 0, none⟩) 7 7) 0 0) := ⟨by rw [← hw3, ← hPP]; exact heap_alloc_new _ _⟩
  have Z3 : Hid (w3.heap[w.heap.size]? = some (.cells Raw.zero.arr 29 (0, 0))) := by rw [← hw3]; exact heap_alloc_old Z2.out
  have Y3 : w3.heap[vb]? = some (.cells waysArr 87 (0, 0)) := by rw [← hw3]; exact heap_alloc_old Y2.out
  have B3 : Hid (Below w.heap.size w w3) := by rw [← hw3]; exact B2.out.alloc B2.out.size _
  have E3 : Hid (Env w3 P (.slice (some ⟨vb, 0, none⟩) 7 7)) :=
    ⟨HTZ.out.stays B3.out, HTM.out.stays B3.out, by have := HTZ.out.lt; have := HPR.out; omega, by have := HTM.out.lt; have := HPR.out; omega, vb, rfl, by have := S2.out; omega, heap_lt Y3, ways_at Y3⟩
  rw [hw3, hPP]
  clear hw3 hPP Z2 B2 Y2 Y3 S2
  refine (Calls.mono (HB.out P _ w3 P3.out) ?_)
  rintro x w4 ⟨rfl, p4, g4⟩
  have P4 := Hid.out (p := Hid _) p4
  have hbg : ∀ {wa wb : World}, Below w.heap.size w wa → wa.grownBy wb (some P) → Below w.heap.size w wb := fun B g => ⟨g.os.trans B.os, g.tape.trans B.tape, g.output.trans B.output, Nat.le_trans B.size g.size, fun k hk => (g.block k (Nat.lt_of_lt_of_le hk B.size) (by have := HPR.out; simp; omega)).trans (B.block k hk)⟩
  have hzg : ∀ {wa wb : World}, wa.heap[w.heap.size]? = some (.cells Raw.zero.arr 29 (0, 0)) → wa.grownBy wb (some P) → wb.heap[w.heap.size]? = some (.cells Raw.zero.arr 29 (0, 0)) := fun h g => (g.block _ (heap_lt h) (by have := HPR.out; simp; omega)).trans h
  have HBG : Hid (∀ {wa wb : World}, Below w.heap.size w wa → wa.grownBy wb (some P) → Below w.heap.size w wb) := @hbg
  have HZG : Hid (∀ {wa wb : World}, wa.heap[w.heap.size]? = some (.cells Raw.zero.arr 29 (0, 0)) → wa.grownBy wb (some P) → wb.heap[w.heap.size]? = some (.cells Raw.zero.arr 29 (0, 0))) := @hzg
  have E4 := Hid.out (p := Hid _) (E3.out.kept g4)
  have B4 := Hid.out (p := Hid _) (hbg B3.out g4)
  have Z4 := Hid.out (p := Hid _) (hzg Z3.out g4)
  clear p4 g4 P3 B3 Z3 E3 hbg hzg
  go_wp2_with fail
  refine (value_any P s _ (by omega) 64 1 rfl k0 w4 hks P4.out E4.out).mono ?_
  rintro x w5 ⟨a, t, rfl, hiv, g5, hat⟩
  dsimp only [Raw.val]
  have B5 := Hid.out (p := Hid _) (HBG.out B4.out g5)
  have Z5 := Hid.out (p := Hid _) (HZG.out Z4.out g5)
  have HW4 : Hid (P < w4.heap.size) := P4.out.lt
  have HIV : Hid (IsV w5 (fun j => w4.heap.size ≤ j) a t) := hiv
  have HAT : Hid (VAt P s (.slice (some ⟨vb, 0, none⟩) 7 7) w5 t (value s.data.toList 64 k0)) := hat
  have hPl : P < w5.heap.size := Nat.lt_of_lt_of_le P4.out.lt g5.size
  clear hiv g5 hat P4 B4 Z4 E4
  go_wp2_with fail
  obtain ⟨T6, hT6⟩ : ∃ T6, w5.heap.size = T6 := ⟨_, rfl⟩
  obtain ⟨w6, hw6⟩ : ∃ w6, w5.alloc (.cells #[.int .i64 a.kind, .bool a.is, .bool a.neg, .string a.dig, .int .i64 a.exp, .string a.str, .slice a.ka a.kn a.kc, .slice a.va a.vn a.vc] 29) = w6 := ⟨_, rfl⟩
  have g6 : ∀ r, w5.grownBy w6 r := fun r => by rw [← hw6]; exact World.grownBy_alloc _ _ _
  have V6 : Hid (w6.heap[T6]? = some (.cells a.arr 29 (0, 0))) := by rw [← hw6, ← hT6]; exact heap_alloc_new _ _
  have B6 := Hid.out (p := Hid _) (HBG.out B5.out (g6 _))
  have Z6 := Hid.out (p := Hid _) (HZG.out Z5.out (g6 _))
  have hPT : P < T6 := by omega
  have IV6 : Hid (IsV w6 (fun j => w4.heap.size ≤ j) a t) := HIV.out.turn (Turn.grown (g6 none) (fun b _ => by simp))
  have AT6 : Hid (VAt P s (.slice (some ⟨vb, 0, none⟩) 7 7) w6 t (value s.data.toList 64 k0)) := HAT.out.kept (g6 (some T6)) (by omega)
  rw [hw6, hT6]
  clear hw6 hT6 g6 B5 Z5 HIV HAT hPl
  have hat := AT6.out
  have HFT2 := HFT.out
  cases hv : value s.data.toList 64 k0 with
  | error y =>
    obtain ⟨b, e⟩ := y
    rw [hv] at hat HL
    obtain ⟨q, hq, hp⟩ := hat
    have he : e ≠ 0 := (HFT2.err _ hv).2
    have HF : Hid (parse s.data.toList = (.zero, (b : Int), e)) := HL
    have qe : ((e : Int) == 0) = false := by rw [beq_eq_false_iff_ne]; omega
    have qe2 : ((e : Int) != 0) = true := by rw [bne_iff_ne]; omega
    have HPp := Hid.out (p := Hid _) hp
    clear hv HFT2 hp he HL
    refine (blanks_any P s q _ b e w6 (by omega) hq HPp.out).mono ?_
    rintro x w7 ⟨rfl, p7, g7⟩
    have PE := Hid.out (p := Hid _) p7
    have ZE := Hid.out (p := Hid _) (HZG.out Z6.out g7)
    have BE := Hid.out (p := Hid _) (HBG.out B6.out g7)
    clear p7 g7
    have c3 := PE.out.c3
    have c4 := PE.out.c4
    obtain ⟨⟨z0, z1, z2, z3, z4, z5, z6, z7⟩, y0, y1, y2, y3, y4, y5, y6, y7⟩ := val_cells ZE.out
    have hRP : w.heap.size ≠ P := by have := HPR.out; omega
    have hPR : P ≠ w.heap.size := by have := HPR.out; omega
    go_wp2_with fail
    go_region_held3 (fun w' => w'.cell? ⟨P, 3, none⟩ = some (.int .i64 b) ∧ w'.cell? ⟨P, 4, none⟩ = some (.int .i64 e)) (go_keep) (fail)
    all_goals
      go_wp2_with fail
      refine parse_fin_d (c := Raw.zero) rfl ZE.out rfl ?_
      unfold PPost
      rw [HF.out]
      refine ⟨Raw.zero, ?_, IsV.bare _ _ 0 false false ⟨#[]⟩ 0 ⟨#[]⟩ none none 0 0, ?_⟩
      · rfl
      · exact Below.drew (parse_below ZE.out BE.out)
  | ok r =>
    obtain ⟨v, q⟩ := r
    rw [hv] at hat HL
    obtain ⟨rfl, hp⟩ := hat
    have hf := HFT2.ok _ hv
    simp only [hl] at hf
    obtain ⟨m, hm⟩ : ∃ m, skip s.data.toList q = m := ⟨_, rfl⟩
    have hms : m ≤ s.size := by have := skip_le s.data.toList q (by omega); omega
    have HF0 : Hid (parse s.data.toList = if m < s.size then (.zero, (m : Int), 14) else (t, -1, 0)) := by rw [Hid, HL.out, ← hm]
    have HPp := Hid.out (p := Hid _) hp
    have hbl := blanks_any P s q _ 0 0 w6 (by omega) (by omega) HPp.out
    rw [hm] at hbl
    have HBl := Hid.out (p := Hid _) hbl
    clear hv HFT2 hp HL hm hbl hf
    refine (Calls.mono HBl.out ?_)
    rintro x w7 ⟨rfl, p7, g7⟩
    have P7 := Hid.out (p := Hid _) p7
    have Z7 := Hid.out (p := Hid _) (HZG.out Z6.out g7)
    have B7 := Hid.out (p := Hid _) (HBG.out B6.out g7)
    have V7 := gb_keeps V6.out g7 hPT
    have IV7 : Hid (IsV w7 (fun j => w4.heap.size ≤ j) a t) := IV6.out.turn (Turn.grown g7 (fun j hj e => by injection e with e; have := HPR.out; have := HW4.out; have : w4.heap.size ≤ j := hj; omega))
    have c1 := P7.out.c1
    have c4 := P7.out.c4
    clear p7 g7
    by_cases hlt : m < s.size
    · have HF : Hid (parse s.data.toList = (.zero, (m : Int), 14)) := by rw [Hid, HF0.out, if_pos hlt]
      have q1 : decide ((m : Int) < (s.size : Int)) = true := by rw [decide_eq_true_eq]; omega
      go_wp2_with fail
      refine (fail_any P s m _ 0 0 m 14 w7 P7.out).mono ?_
      rintro x w8 ⟨rfl, p8, g8⟩
      have PE : Hid (Psr w8 P s m (.slice (some ⟨vb, 0, none⟩) 7 7) m 14) := p8
      have ZE := Hid.out (p := Hid _) (HZG.out Z7.out g8)
      have BE := Hid.out (p := Hid _) (HBG.out B7.out g8)
      clear p8 g8 c1 c4
      have c3 := PE.out.c3
      have c4 := PE.out.c4
      obtain ⟨⟨z0, z1, z2, z3, z4, z5, z6, z7⟩, y0, y1, y2, y3, y4, y5, y6, y7⟩ := val_cells ZE.out
      have hRP : w.heap.size ≠ P := by have := HPR.out; omega
      have hPR : P ≠ w.heap.size := by have := HPR.out; omega
      go_wp2_with fail
      go_region_held3 (fun w' => w'.cell? ⟨P, 3, none⟩ = some (.int .i64 m) ∧ w'.cell? ⟨P, 4, none⟩ = some (.int .i64 14)) (go_keep) (fail)
      all_goals
        go_wp2_with fail
        refine parse_fin_d (c := Raw.zero) rfl ZE.out rfl ?_
        unfold PPost
        rw [HF.out]
        refine ⟨Raw.zero, ?_, IsV.bare _ _ 0 false false ⟨#[]⟩ 0 ⟨#[]⟩ none none 0 0, ?_⟩
        · rfl
        · exact Below.drew (parse_below ZE.out BE.out)
    · have HF : Hid (parse s.data.toList = (t, -1, 0)) := by rw [Hid, HF0.out, if_neg hlt]
      have q1 : decide ((m : Int) < (s.size : Int)) = false := by rw [decide_eq_false_iff_not]; omega
      obtain ⟨⟨z0, z1, z2, z3, z4, z5, z6, z7⟩, y0, y1, y2, y3, y4, y5, y6, y7⟩ := val_cells Z7.out
      obtain ⟨⟨x0, x1, x2, x3, x4, x5, x6, x7⟩, _⟩ := val_cells V7.out
      go_wp2_with fail
      refine parse_fin (c := a) (w2 := w7) rfl Z7.out rfl B7.out ?_
      unfold PPost
      rw [HF.out]
      refine ⟨_, rfl, IV7.out.turn ⟨(gb8 w7 w.heap.size _ _ _ _ _ _ _ _).size, fun j hj hlt => ⟨(gb8 w7 w.heap.size _ _ _ _ _ _ _ _).block j hlt (by have := HPR.out; have := HW4.out; have : w4.heap.size ≤ j := hj; simp; omega), ?_⟩⟩, parse_below (w2 := w7) Z7.out B7.out⟩
      have := HW4.out
      have := HPR.out
      have : w4.heap.size ≤ j := hj
      show w.heap.size ≤ j
      omega
end Go.Proofs.YtehffmcfmdjknaaGreatDoor.Jdec
/- tabulariumref08.Same of nothing; tabulariumlaw09.wakes. -/
namespace Go.Proofs.YtehffmcfmdjknaaGreatDoor.Jdec
open Go.RowKit Go.Proofs.YtehffmcfmdjknaaGreatDoor.Strs
set_option linter.unusedVariables false
set_option linter.unusedSimpArgs false
set_option maxRecDepth 100000

@[go_sem] theorem eqNum (a c : Bool) (b d : Int) (s t : ByteArray) (w : World) : (Op.equalIn 10000 25 (.agg #[.bool a, .string s, .int .i64 b]) (.agg #[.bool c, .string t, .int .i64 d])).run Tryz.prog w = .ok (a == c && (s.toList == t.toList && b == d)) w := by
  have u3 := Tryz.underlying3
  have u9 := Tryz.underlying9
  have u4 := Tryz.underlying4
  have hS : Tryz.prog.underlying 25 = some (.struct (Tryz.prog.fieldsOf 25)) := by kernel_rfl
  have hp : Tryz.prog.stoodInHeld 25 = false := by kernel_rfl
  rw [show (10000 : Nat) = 9999 + 1 from rfl, run_equalIn_agg w 9999 25 _ _ hS hp]
  simp only [Program.fieldsOf, Tryz.underlying25]
  go_simp
  by_cases h1 : a = c <;> by_cases h2 : s.toList = t.toList <;> by_cases h3 : b = d <;> simp [h1, h2, h3]
theorem texts_nil (a a' : Option Addr) (c c' : Nat) (w : World) :
    Calls Tryz.prog 21 #[.slice a 0 c, .slice a' 0 c'] w fun e w' => e = .returned (.bool true) ∧ w = w' := by
  go_enter Tryz.func21, Tryz.ntmps21
  go_wp2_with fail
  go_loop [5] (fun p => p = .int .i64 0) (fun p => 0)
  case atStart => rfl
  case round =>
    obtain rfl := hrel
    go_wp2_with fail
    go_ret
    exact ⟨rfl, rfl⟩
/-- Two values that are nothing are the same. -/
theorem same_nil (ka va ka' va' : Option Addr) (kc vc kc' vc' : Nat) (w : World) :
    Calls Tryz.prog 12 #[(Raw.mk 0 false false ⟨#[]⟩ 0 ⟨#[]⟩ ka 0 kc va 0 vc).val, (Raw.mk 0 false false ⟨#[]⟩ 0 ⟨#[]⟩ ka' 0 kc' va' 0 vc').val] w fun e w' => e = .returned (.bool true) ∧ Below w.heap.size w w' := by
  unfold Raw.val
  go_enter Tryz.func12, Tryz.ntmps12
  go_wp2_with fail
  refine (texts_nil _ _ _ _ _).mono ?_
  rintro e w' ⟨rfl, rfl⟩
  go_wp2_with fail
  go_loop [5] (fun p => p = .int .i64 0) (fun p => 0)
  case atStart => rfl
  case round =>
    obtain rfl := hrel
    go_wp2_with fail
    go_ret
    exact ⟨rfl, ((Below.refl _ _).alloc (Nat.le_refl _) _).alloc (by simp) _⟩
theorem zero_words {w : World} {A : Nat → Prop} {a : Raw} (h : IsV w A a JV.zero) : ∃ ka va kc vc, a = Raw.mk 0 false false ⟨#[]⟩ 0 ⟨#[]⟩ ka 0 kc va 0 vc := by
  generalize hz : JV.zero = z at h
  cases h with
  | mk _ keys kids f h1 h2 h3 h4 h5 =>
    unfold JV.zero at hz
    injection hz with e1 e2 e3 e4 e5 e6 e7 e8
    subst e7 e8
    obtain ⟨kd, is, ng, dg, ex, st, ka, kn, kc, va, vn, vc⟩ := a
    simp only [List.length_nil] at h1 h2
    simp only at e1 e2 e3 e4 e5 e6
    subst e1 e2 e3 e4 e5 e6 h1 h2
    exact ⟨_, _, _, _, rfl⟩
def kindOf : JV → Int
  | .mk k _ _ _ _ _ _ _ => k
theorem kind_words {w : World} {A : Nat → Prop} {a : Raw} {t : JV} (h : IsV w A a t) : a.kind = kindOf t := by
  cases h; rfl
theorem wake1 : kindOf (parse [123, 34, 97, 34, 58, 91, 49, 44, 50, 93, 125]).1 = 6 ∧ (parse [123, 34, 97, 34, 58, 91, 49, 44, 50, 93, 125]).2 = (-1, 0) := by decide +kernel
theorem wake2 : (parse [91, 49, 44, 93]).2 = (3, 3) := by decide +kernel
theorem wake3 : (parse [123, 34, 97, 34, 58, 49, 44, 34, 97, 34, 58, 50, 125]).2 = (7, 6) := by decide +kernel
/-- The tables that Parse leans on. -/
structure JTabs (w : World) : Prop where
  z : Utf.Sizes w
  m : Num.Steps w
theorem JTabs.stays {w w' : World} (T : JTabs w) (h : Below w.heap.size w w') : JTabs w' := ⟨T.z.stays h, T.m.stays h⟩
theorem parse_any (s : ByteArray) (w : World) (hm : s.size ≤ 9223372036854775807) (T : JTabs w) :
    Calls Tryz.prog 17 #[.string s] w (PPost s.data.toList w) := by
  by_cases h : 1048576 < s.size
  · exact parse_big s w h hm
  · exact parse_small s w (by omega) T.z T.m
theorem parse_says (s : ByteArray) (w : World) (at_ : Int) (e : Nat) (hm : s.size ≤ 9223372036854775807) (T : JTabs w) (h : (parse s.data.toList).2 = (at_, e)) :
    Calls Tryz.prog 17 #[.string s] w fun x w' => ∃ a : Raw, x = .returned (.tuple #[a.val, .int .i64 at_, .int .i64 e]) ∧ IsV w' (fun j => w.heap.size ≤ j) a (parse s.data.toList).1 ∧ Below w.heap.size w w' :=
  (parse_any s w hm T).mono fun x w' ⟨a, h1, h2, h3⟩ => ⟨a, by rw [h1, h], h2, h3⟩
end Go.Proofs.YtehffmcfmdjknaaGreatDoor.Jdec
