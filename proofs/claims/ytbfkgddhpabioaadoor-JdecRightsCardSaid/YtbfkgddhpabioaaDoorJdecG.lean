/- jdec's parser: value. -/
import Derived.Test.YtbfkgddhpabioaaDoorJdecD
import Derived.Laws.EntriesVeiled
namespace Go.Proofs.YtbfkgddhpabioaaDoor.Jdec
open Go.RowKit Go.Proofs.YtbfkgddhpabioaaDoor.Strs
set_option linter.unusedVariables false
set_option linter.unusedSimpArgs false
set_option maxRecDepth 100000

set_option maxRecDepth 1000000 in
theorem way_zN : ∀ i : Fin 7, ∀ n : Fin 256, decide (zidx ((wayS i.val).data.toList.findIdx? (· == UInt8.ofNat n.val)) < 0) = decide (way (UInt8.ofNat n.val) ≠ i.val + 1) := by decide +kernel
theorem way_z (i : Nat) (hi : i < 7) (c : UInt8) : decide (zidx ((wayS i).data.toList.findIdx? (· == c)) < 0) = decide (way c ≠ i + 1) := by
  have := way_zN ⟨i, hi⟩ ⟨c.toNat, UInt8.toNat_lt c⟩
  simpa using this
theorem way_le (c : UInt8) : way c ≤ 7 := by unfold way; (repeat' split) <;> omega
theorem way_call (P : Nat) (s : ByteArray) (k : Nat) (V : Value) (dp d i : Nat) (c : UInt8) (W : World) (hs : s.size ≤ 2147483648) (hdp : dp ≤ 64) (hi : i < 7) (hc : s.data.toList[k]? = some c) (hw : way c = i + 1)
    (IH : ValC P s V ((dp : Int) + 1) (value s.data.toList d)) (h : Psr W P s k V 0 0) (E : Env W P V) :
    Calls Tryd.prog (wayF i) #[.pointer (some ⟨P, 0, none⟩), .int .i64 dp] W (VPost P s V (value s.data.toList (d + 1) k) W) := by
  have hk : k < s.size := by have := get_lt hc; simpa using this
  have hv : ∀ r, (match i + 1 with
      | 0 => .error (k, 3)
      | 1 => text s.data.toList k
      | 2 => number s.data.toList k
      | 3 => object s.data.toList (value s.data.toList d) k
      | 4 => list s.data.toList (value s.data.toList d) k
      | 5 => wordV s.data.toList [116, 114, 117, 101] (plain 2 true) k
      | 6 => wordV s.data.toList [102, 97, 108, 115, 101] (plain 2 false) k
      | _ => wordV s.data.toList [110, 117, 108, 108] (plain 1 false) k) = r → value s.data.toList (d + 1) k = r := by
    intro r hr
    rw [value, hc]
    simp only
    rw [hw]
    exact hr
  rcases (show i = 0 ∨ i = 1 ∨ i = 2 ∨ i = 3 ∨ i = 4 ∨ i = 5 ∨ i = 6 by omega) with rfl | rfl | rfl | rfl | rfl | rfl | rfl
  · rw [hv _ rfl]; exact text_any P s k V dp W (by omega) (by omega) h E.z
  · rw [hv _ rfl]; exact number_any P s k V dp W hs hk h E.m
  · rw [hv _ rfl]; exact object_any P s k V dp _ W hs hk hdp h E IH (value_fits _ d)
  · rw [hv _ rfl]; exact list_any P s k V dp _ W hs hk hdp h E IH (value_fits _ d)
  · rw [hv _ rfl]; exact yes_any P s k V dp W (by omega) (by omega) h
  · rw [hv _ rfl]; exact no_any P s k V dp W (by omega) (by omega) h
  · rw [hv _ rfl]; exact null_any P s k V dp W (by omega) (by omega) h

set_option maxHeartbeats 4000000 in
theorem value_end (P : Nat) (s : ByteArray) (k : Nat) (V : Value) (dp : Nat) (w : World) (hs : s.size ≤ 2147483648) (hk : s.size ≤ k) (hk2 : k ≤ s.size) (h : Psr w P s k V 0 0) :
    Calls Tryd.prog 32 #[.pointer (some ⟨P, 0, none⟩), .int .i64 dp] w (VPost P s V (.error (k, 2)) w) := by
  have HP : Hid (P < w.heap.size) := h.lt
  have hh : here s.data.toList k = (k, 2) := by unfold here; rw [if_pos (by simpa using hk)]
  have HH := Hid.out (p := Hid _) hh; clear hh
  obtain ⟨w1, hw1, P1, G1, Z1, B1, S1⟩ := res_new w P s k V 0 0 h
  clear h
  have c0 := P1.out.c0
  have c1 := P1.out.c1
  have c4 := P1.out.c4
  have q2 : decide ((k : Int) < (s.size : Int)) = false := by rw [decide_eq_false_iff_not]; omega
  have q3 : decide (k < s.size) = false := by rw [decide_eq_false_iff_not]; omega
  go_enter Tryd.func32, Tryd.ntmps32
  go_wp2_with fail
  go_quiet (fail)
  have P2 : Hid (Psr (w1.drewN nq) P s k V 0 0) := P1.out.kept (gb_drew _ _ none) (by simp)
  have G2 : Hid (w1.grownBy (w1.drewN nq) (some P)) := gb_drew _ _ _
  clear c0 c1 c4 hw1
  generalize w1.drewN nq = w2 at *
  go_wp2_with fail
  refine (wrong_any P s k V 0 0 w2 P2.out).mono ?_
  rw [HH.out]
  rintro x w4 ⟨rfl, h4, g4⟩
  have H4 : Hid (Psr w4 P s k V k 2) := h4
  have G4 := Hid.out (p := Hid _) (G2.out.trans g4)
  have Z4 := res_kept Z1.out G4.out HP.out
  have ZZ := Hid.out (p := Hid _) Z4
  obtain ⟨⟨z0, z1, z2, z3, z4, z5, z6, z7⟩, y0, y1, y2, y3, y4, y5, y6, y7⟩ := val_cells Z4
  clear g4 h4 Z4
  go_wp2_with fail
  refine bare_fin rfl ZZ.out rfl (G1.out.trans G4.out) HP.out 0 false false ⟨#[]⟩ 0 ⟨#[]⟩ _ ?_
  exact ⟨k, hk2, H4.out⟩

/-- A value from elsewhere is told on. -/
theorem pass_fin {F : Func} {p : Tmp} (hr : F.results = #[.cell p 29]) {tm : Array Value} {a : Raw} {P : Nat} {s : ByteArray} {V : Value} {w wc w2 : World}
    (hb : w2.heap[w.heap.size]? = some (.cells a.arr 29 (0, 0))) (hp : tm.getD p undef = .pointer (some ⟨w.heap.size, 0, none⟩)) (g : w.grownBy w2 (some P)) (hP : P < w.heap.size) (hc : w.heap.size + 1 ≤ wc.heap.size)
    (c : Raw) (t : JV) (hi : IsV w2 (fun j => wc.heap.size ≤ j) c t) (r : Except Er (JV × Nat)) (hv : VAt P s V w2 t r) :
    bodyPost Tryd.prog F (VPost P s V r w) Exit.ret { tmps := tm, defers := [] }
    ((((((((w2.setCell ⟨w.heap.size, 0, none⟩ (.int .i64 c.kind)).setCell ⟨w.heap.size, 1, none⟩ (.bool c.is)).setCell ⟨w.heap.size, 2, none⟩ (.bool c.neg)).setCell ⟨w.heap.size, 3, none⟩ (.string c.dig)).setCell ⟨w.heap.size, 4, none⟩ (.int .i64 c.exp)).setCell ⟨w.heap.size, 5, none⟩ (.string c.str)).setCell ⟨w.heap.size, 6, none⟩ (.slice c.ka c.kn c.kc)).setCell ⟨w.heap.size, 7, none⟩ (.slice c.va c.vn c.vc)) :=
  full_fin hr hb hp g hP c t (hi.turn (Turn.mono _ (fun j hj _ => Nat.le_trans hc hj))) r hv

set_option maxHeartbeats 8000000 in
theorem value_main (P : Nat) (s : ByteArray) (k : Nat) (V : Value) (dp d : Nat) (w : World) (hs : s.size ≤ 2147483648) (hdd : dp + d = 65) (hk : k < s.size) (h : Psr w P s k V 0 0) (E : Env w P V)
    (IH : ∀ d', d = d' + 1 → ValC P s V ((dp : Int) + 1) (value s.data.toList d')) :
    Calls Tryd.prog 32 #[.pointer (some ⟨P, 0, none⟩), .int .i64 dp] w (VPost P s V (value s.data.toList d k) w) := by
  have HP : Hid (P < w.heap.size) := h.lt
  have HIH : Hid (∀ d', d = d' + 1 → ValC P s V ((dp : Int) + 1) (value s.data.toList d')) := IH
  clear IH
  have hget := byte_get s k hk
  have HG := Hid.out (p := Hid _) hget
  obtain ⟨w1, hw1, P1, G1, Z1, B1, S1⟩ := res_new w P s k V 0 0 h
  have E1 : Hid (Env w1 P V) := E.kept G1.out
  clear h hget E
  have c0 := P1.out.c0
  have c1 := P1.out.c1
  have c4 := P1.out.c4
  have q2 : decide ((k : Int) < (s.size : Int)) = true := by rw [decide_eq_true_eq]; omega
  have q3 : decide (k < s.size) = true := by rw [decide_eq_true_eq]; omega
  go_enter Tryd.func32, Tryd.ntmps32
  go_wp2_with fail
  go_quiet (fail)
  have P2 : Hid (Psr (w1.drewN nq) P s k V 0 0) := P1.out.kept (gb_drew _ _ none) (by simp)
  have G2 : Hid (w1.grownBy (w1.drewN nq) (some P)) := gb_drew _ _ _
  have E2 : Hid (Env (w1.drewN nq) P V) := E1.out.kept (gb_drew _ _ _)
  clear c0 c1 c4 hw1
  generalize w1.drewN nq = w2 at *
  obtain ⟨vb, hW⟩ := E2.out.v
  obtain rfl := hW.form
  have c2 := P2.out.c2
  have HW := Hid.out (p := Hid _) hW
  clear hW
  go_wp2_with fail
  go_loopw [28] (fun p28 wr => ∃ i : Nat, i ≤ 7 ∧ p28 = .int .i64 i ∧ Hid (∀ j, j < i → way s[k] ≠ j + 1) ∧ Hid (Psr wr P s k (.slice (some ⟨vb, 0, none⟩) 7 7) 0 0) ∧ Hid (w1.grownBy wr (some P)) ∧ Hid (Env wr P (.slice (some ⟨vb, 0, none⟩) 7 7)) ∧ Hid (∀ i, i < 7 → wr.cell? ⟨vb, i * 2, none⟩ = some (.string (wayS i)) ∧ wr.cell? ⟨vb, i * 2 + 1, none⟩ = some (.func (.func (wayF i)) #[] #[])) ∧ Hid (vb < wr.heap.size)) (fun p28 _ => 7 - (intOf p28).toNat)
  case atStart => exact ⟨0, Nat.zero_le _, rfl, fun j hj => by omega, P2.out, G2.out, E2.out, HW.out.at_, HW.out.lt⟩
  case round =>
    obtain ⟨i, hi, rfl, hno, hP, hG, hE, hA, hlt⟩ := hrel
    have c0 := hP.out.c0
    have c1 := hP.out.c1
    have hPl : P < wr.heap.size := hP.out.lt
    by_cases h7 : i < 7
    · obtain ⟨x0, x1⟩ := hA.out i h7
      have hz := way_z i h7 s[k]
      have HCl : ∀ (d' : Nat) (W : World), ValC P s (.slice (some ⟨vb, 0, none⟩) 7 7) ((dp : Int) + 1) (value s.data.toList d') → Psr W P s k (.slice (some ⟨vb, 0, none⟩) 7 7) 0 0 → Env W P (.slice (some ⟨vb, 0, none⟩) 7 7) → dp ≤ 64 → way s[k] = i + 1 →
          Calls Tryd.prog (wayF i) #[.pointer (some ⟨P, 0, none⟩), .int .i64 dp] W (VPost P s (.slice (some ⟨vb, 0, none⟩) 7 7) (value s.data.toList (d' + 1) k) W) := fun d' W IH h E hdp hw => way_call P s k (.slice (some ⟨vb, 0, none⟩) 7 7) dp d' i s[k] W hs hdp h7 HG.out hw IH h E
      have HC := Hid.out (p := Hid _) HCl; clear HCl
      generalize hf : wayF i = f at *
      have HFF := Hid.out (p := Hid _) hf; clear hf
      generalize wayS i = fs at *
      obtain ⟨z, hzz⟩ : ∃ z, z = zidx (fs.data.toList.findIdx? (· == s[k])) := ⟨_, rfl⟩
      rw [← hzz] at hz
      have HHZ : Hid (decide (z < 0) = decide (way s[k] ≠ i + 1)) := hz
      clear hz
      have HZ := Hid.out (p := Hid _) hzz; clear hzz
      have hvl : vb < wr.heap.size := hlt.out
      have hix : ∀ n, Calls Tryd.prog 45 #[.string fs, .int .u8 s[k].toNat] ((wr.alloc (.cells #[.string fs, .func (.func f) #[] #[]] 67)).drewN n) fun e w'' => e = .returned (.int .i64 z) ∧ ∃ m, w'' = (wr.alloc (.cells #[.string fs, .func (.func f) #[] #[]] 67)).drewN m := fun n =>
        Calls.quiet_of_same ((indexByte_any fs s[k].toNat ((wr.alloc (.cells #[.string fs, .func (.func f) #[] #[]] 67)).drewN n) (UInt8.toNat_lt _)).mono fun e w' h => ⟨by rw [h.1, HZ.out]; simp, h.2.symm⟩)
      go_wp2_with fail
      go_quiet ((go_at_call 45; exact hix _))
      obtain ⟨w3, hw3⟩ : ∃ w3, (wr.alloc (.cells #[.string fs, .func (.func f) #[] #[]] 67)).drewN nq = w3 := ⟨_, rfl⟩
      have g3 : wr.grownBy w3 (some P) := by rw [← hw3]; exact (World.grownBy_alloc _ _ _).trans (gb_drew _ _ _)
      have g3n : wr.grownBy w3 none := by rw [← hw3]; exact (World.grownBy_alloc _ _ _).trans (gb_drew _ _ _)
      have P3 : Hid (Psr w3 P s k (.slice (some ⟨vb, 0, none⟩) 7 7) 0 0) := hP.out.kept g3n (by simp)
      have G3 : Hid (w1.grownBy w3 (some P)) := hG.out.trans g3
      have E3 : Hid (Env w3 P (.slice (some ⟨vb, 0, none⟩) 7 7)) := hE.out.kept g3
      have hvb : w3.heap[vb]? = wr.heap[vb]? := g3n.block vb hvl (by simp)
      have A3 : Hid (∀ i, i < 7 → w3.cell? ⟨vb, i * 2, none⟩ = some (.string (wayS i)) ∧ w3.cell? ⟨vb, i * 2 + 1, none⟩ = some (.func (.func (wayF i)) #[] #[])) := fun i hi => ⟨(World.cell?_of_block hvb).trans (hA.out i hi).1, (World.cell?_of_block hvb).trans (hA.out i hi).2⟩
      have L3 : Hid (vb < w3.heap.size) := Nat.lt_of_lt_of_le hvl g3.size
      have F3 : w3.cell? ⟨wr.heap.size, 1, none⟩ = some (.func (.func f) #[] #[]) := by
        rw [← hw3]
        exact cell_of (heap_alloc_new wr (.cells #[.string fs, .func (.func f) #[] #[]] 67)) 1
      rw [hw3]
      clear hw3 g3 g3n hvb hix c0 c1 hA hE hG hP hlt x0 x1
      by_cases hw : way s[k] = i + 1
      · have hz2 : decide (z < 0) = false := by rw [HHZ.out, decide_eq_false_iff_not]; exact fun h => h hw
        have hz3 : 0 ≤ z := by rw [decide_eq_false_iff_not] at hz2; omega
        have c1 := P3.out.c1
        by_cases hd : d = 0
        · subst hd
          have q64 : decide ((64 : Int) < (dp : Int)) = true := by rw [decide_eq_true_eq]; omega
          have q65 : decide (64 < dp) = true := by rw [decide_eq_true_eq]; omega
          have HF : Hid (value s.data.toList 0 k = .error (k, 5)) := by rw [Hid, value, HG.out]; simp only; rw [hw, if_neg (by omega)]
          clear hw
          go_wp2_with fail
          refine (fail_any P s k _ 0 0 k 5 w3 P3.out).mono ?_
          rintro x w4 ⟨rfl, h4, g4⟩
          have H4 : Hid (Psr w4 P s k (.slice (some ⟨vb, 0, none⟩) 7 7) k 5) := h4
          have G4 := Hid.out (p := Hid _) (G3.out.trans g4)
          have ZZ := Hid.out (p := Hid _) (res_kept Z1.out G4.out HP.out)
          obtain ⟨⟨z0, z1, z2, z3, z4, z5, z6, z7⟩, y0, y1, y2, y3, y4, y5, y6, y7⟩ := val_cells ZZ.out
          clear g4 h4
          go_wp2_with fail
          refine bare_fin rfl ZZ.out rfl (G1.out.trans G4.out) HP.out 0 false false ⟨#[]⟩ 0 ⟨#[]⟩ _ ?_
          rw [HF.out]
          exact ⟨k, by omega, H4.out⟩
        · obtain ⟨d', rfl⟩ : ∃ d', d = d' + 1 := ⟨d - 1, by omega⟩
          have q64 : decide ((64 : Int) < (dp : Int)) = false := by rw [decide_eq_false_iff_not]; omega
          have q65 : decide (64 < dp) = false := by rw [decide_eq_false_iff_not]; omega
          have hcall := HC.out d' w3 (HIH.out d' rfl) P3.out E3.out (by omega) hw
          have HCA := Hid.out (p := Hid _) hcall
          have hff := HFF.out
          have h7c : i = 0 ∨ i = 1 ∨ i = 2 ∨ i = 3 ∨ i = 4 ∨ i = 5 ∨ i = 6 := by omega
          clear hw hcall hd HC HFF
          rcases h7c with rfl | rfl | rfl | rfl | rfl | rfl | rfl
          all_goals
            simp only [wayF] at hff
            subst hff
            go_wp2_with fail
            refine (Calls.mono HCA.out ?_)
            rintro x w4 ⟨a, t, rfl, hiv, g4, hat⟩
            dsimp only [Raw.val]
            have G4 := Hid.out (p := Hid _) (G3.out.trans g4)
            have ZZ := Hid.out (p := Hid _) (res_kept Z1.out G4.out HP.out)
            obtain ⟨⟨z0, z1, z2, z3, z4, z5, z6, z7⟩, y0, y1, y2, y3, y4, y5, y6, y7⟩ := val_cells ZZ.out
            have HIV := Hid.out (p := Hid _) hiv
            have HAT : Hid (VAt P s (.slice (some ⟨vb, 0, none⟩) 7 7) w4 t (value s.data.toList (d' + 1) k)) := hat
            have HSZ : Hid (w.heap.size + 1 ≤ w3.heap.size) := by have := G3.out.size; have := S1.out; rw [Hid]; omega
            clear g4 hiv hat
            go_wp2_with fail
            exact pass_fin rfl ZZ.out rfl (G1.out.trans G4.out) HP.out HSZ.out a t HIV.out _ HAT.out
      · have hz2 : decide (z < 0) = true := by rw [HHZ.out, decide_eq_true_eq]; exact hw
        have hz3 : z < 0 := by rw [decide_eq_true_eq] at hz2; exact hz2
        have HN : Hid (∀ j, j < i + 1 → way s[k] ≠ j + 1) := by
          intro j hj
          by_cases e : j = i
          · subst e; exact hw
          · exact hno.out j (by omega)
        clear hw
        go_wp2_with fail
        go_roundw
        case rel => exact ⟨i + 1, by omega, by go_num, HN.out, P3.out, G3.out, E3.out, A3.out, L3.out⟩
        case measure => simp [intOf]; omega
    · have h0 : way s[k] = 0 := by
        have h1 := way_le s[k]
        rcases Nat.eq_zero_or_pos (way s[k]) with e | e
        · exact e
        · exact absurd (by omega) (hno.out (way s[k] - 1) (by omega))
      have HF : Hid (value s.data.toList d k = .error (k, 3)) := by
        cases d with
        | zero => rw [Hid, value, HG.out]; simp only; rw [if_pos h0]
        | succ d => rw [Hid, value, HG.out]; simp only; rw [h0]; rfl
      have hh : here s.data.toList k = (k, 3) := by unfold here; rw [if_neg (by simp; omega)]
      have HH := Hid.out (p := Hid _) hh
      clear h0 hh
      go_wp2_with fail
      refine (wrong_any P s k _ 0 0 wr hP.out).mono ?_
      rw [HH.out]
      rintro x w4 ⟨rfl, h4, g4⟩
      have H4 : Hid (Psr w4 P s k (.slice (some ⟨vb, 0, none⟩) 7 7) k 3) := h4
      have G4 := Hid.out (p := Hid _) (hG.out.trans g4)
      have ZZ := Hid.out (p := Hid _) (res_kept Z1.out G4.out HP.out)
      obtain ⟨⟨z0, z1, z2, z3, z4, z5, z6, z7⟩, y0, y1, y2, y3, y4, y5, y6, y7⟩ := val_cells ZZ.out
      clear g4 h4
      go_wp2_with fail
      refine bare_fin rfl ZZ.out rfl (G1.out.trans G4.out) HP.out 0 false false ⟨#[]⟩ 0 ⟨#[]⟩ _ ?_
      rw [HF.out]
      exact ⟨k, by omega, H4.out⟩

/-- A value is read as the plain function says, so deep as it may be. -/
theorem value_any (P : Nat) (s : ByteArray) (V : Value) (hs : s.size ≤ 2147483648) : ∀ (d dp : Nat), dp + d = 65 → ValC P s V dp (value s.data.toList d)
  | d, dp, hdd, k, w, hk, h, E => by
    by_cases hlt : k < s.size
    · refine value_main P s k V dp d w hs hdd hlt h E ?_
      intro d' hd
      have := value_any P s V hs d' (dp + 1) (by omega)
      rwa [Int.natCast_add] at this
    · have hv : value s.data.toList d k = .error (k, 2) := by
        have hn : s.data.toList[k]? = none := List.getElem?_eq_none (by simp; omega)
        cases d with
        | zero => rw [value, hn]
        | succ d => rw [value, hn]
      rw [hv]
      exact value_end P s k V dp w hs (by omega) hk h
end Go.Proofs.YtbfkgddhpabioaaDoor.Jdec
