/- tabulariumref09: words. -/
import Derived.Test.YtehffmcfmdjknaaGreatDoorCutA
import Derived.Test.YtehffmcfmdjknaaGreatDoorRefQ
import Derived.Test.YtehffmcfmdjknaaGreatDoorNumE
import Derived.Test.YtehffmcfmdjknaaGreatDoorRefPS
import Derived.Deep.RegionLaw
namespace Go.Proofs.YtehffmcfmdjknaaGreatDoor.Jdec
open Go.RowKit Go.Proofs.YtehffmcfmdjknaaGreatDoor.Strs
set_option linter.unusedVariables false
set_option linter.unusedSimpArgs false
set_option maxRecDepth 100000

/-- What a reader of values tells. -/
def GAt (r : Except Er (JV × Nat)) (a : Raw) (en at_ e : Int) : Prop :=
  match r with
  | .ok x => e = 0 ∧ en = x.2
  | .error y => e = y.2 ∧ at_ = y.1
theorem GAt.bad {r : Except Er (JV × Nat)} {y : Er} {p n : Nat} {a : Raw} {en at_ e : Int} (hr : r = .error y) (h1 : y.1 = p) (h2 : y.2 = n) (h : BadR p n a en at_ e) : GAt r a en at_ e := by
  subst h1 h2
  rw [hr]; exact ⟨h.2, h.1⟩
theorem box_new (w : World) (r : Raw) : ∃ w1, w.alloc (.cells #[.int .i64 r.kind, .bool r.is, .bool r.neg, .string r.dig, .int .i64 r.exp, .string r.str, .slice r.ka r.kn r.kc, .slice r.va r.vn r.vc] 29) = w1 ∧
    Hid (w1.heap[w.heap.size]? = some (.cells r.arr 29 (0, 0))) ∧ Hid (Below w.heap.size w w1) ∧ Hid (w1.heap.size = w.heap.size + 1) :=
  ⟨_, rfl, heap_alloc_new _ _, (Below.refl _ _).alloc (Nat.le_refl _) _, by simp [Hid]⟩
theorem kept_of {w w' : World} {B b : Nat} {x : Obj} (h : w.heap[b]? = some x) (g : Below B w w') (hb : b < B) : Hid (w'.heap[b]? = some x) := (g.block b hb).trans h
theorem kept_z {w w' : World} {b : Nat} {x : Obj} (h : w.heap[b]? = some x) (g : Below w.heap.size w w') : Hid (w'.heap[b]? = some x) := (g.block b (heap_lt h)).trans h

set_option maxHeartbeats 2000000 in
theorem rword_any (s d : ByteArray) (k : Nat) (v : Raw) (t : JV) (w : World) (hs : s.size ≤ 1099511627776) (hk : k ≤ s.size) (hd : d.size ≤ 1000) :
    Calls Tryz.prog 25 #[.string s, .int .i64 k, .string d, v.val] w (GPost (GAt (wordV s.data.toList d.data.toList t k)) w) := by
  unfold Raw.val
  have hl : s.data.toList.length = s.size := by simp
  have HL := Hid.out (p := Hid _) hl; clear hl
  obtain ⟨w0, hw0, X0, B0, S0⟩ := box_new w v
  obtain ⟨w1, hw1, R1, G1, S1⟩ := got_new w0
  obtain ⟨c, hc⟩ : ∃ c, w0.heap.size = c := ⟨_, rfl⟩
  have hcw : Hid (c = w.heap.size + 1) := by rw [← hc]; exact S0.out
  have B1 : Hid (Below w.heap.size w w1) := B0.out.trans (G1.out.mono B0.out.size)
  have X1 := kept_z X0.out G1.out
  rw [hc] at R1
  go_enter Tryz.func25, Tryz.ntmps25
  go_wp2_with fail
  clear hw0 hw1 B0 G1 X0 S0 S1 hc
  go_loopw [9] (fun p9 wr => ∃ i : Nat, i ≤ d.size ∧ p9 = .int .i64 i ∧ k + i ≤ s.size ∧ Hid (wr.heap[w.heap.size]? = some (.cells v.arr 29 (0, 0))) ∧ Hid (wr.heap[c]? = some (.cells (gArr Raw.zero 0 0 0) 31 (0, 0))) ∧ Hid (Below w.heap.size w wr) ∧ Hid (word s.data.toList d.data.toList k = word s.data.toList (d.data.toList.drop i) (k + i))) (fun p9 _ => d.size - (intOf p9).toNat)
  case atStart => exact ⟨0, Nat.zero_le _, rfl, hk, X1.out, R1.out, B1.out, rfl⟩
  case round =>
    obtain ⟨i, hi, rfl, hq, hX, hR, hB, hS⟩ := hrel
    obtain ⟨q, hkq⟩ : ∃ q, k + i = q := ⟨_, rfl⟩
    rw [hkq] at hS
    have hqi : (k : Int) + (i : Int) = (q : Int) := by omega
    have hqs : q ≤ s.size := by omega
    have hqw : IntKind.i64.wrap (q : Int) = (q : Int) := IntWalk.i64_in _ (by omega)
    have hqn := Hid.out (p := Hid _) hkq
    clear hkq
    by_cases hlt : i < d.size
    · have hcons : d.data.toList.drop i = d[i] :: d.data.toList.drop (i + 1) := Num.drop_byte d i hlt
      have HW : Hid (word s.data.toList d.data.toList k = if s.data.toList[q]? = some d[i] then word s.data.toList (d.data.toList.drop (i + 1)) (q + 1) else .error (here s.data.toList q)) := by
        rw [Hid, hS.out, hcons, word]
      clear hcons
      by_cases hm : s.data.toList[q]? = some d[i]
      · have hqlt : q < s.size := by have := get_lt hm; rw [HL.out] at this; exact this
        have hbe : ((s[q].toNat : Int) != (d[i].toNat : Int)) = false := by
          rw [byte_get s q hqlt] at hm; injection hm with hm; rw [hm]; simp
        have q2 : decide ((s.size : Int) ≤ (q : Int)) = false := by rw [decide_eq_false_iff_not]; omega
        have HF : Hid (word s.data.toList d.data.toList k = word s.data.toList (d.data.toList.drop (i + 1)) (k + (i + 1))) := by rw [Hid, HW.out, if_pos hm, ← hqn.out]; rfl
        have hm' := Hid.out (p := Hid _) hm
        clear hm
        have hX2 := fun n => kept_z hX.out (below_drewN _ wr n)
        have hR2 := fun n => kept_z hR.out (below_drewN _ wr n)
        have hB2 := fun n => Hid.out (p := Hid _) (hB.out.trans (below_drewN _ wr n))
        have HX2 := Hid.out (p := Hid _) hX2
        have HR2 := Hid.out (p := Hid _) hR2
        have HB2 := Hid.out (p := Hid _) hB2
        clear hX2 hR2 hB2
        go_wp2_with fail
        go_quiet (fail)
        go_wp2_with fail
        go_roundw
        case rel => exact ⟨i + 1, by omega, by go_num, by have := hqn.out; omega, (HX2.out _).out, (HR2.out _).out, (HB2.out _).out, HF.out⟩
        case measure => simp [intOf]; omega
      · have HF : Hid (wordV s.data.toList d.data.toList t k = .error (here s.data.toList q)) := by rw [Hid, wordV, HW.out, if_neg hm]
        by_cases hqlt : q < s.size
        · have hbe : ((s[q].toNat : Int) != (d[i].toNat : Int)) = true := by
            rw [byte_get s q hqlt] at hm
            rw [bne_iff_ne]; intro e
            exact hm (congrArg some (UInt8.toNat_inj.1 (by omega)))
          have q2 : decide ((s.size : Int) ≤ (q : Int)) = false := by rw [decide_eq_false_iff_not]; omega
          clear hm HW
          go_wp2_with fail
          go_quiet (fail)
          have hR2 := kept_z hR.out (below_drewN _ wr nq)
          have hB2 := Hid.out (p := Hid _) (hB.out.trans (below_drewN _ wr nq))
          generalize wr.drewN nq = w2 at *
          go_wp2_with fail
          refine (rhere_any s q w2 hs hqs).mono ?_
          rintro x w3 ⟨a, en, at_, e, rfl, hr, hb⟩
          dsimp only [gVal]
          have R3 := kept_z hR2.out hb
          have B3 := Hid.out (p := Hid _) (hB2.out.trans (hb.mono hB2.out.size))
          have HB := Hid.out (p := Hid _) (GAt.bad HF.out rfl rfl hr)
          clear hb hr
          obtain ⟨⟨c0, c1, c2, c3, c4, c5, c6, c7, c8, c9, c10⟩, f0, f1, f2, f3, f4, f5, f6, f7, f8, f9, f10⟩ := got_cells R3.out
          go_wp2_with fail
          exact got_fin rfl R3.out rfl B3.out (by have := hcw.out; omega) a en at_ e HB.out
        · have q2 : decide ((s.size : Int) ≤ (q : Int)) = true := by rw [decide_eq_true_eq]; omega
          clear hm HW
          go_wp2_with fail
          go_quiet (fail)
          have hR2 := kept_z hR.out (below_drewN _ wr nq)
          have hB2 := Hid.out (p := Hid _) (hB.out.trans (below_drewN _ wr nq))
          generalize wr.drewN nq = w2 at *
          go_wp2_with fail
          refine (rhere_any s q w2 hs hqs).mono ?_
          rintro x w3 ⟨a, en, at_, e, rfl, hr, hb⟩
          dsimp only [gVal]
          have R3 := kept_z hR2.out hb
          have B3 := Hid.out (p := Hid _) (hB2.out.trans (hb.mono hB2.out.size))
          have HB := Hid.out (p := Hid _) (GAt.bad HF.out rfl rfl hr)
          clear hb hr
          obtain ⟨⟨c0, c1, c2, c3, c4, c5, c6, c7, c8, c9, c10⟩, f0, f1, f2, f3, f4, f5, f6, f7, f8, f9, f10⟩ := got_cells R3.out
          go_wp2_with fail
          exact got_fin rfl R3.out rfl B3.out (by have := hcw.out; omega) a en at_ e HB.out
    · have hid : i = d.size := by omega
      have HF : Hid (wordV s.data.toList d.data.toList t k = .ok (t, q)) := by
        rw [Hid, wordV, hS.out, List.drop_of_length_le (by simp; omega)]; rfl
      subst hid
      obtain ⟨⟨z0, z1, z2, z3, z4, z5, z6, z7⟩, y0, y1, y2, y3, y4, y5, y6, y7⟩ := val_cells hX.out
      obtain ⟨⟨c0, c1, c2, c3, c4, c5, c6, c7, c8, c9, c10⟩, f0, f1, f2, f3, f4, f5, f6, f7, f8, f9, f10⟩ := got_cells hR.out
      go_wp2_with fail
      refine got_fin rfl hR.out rfl hB.out (by have := hcw.out; omega) v q 0 0 ?_
      rw [HF.out]
      exact ⟨rfl, rfl⟩
end Go.Proofs.YtehffmcfmdjknaaGreatDoor.Jdec
/- tabulariumref09: numbers; keys. -/
namespace Go.Proofs.YtehffmcfmdjknaaGreatDoor.Jdec
open Go.RowKit Go.Proofs.YtehffmcfmdjknaaGreatDoor.Strs
set_option linter.unusedVariables false
set_option linter.unusedSimpArgs false
set_option maxRecDepth 100000

theorem rnum_new (w : World) (n : Bool) (d : ByteArray) (x : Int) : ∃ w1, w.alloc (.cells #[.bool n, .string d, .int .i64 x] 25) = w1 ∧
    Hid (Below w.heap.size w w1) ∧ Hid (w1.heap[w.heap.size]? = some (.cells #[.bool n, .string d, .int .i64 x] 25 (0, 0))) :=
  ⟨_, rfl, (Below.refl _ _).alloc (Nat.le_refl _) _, heap_alloc_new _ _⟩
def numR (k q : Nat) : Except Nat (Bool × List UInt8 × Int) → Except Er (JV × Nat)
  | .error e => .error (k, e)
  | .ok (n, d, x) => .ok (.mk 3 false n ⟨d.toArray⟩ x ⟨#[]⟩ [] [], q)
theorem number_eq {l : List UInt8} {k n : Nat} (h : Num.scan (l.drop k) = n) (h0 : n ≠ 0) : number l k = numR k (k + n) (Num.parse ((l.drop k).take n)) := by
  subst h
  unfold number
  rw [if_neg h0]
  cases Num.parse ((l.drop k).take (Num.scan (l.drop k))) with
  | error e => rfl
  | ok r => obtain ⟨a, b, c⟩ := r; rfl
set_option maxHeartbeats 4000000 in
theorem rnumber_any (s : ByteArray) (k : Nat) (w : World) (hs : s.size ≤ 1000000) (hk : k < s.size) :
    Calls Tryz.prog 24 #[.string s, .int .i64 k] w (GPost (GAt (number s.data.toList k)) w) := by
  have hl : s.data.toList.length = s.size := by simp
  obtain ⟨w1, hw1, R1, B1, S1⟩ := got_new w
  obtain ⟨D, hD⟩ : ∃ D, s.extract k s.size = D := ⟨_, rfl⟩
  have hDl : D.data.toList = s.data.toList.drop k := by rw [← hD]; simp [ByteArray.data_extract]; rw [List.take_of_length_le (by simp)]
  have hDs : D.size ≤ s.size := by rw [← hD, ByteArray.size_extract]; omega
  have hsc := fun w => Num.rscan_any D w (by omega)
  rw [Num.rscan_eq, hDl] at hsc
  obtain ⟨n, hn⟩ : ∃ n, Num.scan (s.data.toList.drop k) = n := ⟨_, rfl⟩
  have hnl : k + n ≤ s.size := by have := Num.scan_le (s.data.toList.drop k); rw [List.length_drop, hl] at this; omega
  rw [hn] at hsc
  have HN := Hid.out (p := Hid _) hn
  have HSC := Hid.out (p := Hid _) hsc
  have HL := Hid.out (p := Hid _) hl
  clear hsc hDl hn hl
  by_cases h0 : n = 0
  · subst h0
    by_cases h1 : k + 1 = s.size
    · have HF : Hid (number s.data.toList k = .error (k, 2)) := by rw [Hid, number, if_pos HN.out, if_pos (by rw [HL.out]; exact h1)]
      have hz : (k : Int) + 1 = (s.size : Int) := by omega
      clear h1
      go_enter Tryz.func24, Tryz.ntmps24
      go_wp2_with fail
      clear hw1
      refine (Calls.mono (HSC.out w1) ?_)
      rintro x w1' ⟨rfl, rfl⟩
      go_wp2_with fail
      refine (rbad_any k 2 w1).mono ?_
      rintro x w2 ⟨a, en, at_, e, rfl, hr, hb⟩
      dsimp only [gVal]
      have R2 := kept_z R1.out hb
      have B2 := Hid.out (p := Hid _) (B1.out.trans (hb.mono B1.out.size))
      have HB := Hid.out (p := Hid _) (GAt.bad HF.out rfl rfl hr)
      clear hb hr
      obtain ⟨⟨c0, c1, c2, c3, c4, c5, c6, c7, c8, c9, c10⟩, f0, f1, f2, f3, f4, f5, f6, f7, f8, f9, f10⟩ := got_cells R2.out
      go_wp2_with fail
      exact got_fin rfl R2.out rfl B2.out (Nat.le_refl _) a en at_ e HB.out
    · have HF : Hid (number s.data.toList k = .error (k, 3)) := by rw [Hid, number, if_pos HN.out, if_neg (by rw [HL.out]; exact h1)]
      have hz : ((k : Int) + 1 == (s.size : Int)) = false := by rw [beq_eq_false_iff_ne]; omega
      clear h1
      go_enter Tryz.func24, Tryz.ntmps24
      go_wp2_with fail
      clear hw1
      refine (Calls.mono (HSC.out w1) ?_)
      rintro x w1' ⟨rfl, rfl⟩
      go_wp2_with fail
      refine (rbad_any k 3 w1).mono ?_
      rintro x w2 ⟨a, en, at_, e, rfl, hr, hb⟩
      dsimp only [gVal]
      have R2 := kept_z R1.out hb
      have B2 := Hid.out (p := Hid _) (B1.out.trans (hb.mono B1.out.size))
      have HB := Hid.out (p := Hid _) (GAt.bad HF.out rfl rfl hr)
      clear hb hr
      obtain ⟨⟨c0, c1, c2, c3, c4, c5, c6, c7, c8, c9, c10⟩, f0, f1, f2, f3, f4, f5, f6, f7, f8, f9, f10⟩ := got_cells R2.out
      go_wp2_with fail
      exact got_fin rfl R2.out rfl B2.out (Nat.le_refl _) a en at_ e HB.out
  · have hz : ((n : Int) == 0) = false := by rw [beq_eq_false_iff_ne]; omega
    obtain ⟨q, hkq⟩ : ∃ q, k + n = q := ⟨_, rfl⟩
    have hqi : (k : Int) + (n : Int) = (q : Int) := by omega
    have hqs : q ≤ s.size := by omega
    have hqk : k ≤ q := by omega
    obtain ⟨D2, hD2⟩ : ∃ D, s.extract k q = D := ⟨_, rfl⟩
    have hDl2 : D2.data.toList = (s.data.toList.drop k).take n := by rw [← hD2]; rw [Lib.extract_data]; congr 1; omega
    have hDs2 : D2.size ≤ s.size := by rw [← hD2, ByteArray.size_extract]; omega
    have hpc := fun w => Num.rparse_any D2 w (by omega)
    obtain ⟨num, hnum⟩ : ∃ num, Num.parse ((s.data.toList.drop k).take n) = num := ⟨_, rfl⟩
    have hNum : Num.rparse D2.data.toList = num := by rw [Num.rparse_eq _ (by rw [show D2.data.toList.length = D2.size by simp]; omega), hDl2, hnum]
    have HF : Hid (number s.data.toList k = numR k q num) := by
      rw [Hid, number_eq HN.out h0, hnum, hkq]
    have HPC : Hid (∀ w, Calls Tryz.prog 40 #[.string D2] w fun e w' => e = .returned (Num.resV num) ∧ Below w.heap.size w w') := fun w => (hpc w).mono fun e w' h => by
      have h : e = .returned (Num.resV (Num.rparse D2.data.toList)) ∧ Below w.heap.size w w' := h
      rw [hNum] at h; exact h
    clear hpc hDl2 hNum h0
    cases num with
    | error e0 =>
      have he := parse_err hnum
      have HF : Hid (number s.data.toList k = .error (k, e0)) := HF.out
      have hez : ((e0 : Int) != 0) = true := by rw [bne_iff_ne]; omega
      have HPC : Hid (∀ w, Calls Tryz.prog 40 #[.string D2] w fun e w' => e = .returned (.tuple #[.agg #[.bool false, .string ⟨#[]⟩, .int .i64 0], .int .i64 e0]) ∧ Below w.heap.size w w') := HPC.out
      clear hnum he hkq
      go_enter Tryz.func24, Tryz.ntmps24
      go_wp2_with fail
      clear hw1
      refine (Calls.mono (HSC.out w1) ?_)
      rintro x w1' ⟨rfl, rfl⟩
      go_wp2_with fail
      refine (Calls.mono (HPC.out w1) ?_)
      rintro x w2 ⟨rfl, hb⟩
      have R2 := kept_z R1.out hb
      have B2 := Hid.out (p := Hid _) (B1.out.trans (hb.mono B1.out.size))
      clear hb
      go_wp2_with fail
      obtain ⟨w3, hw3, b3, X3⟩ := rnum_new w2 false ⟨#[]⟩ 0
      have R3 := kept_z R2.out b3.out
      have B3 := Hid.out (p := Hid _) (B2.out.trans (b3.out.mono B2.out.size))
      rw [hw3]
      clear hw3 b3 X3
      refine (rbad_any k e0 w3).mono ?_
      rintro x w4 ⟨a, en, at_, e, rfl, hr, hb⟩
      dsimp only [gVal]
      have R4 := kept_z R3.out hb
      have B4 := Hid.out (p := Hid _) (B3.out.trans (hb.mono B3.out.size))
      have HB := Hid.out (p := Hid _) (GAt.bad HF.out rfl rfl hr)
      clear hb hr
      obtain ⟨⟨c0, c1, c2, c3, c4, c5, c6, c7, c8, c9, c10⟩, f0, f1, f2, f3, f4, f5, f6, f7, f8, f9, f10⟩ := got_cells R4.out
      go_wp2_with fail
      exact got_fin rfl R4.out rfl B4.out (Nat.le_refl _) a en at_ e HB.out
    | ok r =>
      obtain ⟨ng, dd, xx⟩ := r
      have HF : Hid (number s.data.toList k = .ok (.mk 3 false ng ⟨dd.toArray⟩ xx ⟨#[]⟩ [] [], q)) := HF.out
      have HPC : Hid (∀ w, Calls Tryz.prog 40 #[.string D2] w fun e w' => e = .returned (.tuple #[.agg #[.bool ng, .string ⟨dd.toArray⟩, .int .i64 xx], .int .i64 0]) ∧ Below w.heap.size w w') := HPC.out
      clear hnum hkq
      go_enter Tryz.func24, Tryz.ntmps24
      go_wp2_with fail
      clear hw1
      refine (Calls.mono (HSC.out w1) ?_)
      rintro x w1' ⟨rfl, rfl⟩
      go_wp2_with fail
      refine (Calls.mono (HPC.out w1) ?_)
      rintro x w2 ⟨rfl, hb⟩
      have R2 := kept_z R1.out hb
      have B2 := Hid.out (p := Hid _) (B1.out.trans (hb.mono B1.out.size))
      clear hb
      obtain ⟨w3, hw3, b3, X3⟩ := rnum_new w2 ng ⟨dd.toArray⟩ xx
      have R3 := kept_z R2.out b3.out
      have B3 := Hid.out (p := Hid _) (B2.out.trans (b3.out.mono B2.out.size))
      obtain ⟨⟨c0, c1, c2, c3, c4, c5, c6, c7, c8, c9, c10⟩, f0, f1, f2, f3, f4, f5, f6, f7, f8, f9, f10⟩ := got_cells R3.out
      have y0 := cell_of X3.out 0
      have y1 := cell_of X3.out 1
      have y2 := cell_of X3.out 2
      simp at y0 y1 y2
      go_wp2_with fail
      refine got_fin rfl R3.out rfl B3.out (Nat.le_refl _) ⟨3, false, ng, ⟨dd.toArray⟩, xx, ⟨#[]⟩, none, 0, 0, none, 0, 0⟩ q 0 0 ?_
      rw [HF.out]
      exact ⟨rfl, rfl⟩
end Go.Proofs.YtehffmcfmdjknaaGreatDoor.Jdec
/- tabulariumref09: keys. -/
namespace Go.Proofs.YtehffmcfmdjknaaGreatDoor.Jdec
open Go.RowKit Go.Proofs.YtehffmcfmdjknaaGreatDoor.Strs
set_option linter.unusedVariables false
set_option linter.unusedSimpArgs false
set_option maxRecDepth 100000

/-- A key and a colon. -/
def fieldS (l : List UInt8) (ks : List ByteArray) (p : Nat) : Except Er (ByteArray × Nat) :=
  match key l ks p with
  | .error x => .error x
  | .ok (k, q) => match colon l q with
    | .error x => .error x
    | .ok r => .ok (k, r)
def FAt (r : Except Er (ByteArray × Nat)) (a : Raw) (en at_ e : Int) : Prop :=
  match r with
  | .ok x => e = 0 ∧ en = x.2 ∧ a.str = x.1
  | .error y => e = y.2 ∧ at_ = y.1
theorem FAt.bad {r : Except Er (ByteArray × Nat)} {y : Er} {p n : Nat} {a : Raw} {en at_ e : Int} (hr : r = .error y) (h1 : y.1 = p) (h2 : y.2 = n) (h : BadR p n a en at_ e) : FAt r a en at_ e := by
  subst h1 h2
  rw [hr]; exact ⟨h.2, h.1⟩
theorem fieldS_key {l : List UInt8} {ks : List ByteArray} {p : Nat} {x : Er} (h : key l ks p = .error x) : fieldS l ks p = .error x := by unfold fieldS; rw [h]
theorem part_new (w : World) (d : ByteArray) (n e : Int) : ∃ w1, w.alloc (.cells #[.string d, .int .i64 n, .int .i64 e] 60) = w1 ∧
    Hid (Below w.heap.size w w1) ∧ Hid (w1.heap[w.heap.size]? = some (.cells #[.string d, .int .i64 n, .int .i64 e] 60 (0, 0))) :=
  ⟨_, rfl, (Below.refl _ _).alloc (Nat.le_refl _) _, heap_alloc_new _ _⟩

theorem toList_ne {x d : ByteArray} (h : x ≠ d) : (x.toList == d.toList) = false := by
  rw [beq_eq_false_iff_ne]; intro e; apply h
  rw [ByteArray.toList_eq, ByteArray.toList_eq] at e
  cases x; cases d
  simp only [ByteArray.mk.injEq]
  exact Array.toList_inj.1 e
theorem got_fin_d {F : Func} {p : Tmp} (hr : F.results = #[.cell p 31]) {tm : Array Value} {a : Raw} {en at_ e : Int} {R : Raw → Int → Int → Int → Prop} {w w2 : World} {b : Nat}
    (hb : w2.heap[b]? = some (.cells (gArr a en at_ e) 31 (0, 0))) (hp : tm.getD p undef = .pointer (some ⟨b, 0, none⟩)) (hB : Below w.heap.size w w2) (hle : w.heap.size ≤ b) (c : Raw) (en' at' e' : Int) (hR : R c en' at' e') :
    bodyPost Tryz.prog F (GPost R w) Exit.ret { tmps := tm, defers := [] }
    (((((((((((w2.setCell ⟨b, 0, none⟩ (.int .i64 c.kind)).setCell ⟨b, 1, none⟩ (.bool c.is)).setCell ⟨b, 2, none⟩ (.bool c.neg)).setCell ⟨b, 3, none⟩ (.string c.dig)).setCell ⟨b, 4, none⟩ (.int .i64 c.exp)).setCell ⟨b, 5, none⟩ (.string c.str)).setCell ⟨b, 6, none⟩ (.slice c.ka c.kn c.kc)).setCell ⟨b, 7, none⟩ (.slice c.va c.vn c.vc)).setCell ⟨b, 8, none⟩ (.int .i64 en')).setCell ⟨b, 9, none⟩ (.int .i64 at')).setCell ⟨b, 10, none⟩ (.int .i64 e')).drew :=
  by
  have h11 := set11 hb c en' at' e'
  have B := b11 hB hle (.int .i64 c.kind) (.bool c.is) (.bool c.neg) (.string c.dig) (.int .i64 c.exp) (.string c.str) (.slice c.ka c.kn c.kc) (.slice c.va c.vn c.vc) (.int .i64 en') (.int .i64 at') (.int .i64 e')
  generalize (((((((((((w2.setCell ⟨b, 0, none⟩ (.int .i64 c.kind)).setCell ⟨b, 1, none⟩ (.bool c.is)).setCell ⟨b, 2, none⟩ (.bool c.neg)).setCell ⟨b, 3, none⟩ (.string c.dig)).setCell ⟨b, 4, none⟩ (.int .i64 c.exp)).setCell ⟨b, 5, none⟩ (.string c.str)).setCell ⟨b, 6, none⟩ (.slice c.ka c.kn c.kc)).setCell ⟨b, 7, none⟩ (.slice c.va c.vn c.vc)).setCell ⟨b, 8, none⟩ (.int .i64 en')).setCell ⟨b, 9, none⟩ (.int .i64 at')).setCell ⟨b, 10, none⟩ (.int .i64 e')) = w3 at *
  have h12 : w3.drew.heap[b]? = some (.cells (gArr c en' at' e') 31 (0, 0)) := h11
  exact got_ret hr h12 hp ⟨_, _, _, _, rfl, hR, B.drew⟩
set_option maxHeartbeats 4000000 in
theorem rfield_q (s : ByteArray) (k : Nat) (ka : Option Addr) (kc : Nat) (ks : List ByteArray) (w : World) (hs : s.size ≤ 1000000) (hk : k ≤ s.size) (hq : s.data.toList[k]? ≠ some 34) :
    Calls Tryz.prog 43 #[.string s, .int .i64 k, .slice ka ks.length kc] w (GPost (FAt (fieldS s.data.toList ks k)) w) := by
  have hl : s.data.toList.length = s.size := by simp
  obtain ⟨w1, hw1, R1, B1, S1⟩ := got_new w
  have HF : Hid (fieldS s.data.toList ks k = .error (here s.data.toList k)) := by rw [Hid]; exact fieldS_key (by rw [key, if_neg hq])
  by_cases hlt : k < s.size
  · have hbe : ((s[k].toNat : Int) != 34) = true := by
      rw [byte_get s k hlt] at hq
      rw [bne_iff_ne]; intro e
      exact hq (congrArg some (UInt8.toNat_inj.1 (by simp; omega)))
    have q2 : decide ((s.size : Int) ≤ (k : Int)) = false := by rw [decide_eq_false_iff_not]; omega
    clear hq hl
    go_enter Tryz.func43, Tryz.ntmps43
    go_wp2_with fail
    clear hw1
    refine (rhere_any s k w1 (by omega) hk).mono ?_
    rintro x w2 ⟨a, en, at_, e, rfl, hr, hb⟩
    dsimp only [gVal]
    have R2 := kept_z R1.out hb
    have B2 := Hid.out (p := Hid _) (B1.out.trans (hb.mono B1.out.size))
    have HB := Hid.out (p := Hid _) (FAt.bad HF.out rfl rfl hr)
    clear hb hr
    obtain ⟨⟨c0, c1, c2, c3, c4, c5, c6, c7, c8, c9, c10⟩, f0, f1, f2, f3, f4, f5, f6, f7, f8, f9, f10⟩ := got_cells R2.out
    go_wp2_with fail
    exact got_fin rfl R2.out rfl B2.out (Nat.le_refl _) a en at_ e HB.out
  · have q2 : decide ((s.size : Int) ≤ (k : Int)) = true := by rw [decide_eq_true_eq]; omega
    clear hq hl
    go_enter Tryz.func43, Tryz.ntmps43
    go_wp2_with fail
    clear hw1
    refine (rhere_any s k w1 (by omega) hk).mono ?_
    rintro x w2 ⟨a, en, at_, e, rfl, hr, hb⟩
    dsimp only [gVal]
    have R2 := kept_z R1.out hb
    have B2 := Hid.out (p := Hid _) (B1.out.trans (hb.mono B1.out.size))
    have HB := Hid.out (p := Hid _) (FAt.bad HF.out rfl rfl hr)
    clear hb hr
    obtain ⟨⟨c0, c1, c2, c3, c4, c5, c6, c7, c8, c9, c10⟩, f0, f1, f2, f3, f4, f5, f6, f7, f8, f9, f10⟩ := got_cells R2.out
    go_wp2_with fail
    exact got_fin rfl R2.out rfl B2.out (Nat.le_refl _) a en at_ e HB.out

theorem key_q {l : List UInt8} {ks : List ByteArray} {p : Nat} (h : l[p]? = some 34) : key l ks p = match quoted l p with
    | .error x => .error x
    | .ok (k, q) => if ks.any (fun x => decide (x = k)) then .error (p, 6) else .ok (k, q) := by
  unfold key; rw [if_pos h]; rfl
theorem partV_quoted (l : List UInt8) (k : Nat) : (∃ e : Nat, e ≠ 0 ∧ quoted l k = .error (k, e) ∧ Quote.partV (Quote.scan (l.drop k)) = .agg #[.string ⟨#[]⟩, .int .i64 0, .int .i64 e]) ∨
    (∃ (d : ByteArray) (n : Nat), n ≤ l.length - k ∧ quoted l k = .ok (d, k + n) ∧ Quote.partV (Quote.scan (l.drop k)) = .agg #[.string d, .int .i64 n, .int .i64 0]) := by
  unfold quoted
  cases hq : Quote.scan (l.drop k) with
  | error e => exact .inl ⟨e, scan_err hq, rfl, rfl⟩
  | ok r =>
    obtain ⟨o, n⟩ := r
    have := quote_fits hq
    rw [List.length_drop] at this
    exact .inr ⟨_, n, this.2.1, rfl, rfl⟩

set_option maxHeartbeats 8000000 in
theorem rfield_any (s : ByteArray) (k : Nat) (ka : Option Addr) (kc : Nat) (ks : List ByteArray) (w : World) (hs : s.size ≤ 1000000) (hk : k ≤ s.size) (hks : ks.length ≤ 1000000) (hT : IsTexts w (fun _ => True) ka ks) :
    Calls Tryz.prog 43 #[.string s, .int .i64 k, .slice ka ks.length kc] w (GPost (FAt (fieldS s.data.toList ks k)) w) := by
  by_cases hq : s.data.toList[k]? = some 34
  case neg => exact rfield_q s k ka kc ks w hs hk hq
  have hl : s.data.toList.length = s.size := by simp
  have hlt : k < s.size := by have := get_lt hq; omega
  obtain ⟨w1, hw1, R1, B1, S1⟩ := got_new w
  have HT : Hid (IsTexts w1 (fun _ => True) ka ks) := hT.turn (Turn.below B1.out)
  clear hT
  have hbe : ((s[k].toNat : Int) != 34) = false := by
    have h := hq
    rw [byte_get s k hlt] at h
    injection h with h
    rw [h]; rfl
  have q2 : decide ((s.size : Int) ≤ (k : Int)) = false := by rw [decide_eq_false_iff_not]; omega
  have HK := Hid.out (p := Hid _) (key_q (ks := ks) hq)
  have HL := Hid.out (p := Hid _) hl
  obtain ⟨D, hD⟩ : ∃ D, s.extract k s.size = D := ⟨_, rfl⟩
  have hDl : D.data.toList = s.data.toList.drop k := by rw [← hD]; simp [ByteArray.data_extract]; rw [List.take_of_length_le (by simp)]
  have hDs : D.size ≤ s.size := by rw [← hD, ByteArray.size_extract]; omega
  have hsc : ∀ w, Calls Tryz.prog 26 #[.string D] w fun e w' => e = .returned (Quote.partV (Quote.scan (s.data.toList.drop k))) ∧ Below w.heap.size w w' := fun w => by
    have := Quote.rscan_any D w (by omega)
    unfold Quote.RScan at this
    rw [hDl] at this
    exact this
  have hcase := partV_quoted s.data.toList k
  clear hq hl hDl
  rcases hcase with ⟨e0, he0, hqe, hpv⟩ | ⟨d, n, hn, hqe, hpv⟩
  · rw [hpv] at hsc
    have HSC := Hid.out (p := Hid _) hsc
    have HF : Hid (fieldS s.data.toList ks k = .error (k, e0)) := by rw [Hid]; exact fieldS_key (by rw [HK.out, hqe])
    have hez : ((e0 : Int) != 0) = true := by rw [bne_iff_ne]; omega
    clear hsc hpv hqe he0
    go_enter Tryz.func43, Tryz.ntmps43
    go_wp2_with fail
    clear hw1
    refine (Calls.mono (HSC.out w1) ?_)
    rintro x w2 ⟨rfl, hb⟩
    have R2 := kept_z R1.out hb
    have B2 := Hid.out (p := Hid _) (B1.out.trans (hb.mono B1.out.size))
    clear hb
    go_wp2_with fail
    obtain ⟨w3, hw3, b3, X3⟩ := part_new w2 ⟨#[]⟩ 0 e0
    have R3 := kept_z R2.out b3.out
    have B3 := Hid.out (p := Hid _) (B2.out.trans (b3.out.mono B2.out.size))
    rw [hw3]
    clear hw3 b3 X3
    refine (rbad_any k e0 w3).mono ?_
    rintro x w4 ⟨a, en, at_, e, rfl, hr, hb⟩
    dsimp only [gVal]
    have R4 := kept_z R3.out hb
    have B4 := Hid.out (p := Hid _) (B3.out.trans (hb.mono B3.out.size))
    have HB := Hid.out (p := Hid _) (FAt.bad HF.out rfl rfl hr)
    clear hb hr
    obtain ⟨⟨c0, c1, c2, c3, c4, c5, c6, c7, c8, c9, c10⟩, f0, f1, f2, f3, f4, f5, f6, f7, f8, f9, f10⟩ := got_cells R4.out
    go_wp2_with fail
    exact got_fin rfl R4.out rfl B4.out (Nat.le_refl _) a en at_ e HB.out
  · rw [hpv] at hsc
    have HSC := Hid.out (p := Hid _) hsc
    rw [HL.out] at hn
    obtain ⟨q, hkq⟩ : ∃ q, k + n = q := ⟨_, rfl⟩
    rw [hkq] at hqe
    have hqi : (k : Int) + (n : Int) = (q : Int) := by omega
    have hqs : q ≤ s.size := by omega
    have HK2 : Hid (key s.data.toList ks k = if ks.any (fun x => decide (x = d)) then .error (k, 6) else .ok (d, q)) := by rw [Hid, HK.out, hqe]
    obtain ⟨p, hp⟩ : ∃ p, skip s.data.toList q = p := ⟨_, rfl⟩
    have hps : p ≤ s.size := by have := skip_le s.data.toList q (by rw [HL.out]; omega); rw [HL.out, hp] at this; exact this
    have hbl := fun w => rblanks_any s q w (by omega) hqs
    rw [hp] at hbl
    have HBL := Hid.out (p := Hid _) hbl
    have HCO : Hid (colon s.data.toList q = if s.data.toList[p]? = some 58 then .ok (skip s.data.toList (p + 1)) else .error (here s.data.toList p)) := by rw [Hid, colon, hp]
    clear hsc hpv hqe hn hbl hp hkq
    go_enter Tryz.func43, Tryz.ntmps43
    go_wp2_with fail
    clear hw1
    refine (Calls.mono (HSC.out w1) ?_)
    rintro x w2 ⟨rfl, hb⟩
    have R2 := kept_z R1.out hb
    have B2 := Hid.out (p := Hid _) (B1.out.trans (hb.mono B1.out.size))
    have T2 : Hid (IsTexts w2 (fun _ => True) ka ks) := IsTexts.turn HT.out (Turn.below hb)
    clear hb HT R1 B1 S1
    go_wp2_with fail
    obtain ⟨b, hb⟩ : ∃ b, w2.heap.size = b := ⟨_, rfl⟩
    obtain ⟨w3, hw3, b3, X3⟩ := part_new w2 d n 0
    have R3 := kept_z R2.out b3.out
    have B3 := Hid.out (p := Hid _) (B2.out.trans (b3.out.mono B2.out.size))
    have T3 : Hid (IsTexts w3 (fun _ => True) ka ks) := IsTexts.turn T2.out (Turn.below b3.out)
    rw [hw3]
    rw [hb] at X3 ⊢
    clear hw3 b3 R2 B2 T2 hb
    go_loopw [8] (fun p8 wr => ∃ i : Nat, i ≤ ks.length ∧ p8 = .int .i64 i ∧ Hid (wr.heap[w.heap.size]? = some (.cells (gArr Raw.zero 0 0 0) 31 (0, 0))) ∧ Hid (wr.heap[b]? = some (.cells #[.string d, .int .i64 n, .int .i64 0] 60 (0, 0))) ∧ Hid (IsTexts wr (fun _ => True) ka ks) ∧ Hid (Below w.heap.size w wr) ∧ Hid (ks.any (fun x => decide (x = d)) = (ks.drop i).any (fun x => decide (x = d)))) (fun p8 _ => ks.length - (intOf p8).toNat)
    case atStart => exact ⟨0, Nat.zero_le _, rfl, R3.out, X3.out, T3.out, B3.out, rfl⟩
    case round =>
      obtain ⟨i, hi, rfl, hR, hX, hT, hB, hA⟩ := hrel
      have x0 : wr.cell? ⟨b, 0, none⟩ = some (.string d) := cell_of hX.out 0
      have x1 : wr.cell? ⟨b, 1, none⟩ = some (.int .i64 n) := cell_of hX.out 1
      by_cases hlt2 : i < ks.length
      · have hne : ks ≠ [] := fun e => by rw [e] at hlt2; simp at hlt2
        have hT9 := hT.out
        rcases hT9.resolve_left hne with ⟨tb, tof, hka, _, _, hc⟩
        have g2 := hc i hlt2
        have hA2 : Hid (ks.any (fun x => decide (x = d)) = (decide (ks[i] = d) || (ks.drop (i + 1)).any (fun x => decide (x = d)))) := by rw [Hid, hA.out, List.drop_eq_getElem_cons hlt2, List.any_cons]
        generalize ks[i] = x at *
        have HKA := Hid.out (p := Hid _) hka
        subst hka
        clear hc hT9 hne
        by_cases hx : x = d
        · subst hx
          have HF : Hid (fieldS s.data.toList ks k = .error (k, 6)) := by rw [Hid]; exact fieldS_key (by rw [HK2.out, hA2.out]; simp)
          go_wp2_with fail
          go_quiet (fail)
          have hR2 := kept_z hR.out (below_drewN _ wr nq)
          have hB2 := Hid.out (p := Hid _) (hB.out.trans (below_drewN _ wr nq))
          clear x0 x1 g2
          generalize wr.drewN nq = w4 at *
          go_wp2_with fail
          refine (rbad_any k 6 w4).mono ?_
          rintro x w5 ⟨a, en, at_, e, rfl, hr, hb⟩
          dsimp only [gVal]
          have R5 := kept_z hR2.out hb
          have B5 := Hid.out (p := Hid _) (hB2.out.trans (hb.mono hB2.out.size))
          have HB := Hid.out (p := Hid _) (FAt.bad HF.out rfl rfl hr)
          clear hb hr
          obtain ⟨⟨c0, c1, c2, c3, c4, c5, c6, c7, c8, c9, c10⟩, f0, f1, f2, f3, f4, f5, f6, f7, f8, f9, f10⟩ := got_cells R5.out
          go_wp2_with fail
          exact got_fin rfl R5.out rfl B5.out (Nat.le_refl _) a en at_ e HB.out
        · have hxe : (x.toList == d.toList) = false := toList_ne hx
          have HA3 : Hid (ks.any (fun x => decide (x = d)) = (ks.drop (i + 1)).any (fun x => decide (x = d))) := by rw [Hid, hA2.out, decide_eq_false hx, Bool.false_or]
          have HX2 : Hid (∀ n, Hid ((wr.drewN n).heap[w.heap.size]? = some (.cells (gArr Raw.zero 0 0 0) 31 (0, 0))) ∧ Hid ((wr.drewN n).heap[b]? = _) ∧ Hid (IsTexts (wr.drewN n) (fun _ => True) _ ks) ∧ Hid (Below w.heap.size w (wr.drewN n))) := fun n => ⟨hR.out, hX.out, IsTexts.turn hT.out (Turn.below (below_drewN _ wr n)), hB.out.trans (below_drewN _ wr n)⟩
          clear hx
          go_wp2_with fail
          go_quiet (fail)
          go_wp2_with fail
          go_roundw
          case rel => exact ⟨i + 1, by omega, by go_num, (HX2.out _).1, (HX2.out _).2.1, (HX2.out _).2.2.1, (HX2.out _).2.2.2, HA3.out⟩
          case measure => simp [intOf]; omega
      · have hi2 : i = ks.length := by omega
        subst hi2
        have HK3 : Hid (key s.data.toList ks k = .ok (d, q)) := by
          have := hA.out
          rw [List.drop_length, List.any_nil] at this
          rw [Hid, HK2.out, this]; rfl
        go_wp2_with fail
        refine (Calls.mono (HBL.out wr) ?_)
        rintro x wr' ⟨rfl, rfl⟩
        by_cases hco : s.data.toList[p]? = some 58
        · have hplt : p < s.size := by have := get_lt hco; rw [HL.out] at this; exact this
          have hpb : ((s[p].toNat : Int) != 58) = false := by
            have h := hco
            rw [byte_get s p hplt] at h
            injection h with h
            rw [h]; rfl
          have hpz : decide ((s.size : Int) ≤ (p : Int)) = false := by rw [decide_eq_false_iff_not]; omega
          have HF : Hid (fieldS s.data.toList ks k = .ok (d, skip s.data.toList (p + 1))) := by
            rw [Hid, fieldS, HK3.out]; simp only; rw [HCO.out, if_pos hco]
          clear hco
          have hwp : IntKind.i64.wrap ((p : Int) + 1) = (p : Int) + 1 := IntWalk.i64_in _ (by omega)
          obtain ⟨⟨c0, c1, c2, c3, c4, c5, c6, c7, c8, c9, c10⟩, f0, f1, f2, f3, f4, f5, f6, f7, f8, f9, f10⟩ := got_cells hR.out
          obtain ⟨z, hz⟩ : ∃ z, skip s.data.toList (p + 1) = z := ⟨_, rfl⟩
          have hbl2 := fun w => rblanks_any s (p + 1) w (by omega) hplt
          rw [hz] at HF hbl2
          have HBL2 := Hid.out (p := Hid _) hbl2
          clear hbl2 hz
          go_wp2_with fail
          go_region_law
            ((go_simp; go_at_call 15; refine (Calls.mono (HBL2.out _) ?_); rintro x w6 ⟨rfl, rfl⟩))
          all_goals
            go_wp2_with fail
            refine got_fin_d rfl hR.out rfl hB.out (Nat.le_refl _) ⟨0, false, false, ⟨#[]⟩, 0, d, none, 0, 0, none, 0, 0⟩ z 0 0 ?_
            rw [HF.out]
            exact ⟨rfl, rfl, rfl⟩
        · have HF : Hid (fieldS s.data.toList ks k = .error (here s.data.toList p)) := by
            rw [Hid, fieldS, HK3.out]; simp only; rw [HCO.out, if_neg hco]
          by_cases hplt : p < s.size
          · have hpb : ((s[p].toNat : Int) != 58) = true := by
              rw [byte_get s p hplt] at hco
              rw [bne_iff_ne]; intro e
              exact hco (congrArg some (UInt8.toNat_inj.1 (by simp; omega)))
            have hpz : decide ((s.size : Int) ≤ (p : Int)) = false := by rw [decide_eq_false_iff_not]; omega
            clear hco
            go_wp2_with fail
            refine (rhere_any s p wr (by omega) hps).mono ?_
            rintro x w5 ⟨a, en, at_, e, rfl, hr, hb⟩
            dsimp only [gVal]
            have R5 := kept_z hR.out hb
            have B5 := Hid.out (p := Hid _) (hB.out.trans (hb.mono hB.out.size))
            have HB := Hid.out (p := Hid _) (FAt.bad HF.out rfl rfl hr)
            clear hb hr x0 x1
            obtain ⟨⟨c0, c1, c2, c3, c4, c5, c6, c7, c8, c9, c10⟩, f0, f1, f2, f3, f4, f5, f6, f7, f8, f9, f10⟩ := got_cells R5.out
            go_wp2_with fail
            exact got_fin rfl R5.out rfl B5.out (Nat.le_refl _) a en at_ e HB.out
          · have hpz : decide ((s.size : Int) ≤ (p : Int)) = true := by rw [decide_eq_true_eq]; omega
            clear hco
            go_wp2_with fail
            refine (rhere_any s p wr (by omega) hps).mono ?_
            rintro x w5 ⟨a, en, at_, e, rfl, hr, hb⟩
            dsimp only [gVal]
            have R5 := kept_z hR.out hb
            have B5 := Hid.out (p := Hid _) (hB.out.trans (hb.mono hB.out.size))
            have HB := Hid.out (p := Hid _) (FAt.bad HF.out rfl rfl hr)
            clear hb hr x0 x1
            obtain ⟨⟨c0, c1, c2, c3, c4, c5, c6, c7, c8, c9, c10⟩, f0, f1, f2, f3, f4, f5, f6, f7, f8, f9, f10⟩ := got_cells R5.out
            go_wp2_with fail
            exact got_fin rfl R5.out rfl B5.out (Nat.le_refl _) a en at_ e HB.out
end Go.Proofs.YtehffmcfmdjknaaGreatDoor.Jdec
