/- tabulariumref09: keys. -/
import Derived.Test.YtbfkgddhpabioaaGreatDoorCutBC
import Derived.Deep.RegionLaw
namespace Go.Proofs.YtbfkgddhpabioaaGreatDoor.Jdec
open Go.RowKit Go.Proofs.YtbfkgddhpabioaaGreatDoor.Strs
set_option linter.unusedVariables false
set_option linter.unusedSimpArgs false
set_option maxRecDepth 100000

/-- A key and a colon. -/
def fieldS (l : List UInt8) (ks : List ByteArray) (p : Nat) : Except Er (ByteArray × Nat) :=
  match key l ks p with
  | .error x => .error x
  | .ok (k, q) => match colon l q with
    | .error x => .error x
    | .ok r => .ok (k, r)
def FAt (r : Except Er (ByteArray × Nat)) (a : Raw) (en at_ e : Int) : Prop :=
  match r with
  | .ok x => e = 0 ∧ en = x.2 ∧ a.str = x.1
  | .error y => e = y.2 ∧ at_ = y.1
theorem FAt.bad {r : Except Er (ByteArray × Nat)} {y : Er} {p n : Nat} {a : Raw} {en at_ e : Int} (hr : r = .error y) (h1 : y.1 = p) (h2 : y.2 = n) (h : BadR p n a en at_ e) : FAt r a en at_ e := by
  subst h1 h2
  rw [hr]; exact ⟨h.2, h.1⟩
theorem fieldS_key {l : List UInt8} {ks : List ByteArray} {p : Nat} {x : Er} (h : key l ks p = .error x) : fieldS l ks p = .error x := by unfold fieldS; rw [h]
theorem part_new (w : World) (d : ByteArray) (n e : Int) : ∃ w1, w.alloc (.cells #[.string d, .int .i64 n, .int .i64 e] 68) = w1 ∧
    Hid (Below w.heap.size w w1) ∧ Hid (w1.heap[w.heap.size]? = some (.cells #[.string d, .int .i64 n, .int .i64 e] 68 (0, 0))) :=
  ⟨_, rfl, (Below.refl _ _).alloc (Nat.le_refl _) _, heap_alloc_new _ _⟩

theorem toList_ne {x d : ByteArray} (h : x ≠ d) : (x.toList == d.toList) = false := by
  rw [beq_eq_false_iff_ne]; intro e; apply h
  rw [ByteArray.toList_eq, ByteArray.toList_eq] at e
  cases x; cases d
  simp only [ByteArray.mk.injEq]
  exact Array.toList_inj.1 e
theorem got_fin_d {F : Func} {p : Tmp} (hr : F.results = #[.cell p 31]) {tm : Array Value} {a : Raw} {en at_ e : Int} {R : Raw → Int → Int → Int → Prop} {w w2 : World} {b : Nat}
    (hb : w2.heap[b]? = some (.cells (gArr a en at_ e) 31 (0, 0))) (hp : tm.getD p undef = .pointer (some ⟨b, 0, none⟩)) (hB : Below w.heap.size w w2) (hle : w.heap.size ≤ b) (c : Raw) (en' at' e' : Int) (hR : R c en' at' e') :
    bodyPost Tryz.prog F (GPost R w) Exit.ret { tmps := tm, defers := [] }
    (((((((((((w2.setCell ⟨b, 0, none⟩ (.int .i64 c.kind)).setCell ⟨b, 1, none⟩ (.bool c.is)).setCell ⟨b, 2, none⟩ (.bool c.neg)).setCell ⟨b, 3, none⟩ (.string c.dig)).setCell ⟨b, 4, none⟩ (.int .i64 c.exp)).setCell ⟨b, 5, none⟩ (.string c.str)).setCell ⟨b, 6, none⟩ (.slice c.ka c.kn c.kc)).setCell ⟨b, 7, none⟩ (.slice c.va c.vn c.vc)).setCell ⟨b, 8, none⟩ (.int .i64 en')).setCell ⟨b, 9, none⟩ (.int .i64 at')).setCell ⟨b, 10, none⟩ (.int .i64 e')).drew :=
  by
  have h11 := set11 hb c en' at' e'
  have B := b11 hB hle (.int .i64 c.kind) (.bool c.is) (.bool c.neg) (.string c.dig) (.int .i64 c.exp) (.string c.str) (.slice c.ka c.kn c.kc) (.slice c.va c.vn c.vc) (.int .i64 en') (.int .i64 at') (.int .i64 e')
  generalize (((((((((((w2.setCell ⟨b, 0, none⟩ (.int .i64 c.kind)).setCell ⟨b, 1, none⟩ (.bool c.is)).setCell ⟨b, 2, none⟩ (.bool c.neg)).setCell ⟨b, 3, none⟩ (.string c.dig)).setCell ⟨b, 4, none⟩ (.int .i64 c.exp)).setCell ⟨b, 5, none⟩ (.string c.str)).setCell ⟨b, 6, none⟩ (.slice c.ka c.kn c.kc)).setCell ⟨b, 7, none⟩ (.slice c.va c.vn c.vc)).setCell ⟨b, 8, none⟩ (.int .i64 en')).setCell ⟨b, 9, none⟩ (.int .i64 at')).setCell ⟨b, 10, none⟩ (.int .i64 e')) = w3 at *
  have h12 : w3.drew.heap[b]? = some (.cells (gArr c en' at' e') 31 (0, 0)) := h11
  exact got_ret hr h12 hp ⟨_, _, _, _, rfl, hR, B.drew⟩
set_option maxHeartbeats 4000000 in
theorem rfield_q (s : ByteArray) (k : Nat) (ka : Option Addr) (kc : Nat) (ks : List ByteArray) (w : World) (hs : s.size ≤ 1000000) (hk : k ≤ s.size) (hq : s.data.toList[k]? ≠ some 34) :
    Calls Tryz.prog 50 #[.string s, .int .i64 k, .slice ka ks.length kc] w (GPost (FAt (fieldS s.data.toList ks k)) w) := by
  have hl : s.data.toList.length = s.size := by simp
  obtain ⟨w1, hw1, R1, B1, S1⟩ := got_new w
  have HF : Hid (fieldS s.data.toList ks k = .error (here s.data.toList k)) := by rw [Hid]; exact fieldS_key (by rw [key, if_neg hq])
  by_cases hlt : k < s.size
  · have hbe : ((s[k].toNat : Int) != 34) = true := by
      rw [byte_get s k hlt] at hq
      rw [bne_iff_ne]; intro e
      exact hq (congrArg some (UInt8.toNat_inj.1 (by simp; omega)))
    have q2 : decide ((s.size : Int) ≤ (k : Int)) = false := by rw [decide_eq_false_iff_not]; omega
    clear hq hl
    go_enter Tryz.func50, Tryz.ntmps50
    go_wp2_with fail
    clear hw1
    refine (rhere_any s k w1 (by omega) hk).mono ?_
    rintro x w2 ⟨a, en, at_, e, rfl, hr, hb⟩
    dsimp only [gVal]
    have R2 := kept_z R1.out hb
    have B2 := Hid.out (p := Hid _) (B1.out.trans (hb.mono B1.out.size))
    have HB := Hid.out (p := Hid _) (FAt.bad HF.out rfl rfl hr)
    clear hb hr
    obtain ⟨⟨c0, c1, c2, c3, c4, c5, c6, c7, c8, c9, c10⟩, f0, f1, f2, f3, f4, f5, f6, f7, f8, f9, f10⟩ := got_cells R2.out
    go_wp2_with fail
    exact got_fin rfl R2.out rfl B2.out (Nat.le_refl _) a en at_ e HB.out
  · have q2 : decide ((s.size : Int) ≤ (k : Int)) = true := by rw [decide_eq_true_eq]; omega
    clear hq hl
    go_enter Tryz.func50, Tryz.ntmps50
    go_wp2_with fail
    clear hw1
    refine (rhere_any s k w1 (by omega) hk).mono ?_
    rintro x w2 ⟨a, en, at_, e, rfl, hr, hb⟩
    dsimp only [gVal]
    have R2 := kept_z R1.out hb
    have B2 := Hid.out (p := Hid _) (B1.out.trans (hb.mono B1.out.size))
    have HB := Hid.out (p := Hid _) (FAt.bad HF.out rfl rfl hr)
    clear hb hr
    obtain ⟨⟨c0, c1, c2, c3, c4, c5, c6, c7, c8, c9, c10⟩, f0, f1, f2, f3, f4, f5, f6, f7, f8, f9, f10⟩ := got_cells R2.out
    go_wp2_with fail
    exact got_fin rfl R2.out rfl B2.out (Nat.le_refl _) a en at_ e HB.out

theorem key_q {l : List UInt8} {ks : List ByteArray} {p : Nat} (h : l[p]? = some 34) : key l ks p = match quoted l p with
    | .error x => .error x
    | .ok (k, q) => if ks.any (fun x => decide (x = k)) then .error (p, 6) else .ok (k, q) := by
  unfold key; rw [if_pos h]; rfl
theorem partV_quoted (l : List UInt8) (k : Nat) : (∃ e : Nat, e ≠ 0 ∧ quoted l k = .error (k, e) ∧ Quote.partV (Quote.scan (l.drop k)) = .agg #[.string ⟨#[]⟩, .int .i64 0, .int .i64 e]) ∨
    (∃ (d : ByteArray) (n : Nat), n ≤ l.length - k ∧ quoted l k = .ok (d, k + n) ∧ Quote.partV (Quote.scan (l.drop k)) = .agg #[.string d, .int .i64 n, .int .i64 0]) := by
  unfold quoted
  cases hq : Quote.scan (l.drop k) with
  | error e => exact .inl ⟨e, scan_err hq, rfl, rfl⟩
  | ok r =>
    obtain ⟨o, n⟩ := r
    have := quote_fits hq
    rw [List.length_drop] at this
    exact .inr ⟨_, n, this.2.1, rfl, rfl⟩

set_option maxHeartbeats 8000000 in
theorem rfield_any (s : ByteArray) (k : Nat) (ka : Option Addr) (kc : Nat) (ks : List ByteArray) (w : World) (hs : s.size ≤ 1000000) (hk : k ≤ s.size) (hks : ks.length ≤ 1000000) (hT : IsTexts w (fun _ => True) ka ks) :
    Calls Tryz.prog 50 #[.string s, .int .i64 k, .slice ka ks.length kc] w (GPost (FAt (fieldS s.data.toList ks k)) w) := by
  by_cases hq : s.data.toList[k]? = some 34
  case neg => exact rfield_q s k ka kc ks w hs hk hq
  have hl : s.data.toList.length = s.size := by simp
  have hlt : k < s.size := by have := get_lt hq; omega
  obtain ⟨w1, hw1, R1, B1, S1⟩ := got_new w
  have HT : Hid (IsTexts w1 (fun _ => True) ka ks) := hT.turn (Turn.below B1.out)
  clear hT
  have hbe : ((s[k].toNat : Int) != 34) = false := by
    have h := hq
    rw [byte_get s k hlt] at h
    injection h with h
    rw [h]; rfl
  have q2 : decide ((s.size : Int) ≤ (k : Int)) = false := by rw [decide_eq_false_iff_not]; omega
  have HK := Hid.out (p := Hid _) (key_q (ks := ks) hq)
  have HL := Hid.out (p := Hid _) hl
  obtain ⟨D, hD⟩ : ∃ D, s.extract k s.size = D := ⟨_, rfl⟩
  have hDl : D.data.toList = s.data.toList.drop k := by rw [← hD]; simp [ByteArray.data_extract]; rw [List.take_of_length_le (by simp)]
  have hDs : D.size ≤ s.size := by rw [← hD, ByteArray.size_extract]; omega
  have hsc : ∀ w, Calls Tryz.prog 27 #[.string D] w fun e w' => e = .returned (Quote.partV (Quote.scan (s.data.toList.drop k))) ∧ Below w.heap.size w w' := fun w => by
    have := Quote.rscan_any D w (by omega)
    unfold Quote.RScan at this
    rw [hDl] at this
    exact this
  have hcase := partV_quoted s.data.toList k
  clear hq hl hDl
  rcases hcase with ⟨e0, he0, hqe, hpv⟩ | ⟨d, n, hn, hqe, hpv⟩
  · rw [hpv] at hsc
    have HSC := Hid.out (p := Hid _) hsc
    have HF : Hid (fieldS s.data.toList ks k = .error (k, e0)) := by rw [Hid]; exact fieldS_key (by rw [HK.out, hqe])
    have hez : ((e0 : Int) != 0) = true := by rw [bne_iff_ne]; omega
    clear hsc hpv hqe he0
    go_enter Tryz.func50, Tryz.ntmps50
    go_wp2_with fail
    clear hw1
    refine (Calls.mono (HSC.out w1) ?_)
    rintro x w2 ⟨rfl, hb⟩
    have R2 := kept_z R1.out hb
    have B2 := Hid.out (p := Hid _) (B1.out.trans (hb.mono B1.out.size))
    clear hb
    go_wp2_with fail
    obtain ⟨w3, hw3, b3, X3⟩ := part_new w2 ⟨#[]⟩ 0 e0
    have R3 := kept_z R2.out b3.out
    have B3 := Hid.out (p := Hid _) (B2.out.trans (b3.out.mono B2.out.size))
    rw [hw3]
    clear hw3 b3 X3
    refine (rbad_any k e0 w3).mono ?_
    rintro x w4 ⟨a, en, at_, e, rfl, hr, hb⟩
    dsimp only [gVal]
    have R4 := kept_z R3.out hb
    have B4 := Hid.out (p := Hid _) (B3.out.trans (hb.mono B3.out.size))
    have HB := Hid.out (p := Hid _) (FAt.bad HF.out rfl rfl hr)
    clear hb hr
    obtain ⟨⟨c0, c1, c2, c3, c4, c5, c6, c7, c8, c9, c10⟩, f0, f1, f2, f3, f4, f5, f6, f7, f8, f9, f10⟩ := got_cells R4.out
    go_wp2_with fail
    exact got_fin rfl R4.out rfl B4.out (Nat.le_refl _) a en at_ e HB.out
  · rw [hpv] at hsc
    have HSC := Hid.out (p := Hid _) hsc
    rw [HL.out] at hn
    obtain ⟨q, hkq⟩ : ∃ q, k + n = q := ⟨_, rfl⟩
    rw [hkq] at hqe
    have hqi : (k : Int) + (n : Int) = (q : Int) := by omega
    have hqs : q ≤ s.size := by omega
    have HK2 : Hid (key s.data.toList ks k = if ks.any (fun x => decide (x = d)) then .error (k, 6) else .ok (d, q)) := by rw [Hid, HK.out, hqe]
    obtain ⟨p, hp⟩ : ∃ p, skip s.data.toList q = p := ⟨_, rfl⟩
    have hps : p ≤ s.size := by have := skip_le s.data.toList q (by rw [HL.out]; omega); rw [HL.out, hp] at this; exact this
    have hbl := fun w => rblanks_any s q w (by omega) hqs
    rw [hp] at hbl
    have HBL := Hid.out (p := Hid _) hbl
    have HCO : Hid (colon s.data.toList q = if s.data.toList[p]? = some 58 then .ok (skip s.data.toList (p + 1)) else .error (here s.data.toList p)) := by rw [Hid, colon, hp]
    clear hsc hpv hqe hn hbl hp hkq
    go_enter Tryz.func50, Tryz.ntmps50
    go_wp2_with fail
    clear hw1
    refine (Calls.mono (HSC.out w1) ?_)
    rintro x w2 ⟨rfl, hb⟩
    have R2 := kept_z R1.out hb
    have B2 := Hid.out (p := Hid _) (B1.out.trans (hb.mono B1.out.size))
    have T2 : Hid (IsTexts w2 (fun _ => True) ka ks) := IsTexts.turn HT.out (Turn.below hb)
    clear hb HT R1 B1 S1
    go_wp2_with fail
    obtain ⟨b, hb⟩ : ∃ b, w2.heap.size = b := ⟨_, rfl⟩
    obtain ⟨w3, hw3, b3, X3⟩ := part_new w2 d n 0
    have R3 := kept_z R2.out b3.out
    have B3 := Hid.out (p := Hid _) (B2.out.trans (b3.out.mono B2.out.size))
    have T3 : Hid (IsTexts w3 (fun _ => True) ka ks) := IsTexts.turn T2.out (Turn.below b3.out)
    rw [hw3]
    rw [hb] at X3 ⊢
    clear hw3 b3 R2 B2 T2 hb
    go_loopw [8] (fun p8 wr => ∃ i : Nat, i ≤ ks.length ∧ p8 = .int .i64 i ∧ Hid (wr.heap[w.heap.size]? = some (.cells (gArr Raw.zero 0 0 0) 31 (0, 0))) ∧ Hid (wr.heap[b]? = some (.cells #[.string d, .int .i64 n, .int .i64 0] 68 (0, 0))) ∧ Hid (IsTexts wr (fun _ => True) ka ks) ∧ Hid (Below w.heap.size w wr) ∧ Hid (ks.any (fun x => decide (x = d)) = (ks.drop i).any (fun x => decide (x = d)))) (fun p8 _ => ks.length - (intOf p8).toNat)
    case atStart => exact ⟨0, Nat.zero_le _, rfl, R3.out, X3.out, T3.out, B3.out, rfl⟩
    case round =>
      obtain ⟨i, hi, rfl, hR, hX, hT, hB, hA⟩ := hrel
      have x0 : wr.cell? ⟨b, 0, none⟩ = some (.string d) := cell_of hX.out 0
      have x1 : wr.cell? ⟨b, 1, none⟩ = some (.int .i64 n) := cell_of hX.out 1
      by_cases hlt2 : i < ks.length
      · have hne : ks ≠ [] := fun e => by rw [e] at hlt2; simp at hlt2
        have hT9 := hT.out
        rcases hT9.resolve_left hne with ⟨tb, tof, hka, _, _, hc⟩
        have g2 := hc i hlt2
        have hA2 : Hid (ks.any (fun x => decide (x = d)) = (decide (ks[i] = d) || (ks.drop (i + 1)).any (fun x => decide (x = d)))) := by rw [Hid, hA.out, List.drop_eq_getElem_cons hlt2, List.any_cons]
        generalize ks[i] = x at *
        have HKA := Hid.out (p := Hid _) hka
        subst hka
        clear hc hT9 hne
        by_cases hx : x = d
        · subst hx
          have HF : Hid (fieldS s.data.toList ks k = .error (k, 6)) := by rw [Hid]; exact fieldS_key (by rw [HK2.out, hA2.out]; simp)
          go_wp2_with fail
          go_quiet (fail)
          have hR2 := kept_z hR.out (below_drewN _ wr nq)
          have hB2 := Hid.out (p := Hid _) (hB.out.trans (below_drewN _ wr nq))
          clear x0 x1 g2
          generalize wr.drewN nq = w4 at *
          go_wp2_with fail
          refine (rbad_any k 6 w4).mono ?_
          rintro x w5 ⟨a, en, at_, e, rfl, hr, hb⟩
          dsimp only [gVal]
          have R5 := kept_z hR2.out hb
          have B5 := Hid.out (p := Hid _) (hB2.out.trans (hb.mono hB2.out.size))
          have HB := Hid.out (p := Hid _) (FAt.bad HF.out rfl rfl hr)
          clear hb hr
          obtain ⟨⟨c0, c1, c2, c3, c4, c5, c6, c7, c8, c9, c10⟩, f0, f1, f2, f3, f4, f5, f6, f7, f8, f9, f10⟩ := got_cells R5.out
          go_wp2_with fail
          exact got_fin rfl R5.out rfl B5.out (Nat.le_refl _) a en at_ e HB.out
        · have hxe : (x.toList == d.toList) = false := toList_ne hx
          have HA3 : Hid (ks.any (fun x => decide (x = d)) = (ks.drop (i + 1)).any (fun x => decide (x = d))) := by rw [Hid, hA2.out, decide_eq_false hx, Bool.false_or]
          have HX2 : Hid (∀ n, Hid ((wr.drewN n).heap[w.heap.size]? = some (.cells (gArr Raw.zero 0 0 0) 31 (0, 0))) ∧ Hid ((wr.drewN n).heap[b]? = _) ∧ Hid (IsTexts (wr.drewN n) (fun _ => True) _ ks) ∧ Hid (Below w.heap.size w (wr.drewN n))) := fun n => ⟨hR.out, hX.out, IsTexts.turn hT.out (Turn.below (below_drewN _ wr n)), hB.out.trans (below_drewN _ wr n)⟩
          clear hx
          go_wp2_with fail
          go_quiet (fail)
          go_wp2_with fail
          go_roundw
          case rel => exact ⟨i + 1, by omega, by go_num, (HX2.out _).1, (HX2.out _).2.1, (HX2.out _).2.2.1, (HX2.out _).2.2.2, HA3.out⟩
          case measure => simp [intOf]; omega
      · have hi2 : i = ks.length := by omega
        subst hi2
        have HK3 : Hid (key s.data.toList ks k = .ok (d, q)) := by
          have := hA.out
          rw [List.drop_length, List.any_nil] at this
          rw [Hid, HK2.out, this]; rfl
        go_wp2_with fail
        refine (Calls.mono (HBL.out wr) ?_)
        rintro x wr' ⟨rfl, rfl⟩
        by_cases hco : s.data.toList[p]? = some 58
        · have hplt : p < s.size := by have := get_lt hco; rw [HL.out] at this; exact this
          have hpb : ((s[p].toNat : Int) != 58) = false := by
            have h := hco
            rw [byte_get s p hplt] at h
            injection h with h
            rw [h]; rfl
          have hpz : decide ((s.size : Int) ≤ (p : Int)) = false := by rw [decide_eq_false_iff_not]; omega
          have HF : Hid (fieldS s.data.toList ks k = .ok (d, skip s.data.toList (p + 1))) := by
            rw [Hid, fieldS, HK3.out]; simp only; rw [HCO.out, if_pos hco]
          clear hco
          have hwp : IntKind.i64.wrap ((p : Int) + 1) = (p : Int) + 1 := IntWalk.i64_in _ (by omega)
          obtain ⟨⟨c0, c1, c2, c3, c4, c5, c6, c7, c8, c9, c10⟩, f0, f1, f2, f3, f4, f5, f6, f7, f8, f9, f10⟩ := got_cells hR.out
          obtain ⟨z, hz⟩ : ∃ z, skip s.data.toList (p + 1) = z := ⟨_, rfl⟩
          have hbl2 := fun w => rblanks_any s (p + 1) w (by omega) hplt
          rw [hz] at HF hbl2
          have HBL2 := Hid.out (p := Hid _) hbl2
          clear hbl2 hz
          go_wp2_with fail
          go_region_law
            ((go_simp; go_at_call 14; refine (Calls.mono (HBL2.out _) ?_); rintro x w6 ⟨rfl, rfl⟩))
          all_goals
            go_wp2_with fail
            refine got_fin_d rfl hR.out rfl hB.out (Nat.le_refl _) ⟨0, false, false, ⟨#[]⟩, 0, d, none, 0, 0, none, 0, 0⟩ z 0 0 ?_
            rw [HF.out]
            exact ⟨rfl, rfl, rfl⟩
        · have HF : Hid (fieldS s.data.toList ks k = .error (here s.data.toList p)) := by
            rw [Hid, fieldS, HK3.out]; simp only; rw [HCO.out, if_neg hco]
          by_cases hplt : p < s.size
          · have hpb : ((s[p].toNat : Int) != 58) = true := by
              rw [byte_get s p hplt] at hco
              rw [bne_iff_ne]; intro e
              exact hco (congrArg some (UInt8.toNat_inj.1 (by simp; omega)))
            have hpz : decide ((s.size : Int) ≤ (p : Int)) = false := by rw [decide_eq_false_iff_not]; omega
            clear hco
            go_wp2_with fail
            refine (rhere_any s p wr (by omega) hps).mono ?_
            rintro x w5 ⟨a, en, at_, e, rfl, hr, hb⟩
            dsimp only [gVal]
            have R5 := kept_z hR.out hb
            have B5 := Hid.out (p := Hid _) (hB.out.trans (hb.mono hB.out.size))
            have HB := Hid.out (p := Hid _) (FAt.bad HF.out rfl rfl hr)
            clear hb hr x0 x1
            obtain ⟨⟨c0, c1, c2, c3, c4, c5, c6, c7, c8, c9, c10⟩, f0, f1, f2, f3, f4, f5, f6, f7, f8, f9, f10⟩ := got_cells R5.out
            go_wp2_with fail
            exact got_fin rfl R5.out rfl B5.out (Nat.le_refl _) a en at_ e HB.out
          · have hpz : decide ((s.size : Int) ≤ (p : Int)) = true := by rw [decide_eq_true_eq]; omega
            clear hco
            go_wp2_with fail
            refine (rhere_any s p wr (by omega) hps).mono ?_
            rintro x w5 ⟨a, en, at_, e, rfl, hr, hb⟩
            dsimp only [gVal]
            have R5 := kept_z hR.out hb
            have B5 := Hid.out (p := Hid _) (hB.out.trans (hb.mono hB.out.size))
            have HB := Hid.out (p := Hid _) (FAt.bad HF.out rfl rfl hr)
            clear hb hr x0 x1
            obtain ⟨⟨c0, c1, c2, c3, c4, c5, c6, c7, c8, c9, c10⟩, f0, f1, f2, f3, f4, f5, f6, f7, f8, f9, f10⟩ := got_cells R5.out
            go_wp2_with fail
            exact got_fin rfl R5.out rfl B5.out (Nat.le_refl _) a en at_ e HB.out
end Go.Proofs.YtbfkgddhpabioaaGreatDoor.Jdec
