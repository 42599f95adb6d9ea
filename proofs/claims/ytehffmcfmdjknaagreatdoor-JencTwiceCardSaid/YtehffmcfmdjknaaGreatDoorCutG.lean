/- tabulariumref09: a value. (Written by gen/cutg.py.) -/
import Derived.Test.YtehffmcfmdjknaaGreatDoorCutF
namespace Go.Proofs.YtehffmcfmdjknaaGreatDoor.Jdec
open Go.RowKit Go.Proofs.YtehffmcfmdjknaaGreatDoor.Strs
set_option linter.unusedVariables false
set_option linter.unusedSimpArgs false
set_option maxRecDepth 100000

theorem val_err {l : List UInt8} {k : Nat} {c : UInt8} (hc : l[k]? = some c) (hw : way c ≠ 0) : value l 0 k = .error (k, 5) := by
  rw [value, hc]; simp only; rw [if_neg hw]
theorem val_no {l : List UInt8} {k : Nat} {c : UInt8} (hc : l[k]? = some c) (hw : way c = 0) : ∀ d, value l d k = .error (k, 3)
  | 0 => by rw [value, hc]; simp only; rw [if_pos hw]
  | d + 1 => by rw [value, hc]; simp only; rw [hw]; rfl
theorem val_out {l : List UInt8} {k : Nat} (hc : l[k]? = none) : ∀ d, value l d k = .error (k, 2)
  | 0 => by rw [value, hc]
  | d + 1 => by rw [value, hc]
theorem val_way {l : List UInt8} {k : Nat} {c : UInt8} (hc : l[k]? = some c) (d : Nat) : value l (d + 1) k = match way c with
      | 0 => .error (k, 3)
      | 1 => text l k
      | 2 => number l k
      | 3 => object l (value l d) k
      | 4 => list l (value l d) k
      | 5 => wordV l [116, 114, 117, 101] (plain 2 true) k
      | 6 => wordV l [102, 97, 108, 115, 101] (plain 2 false) k
      | _ => wordV l [110, 117, 108, 108] (plain 1 false) k := by rw [value, hc]; rfl
theorem byte_is {c : UInt8} {n : Nat} (hn : n < 256) (h : (c.toNat : Int) = (n : Int)) : c = UInt8.ofNat n := UInt8.toNat_inj.1 (by rw [UInt8.toNat_ofNat']; omega)
theorem way_digit {c : UInt8} (h1 : 48 ≤ (c.toNat : Int)) (h2 : (c.toNat : Int) ≤ 57) : way c = 2 := by
  have h3 : ¬ c = 34 := fun e => by subst e; revert h1; decide
  unfold way
  rw [if_neg h3, if_pos (.inr ⟨by omega, by omega⟩)]
set_option maxRecDepth 1000000 in
theorem way_zero : ∀ n : Fin 256, (n.val ≠ 34 ∧ n.val ≠ 45 ∧ n.val ≠ 91 ∧ n.val ≠ 123 ∧ n.val ≠ 116 ∧ n.val ≠ 102 ∧ n.val ≠ 110 ∧ ¬ (48 ≤ n.val ∧ n.val ≤ 57)) → way (UInt8.ofNat n.val) = 0 := by decide +kernel
theorem text_quoted (l : List UInt8) (k : Nat) : text l k = match quoted l k with
    | .error x => .error x
    | .ok (s, q) => .ok (.mk 4 false false ⟨#[]⟩ 0 s [] [], q) := rfl

set_option maxHeartbeats 1600000 in
theorem rval_out (s : ByteArray) (k dp d : Nat) (w : World) (hs : s.size ≤ 1000000) (hdd : dp + d = 65) (hk : k ≤ s.size) (hk2 : s.size ≤ k) :
    Calls Tryz.prog 14 #[.string s, .int .i64 k, .int .i64 dp] w (GPost (GAt (value s.data.toList d k)) w) := by
  have hl : s.data.toList.length = s.size := by simp
  obtain ⟨w1, hw1, R1, B1, S1⟩ := got_new w
  have HV := Hid.out (p := Hid _) (val_out (List.getElem?_eq_none (by rw [hl]; exact hk2)) d)
  have q2 : decide ((s.size : Int) ≤ (k : Int)) = true := by rw [decide_eq_true_eq]; omega
  go_enter Tryz.func14, Tryz.ntmps14
  go_wp2_with fail
  clear hw1
  refine (Calls.mono (rbad_any k 2 w1) ?_)
  rintro x w2 ⟨a, en, at_, e, rfl, hr, hb⟩
  dsimp only [gVal]
  have R2 := kept_z R1.out hb
  have B2 := Hid.out (p := Hid _) (B1.out.trans (hb.mono B1.out.size))
  have HB : Hid (GAt (value s.data.toList d k) a en at_ e) := GAt.bad HV.out rfl rfl hr
  clear hb hr
  obtain ⟨⟨c0, c1, c2, c3, c4, c5, c6, c7, c8, c9, c10⟩, f0, f1, f2, f3, f4, f5, f6, f7, f8, f9, f10⟩ := got_cells R2.out
  go_wp2_with fail
  exact got_fin rfl R2.out rfl B2.out (Nat.le_refl _) a en at_ e HB.out

set_option maxHeartbeats 1600000 in
theorem rval_none (s : ByteArray) (k dp d : Nat) (w : World) (hs : s.size ≤ 1000000) (hdd : dp + d = 65) (hk : k < s.size) (hw : way s[k] = 0) :
    Calls Tryz.prog 14 #[.string s, .int .i64 k, .int .i64 dp] w (GPost (GAt (value s.data.toList d k)) w) := by
  have hl : s.data.toList.length = s.size := by simp
  obtain ⟨w1, hw1, R1, B1, S1⟩ := got_new w
  have q2 : decide ((s.size : Int) ≤ (k : Int)) = false := by rw [decide_eq_false_iff_not]; omega
  have hg := byte_get s k hk
  have HV := Hid.out (p := Hid _) (val_no hg hw d)
  have hne : ∀ n : Nat, n < 256 → way (UInt8.ofNat n) ≠ 0 → ((s[k].toNat : Int) == (n : Int)) = false := fun n h1 h2 => by
    rw [beq_eq_false_iff_ne]; intro e; exact h2 (by rw [← byte_is h1 e]; exact hw)
  have hnn : ∀ n : Nat, n < 256 → way (UInt8.ofNat n) ≠ 0 → ((s[k].toNat : Int) != (n : Int)) = true := fun n h1 h2 => by
    rw [bne_iff_ne]; intro e; exact h2 (by rw [← byte_is h1 e]; exact hw)
  have b45 := hne 45 (by decide) (by decide)
  have b110 := hnn 110 (by decide) (by decide)
  have b116 := hnn 116 (by decide) (by decide)
  have b102 := hnn 102 (by decide) (by decide)
  have b34 := hnn 34 (by decide) (by decide)
  have b91 := hnn 91 (by decide) (by decide)
  have b123 := hnn 123 (by decide) (by decide)
  have hr := mt (fun h : 48 ≤ (s[k].toNat : Int) ∧ (s[k].toNat : Int) ≤ 57 => way_digit h.1 h.2) (by rw [hw]; decide)
  simp only [Int.cast_ofNat_Int] at b45 b110 b116 b102 b34 b91 b123
  clear hne hnn hg hw
  by_cases h1 : 48 ≤ (s[k].toNat : Int)
  · have a1 : decide (48 ≤ (s[k].toNat : Int)) = true := by rw [decide_eq_true_eq]; exact h1
    have a2 : decide ((s[k].toNat : Int) ≤ 57) = false := by rw [decide_eq_false_iff_not]; exact fun h => hr ⟨h1, h⟩
    have a3 : decide (48 ≤ s[k].toNat) = true := by rw [decide_eq_true_eq]; omega
    have a4 : decide (s[k].toNat ≤ 57) = false := by rw [decide_eq_false_iff_not]; omega
    clear h1 hr
    go_enter Tryz.func14, Tryz.ntmps14
    go_wp2_with fail
    clear hw1
    refine (Calls.mono (rbad_any k 3 w1) ?_)
    rintro x w2 ⟨a, en, at_, e, rfl, hr, hb⟩
    dsimp only [gVal]
    have R2 := kept_z R1.out hb
    have B2 := Hid.out (p := Hid _) (B1.out.trans (hb.mono B1.out.size))
    have HB : Hid (GAt (value s.data.toList d k) a en at_ e) := GAt.bad HV.out rfl rfl hr
    clear hb hr
    obtain ⟨⟨c0, c1, c2, c3, c4, c5, c6, c7, c8, c9, c10⟩, f0, f1, f2, f3, f4, f5, f6, f7, f8, f9, f10⟩ := got_cells R2.out
    go_wp2_with fail
    exact got_fin rfl R2.out rfl B2.out (Nat.le_refl _) a en at_ e HB.out
  · have a1 : decide (48 ≤ (s[k].toNat : Int)) = false := by rw [decide_eq_false_iff_not]; exact h1
    have a3 : decide (48 ≤ s[k].toNat) = false := by rw [decide_eq_false_iff_not]; omega
    clear h1 hr
    go_enter Tryz.func14, Tryz.ntmps14
    go_wp2_with fail
    clear hw1
    refine (Calls.mono (rbad_any k 3 w1) ?_)
    rintro x w2 ⟨a, en, at_, e, rfl, hr, hb⟩
    dsimp only [gVal]
    have R2 := kept_z R1.out hb
    have B2 := Hid.out (p := Hid _) (B1.out.trans (hb.mono B1.out.size))
    have HB : Hid (GAt (value s.data.toList d k) a en at_ e) := GAt.bad HV.out rfl rfl hr
    clear hb hr
    obtain ⟨⟨c0, c1, c2, c3, c4, c5, c6, c7, c8, c9, c10⟩, f0, f1, f2, f3, f4, f5, f6, f7, f8, f9, f10⟩ := got_cells R2.out
    go_wp2_with fail
    exact got_fin rfl R2.out rfl B2.out (Nat.le_refl _) a en at_ e HB.out

set_option maxHeartbeats 1600000 in
theorem rval_digit (s : ByteArray) (k dp d : Nat) (w : World) (hs : s.size ≤ 1000000) (hdd : dp + d = 65) (hk : k < s.size) (h1 : 48 ≤ (s[k].toNat : Int)) (h2 : (s[k].toNat : Int) ≤ 57) :
    Calls Tryz.prog 14 #[.string s, .int .i64 k, .int .i64 dp] w (GPost (GAt (value s.data.toList d k)) w) := by
  have hl : s.data.toList.length = s.size := by simp
  obtain ⟨w1, hw1, R1, B1, S1⟩ := got_new w
  have q2 : decide ((s.size : Int) ≤ (k : Int)) = false := by rw [decide_eq_false_iff_not]; omega
  have hg := byte_get s k hk
  have hw := way_digit h1 h2
  have HN := Hid.out (p := Hid _) (rnumber_any s k w1 hs hk)
  have HV0 := Hid.out (p := Hid _) (val_err hg (by rw [hw]; decide))
  have HV1 : Hid (∀ d, value s.data.toList (d + 1) k = number s.data.toList k) := fun d => by rw [val_way hg, hw]; rfl
  have b110 : ((s[k].toNat : Int) != 110) = true := by rw [bne_iff_ne]; omega
  have b116 : ((s[k].toNat : Int) != 116) = true := by rw [bne_iff_ne]; omega
  have b102 : ((s[k].toNat : Int) != 102) = true := by rw [bne_iff_ne]; omega
  have b34 : ((s[k].toNat : Int) != 34) = true := by rw [bne_iff_ne]; omega
  have b91 : ((s[k].toNat : Int) != 91) = true := by rw [bne_iff_ne]; omega
  have b123 : ((s[k].toNat : Int) != 123) = true := by rw [bne_iff_ne]; omega
  clear hg hw
  have a1 : decide (48 ≤ (s[k].toNat : Int)) = true := by rw [decide_eq_true_eq]; exact h1
  have a2 : decide ((s[k].toNat : Int) ≤ 57) = true := by rw [decide_eq_true_eq]; exact h2
  have a3 : decide (48 ≤ s[k].toNat) = true := by rw [decide_eq_true_eq]; omega
  have a4 : decide (s[k].toNat ≤ 57) = true := by rw [decide_eq_true_eq]; omega
  clear h1 h2
  cases d with
  | zero =>
    have qd : decide (64 < (dp : Int)) = true := by rw [decide_eq_true_eq]; omega
    have qe : decide (64 < dp) = true := by rw [decide_eq_true_eq]; omega
    go_enter Tryz.func14, Tryz.ntmps14
    go_wp2_with fail
    clear hw1
    refine (Calls.mono (rbad_any k 5 w1) ?_)
    rintro x w2 ⟨a, en, at_, e, rfl, hr, hb⟩
    dsimp only [gVal]
    have R2 := kept_z R1.out hb
    have B2 := Hid.out (p := Hid _) (B1.out.trans (hb.mono B1.out.size))
    have HB : Hid (GAt (value s.data.toList 0 k) a en at_ e) := GAt.bad HV0.out rfl rfl hr
    clear hb hr
    obtain ⟨⟨c0, c1, c2, c3, c4, c5, c6, c7, c8, c9, c10⟩, f0, f1, f2, f3, f4, f5, f6, f7, f8, f9, f10⟩ := got_cells R2.out
    go_wp2_with fail
    exact got_fin rfl R2.out rfl B2.out (Nat.le_refl _) a en at_ e HB.out
  | succ d =>
    have qd : decide (64 < (dp : Int)) = false := by rw [decide_eq_false_iff_not]; omega
    have qe : decide (64 < dp) = false := by rw [decide_eq_false_iff_not]; omega
    go_enter Tryz.func14, Tryz.ntmps14
    go_wp2_with fail
    clear hw1
    refine (Calls.mono (HN.out) ?_)
    rintro x w2 ⟨a, en, at_, e, rfl, hr, hb⟩
    dsimp only [gVal]
    have R2 := kept_z R1.out hb
    have B2 := Hid.out (p := Hid _) (B1.out.trans (hb.mono B1.out.size))
    have HB : Hid (GAt (value s.data.toList (d + 1) k) a en at_ e) := by rw [Hid, HV1.out]; exact hr
    clear hb hr
    obtain ⟨⟨c0, c1, c2, c3, c4, c5, c6, c7, c8, c9, c10⟩, f0, f1, f2, f3, f4, f5, f6, f7, f8, f9, f10⟩ := got_cells R2.out
    go_wp2_with fail
    exact got_fin rfl R2.out rfl B2.out (Nat.le_refl _) a en at_ e HB.out

set_option maxHeartbeats 1600000 in
theorem rval_b34 (s : ByteArray) (k dp d : Nat) (w : World) (hs : s.size ≤ 1000000) (hdd : dp + d = 65) (hk : k < s.size) (hn : (s[k].toNat : Int) = 34) :
    Calls Tryz.prog 14 #[.string s, .int .i64 k, .int .i64 dp] w (GPost (GAt (value s.data.toList d k)) w) := by
  have hl : s.data.toList.length = s.size := by simp
  obtain ⟨w1, hw1, R1, B1, S1⟩ := got_new w
  have q2 : decide ((s.size : Int) ≤ (k : Int)) = false := by rw [decide_eq_false_iff_not]; omega
  have hg := byte_get s k hk
  have hb : s[k] = 34 := byte_is (n := 34) (by decide) hn
  have HV0 : Hid (value s.data.toList 0 k = .error (k, 5)) := val_err hg (by rw [hb]; decide)
  have HV1 : Hid (∀ d, value s.data.toList (d + 1) k = text s.data.toList k) := fun d => by rw [val_way hg, hb]; rfl
  obtain ⟨D, hD⟩ : ∃ D, s.extract k s.size = D := ⟨_, rfl⟩
  have hDl : D.data.toList = s.data.toList.drop k := by rw [← hD]; simp [ByteArray.data_extract]; rw [List.take_of_length_le (by simp)]
  have hDs : D.size ≤ s.size := by rw [← hD, ByteArray.size_extract]; omega
  have hsc : ∀ w, Calls Tryz.prog 26 #[.string D] w fun e w' => e = .returned (Quote.partV (Quote.scan (s.data.toList.drop k))) ∧ Below w.heap.size w w' := fun w => by
    have := Quote.rscan_any D w (by omega)
    unfold Quote.RScan at this
    rw [hDl] at this
    exact this
  have hcase := partV_quoted s.data.toList k
  clear hg hb
  cases d with
  | zero =>
    have qd : decide (64 < (dp : Int)) = true := by rw [decide_eq_true_eq]; omega
    have qe : decide (64 < dp) = true := by rw [decide_eq_true_eq]; omega
    clear hsc hcase hDl
    go_enter Tryz.func14, Tryz.ntmps14
    go_wp2_with fail
    clear hw1
    refine (Calls.mono (rbad_any k 5 w1) ?_)
    rintro x w2 ⟨a, en, at_, e, rfl, hr, hb⟩
    dsimp only [gVal]
    have R2 := kept_z R1.out hb
    have B2 := Hid.out (p := Hid _) (B1.out.trans (hb.mono B1.out.size))
    have HB : Hid (GAt (value s.data.toList 0 k) a en at_ e) := GAt.bad HV0.out rfl rfl hr
    clear hb hr
    obtain ⟨⟨c0, c1, c2, c3, c4, c5, c6, c7, c8, c9, c10⟩, f0, f1, f2, f3, f4, f5, f6, f7, f8, f9, f10⟩ := got_cells R2.out
    go_wp2_with fail
    exact got_fin rfl R2.out rfl B2.out (Nat.le_refl _) a en at_ e HB.out
  | succ d =>
    have qd : decide (64 < (dp : Int)) = false := by rw [decide_eq_false_iff_not]; omega
    have qe : decide (64 < dp) = false := by rw [decide_eq_false_iff_not]; omega
    clear hDl
    rcases hcase with ⟨e0, he0, hqe, hpv⟩ | ⟨d0, n, hn0, hqe, hpv⟩
    · rw [hpv] at hsc
      have HSC := Hid.out (p := Hid _) hsc
      have HF : Hid (value s.data.toList (d + 1) k = .error (k, e0)) := by rw [Hid, HV1.out, text_quoted, hqe]
      have hez : ((e0 : Int) != 0) = true := by rw [bne_iff_ne]; omega
      clear hsc hpv hqe he0
      go_enter Tryz.func14, Tryz.ntmps14
      go_wp2_with fail
      clear hw1
      refine (Calls.mono (HSC.out w1) ?_)
      rintro x w2 ⟨rfl, hb⟩
      have R2 := kept_z R1.out hb
      have B2 := Hid.out (p := Hid _) (B1.out.trans (hb.mono B1.out.size))
      clear hb
      go_wp2_with fail
      obtain ⟨w3, hw3, b3, X3⟩ := part_new w2 ⟨#[]⟩ 0 e0
      have R3 := kept_z R2.out b3.out
      have B3 := Hid.out (p := Hid _) (B2.out.trans (b3.out.mono B2.out.size))
      rw [hw3]
      clear hw3 b3 X3
      refine (rbad_any k e0 w3).mono ?_
      rintro x w4 ⟨a, en, at_, e, rfl, hr, hb⟩
      dsimp only [gVal]
      have R4 := kept_z R3.out hb
      have B4 := Hid.out (p := Hid _) (B3.out.trans (hb.mono B3.out.size))
      have HB := Hid.out (p := Hid _) (GAt.bad HF.out rfl rfl hr)
      clear hb hr
      obtain ⟨⟨c0, c1, c2, c3, c4, c5, c6, c7, c8, c9, c10⟩, f0, f1, f2, f3, f4, f5, f6, f7, f8, f9, f10⟩ := got_cells R4.out
      go_wp2_with fail
      exact got_fin rfl R4.out rfl B4.out (Nat.le_refl _) a en at_ e HB.out
    · obtain ⟨e0, he0⟩ : ∃ e0 : Int, e0 = 0 := ⟨_, rfl⟩
      rw [hpv, ← he0] at hsc
      have HSC := Hid.out (p := Hid _) hsc
      rw [hl] at hn0
      have HF : Hid (value s.data.toList (d + 1) k = .ok (.mk 4 false false ⟨#[]⟩ 0 d0 [] [], k + n)) := by rw [Hid, HV1.out, text_quoted, hqe]
      have hez : ((e0 : Int) != 0) = false := by rw [he0]; rfl
      obtain ⟨q, hkq⟩ : ∃ q, k + n = q := ⟨_, rfl⟩
      have hqi : (k : Int) + (n : Int) = (q : Int) := by omega
      have hqs : q ≤ s.size := by omega
      have hqw : IntKind.i64.wrap (q : Int) = (q : Int) := IntWalk.i64_in _ (by omega)
      rw [hkq] at HF
      clear hsc hpv hqe he0 hn0 hkq
      go_enter Tryz.func14, Tryz.ntmps14
      go_wp2_with fail
      clear hw1
      refine (Calls.mono (HSC.out w1) ?_)
      rintro x w2 ⟨rfl, hb⟩
      have R2 := kept_z R1.out hb
      have B2 := Hid.out (p := Hid _) (B1.out.trans (hb.mono B1.out.size))
      clear hb
      obtain ⟨w3, hw3, b3, X3⟩ := part_new w2 d0 n e0
      have R3 := kept_z R2.out b3.out
      have B3 := Hid.out (p := Hid _) (B2.out.trans (b3.out.mono B2.out.size))
      have hbb : w.heap.size < w2.heap.size := heap_lt R2.out
      have x0 : w3.cell? ⟨w2.heap.size, 0, none⟩ = some (.string d0) := cell_of X3.out 0
      have x1 : w3.cell? ⟨w2.heap.size, 1, none⟩ = some (.int .i64 n) := cell_of X3.out 1
      have x2 : w3.cell? ⟨w2.heap.size, 2, none⟩ = some (.int .i64 e0) := cell_of X3.out 2
      clear b3 X3
      obtain ⟨⟨c0, c1, c2, c3, c4, c5, c6, c7, c8, c9, c10⟩, f0, f1, f2, f3, f4, f5, f6, f7, f8, f9, f10⟩ := got_cells R3.out
      go_wp2_with fail
      refine got_fin rfl R3.out rfl B3.out (Nat.le_refl _) ⟨4, false, false, ⟨#[]⟩, 0, d0, none, 0, 0, none, 0, 0⟩ q 0 0 ?_
      rw [HF.out]
      exact ⟨rfl, rfl⟩

set_option maxHeartbeats 1600000 in
theorem rval_b45 (s : ByteArray) (k dp d : Nat) (w : World) (hs : s.size ≤ 1000000) (hdd : dp + d = 65) (hk : k < s.size) (hn : (s[k].toNat : Int) = 45) :
    Calls Tryz.prog 14 #[.string s, .int .i64 k, .int .i64 dp] w (GPost (GAt (value s.data.toList d k)) w) := by
  have hl : s.data.toList.length = s.size := by simp
  obtain ⟨w1, hw1, R1, B1, S1⟩ := got_new w
  have q2 : decide ((s.size : Int) ≤ (k : Int)) = false := by rw [decide_eq_false_iff_not]; omega
  have hg := byte_get s k hk
  have hb : s[k] = 45 := byte_is (n := 45) (by decide) hn
  have HV0 : Hid (value s.data.toList 0 k = .error (k, 5)) := val_err hg (by rw [hb]; decide)
  have HV1 : Hid (∀ d, value s.data.toList (d + 1) k = number s.data.toList k) := fun d => by rw [val_way hg, hb]; rfl
  have HN := Hid.out (p := Hid _) (rnumber_any s k w1 hs hk)
  clear hg hb
  cases d with
  | zero =>
    have qd : decide (64 < (dp : Int)) = true := by rw [decide_eq_true_eq]; omega
    have qe : decide (64 < dp) = true := by rw [decide_eq_true_eq]; omega
    clear HN
    go_enter Tryz.func14, Tryz.ntmps14
    go_wp2_with fail
    clear hw1
    refine (Calls.mono (rbad_any k 5 w1) ?_)
    rintro x w2 ⟨a, en, at_, e, rfl, hr, hb⟩
    dsimp only [gVal]
    have R2 := kept_z R1.out hb
    have B2 := Hid.out (p := Hid _) (B1.out.trans (hb.mono B1.out.size))
    have HB : Hid (GAt (value s.data.toList 0 k) a en at_ e) := GAt.bad HV0.out rfl rfl hr
    clear hb hr
    obtain ⟨⟨c0, c1, c2, c3, c4, c5, c6, c7, c8, c9, c10⟩, f0, f1, f2, f3, f4, f5, f6, f7, f8, f9, f10⟩ := got_cells R2.out
    go_wp2_with fail
    exact got_fin rfl R2.out rfl B2.out (Nat.le_refl _) a en at_ e HB.out
  | succ d =>
    have qd : decide (64 < (dp : Int)) = false := by rw [decide_eq_false_iff_not]; omega
    have qe : decide (64 < dp) = false := by rw [decide_eq_false_iff_not]; omega
    go_enter Tryz.func14, Tryz.ntmps14
    go_wp2_with fail
    clear hw1
    refine (Calls.mono (HN.out) ?_)
    rintro x w2 ⟨a, en, at_, e, rfl, hr, hb⟩
    dsimp only [gVal]
    have R2 := kept_z R1.out hb
    have B2 := Hid.out (p := Hid _) (B1.out.trans (hb.mono B1.out.size))
    have HB : Hid (GAt (value s.data.toList (d + 1) k) a en at_ e) := by rw [Hid, HV1.out]; exact hr
    clear hb hr
    obtain ⟨⟨c0, c1, c2, c3, c4, c5, c6, c7, c8, c9, c10⟩, f0, f1, f2, f3, f4, f5, f6, f7, f8, f9, f10⟩ := got_cells R2.out
    go_wp2_with fail
    exact got_fin rfl R2.out rfl B2.out (Nat.le_refl _) a en at_ e HB.out

set_option maxHeartbeats 1600000 in
theorem rval_b91 (s : ByteArray) (k dp d : Nat) (w : World) (hs : s.size ≤ 1000000) (hdd : dp + d = 65) (hk : k < s.size) (hn : (s[k].toNat : Int) = 91) (IH : ∀ d', d = d' + 1 → RVal s ((dp : Int) + 1) (value s.data.toList d')) :
    Calls Tryz.prog 14 #[.string s, .int .i64 k, .int .i64 dp] w (GPost (GAt (value s.data.toList d k)) w) := by
  have hl : s.data.toList.length = s.size := by simp
  obtain ⟨w1, hw1, R1, B1, S1⟩ := got_new w
  have q2 : decide ((s.size : Int) ≤ (k : Int)) = false := by rw [decide_eq_false_iff_not]; omega
  have hg := byte_get s k hk
  have hb : s[k] = 91 := byte_is (n := 91) (by decide) hn
  have HV0 : Hid (value s.data.toList 0 k = .error (k, 5)) := val_err hg (by rw [hb]; decide)
  have HV1 : Hid (∀ d, value s.data.toList (d + 1) k = list s.data.toList (value s.data.toList d) k) := fun d => by rw [val_way hg, hb]; rfl
  have HN : Hid (∀ d', d = d' + 1 → Calls Tryz.prog 27 #[.string s, .int .i64 k, .int .i64 dp] w1 (GPost (GAtE (manyV false s.data.toList (value s.data.toList d') k)) w1)) := fun d' hd => rmany_list s k dp _ w1 hs hk (by omega) hn (IH d' hd) (value_fits _ d')
  clear IH
  clear hg hb
  cases d with
  | zero =>
    have qd : decide (64 < (dp : Int)) = true := by rw [decide_eq_true_eq]; omega
    have qe : decide (64 < dp) = true := by rw [decide_eq_true_eq]; omega
    clear HN
    go_enter Tryz.func14, Tryz.ntmps14
    go_wp2_with fail
    clear hw1
    refine (Calls.mono (rbad_any k 5 w1) ?_)
    rintro x w2 ⟨a, en, at_, e, rfl, hr, hb⟩
    dsimp only [gVal]
    have R2 := kept_z R1.out hb
    have B2 := Hid.out (p := Hid _) (B1.out.trans (hb.mono B1.out.size))
    have HB : Hid (GAt (value s.data.toList 0 k) a en at_ e) := GAt.bad HV0.out rfl rfl hr
    clear hb hr
    obtain ⟨⟨c0, c1, c2, c3, c4, c5, c6, c7, c8, c9, c10⟩, f0, f1, f2, f3, f4, f5, f6, f7, f8, f9, f10⟩ := got_cells R2.out
    go_wp2_with fail
    exact got_fin rfl R2.out rfl B2.out (Nat.le_refl _) a en at_ e HB.out
  | succ d =>
    have qd : decide (64 < (dp : Int)) = false := by rw [decide_eq_false_iff_not]; omega
    have qe : decide (64 < dp) = false := by rw [decide_eq_false_iff_not]; omega
    have HNN := Hid.out (p := Hid _) (HN.out d rfl)
    clear HN
    go_enter Tryz.func14, Tryz.ntmps14
    go_wp2_with fail
    clear hw1
    refine (Calls.mono (HNN.out) ?_)
    rintro x w2 ⟨a, en, at_, e, rfl, hr, hb⟩
    dsimp only [gVal]
    have R2 := kept_z R1.out hb
    have B2 := Hid.out (p := Hid _) (B1.out.trans (hb.mono B1.out.size))
    have HB : Hid (GAt (value s.data.toList (d + 1) k) a en at_ e) := by rw [Hid, HV1.out]; exact GAtE.turn (by rw [list_many]; exact hr)
    clear hb hr
    obtain ⟨⟨c0, c1, c2, c3, c4, c5, c6, c7, c8, c9, c10⟩, f0, f1, f2, f3, f4, f5, f6, f7, f8, f9, f10⟩ := got_cells R2.out
    go_wp2_with fail
    exact got_fin rfl R2.out rfl B2.out (Nat.le_refl _) a en at_ e HB.out

set_option maxHeartbeats 1600000 in
theorem rval_b123 (s : ByteArray) (k dp d : Nat) (w : World) (hs : s.size ≤ 1000000) (hdd : dp + d = 65) (hk : k < s.size) (hn : (s[k].toNat : Int) = 123) (IH : ∀ d', d = d' + 1 → RVal s ((dp : Int) + 1) (value s.data.toList d')) :
    Calls Tryz.prog 14 #[.string s, .int .i64 k, .int .i64 dp] w (GPost (GAt (value s.data.toList d k)) w) := by
  have hl : s.data.toList.length = s.size := by simp
  obtain ⟨w1, hw1, R1, B1, S1⟩ := got_new w
  have q2 : decide ((s.size : Int) ≤ (k : Int)) = false := by rw [decide_eq_false_iff_not]; omega
  have hg := byte_get s k hk
  have hb : s[k] = 123 := byte_is (n := 123) (by decide) hn
  have HV0 : Hid (value s.data.toList 0 k = .error (k, 5)) := val_err hg (by rw [hb]; decide)
  have HV1 : Hid (∀ d, value s.data.toList (d + 1) k = object s.data.toList (value s.data.toList d) k) := fun d => by rw [val_way hg, hb]; rfl
  have HN : Hid (∀ d', d = d' + 1 → Calls Tryz.prog 27 #[.string s, .int .i64 k, .int .i64 dp] w1 (GPost (GAtE (manyV true s.data.toList (value s.data.toList d') k)) w1)) := fun d' hd => rmany_object s k dp _ w1 hs hk (by omega) hn (IH d' hd) (value_fits _ d')
  clear IH
  clear hg hb
  cases d with
  | zero =>
    have qd : decide (64 < (dp : Int)) = true := by rw [decide_eq_true_eq]; omega
    have qe : decide (64 < dp) = true := by rw [decide_eq_true_eq]; omega
    clear HN
    go_enter Tryz.func14, Tryz.ntmps14
    go_wp2_with fail
    clear hw1
    refine (Calls.mono (rbad_any k 5 w1) ?_)
    rintro x w2 ⟨a, en, at_, e, rfl, hr, hb⟩
    dsimp only [gVal]
    have R2 := kept_z R1.out hb
    have B2 := Hid.out (p := Hid _) (B1.out.trans (hb.mono B1.out.size))
    have HB : Hid (GAt (value s.data.toList 0 k) a en at_ e) := GAt.bad HV0.out rfl rfl hr
    clear hb hr
    obtain ⟨⟨c0, c1, c2, c3, c4, c5, c6, c7, c8, c9, c10⟩, f0, f1, f2, f3, f4, f5, f6, f7, f8, f9, f10⟩ := got_cells R2.out
    go_wp2_with fail
    exact got_fin rfl R2.out rfl B2.out (Nat.le_refl _) a en at_ e HB.out
  | succ d =>
    have qd : decide (64 < (dp : Int)) = false := by rw [decide_eq_false_iff_not]; omega
    have qe : decide (64 < dp) = false := by rw [decide_eq_false_iff_not]; omega
    have HNN := Hid.out (p := Hid _) (HN.out d rfl)
    clear HN
    go_enter Tryz.func14, Tryz.ntmps14
    go_wp2_with fail
    clear hw1
    refine (Calls.mono (HNN.out) ?_)
    rintro x w2 ⟨a, en, at_, e, rfl, hr, hb⟩
    dsimp only [gVal]
    have R2 := kept_z R1.out hb
    have B2 := Hid.out (p := Hid _) (B1.out.trans (hb.mono B1.out.size))
    have HB : Hid (GAt (value s.data.toList (d + 1) k) a en at_ e) := by rw [Hid, HV1.out]; exact GAtE.turn (by rw [object_many]; exact hr)
    clear hb hr
    obtain ⟨⟨c0, c1, c2, c3, c4, c5, c6, c7, c8, c9, c10⟩, f0, f1, f2, f3, f4, f5, f6, f7, f8, f9, f10⟩ := got_cells R2.out
    go_wp2_with fail
    exact got_fin rfl R2.out rfl B2.out (Nat.le_refl _) a en at_ e HB.out

set_option maxHeartbeats 1600000 in
theorem rval_b116 (s : ByteArray) (k dp d : Nat) (w : World) (hs : s.size ≤ 1000000) (hdd : dp + d = 65) (hk : k < s.size) (hn : (s[k].toNat : Int) = 116) :
    Calls Tryz.prog 14 #[.string s, .int .i64 k, .int .i64 dp] w (GPost (GAt (value s.data.toList d k)) w) := by
  have hl : s.data.toList.length = s.size := by simp
  obtain ⟨w1, hw1, R1, B1, S1⟩ := got_new w
  have q2 : decide ((s.size : Int) ≤ (k : Int)) = false := by rw [decide_eq_false_iff_not]; omega
  have hg := byte_get s k hk
  have hb : s[k] = 116 := byte_is (n := 116) (by decide) hn
  have HV0 : Hid (value s.data.toList 0 k = .error (k, 5)) := val_err hg (by rw [hb]; decide)
  have HV1 : Hid (∀ d, value s.data.toList (d + 1) k = wordV s.data.toList [116, 114, 117, 101] (plain 2 true) k) := fun d => by rw [val_way hg, hb]; rfl
  have HN : Hid (Calls Tryz.prog 25 #[.string s, .int .i64 k, .string ⟨#[116, 114, 117, 101]⟩, .agg #[.int .i64 2, .bool true, .bool false, .string ⟨#[]⟩, .int .i64 0, .string ⟨#[]⟩, .slice none 0 0, .slice none 0 0]] w1 (GPost (GAt (wordV s.data.toList [116, 114, 117, 101] (plain 2 true) k)) w1)) := rword_any s ⟨#[116, 114, 117, 101]⟩ k ⟨2, true, false, ⟨#[]⟩, 0, ⟨#[]⟩, none, 0, 0, none, 0, 0⟩ (plain 2 true) w1 (by omega) (by omega) (by decide)
  clear hg hb
  cases d with
  | zero =>
    have qd : decide (64 < (dp : Int)) = true := by rw [decide_eq_true_eq]; omega
    have qe : decide (64 < dp) = true := by rw [decide_eq_true_eq]; omega
    clear HN
    go_enter Tryz.func14, Tryz.ntmps14
    go_wp2_with fail
    clear hw1
    refine (Calls.mono (rbad_any k 5 w1) ?_)
    rintro x w2 ⟨a, en, at_, e, rfl, hr, hb⟩
    dsimp only [gVal]
    have R2 := kept_z R1.out hb
    have B2 := Hid.out (p := Hid _) (B1.out.trans (hb.mono B1.out.size))
    have HB : Hid (GAt (value s.data.toList 0 k) a en at_ e) := GAt.bad HV0.out rfl rfl hr
    clear hb hr
    obtain ⟨⟨c0, c1, c2, c3, c4, c5, c6, c7, c8, c9, c10⟩, f0, f1, f2, f3, f4, f5, f6, f7, f8, f9, f10⟩ := got_cells R2.out
    go_wp2_with fail
    exact got_fin rfl R2.out rfl B2.out (Nat.le_refl _) a en at_ e HB.out
  | succ d =>
    have qd : decide (64 < (dp : Int)) = false := by rw [decide_eq_false_iff_not]; omega
    have qe : decide (64 < dp) = false := by rw [decide_eq_false_iff_not]; omega
    go_enter Tryz.func14, Tryz.ntmps14
    go_wp2_with fail
    clear hw1
    refine (Calls.mono (HN.out) ?_)
    rintro x w2 ⟨a, en, at_, e, rfl, hr, hb⟩
    dsimp only [gVal]
    have R2 := kept_z R1.out hb
    have B2 := Hid.out (p := Hid _) (B1.out.trans (hb.mono B1.out.size))
    have HB : Hid (GAt (value s.data.toList (d + 1) k) a en at_ e) := by rw [Hid, HV1.out]; exact hr
    clear hb hr
    obtain ⟨⟨c0, c1, c2, c3, c4, c5, c6, c7, c8, c9, c10⟩, f0, f1, f2, f3, f4, f5, f6, f7, f8, f9, f10⟩ := got_cells R2.out
    go_wp2_with fail
    exact got_fin rfl R2.out rfl B2.out (Nat.le_refl _) a en at_ e HB.out

set_option maxHeartbeats 1600000 in
theorem rval_b102 (s : ByteArray) (k dp d : Nat) (w : World) (hs : s.size ≤ 1000000) (hdd : dp + d = 65) (hk : k < s.size) (hn : (s[k].toNat : Int) = 102) :
    Calls Tryz.prog 14 #[.string s, .int .i64 k, .int .i64 dp] w (GPost (GAt (value s.data.toList d k)) w) := by
  have hl : s.data.toList.length = s.size := by simp
  obtain ⟨w1, hw1, R1, B1, S1⟩ := got_new w
  have q2 : decide ((s.size : Int) ≤ (k : Int)) = false := by rw [decide_eq_false_iff_not]; omega
  have hg := byte_get s k hk
  have hb : s[k] = 102 := byte_is (n := 102) (by decide) hn
  have HV0 : Hid (value s.data.toList 0 k = .error (k, 5)) := val_err hg (by rw [hb]; decide)
  have HV1 : Hid (∀ d, value s.data.toList (d + 1) k = wordV s.data.toList [102, 97, 108, 115, 101] (plain 2 false) k) := fun d => by rw [val_way hg, hb]; rfl
  have HN : Hid (Calls Tryz.prog 25 #[.string s, .int .i64 k, .string ⟨#[102, 97, 108, 115, 101]⟩, .agg #[.int .i64 2, .bool false, .bool false, .string ⟨#[]⟩, .int .i64 0, .string ⟨#[]⟩, .slice none 0 0, .slice none 0 0]] w1 (GPost (GAt (wordV s.data.toList [102, 97, 108, 115, 101] (plain 2 false) k)) w1)) := rword_any s ⟨#[102, 97, 108, 115, 101]⟩ k ⟨2, false, false, ⟨#[]⟩, 0, ⟨#[]⟩, none, 0, 0, none, 0, 0⟩ (plain 2 false) w1 (by omega) (by omega) (by decide)
  clear hg hb
  cases d with
  | zero =>
    have qd : decide (64 < (dp : Int)) = true := by rw [decide_eq_true_eq]; omega
    have qe : decide (64 < dp) = true := by rw [decide_eq_true_eq]; omega
    clear HN
    go_enter Tryz.func14, Tryz.ntmps14
    go_wp2_with fail
    clear hw1
    refine (Calls.mono (rbad_any k 5 w1) ?_)
    rintro x w2 ⟨a, en, at_, e, rfl, hr, hb⟩
    dsimp only [gVal]
    have R2 := kept_z R1.out hb
    have B2 := Hid.out (p := Hid _) (B1.out.trans (hb.mono B1.out.size))
    have HB : Hid (GAt (value s.data.toList 0 k) a en at_ e) := GAt.bad HV0.out rfl rfl hr
    clear hb hr
    obtain ⟨⟨c0, c1, c2, c3, c4, c5, c6, c7, c8, c9, c10⟩, f0, f1, f2, f3, f4, f5, f6, f7, f8, f9, f10⟩ := got_cells R2.out
    go_wp2_with fail
    exact got_fin rfl R2.out rfl B2.out (Nat.le_refl _) a en at_ e HB.out
  | succ d =>
    have qd : decide (64 < (dp : Int)) = false := by rw [decide_eq_false_iff_not]; omega
    have qe : decide (64 < dp) = false := by rw [decide_eq_false_iff_not]; omega
    go_enter Tryz.func14, Tryz.ntmps14
    go_wp2_with fail
    clear hw1
    refine (Calls.mono (HN.out) ?_)
    rintro x w2 ⟨a, en, at_, e, rfl, hr, hb⟩
    dsimp only [gVal]
    have R2 := kept_z R1.out hb
    have B2 := Hid.out (p := Hid _) (B1.out.trans (hb.mono B1.out.size))
    have HB : Hid (GAt (value s.data.toList (d + 1) k) a en at_ e) := by rw [Hid, HV1.out]; exact hr
    clear hb hr
    obtain ⟨⟨c0, c1, c2, c3, c4, c5, c6, c7, c8, c9, c10⟩, f0, f1, f2, f3, f4, f5, f6, f7, f8, f9, f10⟩ := got_cells R2.out
    go_wp2_with fail
    exact got_fin rfl R2.out rfl B2.out (Nat.le_refl _) a en at_ e HB.out

set_option maxHeartbeats 1600000 in
theorem rval_b110 (s : ByteArray) (k dp d : Nat) (w : World) (hs : s.size ≤ 1000000) (hdd : dp + d = 65) (hk : k < s.size) (hn : (s[k].toNat : Int) = 110) :
    Calls Tryz.prog 14 #[.string s, .int .i64 k, .int .i64 dp] w (GPost (GAt (value s.data.toList d k)) w) := by
  have hl : s.data.toList.length = s.size := by simp
  obtain ⟨w1, hw1, R1, B1, S1⟩ := got_new w
  have q2 : decide ((s.size : Int) ≤ (k : Int)) = false := by rw [decide_eq_false_iff_not]; omega
  have hg := byte_get s k hk
  have hb : s[k] = 110 := byte_is (n := 110) (by decide) hn
  have HV0 : Hid (value s.data.toList 0 k = .error (k, 5)) := val_err hg (by rw [hb]; decide)
  have HV1 : Hid (∀ d, value s.data.toList (d + 1) k = wordV s.data.toList [110, 117, 108, 108] (plain 1 false) k) := fun d => by rw [val_way hg, hb]; rfl
  have HN : Hid (Calls Tryz.prog 25 #[.string s, .int .i64 k, .string ⟨#[110, 117, 108, 108]⟩, .agg #[.int .i64 1, .bool false, .bool false, .string ⟨#[]⟩, .int .i64 0, .string ⟨#[]⟩, .slice none 0 0, .slice none 0 0]] w1 (GPost (GAt (wordV s.data.toList [110, 117, 108, 108] (plain 1 false) k)) w1)) := rword_any s ⟨#[110, 117, 108, 108]⟩ k ⟨1, false, false, ⟨#[]⟩, 0, ⟨#[]⟩, none, 0, 0, none, 0, 0⟩ (plain 1 false) w1 (by omega) (by omega) (by decide)
  clear hg hb
  cases d with
  | zero =>
    have qd : decide (64 < (dp : Int)) = true := by rw [decide_eq_true_eq]; omega
    have qe : decide (64 < dp) = true := by rw [decide_eq_true_eq]; omega
    clear HN
    go_enter Tryz.func14, Tryz.ntmps14
    go_wp2_with fail
    clear hw1
    refine (Calls.mono (rbad_any k 5 w1) ?_)
    rintro x w2 ⟨a, en, at_, e, rfl, hr, hb⟩
    dsimp only [gVal]
    have R2 := kept_z R1.out hb
    have B2 := Hid.out (p := Hid _) (B1.out.trans (hb.mono B1.out.size))
    have HB : Hid (GAt (value s.data.toList 0 k) a en at_ e) := GAt.bad HV0.out rfl rfl hr
    clear hb hr
    obtain ⟨⟨c0, c1, c2, c3, c4, c5, c6, c7, c8, c9, c10⟩, f0, f1, f2, f3, f4, f5, f6, f7, f8, f9, f10⟩ := got_cells R2.out
    go_wp2_with fail
    exact got_fin rfl R2.out rfl B2.out (Nat.le_refl _) a en at_ e HB.out
  | succ d =>
    have qd : decide (64 < (dp : Int)) = false := by rw [decide_eq_false_iff_not]; omega
    have qe : decide (64 < dp) = false := by rw [decide_eq_false_iff_not]; omega
    go_enter Tryz.func14, Tryz.ntmps14
    go_wp2_with fail
    clear hw1
    refine (Calls.mono (HN.out) ?_)
    rintro x w2 ⟨a, en, at_, e, rfl, hr, hb⟩
    dsimp only [gVal]
    have R2 := kept_z R1.out hb
    have B2 := Hid.out (p := Hid _) (B1.out.trans (hb.mono B1.out.size))
    have HB : Hid (GAt (value s.data.toList (d + 1) k) a en at_ e) := by rw [Hid, HV1.out]; exact hr
    clear hb hr
    obtain ⟨⟨c0, c1, c2, c3, c4, c5, c6, c7, c8, c9, c10⟩, f0, f1, f2, f3, f4, f5, f6, f7, f8, f9, f10⟩ := got_cells R2.out
    go_wp2_with fail
    exact got_fin rfl R2.out rfl B2.out (Nat.le_refl _) a en at_ e HB.out

theorem rval_way (s : ByteArray) (k dp d : Nat) (w : World) (hs : s.size ≤ 1000000) (hdd : dp + d = 65) (hk : k ≤ s.size) (IH : ∀ d', d = d' + 1 → RVal s ((dp : Int) + 1) (value s.data.toList d')) :
    Calls Tryz.prog 14 #[.string s, .int .i64 k, .int .i64 dp] w (GPost (GAt (value s.data.toList d k)) w) := by
  by_cases hlt : k < s.size
  case neg => exact rval_out s k dp d w hs hdd hk (by omega)
  by_cases h34 : (s[k].toNat : Int) = 34
  · exact rval_b34 s k dp d w hs hdd hlt h34
  by_cases h45 : (s[k].toNat : Int) = 45
  · exact rval_b45 s k dp d w hs hdd hlt h45
  by_cases h91 : (s[k].toNat : Int) = 91
  · exact rval_b91 s k dp d w hs hdd hlt h91 IH
  by_cases h123 : (s[k].toNat : Int) = 123
  · exact rval_b123 s k dp d w hs hdd hlt h123 IH
  by_cases h116 : (s[k].toNat : Int) = 116
  · exact rval_b116 s k dp d w hs hdd hlt h116
  by_cases h102 : (s[k].toNat : Int) = 102
  · exact rval_b102 s k dp d w hs hdd hlt h102
  by_cases h110 : (s[k].toNat : Int) = 110
  · exact rval_b110 s k dp d w hs hdd hlt h110
  by_cases hd : 48 ≤ (s[k].toNat : Int) ∧ (s[k].toNat : Int) ≤ 57
  · exact rval_digit s k dp d w hs hdd hlt hd.1 hd.2
  refine rval_none s k dp d w hs hdd hlt ?_
  have := way_zero ⟨s[k].toNat, UInt8.toNat_lt _⟩ ⟨fun e => h34 (by have e2 : s[k].toNat = 34 := e; omega), fun e => h45 (by have e2 : s[k].toNat = 45 := e; omega), fun e => h91 (by have e2 : s[k].toNat = 91 := e; omega), fun e => h123 (by have e2 : s[k].toNat = 123 := e; omega), fun e => h116 (by have e2 : s[k].toNat = 116 := e; omega), fun e => h102 (by have e2 : s[k].toNat = 102 := e; omega), fun e => h110 (by have e2 : s[k].toNat = 110 := e; omega), fun e => hd ⟨by have : 48 ≤ s[k].toNat := e.1; omega, by have : s[k].toNat ≤ 57 := e.2; omega⟩⟩
  simpa using this

/-- tabulariumref09.Value tells where jdec's value ends. -/
theorem rvalue_any (s : ByteArray) (hs : s.size ≤ 1000000) : ∀ (d dp : Nat), dp + d = 65 → RVal s (dp : Int) (value s.data.toList d) := by
  intro d
  induction d with
  | zero =>
    intro dp hdd k w hk
    exact rval_way s k dp 0 w hs hdd hk (fun d' h => by cases h)
  | succ d ih =>
    intro dp hdd k w hk
    exact rval_way s k dp (d + 1) w hs hdd hk (fun d' h => by
      obtain rfl : d = d' := by omega
      have := ih (dp + 1) (by omega)
      rwa [Int.natCast_add] at this)
end Go.Proofs.YtehffmcfmdjknaaGreatDoor.Jdec
