/- jdec's parser in memory; fail, wrong, blanks, is. -/
import Derived.Test.YtehffmcfmdjknaaGreatDoorJdecU
import Derived.Test.YtehffmcfmdjknaaGreatDoorNumW
import Derived.Test.YtehffmcfmdjknaaGreatDoorFrame
import Derived.Test.YtehffmcfmdjknaaGreatDoorQuoteC
import Derived.Deep.RegionHeld3
namespace Go.Proofs.YtehffmcfmdjknaaGreatDoor.Jdec
open Go.RowKit Go.Proofs.YtehffmcfmdjknaaGreatDoor.Strs
set_option linter.unusedVariables false
set_option linter.unusedSimpArgs false
set_option maxRecDepth 100000

theorem gb_refl (w : World) (r : Option Nat) : w.grownBy w r := ⟨rfl, rfl, rfl, Nat.le_refl _, fun _ _ _ => rfl⟩
theorem gb_drew (w : World) (n : Nat) (r : Option Nat) : w.grownBy (w.drewN n) r := ⟨rfl, rfl, rfl, Nat.le_refl _, fun _ _ _ => rfl⟩
theorem gb_set (w : World) (b i : Nat) (v : Value) : w.grownBy (w.setCell ⟨b, i, none⟩ v) (some b) := ⟨rfl, rfl, rfl, by simp [World.setCell], fun k _ hk => Below.heap_setCell _ _ _ _ (fun e => hk (by simp [e]))⟩
theorem gb_below {w w' : World} (h : Below w.heap.size w w') (r : Option Nat) : w.grownBy w' r := ⟨h.os, h.tape, h.output, h.size, fun k hk _ => h.block k hk⟩

/-- The parser at block P: its text, its place, its ways, its error. -/
structure Psr (w : World) (P : Nat) (s : ByteArray) (k : Nat) (V : Value) (b e : Nat) : Prop where
  blk : w.heap[P]? = some (.cells #[.string s, .int .i64 k, V, .int .i64 b, .int .i64 e] 66 (0, 0))
section
variable {w w' : World} {P : Nat} {s : ByteArray} {k : Nat} {V : Value} {b e : Nat}
theorem Psr.c0 (h : Psr w P s k V b e) : w.cell? ⟨P, 0, none⟩ = some (.string s) := by rw [cell_of h.blk]; rfl
theorem Psr.c1 (h : Psr w P s k V b e) : w.cell? ⟨P, 1, none⟩ = some (.int .i64 k) := by rw [cell_of h.blk]; rfl
theorem Psr.c2 (h : Psr w P s k V b e) : w.cell? ⟨P, 2, none⟩ = some V := by rw [cell_of h.blk]; rfl
theorem Psr.c3 (h : Psr w P s k V b e) : w.cell? ⟨P, 3, none⟩ = some (.int .i64 b) := by rw [cell_of h.blk]; rfl
theorem Psr.c4 (h : Psr w P s k V b e) : w.cell? ⟨P, 4, none⟩ = some (.int .i64 e) := by rw [cell_of h.blk]; rfl
theorem Psr.f (h : Psr w P s k V b e) (i : Nat) : w.frozen? ⟨P, i, none⟩ = false := frozen_of h.blk _
theorem Psr.lt (h : Psr w P s k V b e) : P < w.heap.size := heap_lt h.blk
theorem Psr.kept {r : Option Nat} (h : Psr w P s k V b e) (hg : w.grownBy w' r) (hr : some P ≠ r) : Psr w' P s k V b e := ⟨(hg.block P h.lt hr).trans h.blk⟩
theorem Psr.set1 (h : Psr w P s k V b e) (q : Nat) : Psr (w.setCell ⟨P, 1, none⟩ (.int .i64 q)) P s q V b e := ⟨heap_set_same h.blk _⟩
theorem Psr.set34 (h : Psr w P s k V b e) (c d : Nat) : Psr ((w.setCell ⟨P, 3, none⟩ (.int .i64 c)).setCell ⟨P, 4, none⟩ (.int .i64 d)) P s k V c d := ⟨heap_set_same (heap_set_same h.blk _) _⟩
end

/-- The first error stays. -/
def failB (b e p : Nat) : Nat := if e = 0 then p else b
def failE (e n : Nat) : Nat := if e = 0 then n else e
theorem fail_any (P : Nat) (s : ByteArray) (k : Nat) (V : Value) (b e p n : Nat) (w : World) (h : Psr w P s k V b e) :
    Calls Tryz.prog 31 #[.pointer (some ⟨P, 0, none⟩), .int .i64 p, .int .i64 n] w fun x w' => x = .returned (.tuple #[]) ∧ Psr w' P s k V (failB b e p) (failE e n) ∧ w.grownBy w' (some P) := by
  have c3 := h.c3
  have c4 := h.c4
  have f3 := h.f 3
  have f4 := h.f 4
  have HH := Hid.out (p := Hid _) h; clear h
  by_cases he : e = 0
  · subst he
    go_enter Tryz.func31, Tryz.ntmps31
    go_wp2_with fail
    go_end0
    exact ⟨rfl, HH.out.set34 p n, (gb_set _ _ _ _).trans (gb_set _ _ _ _)⟩
  · have q : ((e : Int) == 0) = false := by rw [beq_eq_false_iff_ne]; omega
    have e1 : failB b e p = b := if_neg he
    have e2 : failE e n = e := if_neg he
    rw [e1, e2]
    clear he e1 e2
    go_enter Tryz.func31, Tryz.ntmps31
    go_wp2_with fail
    go_end0
    exact ⟨rfl, HH.out, gb_refl _ _⟩
theorem wrong_any (P : Nat) (s : ByteArray) (k : Nat) (V : Value) (b e : Nat) (w : World) (h : Psr w P s k V b e) :
    Calls Tryz.prog 52 #[.pointer (some ⟨P, 0, none⟩)] w fun x w' => x = .returned (.tuple #[]) ∧ Psr w' P s k V (failB b e (here s.data.toList k).1) (failE e (here s.data.toList k).2) ∧ w.grownBy w' (some P) := by
  have c0 := h.c0
  have c1 := h.c1
  have HH := Hid.out (p := Hid _) h; clear h
  have hl : s.data.toList.length = s.size := by simp
  unfold here
  rw [hl]
  clear hl
  by_cases hk : s.size ≤ k
  · rw [if_pos hk]
    have q : decide ((s.size : Int) ≤ (k : Int)) = true := by rw [decide_eq_true_eq]; omega
    have q' : decide (s.size ≤ k) = true := by rw [decide_eq_true_eq]; omega
    go_enter Tryz.func52, Tryz.ntmps52
    go_wp2_with fail
    go_quiet (fail)
    have hp : Psr (w.drewN nq) P s k V b e := HH.out.kept (gb_drew _ _ none) (by simp)
    have hg : Hid (w.grownBy (w.drewN nq) (some P)) := gb_drew _ _ _
    clear c0 c1
    generalize w.drewN nq = w1 at *
    have c1 := hp.c1
    have HP := Hid.out (p := Hid _) hp; clear hp
    go_wp2_with fail
    refine (fail_any P s k V b e k 2 w1 HP.out).mono ?_
    rintro x w2 ⟨rfl, h2, h3⟩
    have H2 := Hid.out (p := Hid _) h2; clear h2
    have H3 := Hid.out (p := Hid _) (hg.out.trans h3); clear h3
    go_wp2_with fail
    go_end0
    exact ⟨rfl, H2.out, H3.out⟩
  · rw [if_neg hk]
    have q : decide ((s.size : Int) ≤ (k : Int)) = false := by rw [decide_eq_false_iff_not]; omega
    have q' : decide (s.size ≤ k) = false := by rw [decide_eq_false_iff_not]; omega
    go_enter Tryz.func52, Tryz.ntmps52
    go_wp2_with fail
    go_quiet (fail)
    have hp : Psr (w.drewN nq) P s k V b e := HH.out.kept (gb_drew _ _ none) (by simp)
    have hg : Hid (w.grownBy (w.drewN nq) (some P)) := gb_drew _ _ _
    clear c0 c1
    generalize w.drewN nq = w1 at *
    have c1 := hp.c1
    have HP := Hid.out (p := Hid _) hp; clear hp
    go_wp2_with fail
    refine (fail_any P s k V b e k 3 w1 HP.out).mono ?_
    rintro x w2 ⟨rfl, h2, h3⟩
    have H2 := Hid.out (p := Hid _) h2; clear h2
    have H3 := Hid.out (p := Hid _) (hg.out.trans h3); clear h3
    go_wp2_with fail
    go_end0
    exact ⟨rfl, H2.out, H3.out⟩
end Go.Proofs.YtehffmcfmdjknaaGreatDoor.Jdec
/- jdec's parser: blanks, is. -/
namespace Go.Proofs.YtehffmcfmdjknaaGreatDoor.Jdec
open Go.RowKit Go.Proofs.YtehffmcfmdjknaaGreatDoor.Strs
set_option linter.unusedVariables false
set_option linter.unusedSimpArgs false
set_option maxRecDepth 100000

theorem blank_z (c : UInt8) : decide ((0 : Int) ≤ zidx (([9, 10, 13, 32] : List UInt8).findIdx? (· == c))) = blankJ c := by
  by_cases h1 : c = 9
  · subst h1; rfl
  by_cases h2 : c = 10
  · subst h2; rfl
  by_cases h3 : c = 13
  · subst h3; rfl
  by_cases h4 : c = 32
  · subst h4; rfl
  have e : ([9, 10, 13, 32] : List UInt8).findIdx? (· == c) = none := by
    rw [List.findIdx?_eq_none_iff]
    intro x hx
    rw [beq_eq_false_iff_ne]
    rintro rfl
    simp at hx
    rcases hx with rfl | rfl | rfl | rfl <;> simp_all
  rw [e]
  have : blankJ c = false := by simp [blankJ, h1, h2, h3, h4]
  rw [this]; rfl
theorem byte_get (s : ByteArray) (k : Nat) (h : k < s.size) : s.data.toList[k]? = some s[k] := by
  rw [List.getElem?_eq_getElem (by simpa using h)]; rfl

set_option maxHeartbeats 1000000 in
theorem blanks_any (P : Nat) (s : ByteArray) (k : Nat) (V : Value) (b e : Nat) (w : World) (hs : s.size ≤ 1099511627776) (hk : k ≤ s.size) (h : Psr w P s k V b e) :
    Calls Tryz.prog 29 #[.pointer (some ⟨P, 0, none⟩)] w fun x w' => x = .returned (.tuple #[]) ∧ Psr w' P s (skip s.data.toList k) V b e ∧ w.grownBy w' (some P) := by
  have HH := Hid.out (p := Hid _) h; clear h
  have hl : s.data.toList.length = s.size := by simp
  have HL := Hid.out (p := Hid _) hl; clear hl
  go_enter Tryz.func29, Tryz.ntmps29
  go_wp2_with fail
  go_loopw [] (fun wr => ∃ q : Nat, q ≤ s.size ∧ Hid (Psr wr P s q V b e) ∧ Hid (w.grownBy wr (some P)) ∧ Hid (skip s.data.toList k = skip s.data.toList q)) (fun wr => s.size - (intOf ((wr.cell? ⟨P, 1, none⟩).getD undef)).toNat)
  case atStart => exact ⟨k, hk, HH.out, gb_refl _ _, rfl⟩
  case round =>
    obtain ⟨q, hq, hP, hG, hS⟩ := hrel
    have c0 := hP.out.c0
    have c1 := hP.out.c1
    by_cases hlt : q < s.size
    · have hql : q < s.data.toList.length := by rw [HL.out]; exact hlt
      have hgq : s.data.toList[q] = s[q] := by rw [Array.getElem_toList]; rfl
      obtain ⟨z, hz⟩ : ∃ z, z = zidx (([9, 10, 13, 32] : List UInt8).findIdx? (· == s[q])) := ⟨_, rfl⟩
      have hb := blank_z s[q]
      rw [← hz] at hb
      have hix : ∀ n, Calls Tryz.prog 51 #[.string ⟨#[9, 10, 13, 32]⟩, .int .u8 s[q].toNat] (wr.drewN n) fun e w'' => e = .returned (.int .i64 z) ∧ ∃ m, w'' = wr.drewN m := fun n =>
        Calls.quiet_of_same ((indexByte_any ⟨#[9, 10, 13, 32]⟩ s[q].toNat (wr.drewN n) (UInt8.toNat_lt _)).mono fun e w' h => ⟨by rw [h.1, hz]; simp, h.2.symm⟩)
      have HZ := Hid.out (p := Hid _) hz; clear hz
      cases hbl : blankJ s[q]
      · have HF : Hid (skip s.data.toList k = q) := by rw [Hid, hS.out, skip_other _ _ hql (by rw [hgq]; exact hbl)]
        rw [hbl] at hb
        clear hbl hgq
        go_wp2_with fail
        go_quiet ((go_at_call 51; exact hix _))
        have hP2 : Hid (Psr (wr.drewN nq) P s q V b e) := hP.out.kept (gb_drew _ _ none) (by simp)
        have hG2 : Hid (w.grownBy (wr.drewN nq) (some P)) := hG.out.trans (gb_drew _ _ _)
        clear c0 c1 hix
        generalize wr.drewN nq = w2 at *
        go_wp2_with fail
        go_end0
        exact ⟨rfl, by rw [HF.out]; exact hP2.out, hG2.out⟩
      · have HF : Hid (skip s.data.toList k = skip s.data.toList (q + 1)) := by rw [Hid, hS.out, skip_blank _ _ hql (by rw [hgq]; exact hbl)]
        rw [hbl] at hb
        clear hbl hgq
        go_wp2_with fail
        go_quiet ((go_at_call 51; exact hix _))
        have hP2 : Hid (Psr (wr.drewN nq) P s q V b e) := hP.out.kept (gb_drew _ _ none) (by simp)
        have hG2 : Hid (w.grownBy (wr.drewN nq) (some P)) := hG.out.trans (gb_drew _ _ _)
        have h1 := hP.out.c1
        have H1 := Hid.out (p := Hid _) h1; clear h1
        clear c0 c1 hix
        generalize wr.drewN nq = w2 at *
        have c1 := hP2.out.c1
        have f1 := hP2.out.f 1
        go_wp2_with fail
        have hP3 : Psr (w2.setCell ⟨P, 1, none⟩ (.int .i64 (q + 1 : Nat))) P s (q + 1) V b e := hP2.out.set1 (q + 1)
        go_roundw
        case rel => exact ⟨q + 1, by omega, hP3, hG2.out.trans (gb_set _ _ _ _), HF.out⟩
        case measure =>
          have c := hP3.c1
          rw [show ((q + 1 : Nat) : Int) = (q : Int) + 1 by omega] at c
          rw [c, H1.out]
          simp [intOf]; omega
    · have hend : q = s.size := by omega
      have HF : Hid (skip s.data.toList k = q) := by rw [Hid, hS.out, skip_end _ _ (by rw [HL.out]; omega)]
      have hlt2 : decide ((q : Int) < (s.size : Int)) = false := by rw [decide_eq_false_iff_not]; omega
      clear hend
      go_wp2_with fail
      go_quiet (fail)
      have hP2 : Hid (Psr (wr.drewN nq) P s q V b e) := hP.out.kept (gb_drew _ _ none) (by simp)
      have hG2 : Hid (w.grownBy (wr.drewN nq) (some P)) := hG.out.trans (gb_drew _ _ _)
      clear c0 c1
      generalize wr.drewN nq = w2 at *
      go_wp2_with fail
      go_end0
      exact ⟨rfl, by rw [HF.out]; exact hP2.out, hG2.out⟩

/-- Is a byte the next one, and was no error met? -/
def isB (l : List UInt8) (k e : Nat) (c : UInt8) : Bool := decide (e = 0 ∧ l[k]? = some c)
theorem is_any (P : Nat) (s : ByteArray) (k : Nat) (V : Value) (b e : Nat) (c : UInt8) (w : World) (hs : s.size ≤ 1099511627776) (hk : k ≤ s.size) (h : Psr w P s k V b e) :
    Calls Tryz.prog 72 #[.pointer (some ⟨P, 0, none⟩), .int .u8 c.toNat] w fun x w' => x = .returned (.bool (isB s.data.toList k e c)) ∧ Psr w' P s (if isB s.data.toList k e c then k + 1 else k) V b e ∧ w.grownBy w' (some P) := by
  have c0 := h.c0
  have c1 := h.c1
  have c4 := h.c4
  have HH := Hid.out (p := Hid _) h; clear h
  by_cases he : e = 0
  · subst he
    by_cases hlt : k < s.size
    · have hge := byte_get s k hlt
      by_cases hc : s[k] = c
      · have hB : isB s.data.toList k 0 c = true := by rw [isB, decide_eq_true_eq]; exact ⟨rfl, by rw [hge, hc]⟩
        have q : ((s[k].toNat : Int) != (c.toNat : Int)) = false := by rw [hc]; simp
        rw [hB, if_pos rfl]
        clear hge hB hc
        go_enter Tryz.func72, Tryz.ntmps72
        go_wp2_with fail
        go_quiet (fail)
        have hP2 : Hid (Psr (w.drewN nq) P s k V b 0) := HH.out.kept (gb_drew _ _ none) (by simp)
        have hG2 : Hid (w.grownBy (w.drewN nq) (some P)) := gb_drew _ _ _
        clear c0 c1 c4
        generalize w.drewN nq = w2 at *
        have c1 := hP2.out.c1
        have f1 := hP2.out.f 1
        go_wp2_with fail
        go_ret
        exact ⟨rfl, hP2.out.set1 (k + 1), hG2.out.trans (gb_set _ _ _ _)⟩
      · have hB : isB s.data.toList k 0 c = false := by rw [isB, decide_eq_false_iff_not]; rintro ⟨_, h2⟩; rw [hge] at h2; exact hc (by simpa using h2)
        have q : ((s[k].toNat : Int) != (c.toNat : Int)) = true := by
          rw [bne_iff_ne]; intro e; exact hc (UInt8.toNat_inj.1 (by omega))
        rw [hB]
        clear hge hB hc
        go_enter Tryz.func72, Tryz.ntmps72
        go_wp2_with fail
        go_quiet (fail)
        have hP2 : Hid (Psr (w.drewN nq) P s k V b 0) := HH.out.kept (gb_drew _ _ none) (by simp)
        have hG2 : Hid (w.grownBy (w.drewN nq) (some P)) := gb_drew _ _ _
        clear c0 c1 c4
        generalize w.drewN nq = w2 at *
        go_wp2_with fail
        go_ret
        exact ⟨rfl, hP2.out, hG2.out⟩
    · have hB : isB s.data.toList k 0 c = false := by rw [isB, decide_eq_false_iff_not]; rintro ⟨_, h2⟩; have := get_lt h2; simp at this; omega
      have q : decide ((s.size : Int) ≤ (k : Int)) = true := by rw [decide_eq_true_eq]; omega
      rw [hB]
      clear hB
      go_enter Tryz.func72, Tryz.ntmps72
      go_wp2_with fail
      go_quiet (fail)
      have hP2 : Hid (Psr (w.drewN nq) P s k V b 0) := HH.out.kept (gb_drew _ _ none) (by simp)
      have hG2 : Hid (w.grownBy (w.drewN nq) (some P)) := gb_drew _ _ _
      clear c0 c1 c4
      generalize w.drewN nq = w2 at *
      go_wp2_with fail
      go_ret
      exact ⟨rfl, hP2.out, hG2.out⟩
  · have hB : isB s.data.toList k e c = false := by rw [isB, decide_eq_false_iff_not]; rintro ⟨h1, _⟩; exact he h1
    have q : ((e : Int) != 0) = true := by rw [bne_iff_ne]; omega
    rw [hB]
    clear hB he
    go_enter Tryz.func72, Tryz.ntmps72
    go_wp2_with fail
    go_quiet (fail)
    have hP2 : Hid (Psr (w.drewN nq) P s k V b e) := HH.out.kept (gb_drew _ _ none) (by simp)
    have hG2 : Hid (w.grownBy (w.drewN nq) (some P)) := gb_drew _ _ _
    clear c0 c1 c4
    generalize w.drewN nq = w2 at *
    go_wp2_with fail
    go_ret
    exact ⟨rfl, hP2.out, hG2.out⟩
end Go.Proofs.YtehffmcfmdjknaaGreatDoor.Jdec
/- jdec's parser: ends, word, quoted, text, yes, no, null. -/
namespace Go.Proofs.YtehffmcfmdjknaaGreatDoor.Jdec
open Go.RowKit Go.Proofs.YtehffmcfmdjknaaGreatDoor.Strs
set_option linter.unusedVariables false
set_option linter.unusedSimpArgs false
set_option maxRecDepth 100000

/-- What ends leaves. -/
def EndsAt (P : Nat) (s : ByteArray) (V : Value) (g : Bool) (w' : World) : Except Er (Bool × Nat) → Prop
  | .ok (g', q) => g = g' ∧ Psr w' P s q V 0 0
  | .error y => g = false ∧ ∃ q, q ≤ s.size ∧ Psr w' P s q V y.1 y.2
set_option maxHeartbeats 1000000 in
theorem ends_any (P : Nat) (s : ByteArray) (k : Nat) (V : Value) (c : UInt8) (w : World) (hs : s.size ≤ 1099511627776) (hk : k ≤ s.size) (h : Psr w P s k V 0 0) :
    Calls Tryz.prog 74 #[.pointer (some ⟨P, 0, none⟩), .int .u8 c.toNat] w fun x w' => ∃ g, x = .returned (.bool g) ∧ w.grownBy w' (some P) ∧ EndsAt P s V g w' (ends s.data.toList c k) := by
  have HH := Hid.out (p := Hid _) h; clear h
  have hl : s.data.toList.length = s.size := by simp
  have hsk := skip_le s.data.toList k (by omega)
  rw [hl] at hsk
  have HL := Hid.out (p := Hid _) hl; clear hl
  obtain ⟨m, hm⟩ : ∃ m, skip s.data.toList k = m := ⟨_, rfl⟩
  rw [hm] at hsk
  have hbl := fun w h => blanks_any P s k V 0 0 w hs hk h
  rw [hm] at hbl
  have HE : Hid (ends s.data.toList c k = if s.data.toList[m]? = some c then .ok (true, m + 1) else if s.data.toList[m]? = some 44 then .ok (false, skip s.data.toList (m + 1)) else .error (here s.data.toList m)) := by
    rw [Hid, ends, hm]
  clear hm
  have HB := Hid.out (p := Hid _) hbl; clear hbl
  go_enter Tryz.func74, Tryz.ntmps74
  go_wp2_with fail
  refine (Calls.mono (HB.out w HH.out) ?_)
  rintro x w1 ⟨rfl, h1, g1⟩
  have H1 := Hid.out (p := Hid _) h1; clear h1
  have G1 := Hid.out (p := Hid _) g1; clear g1
  go_wp2_with fail
  refine (is_any P s m V 0 0 c w1 hs hsk H1.out).mono ?_
  rintro x w2 ⟨rfl, h2, g2⟩
  have G2 := Hid.out (p := Hid _) (G1.out.trans g2); clear g2
  by_cases hc : s.data.toList[m]? = some c
  · have hB : isB s.data.toList m 0 c = true := by rw [isB, decide_eq_true_eq]; exact ⟨rfl, hc⟩
    rw [hB] at h2 ⊢
    have H2 := Hid.out (p := Hid _) h2; clear h2
    have HF : Hid (ends s.data.toList c k = .ok (true, m + 1)) := by rw [Hid, HE.out, if_pos hc]
    clear hB hc
    go_wp2_with fail
    go_ret
    refine ⟨true, rfl, G2.out, ?_⟩
    rw [HF.out]
    exact ⟨rfl, H2.out⟩
  · have hB : isB s.data.toList m 0 c = false := by rw [isB, decide_eq_false_iff_not]; exact fun h => hc h.2
    rw [hB] at h2 ⊢
    have H2 : Hid (Psr w2 P s m V 0 0) := h2
    clear h2 hB
    go_wp2_with fail
    refine (is_any P s m V 0 0 44 w2 hs hsk H2.out).mono ?_
    rintro x w3 ⟨rfl, h3, g3⟩
    have G3 := Hid.out (p := Hid _) (G2.out.trans g3); clear g3
    by_cases hc2 : s.data.toList[m]? = some 44
    · have hB : isB s.data.toList m 0 44 = true := by rw [isB, decide_eq_true_eq]; exact ⟨rfl, hc2⟩
      rw [hB] at h3 ⊢
      have H3 : Hid (Psr w3 P s (m + 1) V 0 0) := h3
      have hms : m + 1 ≤ s.size := by have := get_lt hc2; rw [HL.out] at this; omega
      have HF : Hid (ends s.data.toList c k = .ok (false, skip s.data.toList (m + 1))) := by rw [Hid, HE.out, if_neg hc, if_pos hc2]
      clear h3 hB hc hc2
      go_wp2_with fail
      refine (blanks_any P s (m + 1) V 0 0 w3 hs hms H3.out).mono ?_
      rintro x w4 ⟨rfl, h4, g4⟩
      have H4 := Hid.out (p := Hid _) h4; clear h4
      have G4 := Hid.out (p := Hid _) (G3.out.trans g4); clear g4
      go_wp2_with fail
      go_ret
      refine ⟨false, rfl, G4.out, ?_⟩
      rw [HF.out]
      exact ⟨rfl, H4.out⟩
    · have hB : isB s.data.toList m 0 44 = false := by rw [isB, decide_eq_false_iff_not]; exact fun h => hc2 h.2
      rw [hB] at h3 ⊢
      have H3 : Hid (Psr w3 P s m V 0 0) := h3
      have HF : Hid (ends s.data.toList c k = .error (here s.data.toList m)) := by rw [Hid, HE.out, if_neg hc, if_neg hc2]
      clear h3 hB hc hc2
      go_wp2_with fail
      refine (wrong_any P s m V 0 0 w3 H3.out).mono ?_
      rintro x w4 ⟨rfl, h4, g4⟩
      have H4 : Hid (Psr w4 P s m V (here s.data.toList m).1 (here s.data.toList m).2) := h4
      have G4 := Hid.out (p := Hid _) (G3.out.trans g4); clear g4 h4
      go_wp2_with fail
      refine (blanks_any P s m V _ _ w4 hs hsk H4.out).mono ?_
      rintro x w5 ⟨rfl, h5, g5⟩
      have H5 := Hid.out (p := Hid _) h5; clear h5
      have G5 := Hid.out (p := Hid _) (G4.out.trans g5); clear g5
      go_wp2_with fail
      go_ret
      refine ⟨false, rfl, G5.out, ?_⟩
      rw [HF.out]
      exact ⟨rfl, _, by have := skip_le s.data.toList m (by rw [HL.out]; exact hsk); rw [HL.out] at this; exact this, H5.out⟩
/-- .. where an error was met. -/
theorem ends_err (P : Nat) (s : ByteArray) (k : Nat) (V : Value) (b e : Nat) (c : UInt8) (w : World) (hs : s.size ≤ 1099511627776) (hk : k ≤ s.size) (he : e ≠ 0) (h : Psr w P s k V b e) :
    Calls Tryz.prog 74 #[.pointer (some ⟨P, 0, none⟩), .int .u8 c.toNat] w fun x w' => x = .returned (.bool false) ∧ w.grownBy w' (some P) ∧ ∃ q, q ≤ s.size ∧ Psr w' P s q V b e := by
  have HH := Hid.out (p := Hid _) h; clear h
  have hl : s.data.toList.length = s.size := by simp
  have hsk := skip_le s.data.toList k (by omega)
  rw [hl] at hsk
  have HL := Hid.out (p := Hid _) hl; clear hl
  have hno : ∀ (m : Nat) (c : UInt8), isB s.data.toList m e c = false := fun m c => by rw [isB, decide_eq_false_iff_not]; exact fun h => he h.1
  have HN := Hid.out (p := Hid _) hno; clear hno
  have HEr := Hid.out (p := Hid _) he; clear he
  go_enter Tryz.func74, Tryz.ntmps74
  go_wp2_with fail
  refine (blanks_any P s k V b e w hs hk HH.out).mono ?_
  rintro x w1 ⟨rfl, h1, g1⟩
  have H1 := Hid.out (p := Hid _) h1; clear h1
  have G1 := Hid.out (p := Hid _) g1; clear g1
  generalize skip s.data.toList k = m at *
  go_wp2_with fail
  refine (is_any P s m V b e c w1 hs hsk H1.out).mono ?_
  rintro x w2 ⟨rfl, h2, g2⟩
  have G2 := Hid.out (p := Hid _) (G1.out.trans g2); clear g2
  rw [HN.out] at h2 ⊢
  have H2 : Hid (Psr w2 P s m V b e) := h2
  clear h2
  go_wp2_with fail
  refine (is_any P s m V b e 44 w2 hs hsk H2.out).mono ?_
  rintro x w3 ⟨rfl, h3, g3⟩
  have G3 := Hid.out (p := Hid _) (G2.out.trans g3); clear g3
  rw [HN.out] at h3 ⊢
  have H3 : Hid (Psr w3 P s m V b e) := h3
  clear h3
  go_wp2_with fail
  refine (wrong_any P s m V b e w3 H3.out).mono ?_
  rintro x w4 ⟨rfl, h4, g4⟩
  have H4 : Hid (Psr w4 P s m V b e) := by rw [failB, if_neg HEr.out, failE, if_neg HEr.out] at h4; exact h4
  have G4 := Hid.out (p := Hid _) (G3.out.trans g4); clear g4 h4
  go_wp2_with fail
  refine (blanks_any P s m V _ _ w4 hs hsk H4.out).mono ?_
  rintro x w5 ⟨rfl, h5, g5⟩
  have H5 := Hid.out (p := Hid _) h5; clear h5
  have G5 := Hid.out (p := Hid _) (G4.out.trans g5); clear g5
  go_wp2_with fail
  go_ret
  exact ⟨rfl, G5.out, _, by have := skip_le s.data.toList m (by rw [HL.out]; exact hsk); rw [HL.out] at this; exact this, H5.out⟩
end Go.Proofs.YtehffmcfmdjknaaGreatDoor.Jdec
/- jdec's parser: word, quoted. -/
namespace Go.Proofs.YtehffmcfmdjknaaGreatDoor.Jdec
open Go.RowKit Go.Proofs.YtehffmcfmdjknaaGreatDoor.Strs
set_option linter.unusedVariables false
set_option linter.unusedSimpArgs false
set_option maxRecDepth 100000

/-- What word leaves. -/
def WordAt (P : Nat) (s : ByteArray) (V : Value) (w' : World) : Except Er Nat → Prop
  | .ok q => Psr w' P s q V 0 0
  | .error y => ∃ q, q ≤ s.size ∧ Psr w' P s q V y.1 y.2
theorem word_any (P : Nat) (s : ByteArray) (k : Nat) (V : Value) (d : ByteArray) (w : World) (hs : s.size ≤ 1099511627776) (hk : k ≤ s.size) (hd : d.size ≤ 1000) (h : Psr w P s k V 0 0) :
    Calls Tryz.prog 75 #[.pointer (some ⟨P, 0, none⟩), .string d] w fun x w' => x = .returned (.tuple #[]) ∧ w.grownBy w' (some P) ∧ WordAt P s V w' (word s.data.toList d.data.toList k) := by
  have HH := Hid.out (p := Hid _) h; clear h
  have hl : s.data.toList.length = s.size := by simp
  have HL := Hid.out (p := Hid _) hl; clear hl
  go_enter Tryz.func75, Tryz.ntmps75
  go_wp2_with fail
  go_loopw [7] (fun p7 wr => ∃ i q : Nat, i ≤ d.size ∧ p7 = .int .i64 i ∧ q ≤ s.size ∧ Hid (Psr wr P s q V 0 0) ∧ Hid (w.grownBy wr (some P)) ∧ Hid (word s.data.toList d.data.toList k = word s.data.toList (d.data.toList.drop i) q)) (fun p7 _ => d.size - (intOf p7).toNat)
  case atStart => exact ⟨0, k, Nat.zero_le _, rfl, hk, HH.out, gb_refl _ _, rfl⟩
  case round =>
    obtain ⟨i, q, hi, rfl, hq, hP, hG, hS⟩ := hrel
    by_cases hlt : i < d.size
    · have hcons : d.data.toList.drop i = d[i] :: d.data.toList.drop (i + 1) := Num.drop_byte d i hlt
      have HW : Hid (word s.data.toList d.data.toList k = if s.data.toList[q]? = some d[i] then word s.data.toList (d.data.toList.drop (i + 1)) (q + 1) else .error (here s.data.toList q)) := by
        rw [Hid, hS.out, hcons, word]
      clear hcons
      generalize hc : d[i] = c at *
      have HC := Hid.out (p := Hid _) hc; clear hc
      have hcn : d[i].toNat = c.toNat := by rw [HC.out]
      go_wp2_with fail
      refine (is_any P s q V 0 0 c wr hs hq hP.out).mono ?_
      rintro x w2 ⟨rfl, h2, g2⟩
      have G2 := Hid.out (p := Hid _) (hG.out.trans g2); clear g2
      by_cases hm : s.data.toList[q]? = some c
      · have hB : isB s.data.toList q 0 c = true := by rw [isB, decide_eq_true_eq]; exact ⟨rfl, hm⟩
        rw [hB] at h2 ⊢
        have H2 : Hid (Psr w2 P s (q + 1) V 0 0) := h2
        have hqs : q + 1 ≤ s.size := by have := get_lt hm; rw [HL.out] at this; omega
        have HF : Hid (word s.data.toList d.data.toList k = word s.data.toList (d.data.toList.drop (i + 1)) (q + 1)) := by rw [Hid, HW.out, if_pos hm]
        clear h2 hB hm hcn
        go_wp2_with fail
        go_roundw
        case rel => exact ⟨i + 1, q + 1, by omega, by go_num, hqs, H2.out, G2.out, HF.out⟩
        case measure => simp [intOf]; omega
      · have hB : isB s.data.toList q 0 c = false := by rw [isB, decide_eq_false_iff_not]; exact fun h => hm h.2
        rw [hB] at h2 ⊢
        have H2 : Hid (Psr w2 P s q V 0 0) := h2
        have HF : Hid (word s.data.toList d.data.toList k = .error (here s.data.toList q)) := by rw [Hid, HW.out, if_neg hm]
        clear h2 hB hm hcn
        go_wp2_with fail
        refine (wrong_any P s q V 0 0 w2 H2.out).mono ?_
        rintro x w3 ⟨rfl, h3, g3⟩
        have H3 : Hid (Psr w3 P s q V (here s.data.toList q).1 (here s.data.toList q).2) := h3
        have G3 := Hid.out (p := Hid _) (G2.out.trans g3); clear g3 h3
        go_wp2_with fail
        refine bodyPost_ret (results_none rfl _ _ _) rfl ?_
        refine ⟨rfl, G3.out, ?_⟩
        rw [HF.out]
        exact ⟨q, hq, H3.out⟩
    · have HF : Hid (word s.data.toList d.data.toList k = .ok q) := by
        rw [Hid, hS.out, List.drop_of_length_le (by simp; omega)]; rfl
      go_wp2_with fail
      go_end0
      refine ⟨rfl, hG.out, ?_⟩
      rw [HF.out]
      exact hP.out

/-- What quoted leaves. -/
def QuotedAt (P : Nat) (s : ByteArray) (V : Value) (d : ByteArray) (w' : World) : Except Er (ByteArray × Nat) → Prop
  | .ok (d', q) => d = d' ∧ Psr w' P s q V 0 0
  | .error y => d = ⟨#[]⟩ ∧ ∃ q, q ≤ s.size ∧ Psr w' P s q V y.1 y.2
theorem quoted_any (P : Nat) (s : ByteArray) (k : Nat) (V : Value) (w : World) (hs : s.size ≤ 1099511627776) (hk : k ≤ s.size) (h : Psr w P s k V 0 0) (T : Utf.Sizes w) :
    Calls Tryz.prog 69 #[.pointer (some ⟨P, 0, none⟩)] w fun x w' => ∃ d, x = .returned (.string d) ∧ w.grownBy w' (some P) ∧ QuotedAt P s V d w' (quoted s.data.toList k) := by
  have c0 := h.c0
  have c1 := h.c1
  have HH := Hid.out (p := Hid _) h; clear h
  have HT := Hid.out (p := Hid _) T; clear T
  have hl : s.data.toList.length = s.size := by simp
  have HL := Hid.out (p := Hid _) hl; clear hl
  obtain ⟨D, hD⟩ : ∃ D, s.extract k s.size = D := ⟨_, rfl⟩
  have hDl : D.data.toList = s.data.toList.drop k := by rw [← hD]; simp [ByteArray.data_extract]; rw [List.take_of_length_le (by simp)]
  have hDs : D.size ≤ s.size := by rw [← hD, ByteArray.size_extract]; omega
  have HD := Hid.out (p := Hid _) hDl
  have TD : Utf.Sizes w.drew := HT.out.stays ((Below.refl _ _).drew)
  have PD : Hid (Psr w.drew P s k V 0 0) := HH.out.kept (gb_drew _ 1 none) (by simp)
  have GD : Hid (w.grownBy w.drew (some P)) := gb_drew _ 1 _
  obtain ⟨d0, n0, e0, hv, hcase⟩ : ∃ (d0 : ByteArray) (n0 e0 : Nat), Quote.scanV D = .tuple #[.string d0, .int .i64 n0, .int .i64 e0] ∧
      ((e0 = 0 ∧ quoted s.data.toList k = .ok (d0, k + n0) ∧ k + n0 ≤ s.size) ∨ (e0 ≠ 0 ∧ quoted s.data.toList k = .error (k, e0))) := by
    unfold Quote.scanV quoted
    rw [hDl]
    cases hq : Quote.scan (s.data.toList.drop k) with
    | error n => exact ⟨_, 0, n, rfl, .inr ⟨scan_err hq, rfl⟩⟩
    | ok r =>
      obtain ⟨o, n⟩ := r
      have hf := quote_fits hq
      rw [List.length_drop, HL.out] at hf
      exact ⟨_, n, 0, rfl, .inl ⟨rfl, rfl, by omega⟩⟩
  have hcall := Quote.scan_any D w.drew (by omega) TD
  rw [hv] at hcall
  have HC := Hid.out (p := Hid _) hcall
  clear hcall hv TD hDl
  go_enter Tryz.func69, Tryz.ntmps69
  go_wp2_with fail
  go_region_held3 (fun w' => w'.cell? ⟨P, 0, none⟩ = some (.string s) ∧ w'.cell? ⟨P, 1, none⟩ = some (.int .i64 k)) (go_keep)
    ((go_at_call 91; refine (Calls.mono HC.out ?_); rintro x w2 ⟨rfl, hb2⟩; have P2 : Hid (Psr w2 P s k V 0 0) := PD.out.kept (gb_below hb2 none) (by simp); have G2 : Hid (w.grownBy w2 (some P)) := GD.out.trans (gb_below hb2 _); clear hb2 PD GD c0 c1; have c0 := P2.out.c0; have c1 := P2.out.c1; have f1 := P2.out.f 1))
  rcases hcase with ⟨rfl, hq, hf⟩ | ⟨he, hq⟩
  · have HF : Hid (quoted s.data.toList k = .ok (d0, k + n0)) := hq
    clear hq
    go_wp2_with fail
    go_ret
    refine ⟨_, rfl, G2.out.trans (gb_set _ _ _ _), ?_⟩
    rw [HF.out]
    exact ⟨rfl, P2.out.set1 (k + n0)⟩
  · have HF : Hid (quoted s.data.toList k = .error (k, e0)) := hq
    have q : ((e0 : Int) != 0) = true := by rw [bne_iff_ne]; omega
    clear hq he
    go_wp2_with fail
    refine (fail_any P s k V 0 0 k e0 w2 P2.out).mono ?_
    rintro x w3 ⟨rfl, h3, g3⟩
    have H3 : Hid (Psr w3 P s k V k e0) := h3
    have G3 := Hid.out (p := Hid _) (G2.out.trans g3); clear g3 h3
    go_wp2_with fail
    go_ret
    refine ⟨_, rfl, G3.out, ?_⟩
    rw [HF.out]
    exact ⟨rfl, k, hk, H3.out⟩
end Go.Proofs.YtehffmcfmdjknaaGreatDoor.Jdec
/- jdec's parser: values that have no parts: text, yes, no, null. -/
namespace Go.Proofs.YtehffmcfmdjknaaGreatDoor.Jdec
open Go.RowKit Go.Proofs.YtehffmcfmdjknaaGreatDoor.Strs
set_option linter.unusedVariables false
set_option linter.unusedSimpArgs false
set_option maxRecDepth 100000

/-- Where the parser stands behind a value. -/
def VAt (P : Nat) (s : ByteArray) (V : Value) (w' : World) (t : JV) : Except Er (JV × Nat) → Prop
  | .ok (t', q) => t = t' ∧ Psr w' P s q V 0 0
  | .error y => ∃ q, q ≤ s.size ∧ Psr w' P s q V y.1 y.2
/-- What a way to read values leaves. -/
def VPost (P : Nat) (s : ByteArray) (V : Value) (r : Except Er (JV × Nat)) (w : World) (x : Ending) (w' : World) : Prop :=
  ∃ (a : Raw) (t : JV), x = .returned a.val ∧ IsV w' (fun j => w.heap.size ≤ j) a t ∧ w.grownBy w' (some P) ∧ VAt P s V w' t r
theorem infoVal : (Tryz.prog.info? 29).map (·.size) = some 8 := by kernel_rfl
def Raw.arr (a : Raw) : Array Value := #[.int .i64 a.kind, .bool a.is, .bool a.neg, .string a.dig, .int .i64 a.exp, .string a.str, .slice a.ka a.kn a.kc, .slice a.va a.vn a.vc]
theorem val_ret {F : Func} {p : Tmp} (hr : F.results = #[.cell p 29]) {tm : Array Value} {a : Raw} {R : Ending → World → Prop} {w' : World} {b : Nat}
    (hb : w'.heap[b]? = some (.cells a.arr 29 (0, 0))) (hp : tm.getD p undef = .pointer (some ⟨b, 0, none⟩)) (hR : R (.returned a.val) w') :
    bodyPost Tryz.prog F R Exit.ret { tmps := tm, defers := [] } w' :=
  bodyPost_ret (results_cell_row hr tm w' b _ _ _ _ hp hb Tryz.underlying29 rfl infoVal) rfl hR
/-- A value's block, written over. -/
theorem set8 {w : World} {b : Nat} {a : Raw} {T : TypeId} (h : w.heap[b]? = some (.cells a.arr T (0, 0))) (c : Raw) :
    ((((((((w.setCell ⟨b, 0, none⟩ (.int .i64 c.kind)).setCell ⟨b, 1, none⟩ (.bool c.is)).setCell ⟨b, 2, none⟩ (.bool c.neg)).setCell ⟨b, 3, none⟩ (.string c.dig)).setCell ⟨b, 4, none⟩ (.int .i64 c.exp)).setCell ⟨b, 5, none⟩ (.string c.str)).setCell ⟨b, 6, none⟩ (.slice c.ka c.kn c.kc)).setCell ⟨b, 7, none⟩ (.slice c.va c.vn c.vc)).heap[b]? = some (.cells c.arr T (0, 0)) := by
  have h0 := heap_set_same h (i := 0) (.int .i64 c.kind)
  have h1 := heap_set_same h0 (i := 1) (.bool c.is)
  have h2 := heap_set_same h1 (i := 2) (.bool c.neg)
  have h3 := heap_set_same h2 (i := 3) (.string c.dig)
  have h4 := heap_set_same h3 (i := 4) (.int .i64 c.exp)
  have h5 := heap_set_same h4 (i := 5) (.string c.str)
  have h6 := heap_set_same h5 (i := 6) (.slice c.ka c.kn c.kc)
  have h7 := heap_set_same h6 (i := 7) (.slice c.va c.vn c.vc)
  rw [h7]
  simp [Raw.arr]
theorem gb8 (w : World) (b : Nat) (x0 x1 x2 x3 x4 x5 x6 x7 : Value) :
    w.grownBy ((((((((w.setCell ⟨b, 0, none⟩ x0).setCell ⟨b, 1, none⟩ x1).setCell ⟨b, 2, none⟩ x2).setCell ⟨b, 3, none⟩ x3).setCell ⟨b, 4, none⟩ x4).setCell ⟨b, 5, none⟩ x5).setCell ⟨b, 6, none⟩ x6).setCell ⟨b, 7, none⟩ x7) (some b) :=
  ((((((((gb_set _ _ _ _).trans (gb_set _ _ _ _)).trans (gb_set _ _ _ _)).trans (gb_set _ _ _ _)).trans (gb_set _ _ _ _)).trans (gb_set _ _ _ _)).trans (gb_set _ _ _ _)).trans (gb_set _ _ _ _))
/-- What turned is the parser, and what is new. -/
theorem gb_new {w w1 w2 : World} {P b : Nat} (h : w.grownBy w1 (some P)) (h2 : w1.grownBy w2 (some b)) (hb : w.heap.size ≤ b) : w.grownBy w2 (some P) :=
  ⟨h2.os.trans h.os, h2.tape.trans h.tape, h2.output.trans h.output, Nat.le_trans h.size h2.size, fun k hk hp => (h2.block k (Nat.lt_of_lt_of_le hk h.size) (fun e => by injection e with e; omega)).trans (h.block k hk hp)⟩

theorem val_cells {w : World} {b : Nat} {a : Raw} {T : TypeId} (h : w.heap[b]? = some (.cells a.arr T (0, 0))) :
    (w.cell? ⟨b, 0, none⟩ = some (.int .i64 a.kind) ∧ w.cell? ⟨b, 1, none⟩ = some (.bool a.is) ∧ w.cell? ⟨b, 2, none⟩ = some (.bool a.neg) ∧ w.cell? ⟨b, 3, none⟩ = some (.string a.dig) ∧ w.cell? ⟨b, 4, none⟩ = some (.int .i64 a.exp) ∧ w.cell? ⟨b, 5, none⟩ = some (.string a.str) ∧ w.cell? ⟨b, 6, none⟩ = some (.slice a.ka a.kn a.kc) ∧ w.cell? ⟨b, 7, none⟩ = some (.slice a.va a.vn a.vc)) ∧
    (w.frozen? ⟨b, 0, none⟩ = false ∧ w.frozen? ⟨b, 1, none⟩ = false ∧ w.frozen? ⟨b, 2, none⟩ = false ∧ w.frozen? ⟨b, 3, none⟩ = false ∧ w.frozen? ⟨b, 4, none⟩ = false ∧ w.frozen? ⟨b, 5, none⟩ = false ∧ w.frozen? ⟨b, 6, none⟩ = false ∧ w.frozen? ⟨b, 7, none⟩ = false) :=
  ⟨⟨cell_of h 0, cell_of h 1, cell_of h 2, cell_of h 3, cell_of h 4, cell_of h 5, cell_of h 6, cell_of h 7⟩, frozen_of h 0, frozen_of h 1, frozen_of h 2, frozen_of h 3, frozen_of h 4, frozen_of h 5, frozen_of h 6, frozen_of h 7⟩
theorem VAt.kept {P b : Nat} {s : ByteArray} {V : Value} {w w' : World} {t : JV} {r : Except Er (JV × Nat)} (h : VAt P s V w t r) (hg : w.grownBy w' (some b)) (hb : P ≠ b) : VAt P s V w' t r := by
  cases r with
  | ok x =>
    obtain ⟨t', q⟩ := x
    exact ⟨h.1, h.2.kept hg (by simpa using hb)⟩
  | error y =>
    obtain ⟨q, h1, h2⟩ := h
    exact ⟨q, h1, h2.kept hg (by simpa using hb)⟩
/-- A value without parts is told. -/
theorem bare_fin {F : Func} {p : Tmp} (hr : F.results = #[.cell p 29]) {tm : Array Value} {a : Raw} {P : Nat} {s : ByteArray} {V : Value} {w w2 : World}
    (hb : w2.heap[w.heap.size]? = some (.cells a.arr 29 (0, 0))) (hp : tm.getD p undef = .pointer (some ⟨w.heap.size, 0, none⟩)) (g : w.grownBy w2 (some P)) (hP : P < w.heap.size)
    (kind : Int) (is neg : Bool) (dig : ByteArray) (exp : Int) (str : ByteArray) (r : Except Er (JV × Nat)) (hv : VAt P s V w2 (.mk kind is neg dig exp str [] []) r) :
    bodyPost Tryz.prog F (VPost P s V r w) Exit.ret { tmps := tm, defers := [] }
    ((((((((w2.setCell ⟨w.heap.size, 0, none⟩ (.int .i64 kind)).setCell ⟨w.heap.size, 1, none⟩ (.bool is)).setCell ⟨w.heap.size, 2, none⟩ (.bool neg)).setCell ⟨w.heap.size, 3, none⟩ (.string dig)).setCell ⟨w.heap.size, 4, none⟩ (.int .i64 exp)).setCell ⟨w.heap.size, 5, none⟩ (.string str)).setCell ⟨w.heap.size, 6, none⟩ (.slice none 0 0)).setCell ⟨w.heap.size, 7, none⟩ (.slice none 0 0)) := by
  have h8 := set8 hb ⟨kind, is, neg, dig, exp, str, none, 0, 0, none, 0, 0⟩
  have G8 := gb8 w2 w.heap.size (.int .i64 kind) (.bool is) (.bool neg) (.string dig) (.int .i64 exp) (.string str) (.slice none 0 0) (.slice none 0 0)
  refine val_ret (a := ⟨kind, is, neg, dig, exp, str, none, 0, 0, none, 0, 0⟩) hr h8 hp ?_
  exact ⟨_, _, rfl, IsV.bare _ _ kind is neg dig exp str none none 0 0, gb_new g G8 (Nat.le_refl _), hv.kept G8 (by omega)⟩
/-- The result's block, made first. -/
theorem res_new (w : World) (P : Nat) (s : ByteArray) (k : Nat) (V : Value) (b e : Nat) (h : Psr w P s k V b e) :
    ∃ w1, w.alloc (.cells #[.int .i64 0, .bool false, .bool false, .string ⟨#[]⟩, .int .i64 0, .string ⟨#[]⟩, .slice none 0 0, .slice none 0 0] 29) = w1 ∧ Hid (Psr w1 P s k V b e) ∧ Hid (w.grownBy w1 (some P)) ∧
      Hid (w1.heap[w.heap.size]? = some (.cells Raw.zero.arr 29 (0, 0))) ∧ Hid (Below w.heap.size w w1) ∧ Hid (w1.heap.size = w.heap.size + 1) :=
  ⟨_, rfl, h.kept (World.grownBy_alloc _ _ none) (by simp), World.grownBy_alloc _ _ _, heap_alloc_new _ _, (Below.refl _ _).alloc (Nat.le_refl _) _, by simp [Hid]⟩
theorem res_kept {w w1 w2 : World} {P : Nat} {a : Raw} (h : w1.heap[w.heap.size]? = some (.cells a.arr 29 (0, 0))) (g : w1.grownBy w2 (some P)) (hP : P < w.heap.size) :
    w2.heap[w.heap.size]? = some (.cells a.arr 29 (0, 0)) := by
  rw [g.block _ (heap_lt h) (by simp; omega)]; exact h

theorem text_any (P : Nat) (s : ByteArray) (k : Nat) (V : Value) (dp : Int) (w : World) (hs : s.size ≤ 1099511627776) (hk : k ≤ s.size) (h : Psr w P s k V 0 0) (T : Utf.Sizes w) :
    Calls Tryz.prog 44 #[.pointer (some ⟨P, 0, none⟩), .int .i64 dp] w (VPost P s V (text s.data.toList k) w) := by
  have HP : Hid (P < w.heap.size) := h.lt
  obtain ⟨w1, hw1, P1, G1, Z1, B1, _⟩ := res_new w P s k V 0 0 h
  have T1 : Hid (Utf.Sizes w1) := T.stays B1.out
  clear T h
  go_enter Tryz.func44, Tryz.ntmps44
  go_wp2_with fail
  refine (quoted_any P s k V w1 hs hk P1.out T1.out).mono ?_
  rintro x w2 ⟨d, rfl, g2, h2⟩
  have G2 := Hid.out (p := Hid _) (G1.out.trans g2)
  have Z2 := res_kept Z1.out g2 HP.out
  obtain ⟨⟨z0, z1, z2, z3, z4, z5, z6, z7⟩, y0, y1, y2, y3, y4, y5, y6, y7⟩ := val_cells Z2
  have H2 := Hid.out (p := Hid _) h2
  have ZZ := Hid.out (p := Hid _) Z2
  clear g2 h2 Z2 hw1
  go_wp2_with fail
  refine bare_fin rfl ZZ.out rfl G2.out HP.out 4 false false ⟨#[]⟩ 0 d _ ?_
  have h2 := H2.out
  unfold text
  cases hq : quoted s.data.toList k with
  | error y => rw [hq] at h2; exact h2.2
  | ok r =>
    obtain ⟨d', q⟩ := r
    rw [hq] at h2
    exact ⟨by rw [h2.1], h2.2⟩
theorem yes_any (P : Nat) (s : ByteArray) (k : Nat) (V : Value) (dp : Int) (w : World) (hs : s.size ≤ 1099511627776) (hk : k ≤ s.size) (h : Psr w P s k V 0 0) :
    Calls Tryz.prog 48 #[.pointer (some ⟨P, 0, none⟩), .int .i64 dp] w (VPost P s V (wordV s.data.toList [116, 114, 117, 101] (plain 2 true) k) w) := by
  have HP : Hid (P < w.heap.size) := h.lt
  obtain ⟨w1, hw1, P1, G1, Z1, B1, _⟩ := res_new w P s k V 0 0 h
  clear h
  go_enter Tryz.func48, Tryz.ntmps48
  go_wp2_with fail
  refine (word_any P s k V ⟨#[116, 114, 117, 101]⟩ w1 hs hk (by decide) P1.out).mono ?_
  rintro x w2 ⟨rfl, g2, h2⟩
  have G2 := Hid.out (p := Hid _) (G1.out.trans g2)
  have Z2 := res_kept Z1.out g2 HP.out
  obtain ⟨⟨z0, z1, z2, z3, z4, z5, z6, z7⟩, y0, y1, y2, y3, y4, y5, y6, y7⟩ := val_cells Z2
  have H2 : Hid (WordAt P s V w2 (word s.data.toList [116, 114, 117, 101] k)) := h2
  have ZZ := Hid.out (p := Hid _) Z2
  clear g2 h2 Z2 hw1
  go_wp2_with fail
  refine bare_fin rfl ZZ.out rfl G2.out HP.out 2 true false ⟨#[]⟩ 0 ⟨#[]⟩ _ ?_
  have h2 := H2.out
  unfold wordV
  cases hq : word s.data.toList [116, 114, 117, 101] k with
  | error y => rw [hq] at h2; exact h2
  | ok q => rw [hq] at h2; exact ⟨rfl, h2⟩
theorem no_any (P : Nat) (s : ByteArray) (k : Nat) (V : Value) (dp : Int) (w : World) (hs : s.size ≤ 1099511627776) (hk : k ≤ s.size) (h : Psr w P s k V 0 0) :
    Calls Tryz.prog 49 #[.pointer (some ⟨P, 0, none⟩), .int .i64 dp] w (VPost P s V (wordV s.data.toList [102, 97, 108, 115, 101] (plain 2 false) k) w) := by
  have HP : Hid (P < w.heap.size) := h.lt
  obtain ⟨w1, hw1, P1, G1, Z1, B1, _⟩ := res_new w P s k V 0 0 h
  clear h
  go_enter Tryz.func49, Tryz.ntmps49
  go_wp2_with fail
  refine (word_any P s k V ⟨#[102, 97, 108, 115, 101]⟩ w1 hs hk (by decide) P1.out).mono ?_
  rintro x w2 ⟨rfl, g2, h2⟩
  have G2 := Hid.out (p := Hid _) (G1.out.trans g2)
  have Z2 := res_kept Z1.out g2 HP.out
  obtain ⟨⟨z0, z1, z2, z3, z4, z5, z6, z7⟩, y0, y1, y2, y3, y4, y5, y6, y7⟩ := val_cells Z2
  have H2 : Hid (WordAt P s V w2 (word s.data.toList [102, 97, 108, 115, 101] k)) := h2
  have ZZ := Hid.out (p := Hid _) Z2
  clear g2 h2 Z2 hw1
  go_wp2_with fail
  refine bare_fin rfl ZZ.out rfl G2.out HP.out 2 false false ⟨#[]⟩ 0 ⟨#[]⟩ _ ?_
  have h2 := H2.out
  unfold wordV
  cases hq : word s.data.toList [102, 97, 108, 115, 101] k with
  | error y => rw [hq] at h2; exact h2
  | ok q => rw [hq] at h2; exact ⟨rfl, h2⟩
theorem null_any (P : Nat) (s : ByteArray) (k : Nat) (V : Value) (dp : Int) (w : World) (hs : s.size ≤ 1099511627776) (hk : k ≤ s.size) (h : Psr w P s k V 0 0) :
    Calls Tryz.prog 50 #[.pointer (some ⟨P, 0, none⟩), .int .i64 dp] w (VPost P s V (wordV s.data.toList [110, 117, 108, 108] (plain 1 false) k) w) := by
  have HP : Hid (P < w.heap.size) := h.lt
  obtain ⟨w1, hw1, P1, G1, Z1, B1, _⟩ := res_new w P s k V 0 0 h
  clear h
  go_enter Tryz.func50, Tryz.ntmps50
  go_wp2_with fail
  refine (word_any P s k V ⟨#[110, 117, 108, 108]⟩ w1 hs hk (by decide) P1.out).mono ?_
  rintro x w2 ⟨rfl, g2, h2⟩
  have G2 := Hid.out (p := Hid _) (G1.out.trans g2)
  have Z2 := res_kept Z1.out g2 HP.out
  obtain ⟨⟨z0, z1, z2, z3, z4, z5, z6, z7⟩, y0, y1, y2, y3, y4, y5, y6, y7⟩ := val_cells Z2
  have H2 : Hid (WordAt P s V w2 (word s.data.toList [110, 117, 108, 108] k)) := h2
  have ZZ := Hid.out (p := Hid _) Z2
  clear g2 h2 Z2 hw1
  go_wp2_with fail
  refine bare_fin rfl ZZ.out rfl G2.out HP.out 1 false false ⟨#[]⟩ 0 ⟨#[]⟩ _ ?_
  have h2 := H2.out
  unfold wordV
  cases hq : word s.data.toList [110, 117, 108, 108] k with
  | error y => rw [hq] at h2; exact h2
  | ok q => rw [hq] at h2; exact ⟨rfl, h2⟩
end Go.Proofs.YtehffmcfmdjknaaGreatDoor.Jdec
/- jdec's parser: numbers. -/
namespace Go.Proofs.YtehffmcfmdjknaaGreatDoor.Jdec
open Go.RowKit Go.Proofs.YtehffmcfmdjknaaGreatDoor.Strs
set_option linter.unusedVariables false
set_option linter.unusedSimpArgs false
set_option maxRecDepth 100000

theorem number_none (P : Nat) (s : ByteArray) (k : Nat) (V : Value) (dp : Int) (w : World) (hs : s.size ≤ 2147483648) (hk : k < s.size) (h : Psr w P s k V 0 0) (T : Num.Steps w) (h0 : Num.scan (s.data.toList.drop k) = 0) :
    Calls Tryz.prog 45 #[.pointer (some ⟨P, 0, none⟩), .int .i64 dp] w (VPost P s V (number s.data.toList k) w) := by
  have HP : Hid (P < w.heap.size) := h.lt
  obtain ⟨w1, hw1, P1, G1, Z1, B1, _⟩ := res_new w P s k V 0 0 h
  have T1 : Hid (Num.Steps w1) := T.stays B1.out
  clear T h
  have hl : s.data.toList.length = s.size := by simp
  obtain ⟨D, hD⟩ : ∃ D, s.extract k s.size = D := ⟨_, rfl⟩
  have hDl : D.data.toList = s.data.toList.drop k := by rw [← hD]; simp [ByteArray.data_extract]; rw [List.take_of_length_le (by simp)]
  have hDs : D.size ≤ s.size := by rw [← hD, ByteArray.size_extract]; omega
  have hcall : ∀ n, Calls Tryz.prog 70 #[.string D] (w1.drewN n) fun e w'' => e = .returned (.int .i64 (0 : Nat)) ∧ ∃ m, w'' = w1.drewN m := fun n =>
    Calls.quiet_of ((Num.scan_any D (w1.drewN n) (by omega) (T1.out.stays (below_drewN _ _ _))).mono fun e w' h => ⟨by rw [h.1, hDl, h0], h.2⟩)
  have HN : Hid (number s.data.toList k = .error (k, if k + 1 = s.size then 2 else 3)) := by rw [Hid, number, if_pos h0, hl]
  have c0 := P1.out.c0
  have c1 := P1.out.c1
  clear hDl h0
  by_cases h1 : k + 1 = s.size
  · have q1 : ((k : Int) + 1 == (s.size : Int)) = true := by rw [beq_iff_eq]; omega
    rw [if_pos h1] at HN
    clear h1 hl
    go_enter Tryz.func45, Tryz.ntmps45
    go_wp2_with fail
    go_quiet ((go_at_call 70; exact hcall _))
    have P2 : Hid (Psr (w1.drewN nq) P s k V 0 0) := P1.out.kept (gb_drew _ _ none) (by simp)
    have G2 : Hid (w1.grownBy (w1.drewN nq) (some P)) := gb_drew _ _ _
    clear c0 c1 hcall hw1
    generalize w1.drewN nq = w2 at *
    have c0 := P2.out.c0
    have c1 := P2.out.c1
    go_wp2_with fail
    go_quiet (fail)
    have P3 : Hid (Psr (w2.drewN nq) P s k V 0 0) := P2.out.kept (gb_drew _ _ none) (by simp)
    have G3 : Hid (w1.grownBy (w2.drewN nq) (some P)) := G2.out.trans (gb_drew _ _ _)
    clear c0 c1
    generalize w2.drewN nq = w3 at *
    have c1 := P3.out.c1
    go_wp2_with fail
    refine (fail_any P s k V 0 0 k 2 w3 P3.out).mono ?_
    rintro x w4 ⟨rfl, h4, g4⟩
    have H4 : Hid (Psr w4 P s k V k 2) := h4
    have G4 := Hid.out (p := Hid _) (G3.out.trans g4)
    have Z4 := res_kept Z1.out G4.out HP.out
    have ZZ := Hid.out (p := Hid _) Z4
    obtain ⟨⟨z0, z1, z2, z3, z4, z5, z6, z7⟩, y0, y1, y2, y3, y4, y5, y6, y7⟩ := val_cells Z4
    clear g4 h4 Z4
    go_wp2_with fail
    refine bare_fin rfl ZZ.out rfl (G1.out.trans G4.out) HP.out 0 false false ⟨#[]⟩ 0 ⟨#[]⟩ _ ?_
    rw [HN.out]
    exact ⟨k, by omega, H4.out⟩
  · have q1 : ((k : Int) + 1 == (s.size : Int)) = false := by rw [beq_eq_false_iff_ne]; omega
    rw [if_neg h1] at HN
    clear h1 hl
    go_enter Tryz.func45, Tryz.ntmps45
    go_wp2_with fail
    go_quiet ((go_at_call 70; exact hcall _))
    have P2 : Hid (Psr (w1.drewN nq) P s k V 0 0) := P1.out.kept (gb_drew _ _ none) (by simp)
    have G2 : Hid (w1.grownBy (w1.drewN nq) (some P)) := gb_drew _ _ _
    clear c0 c1 hcall hw1
    generalize w1.drewN nq = w2 at *
    have c0 := P2.out.c0
    have c1 := P2.out.c1
    go_wp2_with fail
    go_quiet (fail)
    have P3 : Hid (Psr (w2.drewN nq) P s k V 0 0) := P2.out.kept (gb_drew _ _ none) (by simp)
    have G3 : Hid (w1.grownBy (w2.drewN nq) (some P)) := G2.out.trans (gb_drew _ _ _)
    clear c0 c1
    generalize w2.drewN nq = w3 at *
    have c1 := P3.out.c1
    go_wp2_with fail
    refine (fail_any P s k V 0 0 k 3 w3 P3.out).mono ?_
    rintro x w4 ⟨rfl, h4, g4⟩
    have H4 : Hid (Psr w4 P s k V k 3) := h4
    have G4 := Hid.out (p := Hid _) (G3.out.trans g4)
    have Z4 := res_kept Z1.out G4.out HP.out
    have ZZ := Hid.out (p := Hid _) Z4
    obtain ⟨⟨z0, z1, z2, z3, z4, z5, z6, z7⟩, y0, y1, y2, y3, y4, y5, y6, y7⟩ := val_cells Z4
    clear g4 h4 Z4
    go_wp2_with fail
    refine bare_fin rfl ZZ.out rfl (G1.out.trans G4.out) HP.out 0 false false ⟨#[]⟩ 0 ⟨#[]⟩ _ ?_
    rw [HN.out]
    exact ⟨k, by omega, H4.out⟩
end Go.Proofs.YtehffmcfmdjknaaGreatDoor.Jdec
/- jdec's parser: numbers that are there. -/
namespace Go.Proofs.YtehffmcfmdjknaaGreatDoor.Jdec
open Go.RowKit Go.Proofs.YtehffmcfmdjknaaGreatDoor.Strs
set_option linter.unusedVariables false
set_option linter.unusedSimpArgs false
set_option maxRecDepth 100000

theorem num_new {w w' : World} (hb : Below (w.drew.alloc (.cells #[.bool false, .string ⟨#[]⟩, .int .i64 0] 25)).heap.size (w.drew.alloc (.cells #[.bool false, .string ⟨#[]⟩, .int .i64 0] 25)) w') :
    w'.heap[w.heap.size]? = some (.cells #[.bool false, .string ⟨#[]⟩, .int .i64 0] 25 (0, 0)) :=
  (hb.block _ (by simp)).trans (heap_alloc_new w.drew _)
set_option maxHeartbeats 2000000 in
theorem number_some (P : Nat) (s : ByteArray) (k : Nat) (V : Value) (dp : Int) (w : World) (hs : s.size ≤ 2147483648) (hk : k < s.size) (h : Psr w P s k V 0 0) (T : Num.Steps w) (h0 : Num.scan (s.data.toList.drop k) ≠ 0) :
    Calls Tryz.prog 45 #[.pointer (some ⟨P, 0, none⟩), .int .i64 dp] w (VPost P s V (number s.data.toList k) w) := by
  have HP : Hid (P < w.heap.size) := h.lt
  obtain ⟨w1, hw1, P1, G1, Z1, B1, _⟩ := res_new w P s k V 0 0 h
  have T1 : Hid (Num.Steps w1) := T.stays B1.out
  clear T h
  have hl : s.data.toList.length = s.size := by simp
  obtain ⟨D, hD⟩ : ∃ D, s.extract k s.size = D := ⟨_, rfl⟩
  have hDl : D.data.toList = s.data.toList.drop k := by rw [← hD]; simp [ByteArray.data_extract]; rw [List.take_of_length_le (by simp)]
  have hDs : D.size ≤ s.size := by rw [← hD, ByteArray.size_extract]; omega
  obtain ⟨n, hn⟩ : ∃ n, Num.scan (s.data.toList.drop k) = n := ⟨_, rfl⟩
  have hsl := Num.scan_le (s.data.toList.drop k)
  rw [List.length_drop, hl, hn] at hsl
  have hcall : ∀ m, Calls Tryz.prog 70 #[.string D] (w1.drewN m) fun e w'' => e = .returned (.int .i64 n) ∧ ∃ m, w'' = w1.drewN m := fun m =>
    Calls.quiet_of ((Num.scan_any D (w1.drewN m) (by omega) (T1.out.stays (below_drewN _ _ _))).mono fun e w' h => ⟨by rw [h.1, hDl, hn], h.2⟩)
  have HN : Hid (number s.data.toList k = match Num.parse ((s.data.toList.drop k).take n) with
    | .error e => .error (k, e)
    | .ok (n', d, x) => .ok (.mk 3 false n' ⟨d.toArray⟩ x ⟨#[]⟩ [] [], k + n)) := by rw [Hid, number, if_neg h0, hn]; rfl
  obtain ⟨q, hq⟩ : ∃ q, k + n = q := ⟨_, rfl⟩
  obtain ⟨D2, hD2⟩ : ∃ D2, s.extract k q = D2 := ⟨_, rfl⟩
  have hD2l : D2.data.toList = (s.data.toList.drop k).take n := by
    rw [← hD2, ← hq]; simp [ByteArray.data_extract]
  have hD2s : D2.size ≤ s.size := by rw [← hD2, ByteArray.size_extract]; omega
  have qn : ((n : Int) == 0) = false := by rw [beq_eq_false_iff_ne]; omega
  have hqs : q ≤ s.size := by omega
  have hkq : k ≤ q := by omega
  have hqq : (k : Int) + (n : Int) = (q : Int) := by omega
  have hqw : IntKind.i64.wrap (q : Int) = (q : Int) := IntWalk.i64_in _ (by omega)
  have c0 := P1.out.c0
  have c1 := P1.out.c1
  have HQ := Hid.out (p := Hid _) hq
  have HD2 := Hid.out (p := Hid _) hD2l
  clear hDl h0 hn hq hD2l
  obtain ⟨nb, dd, xx, e0, hv, hcase⟩ : ∃ (nb : Bool) (dd : ByteArray) (xx : Int) (e0 : Nat), Num.parseV D2.data.toList = .tuple #[.agg #[.bool nb, .string dd, .int .i64 xx], .int .i64 e0] ∧
      ((e0 = 0 ∧ Hid (number s.data.toList k = .ok (.mk 3 false nb dd xx ⟨#[]⟩ [] [], q))) ∨ (e0 ≠ 0 ∧ Hid (number s.data.toList k = .error (k, e0)))) := by
    unfold Num.parseV
    rw [HD2.out, HN.out]
    cases hp : Num.parse ((s.data.toList.drop k).take n) with
    | error e => exact ⟨_, _, _, e, rfl, .inr ⟨by have := parse_err hp; omega, rfl⟩⟩
    | ok r =>
      obtain ⟨a, b, c⟩ := r
      exact ⟨_, _, _, 0, rfl, .inl ⟨rfl, by rw [Hid, ← HQ.out]⟩⟩
  go_enter Tryz.func45, Tryz.ntmps45
  go_wp2_with fail
  go_quiet ((go_at_call 70; exact hcall _))
  have P2 : Hid (Psr (w1.drewN nq) P s k V 0 0) := P1.out.kept (gb_drew _ _ none) (by simp)
  have G2 : Hid (w1.grownBy (w1.drewN nq) (some P)) := gb_drew _ _ _
  have T2 : Hid (Num.Steps (w1.drewN nq)) := T1.out.stays (below_drewN _ _ _)
  clear c0 c1 hcall hw1
  generalize w1.drewN nq = w2 at *
  have c0 := P2.out.c0
  have c1 := P2.out.c1
  have e0' := World.new_ne w2 _ c0
  have e1' := World.new_ne w2 _ c1
  have hA := Num.parse_any D2 w2.drew (by omega) (T2.out.stays (below_drewN _ w2 1))
  have hB := Num.parse_any D2 (w2.drew.alloc (.cells #[.bool false, .string ⟨#[]⟩, .int .i64 0] 25)) (by omega) (T2.out.stays ((below_drewN _ w2 1).alloc (Nat.le_refl _) _))
  rw [hv] at hA hB
  have HA := Hid.out (p := Hid _) hA
  have HB := Hid.out (p := Hid _) hB
  clear hA hB hv
  go_wp2_with fail
  go_region_held3 (fun w' => w'.cell? ⟨P, 0, none⟩ = some (.string s) ∧ w'.cell? ⟨P, 1, none⟩ = some (.int .i64 k)) (go_keep)
      ((go_at_call 71; first
        | (refine (Calls.mono HA.out ?_); rintro x w3 ⟨rfl, hb3⟩; have P3 : Hid (Psr w3 P s k V 0 0) := (P2.out.kept (gb_drew w2 1 none) (by simp)).kept (gb_below hb3 none) (by simp); have G3 : Hid (w1.grownBy w3 (some P)) := (G2.out.trans (gb_drew w2 1 _)).trans (gb_below hb3 _); clear hb3 c0 c1; have c0 := P3.out.c0; have c1 := P3.out.c1)
        | (refine (Calls.mono HB.out ?_); rintro x w3 ⟨rfl, hb3⟩; have P3 : Hid (Psr w3 P s k V 0 0) := ((P2.out.kept (gb_drew w2 1 none) (by simp)).kept (World.grownBy_alloc _ _ none) (by simp)).kept (gb_below hb3 none) (by simp); have G3 : Hid (w1.grownBy w3 (some P)) := ((G2.out.trans (gb_drew w2 1 _)).trans (World.grownBy_alloc _ _ _)).trans (gb_below hb3 _); have N3 := num_new hb3; have m0 := cell_of N3 0; have m1 := cell_of N3 1; have m2 := cell_of N3 2; have o0 := frozen_of N3 0; have o1 := frozen_of N3 1; have o2 := frozen_of N3 2; have M3 := Hid.out (p := Hid _) N3; clear hb3 c0 c1 N3; have c0 := P3.out.c0; have c1 := P3.out.c1)))
  · obtain ⟨w4, hw4⟩ : ∃ w4, w3.alloc (.cells #[.bool nb, .string dd, .int .i64 xx] 25) = w4 := ⟨_, rfl⟩
    have P4 : Hid (Psr w4 P s k V 0 0) := by rw [← hw4]; exact P3.out.kept (World.grownBy_alloc _ _ none) (by simp)
    have G4 : Hid (w1.grownBy w4 (some P)) := by rw [← hw4]; exact G3.out.trans (World.grownBy_alloc _ _ _)
    have N4 : Hid (w4.heap[w3.heap.size]? = some (.cells #[.bool nb, .string dd, .int .i64 xx] 25 (0, 0))) := by rw [← hw4]; exact heap_alloc_new _ _
    have hNP : w3.heap.size ≠ P := by have := P3.out.lt; omega
    rw [hw4]
    obtain ⟨NB, hNB⟩ : ∃ NB, w3.heap.size = NB := ⟨_, rfl⟩
    rename_i hHeld
    clear hHeld
    rw [hNB] at N4 hNP ⊢
    clear hw4 hNB c0 c1 HA HB e0' e1' G3 P3 hl qn hsl
    have z := val_cells (res_kept Z1.out G4.out HP.out)
    obtain ⟨⟨z0, z1, z2, z3, z4, z5, z6, z7⟩, y0, y1, y2, y3, y4, y5, y6, y7⟩ := z
    have ZZ := Hid.out (p := Hid _) (res_kept Z1.out G4.out HP.out)
    have c0 := P4.out.c0
    have c1 := P4.out.c1
    have f1 := P4.out.f 1
    have n0 := cell_of N4.out 0
    have n1 := cell_of N4.out 1
    have n2 := cell_of N4.out 2
    have hPR : Hid (P ≠ w.heap.size) := by have := HP.out; rw [Hid]; omega
    have hRP : w.heap.size ≠ P := by have := HP.out; omega
    rcases hcase with ⟨he, HF⟩ | ⟨he, HF⟩
    · subst he
      go_wp2_with fail
      refine bare_fin (w2 := w4.setCell ⟨P, 1, none⟩ (.int .i64 q)) rfl ((Below.heap_setCell _ _ _ _ (fun e => hPR.out e.symm)).trans ZZ.out) rfl ((G1.out.trans G4.out).trans (gb_set _ _ _ _)) HP.out 3 false nb dd xx ⟨#[]⟩ _ ?_
      rw [HF.out]
      exact ⟨rfl, P4.out.set1 q⟩
    · have qe : ((e0 : Int) != 0) = true := by rw [bne_iff_ne]; omega
      clear he
      go_wp2_with fail
      refine (fail_any P s k V 0 0 k e0 w4 P4.out).mono ?_
      rintro x w5 ⟨rfl, h5, g5⟩
      have H5 : Hid (Psr w5 P s k V k e0) := h5
      have G5 := Hid.out (p := Hid _) (G4.out.trans g5)
      clear z0 z1 z2 z3 z4 z5 z6 z7 y0 y1 y2 y3 y4 y5 y6 y7 c0 c1 f1 n0 n1 n2 ZZ
      have ZZ := Hid.out (p := Hid _) (res_kept Z1.out G5.out HP.out)
      obtain ⟨⟨z0, z1, z2, z3, z4, z5, z6, z7⟩, y0, y1, y2, y3, y4, y5, y6, y7⟩ := val_cells ZZ.out
      clear g5 h5
      go_wp2_with fail
      refine bare_fin rfl ZZ.out rfl (G1.out.trans G5.out) HP.out 0 false false ⟨#[]⟩ 0 ⟨#[]⟩ _ ?_
      rw [HF.out]
      exact ⟨k, by omega, H5.out⟩
  · obtain ⟨w4, hw4⟩ : ∃ w4, ((w3.setCell ⟨w2.heap.size, 0, none⟩ (.bool nb)).setCell ⟨w2.heap.size, 1, none⟩ (.string dd)).setCell ⟨w2.heap.size, 2, none⟩ (.int .i64 xx) = w4 := ⟨_, rfl⟩
    have g3 : w3.grownBy w4 (some w2.heap.size) := by rw [← hw4]; exact ((gb_set _ _ _ _).trans (gb_set _ _ _ _)).trans (gb_set _ _ _ _)
    have hNP : w2.heap.size ≠ P := e0'
    have P4 : Hid (Psr w4 P s k V 0 0) := P3.out.kept g3 (by simpa using hNP.symm)
    have hws : w.heap.size ≤ w2.heap.size := by have := (G1.out.trans G2.out).size; exact this
    have G4 : Hid (w1.grownBy w4 (some P)) := by
      have h1 : w1.heap.size ≤ w2.heap.size := G2.out.size
      exact gb_new G3.out g3 h1
    have N4 : Hid (w4.heap[w2.heap.size]? = some (.cells #[.bool nb, .string dd, .int .i64 xx] 25 (0, 0))) := by
      rw [← hw4]; exact Num.set3 M3.out _ _ _
    rw [hw4]
    obtain ⟨NB, hNB⟩ : ∃ NB, w2.heap.size = NB := ⟨_, rfl⟩
    rename_i hHeld
    clear hHeld
    rw [hNB] at N4 hNP ⊢
    clear hw4 hNB c0 c1 HA HB e0' e1' G3 P3 hl qn hsl m0 m1 m2 o0 o1 o2 M3 g3 hws
    have z := val_cells (res_kept Z1.out G4.out HP.out)
    obtain ⟨⟨z0, z1, z2, z3, z4, z5, z6, z7⟩, y0, y1, y2, y3, y4, y5, y6, y7⟩ := z
    have ZZ := Hid.out (p := Hid _) (res_kept Z1.out G4.out HP.out)
    have c0 := P4.out.c0
    have c1 := P4.out.c1
    have f1 := P4.out.f 1
    have n0 := cell_of N4.out 0
    have n1 := cell_of N4.out 1
    have n2 := cell_of N4.out 2
    have hPR : Hid (P ≠ w.heap.size) := by have := HP.out; rw [Hid]; omega
    have hRP : w.heap.size ≠ P := by have := HP.out; omega
    rcases hcase with ⟨he, HF⟩ | ⟨he, HF⟩
    · subst he
      go_wp2_with fail
      refine bare_fin (w2 := w4.setCell ⟨P, 1, none⟩ (.int .i64 q)) rfl ((Below.heap_setCell _ _ _ _ (fun e => hPR.out e.symm)).trans ZZ.out) rfl ((G1.out.trans G4.out).trans (gb_set _ _ _ _)) HP.out 3 false nb dd xx ⟨#[]⟩ _ ?_
      rw [HF.out]
      exact ⟨rfl, P4.out.set1 q⟩
    · have qe : ((e0 : Int) != 0) = true := by rw [bne_iff_ne]; omega
      clear he
      go_wp2_with fail
      refine (fail_any P s k V 0 0 k e0 w4 P4.out).mono ?_
      rintro x w5 ⟨rfl, h5, g5⟩
      have H5 : Hid (Psr w5 P s k V k e0) := h5
      have G5 := Hid.out (p := Hid _) (G4.out.trans g5)
      clear z0 z1 z2 z3 z4 z5 z6 z7 y0 y1 y2 y3 y4 y5 y6 y7 c0 c1 f1 n0 n1 n2 ZZ
      have ZZ := Hid.out (p := Hid _) (res_kept Z1.out G5.out HP.out)
      obtain ⟨⟨z0, z1, z2, z3, z4, z5, z6, z7⟩, y0, y1, y2, y3, y4, y5, y6, y7⟩ := val_cells ZZ.out
      clear g5 h5
      go_wp2_with fail
      refine bare_fin rfl ZZ.out rfl (G1.out.trans G5.out) HP.out 0 false false ⟨#[]⟩ 0 ⟨#[]⟩ _ ?_
      rw [HF.out]
      exact ⟨k, by omega, H5.out⟩
theorem number_any (P : Nat) (s : ByteArray) (k : Nat) (V : Value) (dp : Int) (w : World) (hs : s.size ≤ 2147483648) (hk : k < s.size) (h : Psr w P s k V 0 0) (T : Num.Steps w) :
    Calls Tryz.prog 45 #[.pointer (some ⟨P, 0, none⟩), .int .i64 dp] w (VPost P s V (number s.data.toList k) w) := by
  by_cases h0 : Num.scan (s.data.toList.drop k) = 0
  · exact number_none P s k V dp w hs hk h T h0
  · exact number_some P s k V dp w hs hk h T h0
end Go.Proofs.YtehffmcfmdjknaaGreatDoor.Jdec
