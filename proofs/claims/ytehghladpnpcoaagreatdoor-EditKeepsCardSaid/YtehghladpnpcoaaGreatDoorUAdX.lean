/- Texts and addresses held against each other: tabulariumref08.Texts, slices.Equal, tabulariumref17.Same, addr.Same. -/
import Derived.Test.YtehghladpnpcoaaGreatDoorUAdO
import Derived.Laws.StructEq
set_option linter.unusedVariables false
set_option linter.unusedSimpArgs false
set_option maxRecDepth 100000
set_option maxHeartbeats 8000000
namespace Go.Proofs.YtehghladpnpcoaaGreatDoor.Addr
open Go.RowKit Go.Shelf Utf Strs
open Jdec (IsTexts)
theorem atexts_any (ks ls : List ByteArray) (ka la : Option Addr) (kc lc : Nat) (A B : Nat -> Prop) (w : World) (h : IsTexts w A ka ks) (h' : IsTexts w B la ls) (hl : ks.length <= 1048576) (hl' : ls.length <= 1048576) : Calls Tryz.prog 66 #[.slice ka ks.length kc, .slice la ls.length lc] w fun e w' => e = .returned (.bool (decide (ks = ls))) /\ Below w.heap.size w w' := by
 by_cases hne : ks.length = ls.length
 ·by_cases h0 : ks = []
  ·have h0' : ls = [] := by rw [h0] at hne; exact List.length_eq_zero_iff.1 hne.symm
   subst h0 h0';clear h h' hne;go_enter Tryz.func66, Tryz.ntmps66
   go_wp2_with fail
   go_loop [5] (fun p => p = .int .i64 0) (fun p => 0)
   case atStart => rfl
   case round =>
    obtain rfl := hrel;go_wp2_with fail
    go_ret
    exact ⟨rfl, Below.refl _ _⟩
  ·obtain ⟨b, o, rfl, _, _, hc⟩ := h.resolve_left h0;obtain ⟨b', o', rfl, _, _, hc'⟩ := h'.resolve_left (fun e => h0 (by rw [e] at hne; exact List.length_eq_zero_iff.1 hne));have HT := hdQ hc; clear hc;have HT' := hdQ hc'; clear hc';have hz : ((ks.length : Int) != (ls.length : Int)) = false := by rw [bne_eq_false_iff_eq]; omega
   have HN := hdQ hne;clear hne h h';go_enter Tryz.func66, Tryz.ntmps66
   go_wp2_with fail
   go_loopw [5] (fun p wr => ∃ i n : Nat, p = .int .i64 i /\ i <= ks.length /\ Hid (∀ j (h : j < ks.length) (h2 : j < ls.length), j < i -> ks[j] = ls[j]) /\ wr = w.drewN n) (fun p _ => ks.length - (intOf p).toNat)
   case atStart => exact ⟨0, 0, rfl, Nat.zero_le _, fun j _ _ h => by omega, rfl⟩
   case round =>
    obtain ⟨i, n, rfl, hi, hno, rfl⟩ := hrel;by_cases hlt : i < ks.length
    ·have hlt' : i < ls.length := by have := HN.out; omega
     have k2 : w.cell? ⟨b, o + i, none⟩ = some (.string ks[i]) := HT.out i hlt;have g2 : w.cell? ⟨b', o' + i, none⟩ = some (.string ls[i]) := HT'.out i hlt';obtain ⟨x2, hx⟩ : ∃ x, ks[i] = x := ⟨_, rfl⟩;obtain ⟨y2, hy⟩ : ∃ y, ls[i] = y := ⟨_, rfl⟩;rw [hx] at k2;rw [hy] at g2;have HX := hdQ hx; clear hx;have HY := hdQ hy; clear hy;by_cases hq : x2.toList = y2.toList
     ·have HE : Hid (ks[i] = ls[i]) := by
       rw [Hid, HX.out, HY.out];rw [Lib.toList_data, Lib.toList_data] at hq;rw [Utf.str_of x2 _ rfl, Utf.str_of y2 _ rfl, hq]
      have q2 : (x2.toList != y2.toList) = false := by rw [bne_eq_false_iff_eq]; exact hq
      have q3 : (x2.toList == y2.toList) = true := by rw [beq_iff_eq]; exact hq
      have HF : Hid (∀ j (h : j < ks.length) (h2 : j < ls.length), j < i + 1 -> ks[j] = ls[j]) := by
       intro j h h2 h3
       by_cases e : j = i
       ·subst e; exact HE.out
       ·exact hno.out j h h2 (by omega)
      clear hq;go_wp2_with fail
      go_quiet (fail)
      go_wp2_with fail
      go_roundw
      case rel => exact ⟨i + 1, _, by go_num, by omega, HF.out, rfl⟩
      case measure => simp [intOf]; omega
     ·have HF : Hid (decide (ks = ls) = false) := by
       rw [Hid, dfQ]; intro e;apply hq
       have h2 : ks[i] = ls[i] := by subst e; rfl
       rw [HX.out, HY.out] at h2;rw [h2]
      have q2 : (x2.toList != y2.toList) = true := by rw [bne_iff_ne]; exact hq
      have q3 : (x2.toList == y2.toList) = false := by rw [bnQ]; exact hq
      clear hq;go_wp2_with fail
      go_quiet (fail)
      go_wp2_with fail
      go_ret
      exact ⟨by rw [HF.out]; rfl, below_drewN (below_drewN (Below.refl _ _) _) _⟩
    ·have HF : Hid (decide (ks = ls) = true) := by
      rw [Hid, dtQ];exact List.ext_getElem HN.out (fun j h h2 => hno.out j h h2 (by omega))
     go_wp2_with fail
     go_ret
     exact ⟨by rw [HF.out]; rfl, below_drewN (Below.refl _ _) _⟩
 ·have HF : Hid (decide (ks = ls) = false) := by
   rw [Hid, dfQ]; intro e; exact hne (by rw [e])
  have hz : ((ks.length : Int) != (ls.length : Int)) = true := by rw [bne_iff_ne]; omega
  clear hne h h';go_enter Tryz.func66, Tryz.ntmps66
  go_wp2_with fail
  go_ret
  exact ⟨by rw [HF.out]; rfl, Below.refl _ _⟩
def sameB (a b : Adr) : Bool := (a.type.toList == b.type.toList) && ((a.name.toList == b.name.toList) && ((a.key == b.key) && (((a.place : Int) == (b.place : Int)) && (a.word.toList == b.word.toList))))
def sameA (a b : Adr) : Bool := decide (a.path = b.path) && sameB a b
theorem bytes_same {x y : ByteArray} : (x.toList == y.toList) = true ↔ x = y := by
 rw [beq_iff_eq];constructor
 ·intro h
  rw [Lib.toList_data, Lib.toList_data] at h;rw [Utf.str_of x _ rfl, Utf.str_of y _ rfl, h]
 ·rintro rfl; rfl
theorem sameA_iff (a b : Adr) : sameA a b = true ↔ a = b := by
 unfold sameA sameB;simp only [Bool.and_eq_true, dtQ, beq_iff_eq]
 constructor
 ·rintro ⟨h1, h2, h3, h4, h5, h6⟩;obtain ⟨p, t, n, k, l, v⟩ := a;obtain ⟨p', t', n', k', l', v'⟩ := b;simp only at h1 h2 h3 h4 h5 h6
  have h2 := bytes_same.1 (beq_iff_eq.2 h2);have h3 := bytes_same.1 (beq_iff_eq.2 h3);have h6 := bytes_same.1 (beq_iff_eq.2 h6);subst h1 h2 h3 h4 h6;obtain rfl : l = l' := by omega
  rfl
 ·rintro rfl;exact ⟨rfl, rfl, rfl, rfl, rfl, rfl⟩
theorem rsame_any (a b : Adr) (pa pb : Option Addr) (pc pd : Nat) (A B : Nat -> Prop) (w : World) (ha : IsTexts w A pa a.path) (hb : IsTexts w B pb b.path) (hla : a.path.length <= 1048576) (hlb : b.path.length <= 1048576) : Calls Tryz.prog 27 #[wordsA pa pc a, wordsA pb pd b] w fun e w' => e = .returned (.bool (sameA a b)) /\ Below w.heap.size w w' := by
 obtain ⟨w1, hw1, V1, B1⟩ := adr_new w pa pc a;obtain ⟨w2, hw2, V2, B2⟩ := adr_new w1 pb pd b;have hl1 := heap_lt V1.out;have hl2 := heap_lt V2.out;have V12 : Hid (w2.heap[w.heap.size]? = some (.cells (arrA pa pc a) 35 (0, 0))) := (B2.out.block _ hl1).trans V1.out;have B02 : Hid (Below w.heap.size w w2) := B1.out.trans (B2.out.mono (by omega));have hT := atexts_any a.path b.path pa pb pc pd A B w2 (ha.turn (Jdec.Turn.below B02.out)) (hb.turn (Jdec.Turn.below B02.out)) hla hlb;obtain ⟨p, hp⟩ : ∃ p, decide (a.path = b.path) = p := ⟨_, rfl⟩;obtain ⟨t1, h1⟩ : ∃ t, (a.type.toList == b.type.toList) = t := ⟨_, rfl⟩;obtain ⟨t2, h2⟩ : ∃ t, (a.name.toList == b.name.toList) = t := ⟨_, rfl⟩;obtain ⟨t3, h3⟩ : ∃ t, (a.key == b.key) = t := ⟨_, rfl⟩;obtain ⟨t4, h4⟩ : ∃ t, ((a.place : Int) == (b.place : Int)) = t := ⟨_, rfl⟩;obtain ⟨t5, h5⟩ : ∃ t, (a.word.toList == b.word.toList) = t := ⟨_, rfl⟩;have HS : Hid (sameA a b = (p && (t1 && (t2 && (t3 && (t4 && t5)))))) := by rw [Hid, sameA, sameB, hp, h1, h2, h3, h4, h5]
 rw [hp] at hT;have HT := hdQ hT;obtain ⟨x0, x1, x2, x3, x4, x5⟩ := adr_cells V12.out;obtain ⟨y0, y1, y2, y3, y4, y5⟩ := adr_cells V2.out;unfold wordsA;clear hp hT ha hb;go_enter Tryz.func27, Tryz.ntmps27
 go_wp2_with fail
 refine (Calls.mono HT.out ?_);rintro z w3 ⟨rfl, hb3⟩;have B03 : Hid (Below w.heap.size w w3) := B02.out.trans (hb3.mono (by have := B02.out.size; omega));have V13 : Hid (w3.heap[w.heap.size]? = some (.cells (arrA pa pc a) 35 (0, 0))) := (hb3.block _ (by omega)).trans V12.out;have V23 : Hid (w3.heap[w1.heap.size]? = some (.cells (arrA pb pd b) 35 (0, 0))) := (hb3.block _ hl2).trans V2.out;clear hb3 x0 x1 x2 x3 x4 x5 y0 y1 y2 y3 y4 y5 HT;obtain ⟨x0, x1, x2, x3, x4, x5⟩ := adr_cells V13.out;obtain ⟨y0, y1, y2, y3, y4, y5⟩ := adr_cells V23.out;cases p
 ·go_wp2_with fail
  go_ret
  exact ⟨by rw [HS.out]; rfl, B03.out⟩
 cases t1
 ·go_wp2_with fail
  go_ret
  exact ⟨by rw [HS.out]; rfl, B03.out⟩
 cases t2
 ·go_wp2_with fail
  go_ret
  exact ⟨by rw [HS.out]; rfl, B03.out⟩
 cases t3
 ·go_wp2_with fail
  go_ret
  exact ⟨by rw [HS.out]; rfl, B03.out⟩
 cases t4
 ·go_wp2_with fail
  go_ret
  exact ⟨by rw [HS.out]; rfl, B03.out⟩
 cases t5
 ·go_wp2_with fail
  go_ret
  exact ⟨by rw [HS.out]; rfl, B03.out⟩
 ·go_wp2_with fail
  go_ret
  exact ⟨by rw [HS.out]; rfl, B03.out⟩
theorem bytes_ext {x y : ByteArray} (h : x.data.toList = y.data.toList) : x = y := by rw [Utf.str_of x _ rfl, Utf.str_of y _ rfl, h]
theorem rdigits_any : ∀ (n : Nat), n < 18446744073709551616 -> ∀ w : World, Calls Tryz.prog 80 #[.int .u64 n] w fun e w' => e = .returned (.string ⟨(Lib.decDigits n).toArray⟩) /\ Below w.heap.size w w' := by
 intro n
 induction n using Nat.strongRecOn with
 | ind n ih =>
 intro hn w
 obtain ⟨r, hr⟩ : ∃ r : Nat, n % 10 = r := ⟨_, rfl⟩;have gr : (n : Int) % 10 = (r : Int) := by omega
 have lr : r < 10 := by omega
 obtain ⟨q, hq⟩ : ∃ q : Nat, n / 10 = q := ⟨_, rfl⟩;have gq : (n : Int) / 10 = (q : Int) := by omega
 by_cases h10 : n < 10
 ·have HD : Hid (Lib.decDigits n = [UInt8.ofNat (48 + r)]) := by rw [Hid, Lib.decDigits, dif_pos h10, show r = n by omega]
  have t0 : decide ((10 : Int) <= (n : Int)) = false := by rw [dfQ]; omega
  have t1 : decide (10 <= n) = false := by rw [dfQ]; omega
  clear ih hr hq gq;go_enter Tryz.func80, Tryz.ntmps80
  go_wp2_with fail
  rw [conv_back ⟨w.heap.size, 0, none⟩ 1 1 [UInt8.ofNat (48 + r)] rfl (new_cells _ rfl (by
   intro j hj
   match j, hj with
   | 0, _ =>
    show some (Value.int .u8 _) = some (Value.int .u8 ((UInt8.ofNat (48 + r)).toNat : Int));rw [ofNat_u8 _ (by omega)]
    first | done | rfl | (congr 2 <;> omega)
   ))]
  simp only [Result.andThen]
  rw [Oper.upon_value];obtain ⟨o, ho⟩ : ∃ o, (⟨#[UInt8.ofNat (48 + r)]⟩ : ByteArray) = o := ⟨_, rfl⟩;have HF : Hid (o = ⟨(Lib.decDigits n).toArray⟩) := by rw [Hid, HD.out, <-ho]
  have ho' : (⟨[UInt8.ofNat (48 + r)].toArray⟩ : ByteArray) = o := ho;rw [ho'];clear ho ho';go_wp2_with fail
  go_ret
  exact ⟨by rw [HF.out] <;> rfl, (Below.refl _ _).alloc (Nat.le_refl _) _⟩
 ·have HD : Hid (Lib.decDigits n = Lib.decDigits q ++ [UInt8.ofNat (48 + r)]) := by rw [Hid, Lib.decDigits, dif_neg h10, hq, hr]
  have t0 : decide ((10 : Int) <= (n : Int)) = true := by rw [dtQ]; omega
  have t1 : decide (10 <= n) = true := by rw [dtQ]; omega
  have HI := hdQ (ih q (by omega) (by omega));obtain ⟨dq, hdq⟩ : ∃ dq, (⟨(Lib.decDigits q).toArray⟩ : ByteArray) = dq := ⟨_, rfl⟩;have HDQ := hdQ hdq;have hdl : dq.size <= 20 := by
   rw [<-hdq];show (Lib.decDigits q).toArray.size <= 20;rw [List.size_toArray, Lib.decDigits_length];exact Lib.nDigits_le20 _ (by omega)
  rw [hdq] at HI;clear ih hr hq hdq;go_enter Tryz.func80, Tryz.ntmps80
  go_wp2_with fail
  rw [conv_back ⟨w.heap.size, 0, none⟩ 1 1 [UInt8.ofNat (48 + r)] rfl (new_cells _ rfl (by
   intro j hj
   match j, hj with
   | 0, _ =>
    show some (Value.int .u8 _) = some (Value.int .u8 ((UInt8.ofNat (48 + r)).toNat : Int));rw [ofNat_u8 _ (by omega)]
    first | done | rfl | (congr 2 <;> omega)
   ))]
  simp only [Result.andThen]
  rw [Oper.upon_value];obtain ⟨o, ho⟩ : ∃ o, (⟨#[UInt8.ofNat (48 + r)]⟩ : ByteArray) = o := ⟨_, rfl⟩;have HF : Hid (dq ++ o = ⟨(Lib.decDigits n).toArray⟩) := by
   apply bytes_ext
   rw [HD.out, <-HDQ.out, <-ho];simp
  have hos : o.size = 1 := by rw [<-ho]; rfl
  have ho' : (⟨[UInt8.ofNat (48 + r)].toArray⟩ : ByteArray) = o := ho;rw [ho'];clear ho ho';go_wp2_with fail
  refine (Calls.mono (HI.out _) ?_);rintro z w2 ⟨rfl, hb2⟩;have B2 : Hid (Below w.heap.size w w2) := ((Below.refl _ w).alloc (Nat.le_refl _) _).trans (hb2.mono (by simp));clear hb2;go_wp2_with fail
  go_ret
  exact ⟨by rw [HF.out] <;> rfl, B2.out⟩
theorem rdigit_hex (n : Nat) (hn : n < 16) (w : World) : Calls Tryz.prog 111 #[.int .i64 n] w fun e w' => e = .returned (.string ⟨#[Quote.hexd n]⟩) /\ Below w.heap.size w w' := by
 by_cases h10 : n < 10
 ·have HD : Hid (Quote.hexd n = UInt8.ofNat (48 + n)) := by
   have : ∀ n, n < 10 -> Quote.hexd n = UInt8.ofNat (48 + n) := by decide
   exact this n h10
  have t0 : decide ((n : Int) < 10) = true := by rw [dtQ]; omega
  have t1 : decide (n < 10) = true := by rw [dtQ]; omega
  go_enter Tryz.func111, Tryz.ntmps111
  go_wp2_with fail
  rw [conv_back ⟨w.heap.size, 0, none⟩ 1 1 [UInt8.ofNat (48 + n)] rfl (new_cells _ rfl (by
   intro j hj
   match j, hj with
   | 0, _ =>
    show some (Value.int .u8 _) = some (Value.int .u8 ((UInt8.ofNat (48 + n)).toNat : Int));rw [ofNat_u8 _ (by omega)]
    first | done | rfl | (congr 2 <;> omega)
   ))]
  simp only [Result.andThen]
  rw [Oper.upon_value];obtain ⟨o, ho⟩ : ∃ o, (⟨#[UInt8.ofNat (48 + n)]⟩ : ByteArray) = o := ⟨_, rfl⟩;have HF : Hid (o = ⟨#[Quote.hexd n]⟩) := by rw [Hid, HD.out, <-ho]
  have ho' : (⟨[UInt8.ofNat (48 + n)].toArray⟩ : ByteArray) = o := ho;rw [ho'];clear ho ho';go_wp2_with fail
  go_ret
  exact ⟨by rw [HF.out] <;> rfl, (Below.refl _ _).alloc (Nat.le_refl _) _⟩
 ·have HD : Hid (Quote.hexd n = UInt8.ofNat (87 + n)) := by
   have : ∀ n, n < 16 -> 10 <= n -> Quote.hexd n = UInt8.ofNat (87 + n) := by decide
   exact this n hn (by omega)
  have t0 : decide ((n : Int) < 10) = false := by rw [dfQ]; omega
  have t1 : decide (n < 10) = false := by rw [dfQ]; omega
  go_enter Tryz.func111, Tryz.ntmps111
  go_wp2_with fail
  rw [conv_back ⟨w.heap.size, 0, none⟩ 1 1 [UInt8.ofNat (87 + n)] rfl (new_cells _ rfl (by
   intro j hj
   match j, hj with
   | 0, _ =>
    show some (Value.int .u8 _) = some (Value.int .u8 ((UInt8.ofNat (87 + n)).toNat : Int));rw [ofNat_u8 _ (by omega)]
    first | done | rfl | (congr 2 <;> omega)
   ))]
  simp only [Result.andThen]
  rw [Oper.upon_value];obtain ⟨o, ho⟩ : ∃ o, (⟨#[UInt8.ofNat (87 + n)]⟩ : ByteArray) = o := ⟨_, rfl⟩;have HF : Hid (o = ⟨#[Quote.hexd n]⟩) := by rw [Hid, HD.out, <-ho]
  have ho' : (⟨[UInt8.ofNat (87 + n)].toArray⟩ : ByteArray) = o := ho;rw [ho'];clear ho ho';go_wp2_with fail
  go_ret
  exact ⟨by rw [HF.out] <;> rfl, (Below.refl _ _).alloc (Nat.le_refl _) _⟩
def shortS (c : Nat) : ByteArray := if Quote.short c ≠ 0 then ⟨#[UInt8.ofNat (Quote.short c)]⟩ else ⟨#[]⟩
theorem rshort_any (c : Nat) (hc : c < 256) (w : World) : Calls Tryz.prog 110 #[.int .u8 c] w fun e w' => e = .returned (.string (shortS c)) /\ w = w' := by
 by_cases h34 : c = 34
 ·subst h34;go_enter Tryz.func110, Tryz.ntmps110
  go_wp2_with fail
  go_ret
  exact ⟨rfl, rfl⟩
 by_cases h92 : c = 92
 ·subst h92;go_enter Tryz.func110, Tryz.ntmps110
  go_wp2_with fail
  go_ret
  exact ⟨rfl, rfl⟩
 by_cases h8 : c = 8
 ·subst h8;go_enter Tryz.func110, Tryz.ntmps110
  go_wp2_with fail
  go_ret
  exact ⟨rfl, rfl⟩
 by_cases h12 : c = 12
 ·subst h12;go_enter Tryz.func110, Tryz.ntmps110
  go_wp2_with fail
  go_ret
  exact ⟨rfl, rfl⟩
 by_cases h10 : c = 10
 ·subst h10;go_enter Tryz.func110, Tryz.ntmps110
  go_wp2_with fail
  go_ret
  exact ⟨rfl, rfl⟩
 by_cases h13 : c = 13
 ·subst h13;go_enter Tryz.func110, Tryz.ntmps110
  go_wp2_with fail
  go_ret
  exact ⟨rfl, rfl⟩
 by_cases h9 : c = 9
 ·subst h9;go_enter Tryz.func110, Tryz.ntmps110
  go_wp2_with fail
  go_ret
  exact ⟨rfl, rfl⟩
 have hs : shortS c = ⟨#[]⟩ := by unfold shortS Quote.short; rw [if_neg (show ¬ (c = 34 ∨ c = 92) by omega), if_neg h8, if_neg h12, if_neg h10, if_neg h13, if_neg h9]; rfl
 have HS := hdQ hs;have e34 : ((c : Int) == 34) = false := by rw [bnQ]; omega
 have e92 : ((c : Int) == 92) = false := by rw [bnQ]; omega
 have e8 : ((c : Int) == 8) = false := by rw [bnQ]; omega
 have e12 : ((c : Int) == 12) = false := by rw [bnQ]; omega
 have e10 : ((c : Int) == 10) = false := by rw [bnQ]; omega
 have e13 : ((c : Int) == 13) = false := by rw [bnQ]; omega
 have e9 : ((c : Int) == 9) = false := by rw [bnQ]; omega
 clear hs;go_enter Tryz.func110, Tryz.ntmps110
 go_wp2_with fail
 go_ret
 exact ⟨by rw [HS.out] <;> rfl, rfl⟩
theorem qp_take (s : ByteArray) (i : Nat) (h : i < s.size) : (s.data.toList.take (i + 1)).flatMap Quote.qp = (s.data.toList.take i).flatMap Quote.qp ++ Quote.qp s[i] := by
 have hl : i < s.data.toList.length := by simpa using h
 rw [List.take_add_one, List.getElem?_eq_getElem hl, List.flatMap_append];simp
 rfl
theorem rqprint_any (s : ByteArray) (w : World) (hs : s.size <= 1000000) : Calls Tryz.prog 81 #[.string s] w fun e w' => e = .returned (.string ⟨(Quote.qprint s.data.toList).toArray⟩) /\ Below w.heap.size w w' := by
 have hl : s.data.toList.length = s.size := by simp
 have HL := hdQ hl;clear hl;go_enter Tryz.func81, Tryz.ntmps81
 go_wp2_with fail
 go_loopw [3, 4] (fun p3 p4 wr => ∃ (i : Nat) (out : ByteArray), p3 = .string out /\ p4 = .int .i64 i /\ i <= s.size /\ out.size <= 6 * i + 1 /\ Hid (out.data.toList = 34 :: (s.data.toList.take i).flatMap Quote.qp) /\ Hid (Below w.heap.size w wr)) (fun _ p4 _ => s.size - (intOf p4).toNat)
 case atStart => exact ⟨0, ⟨#[34]⟩, rfl, rfl, Nat.zero_le _, by decide, rfl, Below.refl _ _⟩
 case round =>
  obtain ⟨i, out, rfl, rfl, hi, ho, hO, hB⟩ := hrel;by_cases hlt : i < s.size
  ·have hq := qp_take s i hlt;have HQ := hdQ hq;obtain ⟨c, hc⟩ : ∃ c : Nat, s[i].toNat = c := ⟨_, rfl⟩;have hc256 : c < 256 := by rw [<-hc]; exact s[i].toNat_lt
   have HC := hdQ hc;have HSH : Hid (∀ w, Calls Tryz.prog 110 #[.int .u8 c] w fun e w' => e = .returned (.string (shortS c)) /\ w = w') := rshort_any c hc256;obtain ⟨i1, hi1⟩ : ∃ i1, i + 1 = i1 := ⟨_, rfl⟩;have hi1i : (i : Int) + 1 = (i1 : Int) := by omega
   clear hq;by_cases h1 : Quote.short c ≠ 0
   ·obtain ⟨sh, hsh⟩ : ∃ sh, shortS c = sh := ⟨_, rfl⟩;have hshl : sh.data.toList = [UInt8.ofNat (Quote.short c)] := by rw [<-hsh, shortS, if_pos h1]
    have hshs : sh.size = 1 := by
     have := congrArg List.length hshl
     simpa using this
    have q1 : (sh.toList != []) = true := by rw [bne_iff_ne, Lib.toList_data, hshl]; simp
    have q2 : sh.toList.isEmpty = false := by rw [Lib.toList_data, hshl]; rfl
    have HN : Hid ((out ++ ⟨#[92]⟩ ++ sh).data.toList = 34 :: (s.data.toList.take i1).flatMap Quote.qp) := by
     rw [Hid, <-hi1, HQ.out, Quote.qp, HC.out, if_pos h1];simp [hO.out, hshl]
    have HZ : Hid ((out ++ ⟨#[92]⟩ ++ sh).size <= 6 * i1 + 1) := by
     rw [Hid, ByteArray.size_append, ByteArray.size_append, hshs];show out.size + 1 + 1 <= _;omega
    rw [hsh] at HSH;have HSL := hdQ hshl;clear hsh hshl h1;go_wp2_with fail
    refine (Calls.mono (HSH.out _) ?_);rintro z w2 ⟨rfl, rfl⟩;go_wp2_with fail
    refine (Calls.mono (HSH.out _) ?_);rintro z w2 ⟨rfl, rfl⟩;go_wp2_with fail
    go_roundw
    case rel => exact ⟨i1, _, rfl, by go_num, by omega, HZ.out, HN.out, hB.out⟩
    case measure => simp [intOf]; omega
   ·have hsh : shortS c = ⟨#[]⟩ := by rw [shortS, if_neg h1]
    rw [hsh] at HSH;have HS0 : Hid (Quote.short c = 0) := by rw [Hid]; omega
    clear h1 hsh;by_cases h32 : c < 32
    ·have t1 : decide ((c : Int) < 32) = true := by rw [dtQ]; omega
     have t2 : decide (c < 32) = true := by rw [dtQ]; omega
     obtain ⟨u, hu⟩ : ∃ u : Nat, c / 16 = u := ⟨_, rfl⟩;have gu : (c : Int) / 16 = (u : Int) := by omega
     obtain ⟨v, hv⟩ : ∃ v : Nat, c % 16 = v := ⟨_, rfl⟩;have gv : (c : Int) % 16 = (v : Int) := by omega
     have gvt : (c : Int).tmod 16 = (v : Int) := by rw [Int.tmod_eq_emod_of_nonneg (by omega)]; exact gv
     have lu : u < 16 := by omega
     have lv : v < 16 := by omega
     have HU : Hid (∀ w, Calls Tryz.prog 111 #[.int .i64 u] w fun e w' => e = .returned (.string ⟨#[Quote.hexd u]⟩) /\ Below w.heap.size w w') := rdigit_hex u lu;have HV : Hid (∀ w, Calls Tryz.prog 111 #[.int .i64 v] w fun e w' => e = .returned (.string ⟨#[Quote.hexd v]⟩) /\ Below w.heap.size w w') := rdigit_hex v lv;obtain ⟨du, hdu⟩ : ∃ d, (⟨#[Quote.hexd u]⟩ : ByteArray) = d := ⟨_, rfl⟩;obtain ⟨dv, hdv⟩ : ∃ d, (⟨#[Quote.hexd v]⟩ : ByteArray) = d := ⟨_, rfl⟩;have hdus : du.size = 1 := by rw [<-hdu]; rfl
     have hdvs : dv.size = 1 := by rw [<-hdv]; rfl
     have HN : Hid ((out ++ ⟨#[92, 117, 48, 48]⟩ ++ du ++ dv).data.toList = 34 :: (s.data.toList.take i1).flatMap Quote.qp) := by
      rw [Hid, <-hi1, HQ.out, Quote.qp, HC.out, if_neg (by rw [HS0.out]; simp), if_pos h32, hu, hv, <-hdu, <-hdv];simp [hO.out]
     have HZ : Hid ((out ++ ⟨#[92, 117, 48, 48]⟩ ++ du ++ dv).size <= 6 * i1 + 1) := by
      rw [Hid, ByteArray.size_append, ByteArray.size_append, ByteArray.size_append, hdus, hdvs];show out.size + 4 + 1 + 1 <= _;omega
     have b1 : ¬ 9223372036854775807 < out.size + 4 := by omega
     have b2 : ¬ 9223372036854775807 < out.size + 4 + 1 := by omega
     have b4 : ¬ 9223372036854775807 < out.size + 4 + 1 + 1 := by omega
     have wu8 : IntKind.u8.wrap (u : Int) = (u : Int) := IntWalk.u8_in _ (by omega);have wu6 : IntKind.i64.wrap (u : Int) = (u : Int) := IntWalk.i64_in _ (by omega);have wv8 : IntKind.u8.wrap (v : Int) = (v : Int) := IntWalk.u8_in _ (by omega);have wv6 : IntKind.i64.wrap (v : Int) = (v : Int) := IntWalk.i64_in _ (by omega);rw [hdu] at HU;rw [hdv] at HV;clear hdu hdv hu hv h32;go_wp2_with fail
     refine (Calls.mono (HSH.out _) ?_);rintro z w2 ⟨rfl, rfl⟩;go_wp2_with fail
     go_region_law (first
      | (go_simp; go_at_call 111; refine (Calls.mono (HV.out w4) ?_); rintro z w5 ⟨rfl, hb5⟩; have HB5 := hdQ (HB4.out.trans (hb5.mono HB4.out.size)); clear hb5)
      | (go_simp; go_at_call 111; refine (Calls.mono (HU.out wr.drew) ?_); rintro z w4 ⟨rfl, hb4⟩; have HB4 := hdQ (hB.out.drew.trans (hb4.mono hB.out.drew.size)); clear hb4))
     all_goals
      go_wp2_with fail
      go_roundw
      case rel => exact ⟨i1, _, rfl, by go_num, by omega, HZ.out, HN.out, HB5.out⟩
      case measure => simp [intOf]; omega
    ·have t1 : decide ((c : Int) < 32) = false := by rw [dfQ]; omega
     have t2 : decide (c < 32) = false := by rw [dfQ]; omega
     obtain ⟨o, ho1⟩ : ∃ o, s.extract i i1 = o := ⟨_, rfl⟩;have hol : o.data.toList = [s[i]] := by
      rw [<-ho1, <-hi1];have hlt' : i < s.data.toList.length := by rw [HL.out]; exact hlt
      have := Utf.str_of (s.extract i (i + 1)) _ rfl;rw [ByteArray.data_extract, Array.toList_extract, List.extract_eq_take_drop, show i + 1 - i = 1 by omega, <-List.getElem_cons_drop hlt', List.take_succ_cons, List.take_zero]
      rfl
     have hos : o.size = 1 := by
      have := congrArg List.length hol
      simpa using this
     have hsl : ∀ wx, (Instr.slice 9 (.string s) (some (.int .i64 i)) (some (.int .i64 i1)) none).run Tryz.prog wx = .ok (.string o) wx := fun wx => by
      rw [run_slice_string (P := Tryz.prog) wx 9 s .i64 .i64 i i1 Tryz.underlying9 (by omega) (by omega) (by omega), Int.toNat_natCast, Int.toNat_natCast, ho1]
     have HN : Hid ((out ++ o).data.toList = 34 :: (s.data.toList.take i1).flatMap Quote.qp) := by
      rw [Hid, <-hi1, HQ.out, Quote.qp, HC.out, if_neg (by rw [HS0.out]; simp), if_neg h32];simp [hO.out, hol]
     have HZ : Hid ((out ++ o).size <= 6 * i1 + 1) := by
      rw [Hid, ByteArray.size_append, hos]; omega
     clear ho1 hol h32;go_wp2_with fail
     refine (Calls.mono (HSH.out _) ?_);rintro z w2 ⟨rfl, rfl⟩;go_wp2_with fail
     go_roundw
     case rel => exact ⟨i1, _, rfl, by go_num, by omega, HZ.out, HN.out, hB.out⟩
     case measure => simp [intOf]; omega
  ·have HF : Hid (out ++ ⟨#[34]⟩ = ⟨(Quote.qprint s.data.toList).toArray⟩) := by
    apply bytes_ext
    have := hO.out;rw [List.take_of_length_le (by rw [HL.out]; omega)] at this;simp [Quote.qprint, this]
   go_wp2_with fail
   go_ret
   exact ⟨by rw [HF.out] <;> rfl, hB.out⟩
theorem data_size {x : ByteArray} {l : List UInt8} (h : x.data.toList = l) : x.size = l.length := by rw [<-h]; simp
theorem rprint_any (a : Adr) (pa : Option Addr) (pc : Nat) (A : Nat -> Prop) (w : World) (ht : IsTexts w A pa a.path) (hl : a.path.length <= 3000) (hs : ∀ x ∈ a.path, x.size <= 3000) (h1 : a.type.size <= 3000) (h2 : a.name.size <= 3000) (h3 : a.word.size <= 3000) (h4 : a.place < 18446744073709551616) : Calls Tryz.prog 52 #[wordsA pa pc a] w fun e w' => e = .returned (.string ⟨(printA a).toArray⟩) /\ Below w.heap.size w w' := by
 obtain ⟨w1, hw1, V1, B1⟩ := adr_new w pa pc a;obtain ⟨x0, x1, x2, x3, x4, x5⟩ := adr_cells V1.out;have hl1 := heap_lt V1.out;have hr := rright_any a pa pc A w1 (ht.turn (Jdec.Turn.below B1.out)) hl (fun x hx => Nat.le_trans (hs x hx) (by omega)) (by omega) (by omega) (by omega);have HR := hdQ hr;have HTX : Hid (∀ w', Below w.heap.size w w' -> IsTexts w' A pa a.path) := fun w' hb => ht.turn (Jdec.Turn.below hb);have HS := hdQ hs;obtain ⟨r, hrr⟩ : ∃ r, rightA a = r := ⟨_, rfl⟩;rw [hrr] at HR;have HRR := hdQ hrr;unfold wordsA at HR ⊢;clear hr ht hrr hs;go_enter Tryz.func52, Tryz.ntmps52
 go_wp2_with fail
 refine (Calls.mono HR.out ?_);rintro z w2 ⟨rfl, hb2⟩;have B2 : Hid (Below w.heap.size w w2) := B1.out.trans (hb2.mono (by omega));have V2 : Hid (w2.heap[w.heap.size]? = some (.cells (arrA pa pc a) 35 (0, 0))) := (hb2.block _ hl1).trans V1.out;clear hb2 x0 x1 x2 x3 x4 x5 hw1 HR;obtain ⟨x0, x1, x2, x3, x4, x5⟩ := adr_cells V2.out;cases r
 ·have HF : Hid (printA a = []) := by rw [Hid, printA, HRR.out]; rfl
  go_wp2_with fail
  go_ret
  exact ⟨by rw [HF.out] <;> rfl, B2.out⟩
 have HPR : Hid (printA a = headL a.path a.type.data.toList a.name.data.toList ++ keyL a) := by rw [Hid, printA, HRR.out]; rfl
 have P := right_parts HRR.out;have hp20 := P.len;have hpl := path_size a.path 3000 HS.out;have hpl2 : (pathL a.path).length <= 60160 := Nat.le_trans hpl (by have := Nat.mul_le_mul_right (3000 + 8) hp20; omega);have HPL := hdQ hpl2;obtain ⟨M, hM⟩ : ∃ M, (pathL a.path).length = M := ⟨_, rfl⟩;have hM2 : M <= 60160 := by rw [<-hM]; exact hpl2
 have HM := hdQ hM;clear hpl hpl2 P hM;go_wp2_with fail
 go_loopw [3, 4] (fun p3 p4 wr => ∃ (i : Nat) (out : ByteArray), p3 = .string out /\ p4 = .int .i64 i /\ i <= a.path.length /\ out.size <= M /\ Hid (out.data.toList = pathL (a.path.take i)) /\ w2 = wr) (fun _ p4 _ => a.path.length - (intOf p4).toNat)
 case atStart => exact ⟨0, ⟨#[]⟩, rfl, rfl, Nat.zero_le _, Nat.zero_le _, rfl, rfl⟩
 case round =>
  obtain ⟨i, out, rfl, rfl, hi, ho, hO, rfl⟩ := hrel;by_cases hlt : i < a.path.length
  ·obtain ⟨b, o, rfl, _, hb, hc⟩ := (HTX.out w2 B2.out).resolve_left (by intro e; rw [e] at hlt; simp at hlt);have k0 := hc i hlt;have hle := path_le hlt;have htk := path_take hlt;obtain ⟨x, hx⟩ : ∃ x, a.path[i] = x := ⟨_, rfl⟩;rw [hx] at k0 hle htk;have hos := data_size hO.out;have hml : (modL x).length = x.size + 8 := by simp [modL, moduleL]
   have hMM := HM.out;have hxs : out.size + x.size + 8 <= M := by omega
   have HN : Hid ((out ++ ⟨#[109, 111, 100, 117, 108, 101, 46]⟩ ++ x ++ ⟨#[46]⟩).data.toList = pathL (a.path.take (i + 1))) := by
    rw [Hid, htk, <-hO.out];simp [modL, moduleL]
   have HZ : Hid ((out ++ ⟨#[109, 111, 100, 117, 108, 101, 46]⟩ ++ x ++ ⟨#[46]⟩).size <= M) := by
    rw [Hid, ByteArray.size_append, ByteArray.size_append, ByteArray.size_append];show out.size + 7 + x.size + 1 <= M;omega
   clear hc hx hle htk hos hml hMM;go_wp2_with fail
   go_roundw
   case rel => exact ⟨i + 1, _, rfl, by go_num, by omega, HZ.out, HN.out, trivial⟩
   case measure => simp [intOf]; omega
  ·obtain rfl : i = a.path.length := by omega
   have HH : Hid ((out ++ a.type ++ ⟨#[46]⟩ ++ a.name).data.toList = headL a.path a.type.data.toList a.name.data.toList) := by
    have := hO.out;rw [List.take_length] at this;rw [Hid];simp [headL, this]
   by_cases q1 : a.key = 1
   ·have t0 : (a.key == 1) = true := by rw [beq_iff_eq]; exact q1
    have t1 : (a.key == 2) = false := by rw [bnQ]; omega
    have hdg := rdigits_any a.place h4 w2;obtain ⟨dg, hd⟩ : ∃ dg, (⟨(Lib.decDigits a.place).toArray⟩ : ByteArray) = dg := ⟨_, rfl⟩;have hdl : dg.data.toList = Lib.decDigits a.place := by rw [<-hd]
    have hds : dg.size <= 20 := by rw [data_size hdl, Lib.decDigits_length]; exact Lib.nDigits_le20 _ h4
    rw [hd] at hdg;have HDG := hdQ hdg;have HF : Hid (out ++ a.type ++ ⟨#[46]⟩ ++ a.name ++ ⟨#[91]⟩ ++ dg ++ ⟨#[93]⟩ = ⟨(printA a).toArray⟩) := by
     apply bytes_ext
     rw [HPR.out, <-HH.out, keyL, if_pos q1, <-hdl];simp
    clear q1 hdg hd hdl;go_wp2_with fail
    refine (Calls.mono HDG.out ?_);rintro z w3 ⟨rfl, hb3⟩;have V3 : Hid (w3.heap[w.heap.size]? = some (.cells (arrA pa pc a) 35 (0, 0))) := (hb3.block _ (heap_lt V2.out)).trans V2.out;have B3 : Hid (Below w.heap.size w w3) := B2.out.trans (hb3.mono B2.out.size);clear hb3 x0 x1 x2 x3 x4 x5;obtain ⟨x0, x1, x2, x3, x4, x5⟩ := adr_cells V3.out;go_wp2_with fail
    go_ret
    exact ⟨by rw [HF.out] <;> rfl, B3.out⟩
   have t0 : (a.key == 1) = false := by rw [bnQ]; exact q1
   by_cases q2 : a.key = 2
   ·have t1 : (a.key == 2) = true := by rw [beq_iff_eq]; exact q2
    have hdg := rqprint_any a.word w2 (by omega);obtain ⟨dg, hd⟩ : ∃ dg, (⟨(Quote.qprint a.word.data.toList).toArray⟩ : ByteArray) = dg := ⟨_, rfl⟩;have hdl : dg.data.toList = Quote.qprint a.word.data.toList := by rw [<-hd]
    have hds : dg.size <= 18002 := by
     have h1 := Quote.qps_len a.word.data.toList;have h2 : a.word.data.toList.length = a.word.size := by simp
     have h3 : Quote.qprint a.word.data.toList = 34 :: (a.word.data.toList.flatMap Quote.qp ++ [34]) := rfl;rw [data_size hdl, h3];simp only [List.length_append, List.length_cons, List.length_nil]
     omega
    rw [hd] at hdg;have HDG := hdQ hdg;have HF : Hid (out ++ a.type ++ ⟨#[46]⟩ ++ a.name ++ ⟨#[91]⟩ ++ dg ++ ⟨#[93]⟩ = ⟨(printA a).toArray⟩) := by
     apply bytes_ext
     rw [HPR.out, <-HH.out, keyL, if_neg q1, if_pos q2, <-hdl];simp
    clear q1 q2 hdg hd hdl;go_wp2_with fail
    refine (Calls.mono HDG.out ?_);rintro z w3 ⟨rfl, hb3⟩;have B3 : Hid (Below w.heap.size w w3) := B2.out.trans (hb3.mono B2.out.size);clear hb3 x0 x1 x2 x3 x4 x5;go_wp2_with fail
    go_ret
    exact ⟨by rw [HF.out] <;> rfl, B3.out⟩
   ·have t1 : (a.key == 2) = false := by rw [bnQ]; exact q2
    have HF : Hid (out ++ a.type ++ ⟨#[46]⟩ ++ a.name = ⟨(printA a).toArray⟩) := by
     apply bytes_ext
     rw [HPR.out, <-HH.out, keyL, if_neg q1, if_neg q2, List.append_nil]
    clear q1 q2;go_wp2_with fail
    go_ret
    exact ⟨by rw [HF.out] <;> rfl, B2.out⟩
theorem cmp_cases : ∀ a b : List UInt8, (Lib.compareBytes a b = -1 /\ Op.bytesLess a b = true /\ a ≠ b) ∨ (Lib.compareBytes a b = 0 /\ Op.bytesLess a b = false /\ a = b) ∨ (Lib.compareBytes a b = 1 /\ Op.bytesLess a b = false /\ a ≠ b) := by
 intro a
 induction a with
 | nil =>
  intro b
  cases b with
  | nil => exact .inr (.inl ⟨rfl, by rw [bytesLess_eq]; rfl, rfl⟩)
  | cons y b => exact .inl ⟨rfl, by rw [bytesLess_eq]; simp, by simp⟩
 | cons x a ih =>
  intro b
  cases b with
  | nil => exact .inr (.inr ⟨rfl, by rw [bytesLess_eq]; simp, by simp⟩)
  | cons y b =>
   rw [bytesLess_eq, Lib.compareBytes];have hiff : ((x :: a) < (y :: b)) ↔ (x < y ∨ x = y /\ a < b) := List.cons_lt_cons_iff;by_cases h1 : x < y
   ·rw [if_pos h1];refine .inl ⟨rfl, by rw [dtQ, hiff]; exact .inl h1, fun e => ?_⟩;injection e with e _
    subst e;exact absurd (UInt8.lt_iff_toNat_lt.1 h1) (Nat.lt_irrefl _)
   ·by_cases h2 : y < x
    ·rw [if_neg h1, if_pos h2];refine .inr (.inr ⟨rfl, ?_, fun e => ?_⟩)
     ·rw [dfQ, hiff];rintro (h | ⟨h, _⟩)
      ·exact h1 h
      ·subst h; exact absurd (UInt8.lt_iff_toNat_lt.1 h2) (Nat.lt_irrefl _)
     ·injection e with e _
      subst e;exact absurd (UInt8.lt_iff_toNat_lt.1 h2) (Nat.lt_irrefl _)
    ·rw [if_neg h1, if_neg h2];have hxy : x = y := UInt8.toNat_inj.1 (by have a1 : ¬ x.toNat < y.toNat := fun h => h1 (UInt8.lt_iff_toNat_lt.2 h); have a2 : ¬ y.toNat < x.toNat := fun h => h2 (UInt8.lt_iff_toNat_lt.2 h); omega);subst hxy;have e : decide ((x :: a) < (x :: b)) = Op.bytesLess a b := by
      rw [bytesLess_eq];apply decide_eq_decide.2
      rw [hiff];constructor
      ·rintro (h | ⟨_, h⟩)
       ·exact absurd h h1
       ·exact h
      ·intro h; exact .inr ⟨rfl, h⟩
     rw [e];rcases ih b with h | h | h
     ·exact .inl ⟨h.1, h.2.1, fun e => h.2.2 (by injection e)⟩
     ·exact .inr (.inl ⟨h.1, h.2.1, by rw [h.2.2]⟩)
     ·exact .inr (.inr ⟨h.1, h.2.1, fun e => h.2.2 (by injection e)⟩)
structure AdrAt (w : World) (pa : Option Addr) (a : Adr) : Prop where
 t : IsTexts w (fun _ => True) pa a.path
 l : a.path.length <= 3000
 s : ∀ x ∈ a.path, x.size <= 3000
 ty : a.type.size <= 3000
 nm : a.name.size <= 3000
 wd : a.word.size <= 3000
 p : a.place < 18446744073709551616
theorem AdrAt.stays {w w' : World} {pa : Option Addr} {a : Adr} (h : AdrAt w pa a) (hb : Below w.heap.size w w') : AdrAt w' pa a := ⟨h.t.turn (Jdec.Turn.below hb), h.l, h.s, h.ty, h.nm, h.wd, h.p⟩
theorem AdrAt.rprint {w : World} {pa : Option Addr} {a : Adr} (h : AdrAt w pa a) (pc : Nat) : Calls Tryz.prog 52 #[wordsA pa pc a] w fun e w' => e = .returned (.string ⟨(printA a).toArray⟩) /\ Below w.heap.size w w' := rprint_any a pa pc _ w h.t h.l h.s h.ty h.nm h.wd h.p
theorem AdrAt.right {w : World} {pa : Option Addr} {a : Adr} (h : AdrAt w pa a) (pc : Nat) (T : TabsA w) : Calls Tryz.prog 61 #[wordsA pa pc a] w fun e w' => e = .returned (.bool (rightA a)) /\ Below w.heap.size w w' := right_any a pa pc _ w h.t h.l (fun x hx => Nat.le_trans (h.s x hx) (by omega)) (Nat.le_trans h.ty (by omega)) (Nat.le_trans h.nm (by omega)) (Nat.le_trans h.wd (by omega)) T.t
theorem AdrAt.rright {w : World} {pa : Option Addr} {a : Adr} (h : AdrAt w pa a) (pc : Nat) : Calls Tryz.prog 64 #[wordsA pa pc a] w fun e w' => e = .returned (.bool (rightA a)) /\ Below w.heap.size w w' := rright_any a pa pc _ w h.t h.l (fun x hx => Nat.le_trans (h.s x hx) (by omega)) (Nat.le_trans h.ty (by omega)) (Nat.le_trans h.nm (by omega)) (Nat.le_trans h.wd (by omega))
def sizesL (ks : List ByteArray) : Nat := (ks.map fun k => k.size).sum
theorem sizes_take {ks : List ByteArray} {i : Nat} (h : i < ks.length) : sizesL (ks.take (i + 1)) = sizesL (ks.take i) + ks[i].size := by
 unfold sizesL;rw [List.take_add_one, List.getElem?_eq_getElem h, List.map_append, List.sum_append];simp
theorem sizes_le : ∀ (ks : List ByteArray) (x : ByteArray), x ∈ ks -> x.size <= sizesL ks := by
 intro ks
 induction ks with
 | nil => intro x h; cases h
 | cons k ks ih =>
  intro x h
  have e : sizesL (k :: ks) = k.size + sizesL ks := by simp [sizesL]
  rw [e];rcases List.mem_cons.1 h with rfl | h
  ·omega
  ·have := ih x h; omega
structure AdrIn (w : World) (pa : Option Addr) (a : Adr) : Prop where
 t : IsTexts w (fun _ => True) pa a.path
 l : a.path.length <= 140737488351232
 s : ∀ x ∈ a.path, x.size <= 140737488351232
 ty : a.type.size <= 140737488351232
 nm : a.name.size <= 140737488351232
 wd : a.word.size <= 140737488351232
 p : a.place < 18446744073709551616
theorem AdrIn.stays {w w' : World} {pa : Option Addr} {a : Adr} (h : AdrIn w pa a) (hb : Below w.heap.size w w') : AdrIn w' pa a := ⟨h.t.turn (Jdec.Turn.below hb), h.l, h.s, h.ty, h.nm, h.wd, h.p⟩
def greatN (a : Adr) : Nat := a.type.size + a.name.size + a.word.size + sizesL (a.path.take 50)
def greatA (a : Adr) : Bool := decide (1000 < greatN a) || decide (40 < a.path.length)
theorem AdrIn.at {w : World} {pa : Option Addr} {a : Adr} (h : AdrIn w pa a) (hg : greatA a = false) : AdrAt w pa a := by
 unfold greatA greatN at hg;rw [Bool.or_eq_false_iff, dfQ, dfQ] at hg;obtain ⟨h1, h2⟩ := hg;rw [List.take_of_length_le (by omega)] at h1;exact ⟨h.t, by omega, fun x hx => by have := sizes_le _ x hx; omega, by omega, by omega, by omega, h.p⟩
theorem great_any (a : Adr) (pa : Option Addr) (pc : Nat) (w : World) (h : AdrIn w pa a) : Calls Tryz.prog 55 #[wordsA pa pc a] w fun e w' => e = .returned (.bool (greatA a)) /\ Below w.heap.size w w' := by
 obtain ⟨w1, hw1, V1, B1⟩ := adr_new w pa pc a;obtain ⟨x0, x1, x2, x3, x4, x5⟩ := adr_cells V1.out;have HTX : Hid (IsTexts w1 (fun _ => True) pa a.path) := h.t.turn (Jdec.Turn.below B1.out);have HS : Hid (∀ x ∈ a.path, x.size <= 140737488351232) := h.s;have hlen := h.l;obtain ⟨n1, hn1⟩ : ∃ n1, a.type.size + a.name.size = n1 := ⟨_, rfl⟩;obtain ⟨n2, hn2⟩ : ∃ n2, n1 + a.word.size = n2 := ⟨_, rfl⟩;have g1 : (a.type.size : Int) + (a.name.size : Int) = (n1 : Int) := by omega
 have g2 : (n1 : Int) + (a.word.size : Int) = (n2 : Int) := by omega
 have l1 : n1 <= 281474976702464 := by have := h.ty; have := h.nm; omega
 have l2 : n2 <= 422212465053696 := by have := h.wd; omega
 have HG : Hid (greatN a = n2 + sizesL (a.path.take 50)) := by rw [Hid, greatN, hn1, hn2]
 unfold wordsA;clear h hn1 hn2;go_enter Tryz.func55, Tryz.ntmps55
 go_wp2_with fail
 go_loopw [3, 4] (fun p3 p4 wr => ∃ n i : Nat, p3 = .int .i64 n /\ p4 = .int .i64 i /\ i <= a.path.length /\ i <= 50 /\ n <= 422212465053696 + i * 140737488351232 /\ Hid (n = n2 + sizesL (a.path.take i)) /\ w1 = wr) (fun _ p4 _ => a.path.length - (intOf p4).toNat)
 case atStart => exact ⟨n2, 0, rfl, rfl, Nat.zero_le _, Nat.zero_le _, by omega, by simp [Hid, sizesL], rfl⟩
 case round =>
  obtain ⟨n, i, rfl, rfl, hi, hi5, hn, hN, rfl⟩ := hrel;by_cases hgo : i < a.path.length /\ i < 50
  ·obtain ⟨hlt, h50⟩ := hgo;obtain ⟨b, o, rfl, _, hb, hc⟩ := HTX.out.resolve_left (by intro e; rw [e] at hlt; simp at hlt);have k0 := hc i hlt;have hst := sizes_take hlt;have hxs := HS.out _ (List.getElem_mem hlt);obtain ⟨x, hx⟩ : ∃ x, a.path[i] = x := ⟨_, rfl⟩;rw [hx] at k0 hst hxs;obtain ⟨m, hm⟩ : ∃ m, n + x.size = m := ⟨_, rfl⟩;have gm : (n : Int) + (x.size : Int) = (m : Int) := by omega
   have hmb : m <= 422212465053696 + (i + 1) * 140737488351232 := by omega
   have hwr : IntKind.i64.wrap (m : Int) = (m : Int) := IntWalk.i64_in _ (by omega);have HM : Hid (m = n2 + sizesL (a.path.take (i + 1))) := by rw [Hid, hst, <-hm, hN.out]; omega
   have t0 : decide ((i : Int) < (a.path.length : Int)) = true := by rw [dtQ]; omega
   have t1 : decide (i < a.path.length) = true := by rw [dtQ]; omega
   have t2 : decide ((i : Int) < 50) = true := by rw [dtQ]; omega
   have t3 : decide (i < 50) = true := by rw [dtQ]; omega
   clear hc hx hst hm hxs;go_wp2_with fail
   go_roundw
   case rel => exact ⟨m, i + 1, rfl, by go_num, by omega, by omega, hmb, HM.out, trivial⟩
   case measure => simp [intOf]; omega
  ·have htk : a.path.take i = a.path.take 50 := by
    by_cases h : i = 50
    ·rw [h]
    ·rw [List.take_of_length_le (by omega), List.take_of_length_le (by omega)]
   rw [htk] at hN;have HGN : Hid (greatN a = n) := by rw [Hid, HG.out, hN.out]
   obtain ⟨c1, h1⟩ : ∃ c, decide (1000 < n) = c := ⟨_, rfl⟩;obtain ⟨c2, h2⟩ : ∃ c, decide (40 < a.path.length) = c := ⟨_, rfl⟩;have HF : Hid (greatA a = (c1 || c2)) := by rw [Hid, greatA, HGN.out, h1, h2]
   have h1' : decide ((1000 : Int) < (n : Int)) = c1 := by rw [<-h1]; apply decide_eq_decide.2; omega
   have h2' : decide ((40 : Int) < (a.path.length : Int)) = c2 := by rw [<-h2]; apply decide_eq_decide.2; omega
   have hcs : (decide ((i : Int) < (a.path.length : Int)) = false /\ decide (i < a.path.length) = false) ∨ (decide ((i : Int) < (a.path.length : Int)) = true /\ decide (i < a.path.length) = true /\ decide ((i : Int) < 50) = false /\ decide (i < 50) = false) := by
    by_cases h : i < a.path.length
    ·refine .inr ⟨?_, ?_, ?_, ?_⟩
     ·rw [dtQ]; omega
     ·rw [dtQ]; omega
     ·rw [dfQ]; omega
     ·rw [dfQ]; omega
    ·refine .inl ⟨?_, ?_⟩
     ·rw [dfQ]; omega
     ·rw [dfQ]; omega
   clear hgo htk;rcases hcs with ⟨t0, t1⟩ | ⟨t0, t1, t2, t3⟩ <;> cases c1 <;> cases c2
   all_goals
    go_wp2_with fail
    go_ret
    exact ⟨by rw [HF.out]; rfl, B1.out⟩
end Go.Proofs.YtehghladpnpcoaaGreatDoor.Addr
