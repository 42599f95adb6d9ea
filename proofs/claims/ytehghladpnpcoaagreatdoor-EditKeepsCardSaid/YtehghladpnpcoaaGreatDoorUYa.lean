/- Prints of right addresses are one to one. -/
import Derived.Test.YtehghladpnpcoaaGreatDoorUAdL
import Derived.Lib.IndexBytes
import Derived.Lib.IndexMore
import Derived.Lib.ParseIntB
import Derived.Lib.Split
import Derived.Maps.AppendAt
import Derived.WalkKit
import Derived.Test.YtehghladpnpcoaaGreatDoorULsB
set_option linter.unusedVariables false
set_option linter.unusedSimpArgs false
set_option maxRecDepth 100000
section
namespace Go.Proofs.YtehghladpnpcoaaGreatDoor.Jdec
theorem quote_fits {l o : List UInt8} {n : Nat} (h : Quote.scan l = .ok (o, n)) : 1 <= n /\ n <= l.length /\ o.length <= n := by
  unfold Quote.scan at h;split at h
  · cases h
  · split at h
    · cases h
    · rename_i h0 _
      have := Quote.parts_size _ _ _ _ _ _ h;rw [List.length_drop] at this;simp only [List.length_nil] at this
      omega
end Go.Proofs.YtehghladpnpcoaaGreatDoor.Jdec
end
section
namespace Go.Proofs.YtehghladpnpcoaaGreatDoor.Jdec
open Go.RowKit
end Go.Proofs.YtehghladpnpcoaaGreatDoor.Jdec
end
section
namespace Go.Proofs.YtehghladpnpcoaaGreatDoor.Utf
open Quote
theorem one_of (l : List UInt8) (k c : Nat) (h1 : 1 <= k) (h2 : k <= l.length) (h3 : sizeAt (byt l 0) = k) (h4 : conts l k = true) (h5 : val l k = c) (h6 : scalarB c = true) (h7 : width c = k) : one l = (c, k) := by
  unfold one;rw [h3, if_pos, h5];unfold stands;rw [h3, h5];simp [h1, h2, h4, h6, h7]
theorem byt_zero (c : UInt8) (l : List UInt8) : byt (c :: l) 0 = c.toNat := rfl
theorem ofNat_lt {n : Nat} (h : n < 256) : (UInt8.ofNat n).toNat = n := by rw [UInt8.toNat_ofNat']; omega
theorem one_put_app (c : Nat) (l : List UInt8) (h : scalarB c = true) : one (put c ++ l) = (c, (put c).length) /\ 1 <= (put c).length := by
  have hc : c <= 1114111 := by unfold scalarB at h; simp only [Bool.and_eq_true, dtQ] at h; exact h.1
  unfold Quote.put;rw [if_pos h];by_cases w1 : c < 128
  · have hw : width c = 1 := by unfold width; rw [if_pos w1]
    rw [if_pos hw];refine ⟨one_of _ 1 c (Nat.le_refl _) (by simp) ?_ ?_ ?_ h hw, by simp⟩
    · show sizeAt (UInt8.ofNat c).toNat = 1;rw [ofNat_lt (by omega)]; unfold sizeAt; rw [if_pos w1]
    · rfl
    · unfold val; rw [if_pos (by omega)];exact ofNat_lt (by omega)
  by_cases w2 : c < 2048
  · have hw : width c = 2 := by unfold width; rw [if_neg w1, if_pos w2]
    rw [if_neg (by omega), if_pos hw];have b0 : byt ([UInt8.ofNat (192 + c / 64), UInt8.ofNat (128 + c % 64)] ++ l) 0 = 192 + c / 64 := ofNat_lt (by omega);have b1 : byt ([UInt8.ofNat (192 + c / 64), UInt8.ofNat (128 + c % 64)] ++ l) 1 = 128 + c % 64 := ofNat_lt (by omega);refine ⟨one_of _ 2 c (by omega) (by simp) ?_ ?_ ?_ h hw, by simp⟩
    · rw [b0]; unfold sizeAt; rw [if_neg (by omega), if_neg (by omega), if_pos (by omega)]
    · unfold conts cont; rw [if_neg (by omega), if_pos rfl, b1]; simp; omega
    · unfold val; rw [if_neg (by omega), if_pos rfl, b0, b1]; omega
  by_cases w3 : c < 65536
  · have hw : width c = 3 := by unfold width; rw [if_neg w1, if_neg w2, if_pos w3]
    rw [if_neg (by omega), if_neg (by omega), if_pos hw];have b0 : byt ([UInt8.ofNat (224 + c / 4096), UInt8.ofNat (128 + c / 64 % 64), UInt8.ofNat (128 + c % 64)] ++ l) 0 = 224 + c / 4096 := ofNat_lt (by omega);have b1 : byt ([UInt8.ofNat (224 + c / 4096), UInt8.ofNat (128 + c / 64 % 64), UInt8.ofNat (128 + c % 64)] ++ l) 1 = 128 + c / 64 % 64 := ofNat_lt (by omega);have b2 : byt ([UInt8.ofNat (224 + c / 4096), UInt8.ofNat (128 + c / 64 % 64), UInt8.ofNat (128 + c % 64)] ++ l) 2 = 128 + c % 64 := ofNat_lt (by omega);refine ⟨one_of _ 3 c (by omega) (by simp) ?_ ?_ ?_ h hw, by simp⟩
    · rw [b0]; unfold sizeAt; rw [if_neg (by omega), if_neg (by omega), if_neg (by omega), if_pos (by omega)]
    · unfold conts cont; rw [if_neg (by omega), if_neg (by omega), if_pos rfl, b1, b2]; simp; omega
    · unfold val; rw [if_neg (by omega), if_neg (by omega), if_pos rfl, b0, b1, b2]; omega
  · have hw : width c = 4 := by unfold width; rw [if_neg w1, if_neg w2, if_neg w3]
    rw [if_neg (by omega), if_neg (by omega), if_neg (by omega)];have b0 : byt ([UInt8.ofNat (240 + c / 262144), UInt8.ofNat (128 + c / 4096 % 64), UInt8.ofNat (128 + c / 64 % 64), UInt8.ofNat (128 + c % 64)] ++ l) 0 = 240 + c / 262144 := ofNat_lt (by omega);have b1 : byt ([UInt8.ofNat (240 + c / 262144), UInt8.ofNat (128 + c / 4096 % 64), UInt8.ofNat (128 + c / 64 % 64), UInt8.ofNat (128 + c % 64)] ++ l) 1 = 128 + c / 4096 % 64 := ofNat_lt (by omega);have b2 : byt ([UInt8.ofNat (240 + c / 262144), UInt8.ofNat (128 + c / 4096 % 64), UInt8.ofNat (128 + c / 64 % 64), UInt8.ofNat (128 + c % 64)] ++ l) 2 = 128 + c / 64 % 64 := ofNat_lt (by omega);have b3 : byt ([UInt8.ofNat (240 + c / 262144), UInt8.ofNat (128 + c / 4096 % 64), UInt8.ofNat (128 + c / 64 % 64), UInt8.ofNat (128 + c % 64)] ++ l) 3 = 128 + c % 64 := ofNat_lt (by omega);refine ⟨one_of _ 4 c (by omega) (by simp) ?_ ?_ ?_ h hw, by simp⟩
    · rw [b0]; unfold sizeAt; rw [if_neg (by omega), if_neg (by omega), if_neg (by omega), if_neg (by omega), if_pos (by omega)]
    · unfold conts cont; rw [if_neg (by omega), if_neg (by omega), if_neg (by omega), b1, b2, b3]; simp; omega
    · unfold val; rw [if_neg (by omega), if_neg (by omega), if_neg (by omega), b0, b1, b2, b3]; omega
end Go.Proofs.YtehghladpnpcoaaGreatDoor.Utf
end
section
namespace Go.Proofs.YtehghladpnpcoaaGreatDoor.Quote
open Utf
theorem put_of_one (l : List UInt8) (h : (one l).2 ≠ 0) : put (one l).1 = l.take (one l).2 /\ scalarB (one l).1 = true := by
  refine ⟨?_, (one_put l h).2⟩;unfold one at h ⊢;split
  · rename_i hs
    exact (stands_hit _ _ hs).2
  · rename_i hs
    rw [if_neg hs] at h; exact absurd rfl h
theorem txt_of : ∀ (n : Nat) (l : List UInt8) (p : Nat), l.length < n -> bad n l p = none -> Txt l
  | 0, l, p, h, _ => absurd h (Nat.not_lt_zero _)
  | n + 1, l, p, h, hb => by
    rw [bad] at hb;by_cases h0 : l = []
    · subst h0; exact .nil
    · rw [if_neg h0] at hb;by_cases h1 : (one l).2 = 0
      · rw [if_pos h1] at hb; cases hb
      · rw [if_neg h1] at hb;obtain ⟨e, hs⟩ := put_of_one l h1;have hl := (one_size_le l).1;have := txt_of n (l.drop (one l).2) _ (by rw [List.length_drop]; omega) hb;have h2 := Txt.scal _ _ hs this;rw [e, List.take_append_drop] at h2;exact h2
theorem txt_valid' {l : List UInt8} (h : validB l = true) : Txt l := by
  unfold validB at h;exact txt_of _ l 0 (Nat.lt_succ_self _) (by simpa using h)
theorem qp_big {c : UInt8} (h : 128 <= c.toNat) : qp c = [c] := by
  unfold qp short;rw [if_neg (by rw [if_neg (by omega), if_neg (by omega), if_neg (by omega), if_neg (by omega), if_neg (by omega), if_neg (by omega)]; simp), if_neg (by omega)]
theorem put_small (c : Nat) (h : c < 128) : put c = [UInt8.ofNat c] := by
  have hs : scalarB c = true := by simp [scalarB]; omega
  unfold put;rw [if_pos hs];unfold width;rw [if_pos h]; rfl
theorem put_big (c : Nat) (h : ¬ c < 128) : ∀ b ∈ put c, 128 <= b.toNat := by
  intro b hb
  unfold put at hb;split at hb
  case isFalse => cases hb
  case isTrue hs =>
    have hc : c <= 1114111 := by unfold scalarB at hs; simp only [Bool.and_eq_true, dtQ] at hs; exact hs.1
    unfold width at hb;rw [if_neg h] at hb
    repeat' split at hb
    all_goals simp only [List.mem_cons, List.mem_nil_iff, or_false] at hb
    all_goals first | omega | skip
    · rcases hb with rfl | rfl <;> rw [ofNat_lt (by omega)] <;> omega
    · rcases hb with rfl | rfl | rfl <;> rw [ofNat_lt (by omega)] <;> omega
    · rcases hb with rfl | rfl | rfl | rfl <;> rw [ofNat_lt (by omega)] <;> omega
theorem qps_big : ∀ l : List UInt8, (∀ b ∈ l, 128 <= b.toNat) -> l.flatMap qp = l
  | [], _ => rfl
  | c :: t, h => by
    rw [List.flatMap_cons, qp_big (h c (List.mem_cons_self ..)), qps_big t fun b hb => h b (List.mem_cons_of_mem _ hb)]; rfl
theorem qp_pos (c : UInt8) : 1 <= (qp c).length := by unfold qp; (repeat' split) <;> simp
theorem qps_ge : ∀ l : List UInt8, l.length <= (l.flatMap qp).length
  | [] => Nat.zero_le _
  | c :: t => by
    have := qp_pos c;have := qps_ge t;simp only [List.flatMap_cons, List.length_append, List.length_cons]; omega
theorem hexd_val : ∀ n, n < 16 -> hexv (hexd n).toNat = some n := by decide
theorem part_asis (c : UInt8) (post : List UInt8) (h1 : c.toNat ≠ 34) (h2 : c.toNat ≠ 92) (h3 : ¬ c.toNat < 32) (h4 : c.toNat < 128) : part (c :: post) = .ok ([c], 1, true) := by
  unfold part;rw [if_neg (by simp), if_neg (by rw [byt_zero]; exact h1), if_neg (by rw [byt_zero]; exact h2), if_neg (by rw [byt_zero]; exact h3), if_pos (by rw [byt_zero]; exact h4), byt_zero, UInt8.ofNat_toNat]
theorem part_bs (o post : List UInt8) (n : Nat) (h : escape post = .ok (o, n)) : part (92 :: post) = .ok (o, n + 1, true) := by
  unfold part;rw [if_neg (by simp), if_neg (by rw [byt_zero]; decide), if_pos (by rw [byt_zero]; decide), List.drop_one, List.tail_cons, h]
theorem four_low (n : Nat) (h : n < 32) (post : List UInt8) : four 4 0 (48 :: 48 :: hexd (n / 16) :: hexd (n % 16) :: post) = .ok n := by
  have h0 : hexv (48 : UInt8).toNat = some 0 := by decide
  have h1 := hexd_val (n / 16) (by omega);have h2 := hexd_val (n % 16) (by omega);simp only [four, h0, h1, h2]
  congr 1
  omega
theorem part_small (c : Nat) (h : c < 128) (post : List UInt8) : part (qp (UInt8.ofNat c) ++ post) = .ok ([UInt8.ofNat c], (qp (UInt8.ofNat c)).length, true) := by
  have hn : (UInt8.ofNat c).toNat = c := ofNat_lt (by omega);unfold qp;rw [hn];by_cases hs : short c = 0
  · rw [if_neg (by simpa using hs)];have h34 : c ≠ 34 := fun e => by subst e; exact absurd hs (by decide)
    have h92 : c ≠ 92 := fun e => by subst e; exact absurd hs (by decide)
    by_cases h32 : c < 32
    · rw [if_pos h32];refine part_bs _ _ 5 ?_;show escape (117 :: 48 :: 48 :: hexd (c / 16) :: hexd (c % 16) :: post) = _;have hnum : number (48 :: 48 :: hexd (c / 16) :: hexd (c % 16) :: post) = .ok (put c, 4) := by
        unfold number;rw [four_low c h32 post];simp only
        rw [if_neg (by omega), if_neg (by omega)]
      unfold escape;rw [if_neg (by simp), byt_zero, if_neg (by decide), if_neg (by decide), if_neg (by decide), if_neg (by decide), if_neg (by decide), if_neg (by decide), if_pos (by decide), List.drop_one, List.tail_cons, hnum, put_small c h]
    · rw [if_neg h32];exact part_asis _ post (by rw [hn]; exact h34) (by rw [hn]; exact h92) (by rw [hn]; exact h32) (by rw [hn]; exact h)
  · rw [if_pos (by simpa using hs)];have hc : c = 34 ∨ c = 92 ∨ c = 8 ∨ c = 12 ∨ c = 10 ∨ c = 13 ∨ c = 9 := by
      unfold short at hs
      repeat' split at hs
      all_goals omega
    refine part_bs _ _ 1 ?_;rcases hc with rfl | rfl | rfl | rfl | rfl | rfl | rfl <;> rfl
theorem part_put (c : Nat) (hs : scalarB c = true) (post : List UInt8) : part ((put c).flatMap qp ++ post) = .ok (put c, ((put c).flatMap qp).length, true) := by
  by_cases h : c < 128
  · rw [put_small c h];simp only [List.flatMap_cons, List.flatMap_nil, List.append_nil]
    exact part_small c h post
  · rw [qps_big _ (put_big c h)];obtain ⟨h1, h2⟩ := one_put_app c post hs;obtain ⟨b, t, hb⟩ : ∃ b t, put c = b :: t := by
      cases hp : put c with
      | nil => rw [hp] at h2; simp at h2
      | cons b t => exact ⟨b, t, rfl⟩
    have hb128 : 128 <= b.toNat := put_big c h b (by rw [hb]; exact List.mem_cons_self ..);have hz : byt (put c ++ post) 0 = b.toNat := by rw [hb]; rfl
    unfold part;rw [if_neg (by rw [List.length_append]; omega), hz, if_neg (by omega), if_neg (by omega), if_neg (by omega), if_neg (by omega), h1];simp only
    rw [if_neg (by omega)]
theorem parts_print {l : List UInt8} (h : Txt l) : ∀ (n p : Nat) (out post : List UInt8), l.length < n -> parts n (l.flatMap qp ++ 34 :: post) p out = .ok (out ++ l, p + (l.flatMap qp).length + 1) := by
  induction h with
  | nil =>
    intro n p out post hn
    cases n with
    | zero => exact absurd hn (Nat.not_lt_zero _)
    | succ n =>
      have e : part (34 :: post) = .ok ([], 1, false) := by
        unfold part;rw [if_neg (by simp), if_pos (by rw [byt_zero]; decide)]
      simp only [List.flatMap_nil, List.nil_append, parts, e, List.append_nil, List.length_nil, Nat.add_zero]
  | scal c l hc _ ih =>
    intro n p out post hn
    have hp := (one_put_app c [] hc).2;rw [List.length_append] at hn
    cases n with
    | zero => exact absurd hn (Nat.not_lt_zero _)
    | succ n =>
      rw [List.flatMap_append, List.append_assoc, parts, part_put c hc];simp only
      rw [List.drop_left, ih n _ _ post (by omega), List.append_assoc, List.length_append]
      congr 2
      omega
theorem scan_print {l : List UInt8} (h : validB l = true) (post : List UInt8) : scan (qprint l ++ post) = .ok (l, (qprint l).length) := by
  have ht := txt_valid' h;have hg := qps_ge l;unfold scan qprint;have e : (34 :: l.flatMap qp ++ [34]) ++ post = 34 :: (l.flatMap qp ++ 34 :: post) := by simp
  rw [e, if_neg (by simp), if_neg (by rw [byt_zero]; decide), List.drop_one, List.tail_cons, parts_print ht _ _ _ _ (by simp only [List.length_cons, List.length_append]; omega)]
  congr 2
  simp only [List.length_append, List.length_cons, List.length_nil]; omega
end Go.Proofs.YtehghladpnpcoaaGreatDoor.Quote
end
section
namespace Go.Proofs.YtehghladpnpcoaaGreatDoor.Jdec
open Utf
open Go.Lib (decDigits)
theorem str_back (d : ByteArray) : (⟨d.data.toList.toArray⟩ : ByteArray) = d := by simp
end Go.Proofs.YtehghladpnpcoaaGreatDoor.Jdec
end
section
namespace Go.Proofs.YtehghladpnpcoaaGreatDoor.Addr
open Go.RowKit Utf Lex
theorem numR_append : ∀ (a b : List UInt8) (n : Nat), numR n (a ++ b) = (numR n a).bind fun m => numR m b := by
  intro a
  induction a with
  | nil => intro b n; rfl
  | cons c a ih =>
    intro b n
    rw [List.cons_append, numR, numR];split
    · split
      · rfl
      · exact ih _ _
    · rfl
theorem dig_nat (d : Nat) (h : d < 10) : (UInt8.ofNat (48 + d)).toNat = 48 + d := by
  rw [UInt8.toNat_ofNat']; omega
theorem numR_one (n d : Nat) (h : d < 10) (hn : n * 10 + d <= 18446744073709551615) : numR n [UInt8.ofNat (48 + d)] = some (n * 10 + d) := by
  rw [numR, dig_nat d h, if_pos (by omega), show 48 + d - 48 = d by omega, if_neg (by omega)]; rfl
theorem numR_dec : ∀ u, u <= 18446744073709551615 -> numR 0 (Lib.decDigits u) = some u := by
  intro u
  induction u using Nat.strongRecOn with
  | ind u ih =>
    intro h
    by_cases hu : u < 10
    · rw [Lib.decDigits, dif_pos hu, numR_one 0 u hu (by omega)]; simp
    · rw [Lib.decDigits, dif_neg hu, numR_append, ih (u / 10) (by omega) (by omega)];show numR (u / 10) [UInt8.ofNat (48 + u % 10)] = some u;rw [numR_one _ _ (by omega) (by omega)]
      congr 1; omega
theorem dec_head : ∀ u, 1 <= u -> ∃ c r, Lib.decDigits u = c :: r /\ c ≠ 48 := by
  intro u
  induction u using Nat.strongRecOn with
  | ind u ih =>
    intro h
    by_cases hu : u < 10
    · refine ⟨UInt8.ofNat (48 + u), [], by rw [Lib.decDigits, dif_pos hu], fun e => ?_⟩;have := dig_nat u hu;rw [e] at this;have h48 : (48 : UInt8).toNat = 48 := rfl;omega
    · obtain ⟨c, r, h1, h2⟩ := ih (u / 10) (by omega) (by omega);exact ⟨c, r ++ [UInt8.ofNat (48 + u % 10)], by rw [Lib.decDigits, dif_neg hu, h1]; rfl, h2⟩
theorem noughts_dec (u : Nat) : noughts (Lib.decDigits u) = false := by
  by_cases hu : u = 0
  · subst hu; rw [Lib.decDigits, dif_pos (by omega)]; rfl
  · obtain ⟨c, r, h1, h2⟩ := dec_head u (by omega);rw [h1];simp [noughts, h2]
theorem numB_dec (u : Nat) (h : u <= 18446744073709551615) : numB (Lib.decDigits u) = some u := by rw [numB, noughts_dec, if_neg (by simp), numR_dec u h]
theorem isDigit_iff (c : UInt8) : Num.isDigit c = true ↔ 48 <= c.toNat /\ c.toNat <= 57 := by simp [Num.isDigit]
theorem numR_bad : ∀ (l : List UInt8) (n : Nat), l.all Num.isDigit = false -> numR n l = none := by
  intro l
  induction l with
  | nil => intro n h; cases h
  | cons c l ih =>
    intro n h
    rw [numR];rw [List.all_cons] at h
    cases hc : Num.isDigit c with
    | false => rw [if_neg (by rw [<-isDigit_iff, hc]; simp)]
    | true =>
      rw [hc] at h;split
      · split
        · rfl
        · exact ih _ (by simpa using h)
      · rfl
theorem numR_uint : ∀ (l : List UInt8) (n : Nat), l.all Num.isDigit = true -> numR n l = (match Lib.parseUintM (2 ^ 64 - 1) n l with | .ok u => some u | _ => none) := by
  intro l
  induction l with
  | nil => intro n h; rfl
  | cons c l ih =>
    intro n h
    rw [List.all_cons, Bool.and_eq_true] at h;have hc := (isDigit_iff c).1 h.1;rw [numR, Lib.parseUintM, if_pos hc, if_pos hc];have e64 : (2 : Nat) ^ 64 - 1 = 18446744073709551615 := by decide
    rw [e64];by_cases h1 : 18446744073709551615 < n * 10 + (c.toNat - 48)
    · rw [if_pos h1, if_pos h1];split <;> simp_all
    · rw [if_neg h1, if_neg h1, if_neg (by omega), ih _ h.2, e64]
theorem digits_eq (l : List UInt8) : digitsP l = numB l := by
  unfold digitsP numB
  cases hn : noughts l with
  | true => rfl
  | false =>
    simp only [Bool.false_eq_true, if_false]
    cases ha : l.all Num.isDigit with
    | false =>
      simp only [Bool.false_eq_true, if_false]
      exact (numR_bad l 0 ha).symm
    | true =>
      have h0 : l ≠ [] := by rintro rfl; cases hn
      simp only [if_true]
      rw [Lib.parseUintB, if_neg h0, numR_uint l 0 ha]
      rfl
/-! ## Names -/
theorem comment_kind (k : Nat) (l : List UInt8) : (comment k l).1 = 0 ∨ (comment k l).1 = k := by unfold comment; split <;> simp
theorem next_one {l : List UInt8} (h : (next l).1 = 1) : letterB (byt l 0) = true := by
  cases hb : letterB (byt l 0) with
  | true => rfl
  | false =>
    exfalso
    unfold next at h;rw [hb] at h;simp only [Bool.false_eq_true, if_false] at h
    split at h
    · unfold decimal at h;split at h <;> simp at h
    split at h
    · split at h <;> simp at h
    split at h
    · simp at h
    split at h
    · unfold remark at h;rcases comment_kind 6 ((line l).reverse.dropWhile ([32, 9, 13].contains ·)).reverse with e | e <;> rw [e] at h <;> omega
    split at h
    · unfold aside at h;split at h
      · simp at h
      · split at h
        · simp at h
        · rcases comment_kind 7 (l.take ((Lib.index (l.drop 2) [42, 47]).toNat + 4)) with e | e <;> rw [e] at h <;> omega
    split at h <;> simp at h
theorem ident_in {l : List UInt8} (h : identB l = true) : ∀ c ∈ l, inId c = true := by
  have ht := ident_toks l h;by_cases h0 : l.length = 0
  · intro c hc; rw [List.length_eq_zero_iff.1 h0] at hc; cases hc
  have hlt : 0 < l.length := by omega
  cases hb : Lex.blank l[0] with
  | true =>
    rw [toksAt_blank l 0 hlt hb] at ht;have h1 := first_len l l.length (0 + 1) (by omega) (by omega) (1, l, 0) [] (by rw [ht]);simp only [] at h1
    omega
  | false =>
    by_cases he : (next (l.drop 0)).2.2.2 = 0
    · have hk := toksAt_tok l 0 hlt hb he;rw [hk] at ht;simp only [List.drop_zero, Prod.mk.injEq, List.cons.injEq] at ht
      have hl := next_one ht.1.1.1;have hn : next l = (1, ident l, 0, 0) := by unfold next; rw [if_pos hl]
      have h2 := congrArg List.length ht.1.1.2.1;rw [hn] at h2;simp only [List.length_take] at h2
      obtain ⟨c0, t, rfl⟩ : ∃ c t, l = c :: t := by
        cases l with
        | nil => simp at hlt
        | cons c t => exact ⟨c, t, rfl⟩
      have h3 : ident (c0 :: t) = 1 + (t.takeWhile inId).length := rfl;rw [h3, List.length_cons] at h2;have hp := List.takeWhile_prefix (l := t) inId;have h4 : (t.takeWhile inId).length = t.length := by have := hp.length_le; omega
      have h5 := hp.eq_of_length h4;intro c hc
      rcases List.mem_cons.1 hc with rfl | hc
      · have : letterB c.toNat = true := hl;rw [inId, this]; rfl
      · have := List.all_takeWhile (p := inId) (l := t);rw [h5] at this;exact List.all_eq_true.1 this c hc
    · rw [toksAt_bad l 0 hlt hb he] at ht;simp at ht
theorem ident_no {l : List UInt8} (h : identB l = true) (m : UInt8) (hm : inId m = false) : ∀ c ∈ l, c ≠ m := fun c hc e => by
  have := ident_in h c hc;rw [e, hm] at this; cases this
theorem no_dot : inId 46 = false := by decide
theorem no_open : inId 91 = false := by decide
end Go.Proofs.YtehghladpnpcoaaGreatDoor.Addr
end
section
namespace Go.Proofs.YtehghladpnpcoaaGreatDoor.Addr
open Go.RowKit Utf Lex
/-! ## Cuts -/
def cutB (c : UInt8) : List UInt8 -> Option (List UInt8 × List UInt8)
  | [] => none
  | x :: t => if x = c then some ([], t) else match cutB c t with
    | none => none
    | some (a, b) => some (x :: a, b)
theorem cutB_at {c : UInt8} : ∀ (a b : List UInt8), (∀ x ∈ a, x ≠ c) -> cutB c (a ++ c :: b) = some (a, b) := by
  intro a
  induction a with
  | nil => intro b _; rw [List.nil_append, cutB, if_pos rfl]
  | cons x a ih =>
    intro b h
    rw [List.cons_append, cutB, if_neg (h x (by simp)), ih b (fun y hy => h y (by simp [hy]))]
theorem cutB_some {c : UInt8} : ∀ {l a b : List UInt8}, cutB c l = some (a, b) -> l = a ++ c :: b /\ ∀ x ∈ a, x ≠ c := by
  intro l
  induction l with
  | nil => intro a b h; cases h
  | cons x t ih =>
    intro a b h
    rw [cutB] at h;by_cases hx : x = c
    · rw [if_pos hx] at h;injection h with h; injection h with h1 h2
      subst h1 h2 hx;exact ⟨rfl, by simp⟩
    · rw [if_neg hx] at h
      cases hc : cutB c t with
      | none => rw [hc] at h; cases h
      | some y =>
        obtain ⟨a', b'⟩ := y;rw [hc] at h;injection h with h; injection h with h1 h2
        subst h1 h2;obtain ⟨e1, e2⟩ := ih hc;exact ⟨by rw [e1]; rfl, fun y hy => by rcases List.mem_cons.1 hy with rfl | hy; exact hx; exact e2 y hy⟩
theorem scan_no {l : List UInt8} (h : byt l 0 ≠ 34) : ∃ e, Quote.scan l = .error e := by
  unfold Quote.scan;by_cases h0 : l.length = 0
  · exact ⟨_, by rw [if_pos h0]⟩
  · exact ⟨_, by rw [if_neg h0, if_pos h]⟩
theorem inner_eq (m : List UInt8) (h : m ≠ []) : innerP m = (match numB m with
      | some n => some (1, n, ⟨#[]⟩)
      | none => match Quote.scan m with
        | .ok (s, k) => if k = m.length then some (2, 0, ⟨s.toArray⟩) else none
        | .error _ => none) := by
  unfold innerP;rw [digits_eq];by_cases hq : byt m 0 = 34
  · rw [if_pos hq];have hn : numB m = none := by
      cases m with
      | nil => exact absurd rfl h
      | cons c r =>
        have hc : c.toNat = 34 := hq;rw [numB];split
        · rfl
        · rw [numR, if_neg (by omega)]
    rw [hn]
    cases hs : Quote.scan m with
    | error e => rfl
    | ok y =>
      obtain ⟨s, k⟩ := y;have hf := (Jdec.quote_fits hs).2.1;simp only []
      by_cases hk : k = m.length
      · rw [if_pos hk, if_neg (by omega)]
      · rw [if_neg hk, if_pos (by omega)]
  · rw [if_neg hq];obtain ⟨e, he⟩ := scan_no hq;rw [he]
    rfl
theorem byt_last (m : List UInt8) (c : UInt8) : byt (m ++ [c]) ((m ++ [c]).length - 1) = c.toNat := by
  unfold byt;simp
theorem toNat_ne {a b : UInt8} (h : a ≠ b) : a.toNat ≠ b.toNat := fun e => h (UInt8.toNat_inj.1 e)
theorem keyP_eq (t : List UInt8) (h : t = [] ∨ t.head? = some 91) : keyP t = keyR t := by
  rcases h with rfl | h
  · rfl
  cases t with
  | nil => cases h
  | cons c m =>
    injection h with h
    subst h;rw [keyP, if_neg (by simp), keyR];rcases List.eq_nil_or_concat m with rfl | ⟨m', z, rfl⟩
    · rw [if_pos (.inl (by simp))]; rfl
    · rw [List.concat_eq_append];have hb : byt (91 :: (m' ++ [z])) ((91 :: (m' ++ [z])).length - 1) = z.toNat := byt_last (91 :: m') z;have h0 : byt (91 :: (m' ++ [z])) 0 = 91 := rfl;have hl : (m' ++ [z]).getLast? = some z := by simp
      have hd : (m' ++ [z]).dropLast = m' := by simp
      rw [hb, h0, hl, hd, show ((91 : UInt8) :: (m' ++ [z])).drop 1 = m' ++ [z] from rfl, hd];by_cases hz : z = 93
      · subst hz;rw [if_pos rfl]
        cases m' with
        | nil =>
          rw [if_pos (.inl (by simp))];rw [show numB [] = none from rfl];obtain ⟨e, he⟩ := scan_no (l := []) (by decide);rw [he]
        | cons x r =>
          rw [if_neg (by simp), inner_eq _ (by simp)]
          rfl
      · rw [if_pos (.inr (.inr (toNat_ne hz))), if_neg (by simpa using hz)]
end Go.Proofs.YtehghladpnpcoaaGreatDoor.Addr
end
section
namespace Go.Proofs.YtehghladpnpcoaaGreatDoor.Addr
open Go.RowKit Utf Lex
def upTo91 (l : List UInt8) : List UInt8 := l.takeWhile (· != 91)
def from91 (l : List UInt8) : List UInt8 := l.dropWhile (· != 91)
theorem up_from (l : List UInt8) : upTo91 l ++ from91 l = l := List.takeWhile_append_dropWhile
theorem from_head : ∀ l : List UInt8, from91 l = [] ∨ (from91 l).head? = some 91 := by
  intro l
  induction l with
  | nil => exact .inl rfl
  | cons c t ih =>
    unfold from91;rw [List.dropWhile_cons];by_cases hc : c = 91
    · subst hc; exact .inr rfl
    · rw [if_pos (by simpa using hc)]; exact ih
theorem up_at : ∀ (a t : List UInt8), (∀ c ∈ a, c ≠ 91) -> (t = [] ∨ t.head? = some 91) -> upTo91 (a ++ t) = a /\ from91 (a ++ t) = t := by
  intro a
  induction a with
  | nil =>
    intro t _ ht
    rcases ht with rfl | ht
    · exact ⟨rfl, rfl⟩
    · cases t with
      | nil => cases ht
      | cons c t => injection ht with ht; subst ht; exact ⟨rfl, rfl⟩
  | cons c a ih =>
    intro t h ht
    have hc : (c != 91) = true := by simpa using h c (by simp)
    obtain ⟨e1, e2⟩ := ih t (fun y hy => h y (by simp [hy])) ht;unfold upTo91 from91 at *;rw [List.cons_append, List.takeWhile_cons, List.dropWhile_cons, if_pos hc, if_pos hc, e1, e2];exact ⟨rfl, rfl⟩
def adrOf (ks : List ByteArray) (ty nm : List UInt8) (k : Int × Nat × ByteArray) : Adr := ⟨ks, ⟨ty.toArray⟩, ⟨nm.toArray⟩, k.1, k.2.1, k.2.2⟩
def rightO (a : Adr) : Option Adr := if rightA a then some a else none
theorem adrOf_self (a : Adr) : adrOf a.path a.type.data.toList a.name.data.toList (a.key, a.place, a.word) = a := rfl
theorem rightO_some {a b : Adr} (h : rightO a = some b) : a = b /\ rightA a = true := by
  unfold rightO at h;split at h
  · injection h with h; exact ⟨h, by assumption⟩
  · cases h
/-! ## The program's way -/
def pathP : Nat -> List ByteArray -> List UInt8 -> Option (List ByteArray × List UInt8 × List UInt8)
  | 0, _, _ => none
  | n + 1, ks, l => match cutB 46 l with
    | none => none
    | some (w, r) => if w = moduleL then (match cutB 46 r with
        | none => none
        | some (x, r') => if ks.length = 20 then none else pathP n (ks ++ [⟨x.toArray⟩]) r')
      else some (ks, w, r)
def parseP (l : List UInt8) : Option Adr := match pathP 22 [] l with
  | none => none
  | some (ks, w, r) => match keyP (from91 r) with
    | none => none
    | some k => rightO (adrOf ks w (upTo91 r) k)
def Reads (l : List UInt8) (a : Adr) : Prop := rightA a = true /\ ∃ t, l = headL a.path a.type.data.toList a.name.data.toList ++ t /\ (t = [] ∨ t.head? = some 91) /\ keyR t = some (a.key, a.place, a.word)
theorem modL_cons (k : ByteArray) (ks : List ByteArray) (r : List UInt8) : pathL (k :: ks) ++ r = moduleL ++ 46 :: (k.data.toList ++ 46 :: (pathL ks ++ r)) := by
  simp [pathL, modL]
theorem pathP_some : ∀ (n : Nat) (ks : List ByteArray) (l : List UInt8) (ks' : List ByteArray) (w r : List UInt8), pathP n ks l = some (ks', w, r) -> ∃ ms, ks' = ks ++ ms /\ l = pathL ms ++ (w ++ 46 :: r) := by
  intro n
  induction n with
  | zero => intro ks l ks' w r h; cases h
  | succ n ih =>
    intro ks l ks' w r h
    rw [pathP] at h
    cases hc : cutB 46 l with
    | none => rw [hc] at h; cases h
    | some y =>
      obtain ⟨a, b⟩ := y;obtain ⟨e1, _⟩ := cutB_some hc;rw [hc] at h;simp only [] at h
      split at h
      · rename_i hm
        cases hc2 : cutB 46 b with
        | none => rw [hc2] at h; cases h
        | some z =>
          obtain ⟨x, r'⟩ := z;obtain ⟨e2, _⟩ := cutB_some hc2;rw [hc2] at h;simp only [] at h
          split at h
          · cases h
          · obtain ⟨ms, h1, h2⟩ := ih _ _ _ _ _ h;refine ⟨⟨x.toArray⟩ :: ms, by rw [h1]; simp, ?_⟩;rw [modL_cons, <-h2, e1, hm, e2]
      · injection h with h; injection h with h1 h; injection h with h2 h3
        subst h1 h2 h3;exact ⟨[], by simp, e1⟩
theorem moduleL_no : ∀ c ∈ moduleL, c ≠ 46 /\ c ≠ 91 := by decide
theorem pathP_at : ∀ (ms : List ByteArray) (n : Nat) (ks : List ByteArray) (w r : List UInt8), ms.length < n -> ks.length + ms.length <= 20 -> (∀ k ∈ ms, ∀ c ∈ k.data.toList, c ≠ 46) -> (∀ c ∈ w, c ≠ 46) -> w ≠ moduleL →
    pathP n ks (pathL ms ++ (w ++ 46 :: r)) = some (ks ++ ms, w, r) := by
  intro ms
  induction ms with
  | nil =>
    intro n ks w r h1 h2 h3 h4 h5
    obtain ⟨n, rfl⟩ : ∃ m, n = m + 1 := ⟨n - 1, by simp at h1; omega⟩;rw [pathP, show pathL [] ++ (w ++ 46 :: r) = w ++ 46 :: r from rfl, cutB_at w r h4];simp [h5]
  | cons k ms ih =>
    intro n ks w r h1 h2 h3 h4 h5
    obtain ⟨n, rfl⟩ : ∃ m, n = m + 1 := ⟨n - 1, by simp at h1; omega⟩;simp only [List.length_cons] at h1 h2
    rw [pathP, modL_cons, cutB_at _ _ (fun c hc => (moduleL_no c hc).1)];simp only [if_true]
    rw [cutB_at _ _ (h3 k (by simp))];simp only []
    rw [if_neg (by omega), Jdec.str_back, ih n (ks ++ [k]) w r (by omega) (by simp; omega) (fun x hx => h3 x (by simp [hx])) h4 h5];simp
theorem parseP_iff (l : List UInt8) (a : Adr) : parseP l = some a ↔ Reads l a := by
  constructor
  · intro h
    unfold parseP at h
    cases hp : pathP 22 [] l with
    | none => rw [hp] at h; cases h
    | some y =>
      obtain ⟨ks, w, r⟩ := y;rw [hp] at h;simp only [] at h
      cases hk : keyP (from91 r) with
      | none => rw [hk] at h; cases h
      | some k =>
        rw [hk] at h;obtain ⟨rfl, h2⟩ := rightO_some h;obtain ⟨ms, h3, h4⟩ := pathP_some _ _ _ _ _ _ hp;rw [keyP_eq _ (from_head r)] at hk;refine ⟨h2, from91 r, ?_, from_head r, hk⟩;rw [List.nil_append] at h3;subst h3;show l = pathL ks ++ (w ++ 46 :: upTo91 r) ++ from91 r;rw [h4];conv => lhs; rw [<-up_from r]
        simp
  · rintro ⟨hr, t, rfl, ht, hk⟩;have P := right_parts hr;unfold parseP;have e : headL a.path a.type.data.toList a.name.data.toList ++ t = pathL a.path ++ (a.type.data.toList ++ 46 :: (a.name.data.toList ++ t)) := by simp [headL]
    rw [e, pathP_at a.path 22 [] _ _ (by have := P.len; omega) (by have := P.len; simpa using this) (fun k hk => ident_no (P.path k hk) 46 no_dot) (ident_no P.type 46 no_dot) P.mod];obtain ⟨e1, e2⟩ := up_at a.name.data.toList t (ident_no P.name 91 no_open) ht;simp only []
    rw [e2, e1, keyP_eq t ht, hk];simp only [List.nil_append]
    rw [adrOf_self, rightO, if_pos hr]
theorem bytes_empty {x : ByteArray} (h : x.toList.isEmpty = true) : x = ⟨#[]⟩ := by
  rw [ByteArray.toList_eq, List.isEmpty_iff] at h;have := Jdec.str_back x;rw [h] at this;exact this.symm
theorem keyR_print (a : Adr) (h : keyA a = true) (hp : a.place <= 18446744073709551615) : keyR (keyL a) = some (a.key, a.place, a.word) := by
  unfold keyA at h;unfold keyL;split at h
  · rename_i h0
    simp only [Bool.and_eq_true, beq_iff_eq] at h
    rw [if_neg (by omega), if_neg (by omega), h0, h.1, bytes_empty h.2]; rfl
  · split at h
    · rename_i h0 h1
      have hla : (Lib.decDigits a.place ++ [(93 : UInt8)]).getLast? = some 93 := by simp
      rw [if_pos h1, keyR, hla, if_pos rfl, List.dropLast_concat, numB_dec _ hp, h1, bytes_empty h]
    · split at h
      · rename_i h0 h1 h2
        simp only [Bool.and_eq_true, beq_iff_eq] at h
        have hv : validB a.word.data.toList = true := by rw [<-badZ_neg]; exact h.2
        have hs := Quote.scan_print hv [];rw [List.append_nil] at hs;have hq : numB (Quote.qprint a.word.data.toList) = none := by
          have : Quote.qprint a.word.data.toList = 34 :: (a.word.data.toList.flatMap Quote.qp ++ [34]) := rfl;rw [this, numB];split
          · rfl
          · rw [numR, if_neg (by decide)]
        have hla : (Quote.qprint a.word.data.toList ++ [(93 : UInt8)]).getLast? = some 93 := by simp
        rw [if_neg h1, if_pos h2, keyR, hla, if_pos rfl, List.dropLast_concat, hq, hs];simp only [if_true]
        rw [h2, h.1, Jdec.str_back]
      · cases h
theorem keyL_head (a : Adr) : keyL a = [] ∨ (keyL a).head? = some 91 := by
  unfold keyL;split
  · exact .inr rfl
  · split
    · exact .inr rfl
    · exact .inl rfl
theorem reads_print {a : Adr} (h : rightA a = true) (hp : a.place <= 18446744073709551615) : Reads (printA a) a := by
  rw [printA, if_pos h];exact ⟨h, keyL a, rfl, keyL_head a, keyR_print a (right_parts h).key hp⟩
theorem parse_print {a : Adr} (h : rightA a = true) (hp : a.place <= 18446744073709551615) : parseP (printA a) = some a := (parseP_iff _ _).2 (reads_print h hp)
theorem print_inj {a b : Adr} (ha : rightA a = true) (hb : rightA b = true) (hpa : a.place <= 18446744073709551615) (hpb : b.place <= 18446744073709551615) (h : printA a = printA b) : a = b := by
  have h1 := parse_print ha hpa;rw [h, parse_print hb hpb] at h1;injection h1 with h1; exact h1.symm
theorem print_ne {a : Adr} (h : rightA a = true) : printA a ≠ [] := by
  rw [printA, if_pos h, printR, headL];intro e
  have := congrArg List.length e;simp at this
theorem print_wrong {a : Adr} (h : rightA a = false) : printA a = [] := by rw [printA, h]; rfl
end Go.Proofs.YtehghladpnpcoaaGreatDoor.Addr
end
set_option linter.unusedVariables false
set_option linter.unusedSimpArgs false
set_option maxRecDepth 100000
section
namespace Go.Proofs.YtehghladpnpcoaaGreatDoor.State
open Go.RowKit Go.Shelf Utf Strs Go.Proofs.YtehghladpnpcoaaGreatDoor.Addr
open Jdec (IsTexts Turn)
theorem recB_right {r : Rec} (h : recB r = true) : rightA r.a = true := by
  rw [recB, Bool.and_eq_true, looseB, Bool.and_eq_true] at h;exact h.1.1
theorem good_of {l : List Rec} (h : Rows l) (hs : ∀ x ∈ l, Small x) : Good l :=
  ⟨fun x hx => by obtain ⟨i, hi, rfl⟩ := List.getElem_of_mem hx; exact h.r i hi, (sorted_iff l).1 h.sorted, hs⟩
theorem Good.nil : Good [] := ⟨(fun x h => by cases h), List.Pairwise.nil, (fun x h => by cases h)⟩
theorem Lt.irrefl (x : Rec) : ¬ Lt x x := fun h => by rw [Lt, less_irrefl] at h; cases h
theorem Lt.trans {x y z : Rec} (h1 : Lt x y) (h2 : Lt y z) : Lt x z := less_trans h1 h2
theorem adr_eq {x : Rec} {a : Adr} (hr : recB x = true) (hs : Small x) (hp : a.place < 18446744073709551616) (e : printA x.a = printA a) : x.a = a := by
  have h1 := recB_right hr;have h2 := hs.p;cases hb : rightA a
  · exfalso
    rw [print_wrong hb] at e;exact print_ne h1 e
  · exact print_inj h1 hb (by omega) (by omega) e
theorem Good.inj {l : List Rec} (h : Good l) {x y : Rec} (hx : x ∈ l) (hy : y ∈ l) (e : x.a = y.a) : x = y := by
  obtain ⟨i, hi, rfl⟩ := List.getElem_of_mem hx;obtain ⟨j, hj, rfl⟩ := List.getElem_of_mem hy;have hs := h.sorted;rcases Nat.lt_trichotomy i j with hl | rfl | hl
  · have := hs i j hi hj hl; rw [e, less_irrefl] at this; cases this
  · rfl
  · have := hs j i hj hi hl; rw [e, less_irrefl] at this; cases this
/-! ## Dropped -/
def dropR (l : List Rec) (i : Nat) : List Rec := l.take i ++ l.drop (i + 1)
theorem dropR_sub (l : List Rec) (i : Nat) : (dropR l i).Sublist l := by
  conv => rhs; rw [<-List.take_append_drop i l]
  refine List.Sublist.append (List.Sublist.refl _) ?_;have : l.drop (i + 1) = (l.drop i).drop 1 := by rw [List.drop_drop]
  rw [this];exact List.drop_sublist _ _
theorem Good.sub {l m : List Rec} (h : Good l) (hs : m.Sublist l) : Good m := ⟨fun x hx => h.r x (hs.subset hx), h.o.sublist hs, fun x hx => h.s x (hs.subset hx)⟩
theorem good_drop {l : List Rec} (h : Good l) (i : Nat) : Good (dropR l i) := h.sub (dropR_sub l i)
theorem split_at {l : List Rec} {i : Nat} (h : i < l.length) : l = l.take i ++ l[i] :: l.drop (i + 1) := by
  rw [<-List.drop_eq_getElem_cons h, List.take_append_drop]
theorem mem_drop {l : List Rec} (h : Good l) {i : Nat} (hi : i < l.length) (x : Rec) : x ∈ dropR l i ↔ x ∈ l /\ x.a ≠ l[i].a := by
  constructor
  · intro hx
    refine ⟨(dropR_sub l i).subset hx, fun e => ?_⟩;have e2 : x = l[i] := h.inj ((dropR_sub l i).subset hx) (List.getElem_mem hi) e;have ho := h.o;rw [split_at hi, List.pairwise_append] at ho;rcases List.mem_append.1 hx with hx | hx
    · have := ho.2.2 x hx l[i] (List.mem_cons_self ..);rw [e2] at this;exact Lt.irrefl _ this
    · have := (List.pairwise_cons.1 ho.2.1).1 x hx;rw [e2] at this;exact Lt.irrefl _ this
  · rintro ⟨hx, hn⟩;have hx2 := hx;rw [split_at hi] at hx2;rcases List.mem_append.1 hx2 with hx2 | hx2
    · exact List.mem_append.2 (.inl hx2)
    · rcases List.mem_cons.1 hx2 with rfl | hx2
      · exact absurd rfl hn
      · exact List.mem_append.2 (.inr hx2)
theorem above {l : List Rec} (h : Sorted l) {t : List UInt8} {i nx : Nat} (hP : Place l t i) (hN : Next l t i nx) (m : Nat) (hm : m < l.length) (hnm : nx <= m) : Op.bytesLess t (printA l[m].a) = true := by
  have hle := next_le hN hP;have h1 := hP.hi m hm (by omega);have hne : printA l[m].a ≠ t := by
    intro e
    rcases hN with ⟨⟨hi, e2⟩, rfl⟩ | ⟨hN, rfl⟩
    · have := h i m hi hm (by omega);rw [e, e2, less_irrefl] at this; cases this
    · rcases Nat.eq_or_lt_of_le hnm with rfl | hl
      · exact hN ⟨hm, e⟩
      · have h3 := h nx m (by omega) hm hl;have h4 := hP.hi nx (by omega) (Nat.le_refl _);rw [e, h4] at h3; cases h3
  have hsw := less_swap (printA l[m].a) t;rw [h1] at hsw;have hb : (printA l[m].a == t) = false := by rw [bnQ]; exact hne
  rw [hb] at hsw;exact hsw
theorem good_put {l : List Rec} {r : Rec} {i nx : Nat} (h : Good l) (hr : recB r = true) (hs : Small r) (hP : Place l (printA r.a) i) (hN : Next l (printA r.a) i nx) : Good (putR l r i nx) := by
  have hle := next_le hN hP;refine ⟨fun x hx => ?_, ?_, fun x hx => ?_⟩
  · rcases List.mem_append.1 hx with hx | hx
    · exact h.r x (List.mem_of_mem_take hx)
    · rcases List.mem_cons.1 hx with rfl | hx
      · exact hr
      · exact h.r x (List.mem_of_mem_drop hx)
  · have lo : ∀ x ∈ l.take i, Lt x r := fun x hx => by
      obtain ⟨m, hm, rfl⟩ := List.getElem_of_mem hx;rw [List.length_take] at hm;rw [List.getElem_take];exact hP.lo m (by omega) (by omega)
    have hi : ∀ x ∈ l.drop nx, Lt r x := fun x hx => by
      obtain ⟨m, hm, rfl⟩ := List.getElem_of_mem hx;rw [List.length_drop] at hm;rw [List.getElem_drop];exact above h.sorted hP hN _ (by omega) (by omega)
    rw [putR, List.pairwise_append, List.pairwise_cons];refine ⟨h.o.sublist (List.take_sublist _ _), ⟨hi, h.o.sublist (List.drop_sublist _ _)⟩, fun x hx y hy => ?_⟩;rcases List.mem_cons.1 hy with rfl | hy
    · exact lo x hx
    · exact (lo x hx).trans (hi y hy)
  · rcases List.mem_append.1 hx with hx | hx
    · exact h.s x (List.mem_of_mem_take hx)
    · rcases List.mem_cons.1 hx with rfl | hx
      · exact hs
      · exact h.s x (List.mem_of_mem_drop hx)
theorem mem_put {l : List Rec} {r : Rec} {i nx : Nat} (h : Good l) (hr : recB r = true) (hs : Small r) (hP : Place l (printA r.a) i) (hN : Next l (printA r.a) i nx) (x : Rec) : x ∈ putR l r i nx ↔ x = r ∨ x ∈ l /\ x.a ≠ r.a := by
  have hg := good_put h hr hs hP hN;constructor
  · intro hx
    by_cases e : x.a = r.a
    · exact .inl (hg.inj hx (by simp [putR]) e)
    · rcases List.mem_append.1 hx with hx | hx
      · exact .inr ⟨List.mem_of_mem_take hx, e⟩
      · rcases List.mem_cons.1 hx with rfl | hx
        · exact .inl rfl
        · exact .inr ⟨List.mem_of_mem_drop hx, e⟩
  · rintro (rfl | ⟨hx, hn⟩)
    · simp [putR]
    · obtain ⟨m, hm, rfl⟩ := List.getElem_of_mem hx;have hle := next_le hN hP;by_cases h1 : m < i
      · refine List.mem_append.2 (.inl ?_);exact List.mem_take_iff_getElem.2 ⟨m, by omega, rfl⟩
      · by_cases h2 : nx <= m
        · refine List.mem_append.2 (.inr (List.mem_cons.2 (.inr ?_)));exact List.mem_drop_iff_getElem.2 ⟨m - nx, by omega, by congr 1; omega⟩
        · rcases hN with ⟨⟨hi, e2⟩, rfl⟩ | ⟨_, rfl⟩
          · obtain rfl : m = i := by omega
            exact absurd (adr_eq (h.r _ (List.getElem_mem hm)) (h.s _ (List.getElem_mem hm)) hs.p e2) hn
          · omega
theorem good_ext : ∀ {l m : List Rec}, l.Pairwise Lt -> m.Pairwise Lt -> (∀ x, x ∈ l ↔ x ∈ m) -> l = m := by
  intro l
  induction l with
  | nil =>
    intro m _ _ h
    cases m with
    | nil => rfl
    | cons y u => have := (h y).2 (by simp); cases this
  | cons x t ih =>
    intro m hl hm h
    cases m with
    | nil => have := (h x).1 (by simp); cases this
    | cons y u =>
      rw [List.pairwise_cons] at hl hm;have e : x = y := by
        rcases List.mem_cons.1 ((h x).1 (by simp)) with e | hx
        · exact e
        · rcases List.mem_cons.1 ((h y).2 (by simp)) with e | hy
          · exact e.symm
          · exact absurd ((hl.1 y hy).trans (hm.1 x hx)) (Lt.irrefl x)
      subst e;rw [ih hl.2 hm.2 fun z => ⟨fun hz => ?_, fun hz => ?_⟩]
      · rcases List.mem_cons.1 ((h z).1 (List.mem_cons_of_mem _ hz)) with rfl | h2
        · exact absurd (hl.1 z hz) (Lt.irrefl z)
        · exact h2
      · rcases List.mem_cons.1 ((h z).2 (List.mem_cons_of_mem _ hz)) with rfl | h2
        · exact absurd (hm.1 z hz) (Lt.irrefl z)
        · exact h2
theorem behind_place {l : List Rec} (h : Good l) {t : List UInt8} {k : Nat} (hB : Behind l t k) (hN : ∀ x ∈ l, printA x.a ≠ t) : Place l t k := by
  refine ⟨hB.n, fun m hm hk => ?_, fun m hm hk => ?_⟩
  · have h1 := hB.lo m hm hk;have hsw := less_swap t (printA l[m].a);rw [h1] at hsw;have hb : (t == printA l[m].a) = false := by rw [bnQ]; exact fun e => hN _ (List.getElem_mem hm) e.symm
    rw [hb] at hsw;exact hsw
  · have hkl : k < l.length := by omega
    have h1 := hB.hi hkl;have h2 : Op.bytesLess t (printA l[m].a) = true := by
      rcases Nat.eq_or_lt_of_le hk with rfl | hl
      · exact h1
      · exact less_trans h1 (h.sorted k m hkl hm hl)
    cases h3 : Op.bytesLess (printA l[m].a) t
    · rfl
    · have := less_trans h2 h3; rw [less_irrefl] at this; cases this
end Go.Proofs.YtehghladpnpcoaaGreatDoor.State
end
section
namespace Go.Proofs.YtehghladpnpcoaaGreatDoor.State
open Go.RowKit Go.Shelf Utf Strs Go.Proofs.YtehghladpnpcoaaGreatDoor.Addr
open Jdec (IsTexts Turn)
theorem RecIn.isRec {w : World} {p : At} {r : Rec} (h : RecIn w p r) : IsRec w (fun _ => True) p r := ⟨h.a.t, h.t⟩
end Go.Proofs.YtehghladpnpcoaaGreatDoor.State
end
section
namespace Go.Proofs.YtehghladpnpcoaaGreatDoor.Addr
open Go.RowKit Go.Shelf Utf Strs
open Jdec (IsTexts)
end Go.Proofs.YtehghladpnpcoaaGreatDoor.Addr
end
section
namespace Go.Proofs.YtehghladpnpcoaaGreatDoor.State
open Go.RowKit Go.Shelf Utf Strs Go.Proofs.YtehghladpnpcoaaGreatDoor.Addr
open Jdec (IsTexts Turn infoStr gb_set gb_below gb_refl)
theorem gra_ok (a : Adr) (pa : Option Addr) (pc : Nat) (w : World) (h : AdrIn w pa a) (g : Bool) (hg : greatA a = g) : Hid (Calls Tryz.prog 55 #[.agg #[.slice pa a.path.length pc, .string a.type, .string a.name, .int .i64 a.key, .int .u64 a.place, .string a.word]] w fun e w' => e = .returned (.bool g) /\ Below w.heap.size w w') := by
  have := great_any a pa pc w h;rw [hg] at this;exact this
theorem zrec_small : Small Rec.zero := ⟨by decide, (fun x h => by cases h), by decide, by decide, by decide, by decide, by decide, by decide, by decide, (fun x h => by cases h), (fun x h => by cases h)⟩
theorem rightS_good {s : Sta} (h : rightS s = true) (hs : ∀ r ∈ s.recs, Small r) : Good s.recs := good_of ((rightS_iff s).1 h).2 hs
end Go.Proofs.YtehghladpnpcoaaGreatDoor.State
end
