/- A text's print, read again, is the text. -/
import Derived.Test.YtfdjolfenghmaaaGreatDoorWJenW
set_option linter.unusedVariables false
set_option linter.unusedSimpArgs false
set_option maxRecDepth 100000
namespace Go.Proofs.YtfdjolfenghmaaaGreatDoor.Quote
open Utf
theorem put_of_one (l : List UInt8) (h : (one l).2 ≠ 0) : put (one l).1 = l.take (one l).2 /\ scalarB (one l).1 = true := by
  refine ⟨?_, (one_put l h).2⟩;unfold one at h ⊢;split
  · rename_i hs
    exact (stands_hit _ _ hs).2
  · rename_i hs
    rw [if_neg hs] at h; exact absurd rfl h
theorem txt_of : ∀ (n : Nat) (l : List UInt8) (p : Nat), l.length < n -> bad n l p = none -> Txt l
  | 0, l, p, h, _ => absurd h (Nat.not_lt_zero _)
  | n + 1, l, p, h, hb => by
    rw [bad] at hb;by_cases h0 : l = []
    · subst h0; exact .nil
    · rw [if_neg h0] at hb;by_cases h1 : (one l).2 = 0
      · rw [if_pos h1] at hb; cases hb
      · rw [if_neg h1] at hb;obtain ⟨e, hs⟩ := put_of_one l h1;have hl := (one_size_le l).1;have := txt_of n (l.drop (one l).2) _ (by rw [List.length_drop]; omega) hb;have h2 := Txt.scal _ _ hs this;rw [e, List.take_append_drop] at h2;exact h2
theorem txt_valid' {l : List UInt8} (h : validB l = true) : Txt l := by
  unfold validB at h;exact txt_of _ l 0 (Nat.lt_succ_self _) (by simpa using h)
theorem qp_big {c : UInt8} (h : 128 <= c.toNat) : qp c = [c] := by
  unfold qp short;rw [if_neg (by rw [if_neg (by omega), if_neg (by omega), if_neg (by omega), if_neg (by omega), if_neg (by omega), if_neg (by omega)]; simp), if_neg (by omega)]
theorem put_small (c : Nat) (h : c < 128) : put c = [UInt8.ofNat c] := by
  have hs : scalarB c = true := by simp [scalarB]; omega
  unfold put;rw [if_pos hs];unfold width;rw [if_pos h]; rfl
theorem put_big (c : Nat) (h : ¬ c < 128) : ∀ b ∈ put c, 128 <= b.toNat := by
  intro b hb
  unfold put at hb;split at hb
  case isFalse => cases hb
  case isTrue hs =>
    have hc : c <= 1114111 := by unfold scalarB at hs; simp only [Bool.and_eq_true, decide_eq_true_eq] at hs; exact hs.1
    unfold width at hb;rw [if_neg h] at hb
    repeat' split at hb
    all_goals simp only [List.mem_cons, List.mem_nil_iff, or_false] at hb
    all_goals first | omega | skip
    · rcases hb with rfl | rfl <;> rw [ofNat_lt (by omega)] <;> omega
    · rcases hb with rfl | rfl | rfl <;> rw [ofNat_lt (by omega)] <;> omega
    · rcases hb with rfl | rfl | rfl | rfl <;> rw [ofNat_lt (by omega)] <;> omega
theorem qps_big : ∀ l : List UInt8, (∀ b ∈ l, 128 <= b.toNat) -> l.flatMap qp = l
  | [], _ => rfl
  | c :: t, h => by
    rw [List.flatMap_cons, qp_big (h c (List.mem_cons_self ..)), qps_big t fun b hb => h b (List.mem_cons_of_mem _ hb)]; rfl
theorem qp_pos (c : UInt8) : 1 <= (qp c).length := by unfold qp; (repeat' split) <;> simp
theorem qps_ge : ∀ l : List UInt8, l.length <= (l.flatMap qp).length
  | [] => Nat.zero_le _
  | c :: t => by
    have := qp_pos c;have := qps_ge t;simp only [List.flatMap_cons, List.length_append, List.length_cons]; omega
theorem hexd_val : ∀ n, n < 16 -> hexv (hexd n).toNat = some n := by decide
theorem part_asis (c : UInt8) (post : List UInt8) (h1 : c.toNat ≠ 34) (h2 : c.toNat ≠ 92) (h3 : ¬ c.toNat < 32) (h4 : c.toNat < 128) : part (c :: post) = .ok ([c], 1, true) := by
  unfold part;rw [if_neg (by simp), if_neg (by rw [byt_zero]; exact h1), if_neg (by rw [byt_zero]; exact h2), if_neg (by rw [byt_zero]; exact h3), if_pos (by rw [byt_zero]; exact h4), byt_zero, UInt8.ofNat_toNat]
theorem part_bs (o post : List UInt8) (n : Nat) (h : escape post = .ok (o, n)) : part (92 :: post) = .ok (o, n + 1, true) := by
  unfold part;rw [if_neg (by simp), if_neg (by rw [byt_zero]; decide), if_pos (by rw [byt_zero]; decide), List.drop_one, List.tail_cons, h]
theorem four_low (n : Nat) (h : n < 32) (post : List UInt8) : four 4 0 (48 :: 48 :: hexd (n / 16) :: hexd (n % 16) :: post) = .ok n := by
  have h0 : hexv (48 : UInt8).toNat = some 0 := by decide
  have h1 := hexd_val (n / 16) (by omega);have h2 := hexd_val (n % 16) (by omega);simp only [four, h0, h1, h2]
  congr 1
  omega
theorem part_small (c : Nat) (h : c < 128) (post : List UInt8) : part (qp (UInt8.ofNat c) ++ post) = .ok ([UInt8.ofNat c], (qp (UInt8.ofNat c)).length, true) := by
  have hn : (UInt8.ofNat c).toNat = c := ofNat_lt (by omega);unfold qp;rw [hn];by_cases hs : short c = 0
  · rw [if_neg (by simpa using hs)];have h34 : c ≠ 34 := fun e => by subst e; exact absurd hs (by decide)
    have h92 : c ≠ 92 := fun e => by subst e; exact absurd hs (by decide)
    by_cases h32 : c < 32
    · rw [if_pos h32];refine part_bs _ _ 5 ?_;show escape (117 :: 48 :: 48 :: hexd (c / 16) :: hexd (c % 16) :: post) = _;have hnum : number (48 :: 48 :: hexd (c / 16) :: hexd (c % 16) :: post) = .ok (put c, 4) := by
        unfold number;rw [four_low c h32 post];simp only
        rw [if_neg (by omega), if_neg (by omega)]
      unfold escape;rw [if_neg (by simp), byt_zero, if_neg (by decide), if_neg (by decide), if_neg (by decide), if_neg (by decide), if_neg (by decide), if_neg (by decide), if_pos (by decide), List.drop_one, List.tail_cons, hnum, put_small c h]
    · rw [if_neg h32];exact part_asis _ post (by rw [hn]; exact h34) (by rw [hn]; exact h92) (by rw [hn]; exact h32) (by rw [hn]; exact h)
  · rw [if_pos (by simpa using hs)];have hc : c = 34 ∨ c = 92 ∨ c = 8 ∨ c = 12 ∨ c = 10 ∨ c = 13 ∨ c = 9 := by
      unfold short at hs
      repeat' split at hs
      all_goals omega
    refine part_bs _ _ 1 ?_;rcases hc with rfl | rfl | rfl | rfl | rfl | rfl | rfl <;> rfl
theorem part_put (c : Nat) (hs : scalarB c = true) (post : List UInt8) : part ((put c).flatMap qp ++ post) = .ok (put c, ((put c).flatMap qp).length, true) := by
  by_cases h : c < 128
  · rw [put_small c h];simp only [List.flatMap_cons, List.flatMap_nil, List.append_nil]
    exact part_small c h post
  · rw [qps_big _ (put_big c h)];obtain ⟨h1, h2⟩ := one_put_app c post hs;obtain ⟨b, t, hb⟩ : ∃ b t, put c = b :: t := by
      cases hp : put c with
      | nil => rw [hp] at h2; simp at h2
      | cons b t => exact ⟨b, t, rfl⟩
    have hb128 : 128 <= b.toNat := put_big c h b (by rw [hb]; exact List.mem_cons_self ..);have hz : byt (put c ++ post) 0 = b.toNat := by rw [hb]; rfl
    unfold part;rw [if_neg (by rw [List.length_append]; omega), hz, if_neg (by omega), if_neg (by omega), if_neg (by omega), if_neg (by omega), h1];simp only
    rw [if_neg (by omega)]
theorem parts_print {l : List UInt8} (h : Txt l) : ∀ (n p : Nat) (out post : List UInt8), l.length < n -> parts n (l.flatMap qp ++ 34 :: post) p out = .ok (out ++ l, p + (l.flatMap qp).length + 1) := by
  induction h with
  | nil =>
    intro n p out post hn
    cases n with
    | zero => exact absurd hn (Nat.not_lt_zero _)
    | succ n =>
      have e : part (34 :: post) = .ok ([], 1, false) := by
        unfold part;rw [if_neg (by simp), if_pos (by rw [byt_zero]; decide)]
      simp only [List.flatMap_nil, List.nil_append, parts, e, List.append_nil, List.length_nil, Nat.add_zero]
  | scal c l hc _ ih =>
    intro n p out post hn
    have hp := (one_put_app c [] hc).2;rw [List.length_append] at hn
    cases n with
    | zero => exact absurd hn (Nat.not_lt_zero _)
    | succ n =>
      rw [List.flatMap_append, List.append_assoc, parts, part_put c hc];simp only
      rw [List.drop_left, ih n _ _ post (by omega), List.append_assoc, List.length_append]
      congr 2
      omega
theorem scan_print {l : List UInt8} (h : validB l = true) (post : List UInt8) : scan (qprint l ++ post) = .ok (l, (qprint l).length) := by
  have ht := txt_valid' h;have hg := qps_ge l;unfold scan qprint;have e : (34 :: l.flatMap qp ++ [34]) ++ post = 34 :: (l.flatMap qp ++ 34 :: post) := by simp
  rw [e, if_neg (by simp), if_neg (by rw [byt_zero]; decide), List.drop_one, List.tail_cons, parts_print ht _ _ _ _ (by simp only [List.length_cons, List.length_append]; omega)]
  congr 2
  simp only [List.length_append, List.length_cons, List.length_nil]; omega
end Go.Proofs.YtfdjolfenghmaaaGreatDoor.Quote
namespace Go.Proofs.YtfdjolfenghmaaaGreatDoor.Num
open Jdec (nprint nfront)
open Go.Lib (decDigits)
def Stops (post : List UInt8) : Prop := ∀ c t, post = c :: t -> sgn c.toNat = 6
theorem stops_nil : Stops [] := fun c t h => by cases h
theorem from_stop (post : List UInt8) (hp : Stops post) : ∀ (l : List UInt8) (st i k : Nat), l ≠ [] -> run st l ≠ 9 -> st < 9 -> whole (run st l) = true -> from_ st i k (l ++ post) = i + l.length
  | [], _, _, _, h, _, _, _ => absurd rfl h
  | c :: l, st, i, k, _, h9, hst, hw => by
    rw [run_cons] at h9 hw;by_cases hs : step st (sgn c.toNat) = 9
    · rw [if_pos hs] at h9; exact absurd rfl h9
    · rw [if_neg hs] at h9 hw;have hlt := step_ne st hst _ (sgn_lt c.toNat) hs;rw [List.cons_append, from_, if_neg hs];by_cases h0 : l = []
      · subst h0;rw [run] at hw;rw [if_pos hw, List.nil_append]
        cases post with
        | nil => rfl
        | cons d t =>
          rw [from_, hp d t rfl, if_pos (step_6 _ hlt)]; rfl
      · rw [from_stop post hp l _ _ _ h0 h9 hlt hw, List.length_cons]; omega
theorem scan_stop {l post : List UInt8} (hp : Stops post) (h0 : l ≠ []) (h9 : run 0 l ≠ 9) (hw : whole (run 0 l) = true) : scan (l ++ post) = l.length := by
  unfold scan;rw [from_stop post hp l 0 0 0 h0 h9 (by omega) hw, Nat.zero_add]
theorem sgn_digit {c : UInt8} (h : isDigit c = true) : sgn c.toNat = 2 ∨ sgn c.toNat = 3 := by
  unfold isDigit at h;simp only [Bool.and_eq_true, decide_eq_true_eq] at h
  unfold sgn;by_cases h1 : c.toNat = 48
  · left; rw [if_neg (by omega), if_neg (by omega), if_pos h1]
  · right; rw [if_neg (by omega), if_neg (by omega), if_neg h1, if_pos (by omega)]
theorem run_all (st : Nat) (h2 : step st 2 = st) (h3 : step st 3 = st) (hst : st ≠ 9) : ∀ l : List UInt8, (∀ c ∈ l, isDigit c = true) -> run st l = st
  | [], _ => rfl
  | c :: l, h => by
    have hs : step st (sgn c.toNat) = st := by rcases sgn_digit (h c (List.mem_cons_self ..)) with e | e <;> rw [e] <;> assumption
    rw [run_cons, hs, if_neg hst];exact run_all st h2 h3 hst l fun x hx => h x (List.mem_cons_of_mem _ hx)
theorem run_some (st st' : Nat) (a2 : step st 2 = st') (a3 : step st 3 = st') (h2 : step st' 2 = st') (h3 : step st' 3 = st') (hst : st' ≠ 9) (l : List UInt8) (h0 : l ≠ []) (h : ∀ c ∈ l, isDigit c = true) : run st l = st' := by
  cases l with
  | nil => exact absurd rfl h0
  | cons c l =>
    have hs : step st (sgn c.toNat) = st' := by rcases sgn_digit (h c (List.mem_cons_self ..)) with e | e <;> rw [e] <;> assumption
    rw [run_cons, hs, if_neg hst];exact run_all st' h2 h3 hst l fun x hx => h x (List.mem_cons_of_mem _ hx)
theorem run_front (neg : Bool) : run 0 (nfront neg) = if neg then 1 else 0 := by cases neg <;> rfl
structure Digs (d : List UInt8) : Prop where
  all : ∀ c ∈ d, isDigit c = true
  ne : d ≠ []
  head : d.headD 48 ≠ 48
theorem run_digs (neg : Bool) {d : List UInt8} (h : Digs d) (r : List UInt8) : run 0 (nfront neg ++ d ++ r) = run 3 r := by
  have e : run (if neg then 1 else 0) d = 3 := by
    obtain ⟨h1, h2, h3⟩ := h
    cases d with
    | nil => exact absurd rfl h2
    | cons c t =>
      have hc := h1 c (List.mem_cons_self ..);have hs : sgn c.toNat = 3 := by
        unfold isDigit at hc;simp only [Bool.and_eq_true, decide_eq_true_eq] at hc
        have hn : c.toNat ≠ 48 := fun e => h3 (by rw [List.headD_cons]; exact UInt8.toNat_inj.1 e);unfold sgn;rw [if_neg (by omega), if_neg (by omega), if_neg hn, if_pos (by omega)]
      have hst : step (if neg then 1 else 0) 3 = 3 := by cases neg <;> rfl
      rw [run_cons, hs, hst, if_neg (by omega)];exact run_all 3 rfl rfl (by omega) t fun x hx => h1 x (List.mem_cons_of_mem _ hx)
  have hf : (if neg then 1 else 0) ≠ 9 := by cases neg <;> decide
  rw [run_append, run_append, run_front, if_neg hf, e, if_neg (by omega)]
theorem dec_digit : ∀ u, (∀ c ∈ decDigits u, isDigit c = true) /\ decDigits u ≠ [] := by
  intro u
  induction u using Nat.strongRecOn with
  | _ u ih =>
    have one : ∀ n, n < 10 -> isDigit (UInt8.ofNat (48 + n)) = true := by decide
    by_cases h : u < 10
    · rw [decDigits, dif_pos h];exact ⟨fun c hc => by rw [List.mem_singleton.1 hc]; exact one u h, by simp⟩
    · rw [decDigits, dif_neg h];obtain ⟨h1, h2⟩ := ih (u / 10) (by omega);refine ⟨fun c hc => ?_, by simp⟩;rcases List.mem_append.1 hc with hc | hc
      · exact h1 c hc
      · rw [List.mem_singleton.1 hc]; exact one _ (by omega)
theorem pdigits_dec : ∀ u, u <= 1000000 -> pdigits (decDigits u) = u := by
  intro u
  induction u using Nat.strongRecOn with
  | _ u ih =>
    intro hu
    have one : ∀ n, n < 10 -> ((UInt8.ofNat (48 + n)).toNat + 208) % 256 = n := by decide
    by_cases h : u < 10
    · rw [decDigits, dif_pos h];show pstep 0 _ = u;unfold pstep;rw [one u h]; omega
    · rw [decDigits, dif_neg h];have := ih (u / 10) (by omega) (by omega);unfold pdigits at this ⊢;rw [List.foldl_append, this];show pstep (u / 10) _ = u;unfold pstep;rw [one _ (by omega)]; omega
theorem power_itoa (x : Int) (h1 : -1000000 <= x) (h2 : x <= 1000000) : power (Lib.itoa x) = x := by
  unfold Lib.itoa;by_cases h : x < 0
  · rw [if_pos h];unfold power;simp only
    rw [if_pos (by decide), pdigits_dec _ (by omega)]; omega
  · rw [if_neg h];obtain ⟨hd, hn⟩ := dec_digit x.toNat;have hp := pdigits_dec x.toNat (by omega)
    cases hc : decDigits x.toNat with
    | nil => exact absurd hc hn
    | cons c t =>
      rw [hc] at hd hp;have := hd c (List.mem_cons_self ..);unfold isDigit at this;simp only [Bool.and_eq_true, decide_eq_true_eq] at this
      unfold power;simp only
      rw [if_neg (by omega), if_neg (by omega), hp]; omega
def nbody (d : List UInt8) (x : Int) : List UInt8 :=
  if 0 <= x /\ x <= 20 then d ++ List.replicate x.toNat 48
  else if x < -20 ∨ 20 < x then d ++ 101 :: Lib.itoa x
  else if -x < (d.length : Int) then d.take ((d.length : Int) + x).toNat ++ 46 :: d.drop ((d.length : Int) + x).toNat
  else [48, 46] ++ List.replicate (-x - (d.length : Int)).toNat 48 ++ d
theorem nprint_body (neg : Bool) (d : List UInt8) (x : Int) (h : d ≠ []) : nprint neg d x = nfront neg ++ nbody d x := by
  unfold nprint nbody;rw [if_neg h]
  repeat' split
  all_goals simp [List.append_assoc]
structure Fine (d : List UInt8) (x : Int) : Prop extends Digs d where
  last : d.getLastD 48 ≠ 48
  lo : -10000 <= x
  hi : x <= 10000
theorem fine_of {n : Bool} {d : List UInt8} {x : Int} (h : right n d x = true) (h0 : d ≠ []) : Fine d x := by
  unfold right at h;rw [if_neg h0] at h;split at h
  · cases h
  · simp only [Bool.and_eq_true, List.all_eq_true, bne_iff_ne] at h
    exact ⟨⟨h.1.1, h0, h.1.2⟩, h.2, by omega, by omega⟩
theorem rep_digit (m : Nat) : ∀ c ∈ List.replicate m (48 : UInt8), isDigit c = true := fun c hc => by rw [(List.mem_replicate.1 hc).2]; rfl
theorem Fine.run {d : List UInt8} {x : Int} (h : Fine d x) (n : Bool) : Num.run 0 (nfront n ++ nbody d x) ≠ 9 /\ whole (Num.run 0 (nfront n ++ nbody d x)) = true := by
  unfold nbody;split
  · rw [<-List.append_assoc, run_digs n h.toDigs, run_all 3 rfl rfl (by omega) _ (rep_digit _)]; decide
  split
  · rw [<-List.append_assoc, run_digs n h.toDigs];have hs : Num.run 3 (101 :: Lib.itoa x) = Num.run 6 (Lib.itoa x) := rfl;have h8 : Num.run 6 (Lib.itoa x) = 8 := by
      unfold Lib.itoa;split
      · show Num.run 7 _ = 8;exact run_some 7 8 rfl rfl rfl rfl (by omega) _ (dec_digit _).2 (dec_digit _).1
      · exact run_some 6 8 rfl rfl rfl rfl (by omega) _ (dec_digit _).2 (dec_digit _).1
    rw [hs, h8]; decide
  split
  · rename_i h1 h2 h3
    obtain ⟨k, hk⟩ : ∃ k : Nat, ((d.length : Int) + x).toNat = k /\ 1 <= k /\ k < d.length := ⟨_, rfl, by omega, by omega⟩;rw [hk.1];have ht : Digs (d.take k) := ⟨fun c hc => h.all c (List.mem_of_mem_take hc), fun e => by have := congrArg List.length e; rw [List.length_take, List.length_nil] at this; omega, by
      have := h.head
      cases d with
      | nil => exact absurd rfl h.ne
      | cons c t =>
        obtain ⟨j, rfl⟩ : ∃ j, k = j + 1 := ⟨k - 1, by omega⟩;exact this⟩
    rw [<-List.append_assoc, run_digs n ht];have hs : Num.run 3 (46 :: d.drop k) = Num.run 4 (d.drop k) := rfl;rw [hs, run_some 4 5 rfl rfl rfl rfl (by omega) _ (fun e => by have := congrArg List.length e; rw [List.length_drop, List.length_nil] at this; omega) fun c hc => h.all c (List.mem_of_mem_drop hc)]
    decide
  · have hr : Num.run (if n then 1 else 0) ([48, 46] ++ List.replicate (-x - (d.length : Int)).toNat 48 ++ d) = Num.run 4 (List.replicate (-x - (d.length : Int)).toNat 48 ++ d) := by cases n <;> rfl
    have hf : (if n then 1 else 0) ≠ 9 := by cases n <;> decide
    rw [run_append, run_front, if_neg hf, hr, run_some 4 5 rfl rfl rfl rfl (by omega) _ (by simp [h.ne]) fun c hc => by
      rcases List.mem_append.1 hc with hc | hc
      · exact rep_digit _ c hc
      · exact h.all c hc]
    decide
theorem run_nprint {n : Bool} {d : List UInt8} {x : Int} (h : right n d x = true) : nprint n d x ≠ [] /\ run 0 (nprint n d x) ≠ 9 /\ whole (run 0 (nprint n d x)) = true := by
  by_cases h0 : d = []
  · subst h0;have e : nprint n [] x = [48] := rfl;rw [e];exact ⟨by decide, by decide, by decide⟩
  · rw [nprint_body n d x h0];refine ⟨?_, (fine_of h h0).run n⟩;unfold nbody
    repeat' split
    all_goals simp [h0]
theorem scan_nprint {n : Bool} {d : List UInt8} {x : Int} (h : right n d x = true) (post : List UInt8) (hp : Stops post) : scan (nprint n d x ++ post) = (nprint n d x).length := by
  obtain ⟨h1, h2, h3⟩ := run_nprint h;exact scan_stop hp h1 h2 h3
theorem drop_noughts (e : List UInt8) (he : e.headD 48 ≠ 48) : ∀ a : Nat, (List.replicate a (48 : UInt8) ++ e).dropWhile (· == 48) = e
  | 0 => by
    cases e with
    | nil => rfl
    | cons c t =>
      have : (c == 48) = false := by rw [beq_eq_false_iff_ne]; exact he
      rw [List.replicate_zero, List.nil_append, List.dropWhile_cons, this]; rfl
  | a + 1 => by
    rw [List.replicate_succ, List.cons_append, List.dropWhile_cons];exact drop_noughts e he a
theorem last_head (d : List UInt8) : d.reverse.headD 48 = d.getLastD 48 := by
  rw [List.headD_eq_head?_getD, List.head?_reverse, List.getLastD_eq_getLast?]
theorem fin_digits {n : Bool} {d : List UInt8} {x : Int} (h : right n d x = true) (h0 : d ≠ []) (a z : Nat) (y : Int) (hy : y + z = x) : fin n (List.replicate a 48 ++ (d ++ List.replicate z 48)) y = .ok (n, d, x) := by
  have hf := fine_of h h0;have e1 : (List.replicate a (48 : UInt8) ++ (d ++ List.replicate z 48)).dropWhile (· == 48) = d ++ List.replicate z 48 := drop_noughts _ (by
    cases d with
    | nil => exact absurd rfl h0
    | cons c t => exact hf.head) a
  have e2 : ((d ++ List.replicate z (48 : UInt8)).reverse.dropWhile (· == 48)).reverse = d := by
    rw [List.reverse_append, List.reverse_replicate, drop_noughts _ (by rw [last_head]; exact hf.last), List.reverse_reverse]
  unfold fin;simp only []
  rw [e1, e2, if_neg h0];have e3 : y + (((d ++ List.replicate z (48 : UInt8)).length : Int) - (d.length : Int)) = x := by
    rw [List.length_append, List.length_replicate]; omega
  rw [e3, if_pos h]
theorem find_none {p : UInt8 -> Bool} : ∀ l : List UInt8, (∀ c ∈ l, p c = false) -> l.findIdx? p = none := fun l h => by
  rw [List.findIdx?_eq_none_iff]; exact h
theorem find_at {p : UInt8 -> Bool} (m : UInt8) (hm : p m = true) (b : List UInt8) : ∀ a : List UInt8, (∀ c ∈ a, p c = false) -> (a ++ m :: b).findIdx? p = some a.length
  | [], _ => by rw [List.nil_append, List.findIdx?_cons, hm]; rfl
  | c :: a, h => by
    rw [List.cons_append, List.findIdx?_cons, h c (List.mem_cons_self ..), find_at m hm b a fun x hx => h x (List.mem_cons_of_mem _ hx)];simp
theorem dig_noE {c : UInt8} (h : isDigit c = true) : ([101, 69] : List UInt8).contains c = false := by
  unfold isDigit at h;simp only [Bool.and_eq_true, decide_eq_true_eq] at h
  have h1 : c ≠ 101 := fun e => by subst e; exact absurd h.2 (by decide)
  have h2 : c ≠ 69 := fun e => by subst e; exact absurd h.2 (by decide)
  simp [h1, h2]
theorem dig_noP {c : UInt8} (h : isDigit c = true) : (c == 46) = false := by
  unfold isDigit at h;simp only [Bool.and_eq_true, decide_eq_true_eq] at h
  rw [beq_eq_false_iff_ne];intro e; subst e; exact absurd h.1 (by decide)
theorem point_none {n : Bool} {d : List UInt8} (h : ∀ c ∈ d, isDigit c = true) (x : Int) : point n d x = fin n d x := by
  unfold point;rw [find_none d fun c hc => dig_noP (h c hc)]
theorem mant_none {n : Bool} {d : List UInt8} (h : ∀ c ∈ d, ([101, 69] : List UInt8).contains c = false) : mant n d = point n d 0 := by
  unfold mant;rw [find_none d h]
theorem mant_body {n : Bool} {d : List UInt8} {x : Int} (h : right n d x = true) (h0 : d ≠ []) : mant n (nbody d x) = .ok (n, d, x) := by
  have hf := fine_of h h0;unfold nbody;split
  · rename_i h1
    have hall : ∀ c ∈ d ++ List.replicate x.toNat (48 : UInt8), isDigit c = true := fun c hc => by
      rcases List.mem_append.1 hc with hc | hc
      · exact hf.all c hc
      · exact rep_digit _ c hc
    rw [mant_none fun c hc => dig_noE (hall c hc), point_none hall];have := fin_digits h h0 0 x.toNat 0 (by omega);rw [List.replicate_zero, List.nil_append] at this;exact this
  split
  · unfold mant;rw [find_at 101 (by decide) _ d fun c hc => dig_noE (hf.all c hc)];simp only
    rw [List.take_left, show (d ++ 101 :: Lib.itoa x).drop (d.length + 1) = Lib.itoa x by rw [show d ++ 101 :: Lib.itoa x = (d ++ [101]) ++ Lib.itoa x by simp, List.drop_left' (by simp)], power_itoa x (by have := hf.lo; omega) (by have := hf.hi; omega), point_none hf.all];have := fin_digits h h0 0 0 x (by omega);rw [List.replicate_zero, List.nil_append, List.append_nil] at this;exact this
  split
  · rename_i h1 h2 h3
    obtain ⟨k, hk⟩ : ∃ k : Nat, ((d.length : Int) + x).toNat = k /\ 1 <= k /\ k < d.length /\ (d.length : Int) + x = k := ⟨_, rfl, by omega, by omega, by omega⟩;rw [hk.1];have ht : ∀ c ∈ d.take k, isDigit c = true := fun c hc => hf.all c (List.mem_of_mem_take hc);have hd : ∀ c ∈ d.drop k, isDigit c = true := fun c hc => hf.all c (List.mem_of_mem_drop hc);have hlk : (d.take k).length = k := by rw [List.length_take]; omega
    rw [mant_none fun c hc => by
      rcases List.mem_append.1 hc with hc | hc
      · exact dig_noE (ht c hc)
      · rcases List.mem_cons.1 hc with rfl | hc
        · decide
        · exact dig_noE (hd c hc)]
    unfold point;rw [find_at 46 (by decide) _ _ fun c hc => dig_noP (ht c hc)];simp only
    rw [List.take_left, show (d.take k ++ 46 :: d.drop k).drop ((d.take k).length + 1) = d.drop k by rw [show d.take k ++ 46 :: d.drop k = (d.take k ++ [46]) ++ d.drop k by simp, List.drop_left' (by simp)], List.take_append_drop];have := fin_digits h h0 0 0 (0 - (((d.take k ++ 46 :: d.drop k).length : Int) - ((d.take k).length : Int) - 1)) (by
      rw [List.length_append, List.length_cons, List.length_drop, hlk]; omega)
    rw [List.replicate_zero, List.nil_append, List.append_nil] at this;exact this
  · rename_i h1 h2 h3
    obtain ⟨m, hm⟩ : ∃ m : Nat, (-x - (d.length : Int)).toNat = m /\ (m : Int) = -x - (d.length : Int) := ⟨_, rfl, by omega⟩;rw [hm.1];have hall : ∀ c ∈ List.replicate m (48 : UInt8) ++ d, isDigit c = true := fun c hc => by
      rcases List.mem_append.1 hc with hc | hc
      · exact rep_digit _ c hc
      · exact hf.all c hc
    have e : [48, 46] ++ List.replicate m (48 : UInt8) ++ d = [48] ++ 46 :: (List.replicate m (48 : UInt8) ++ d) := by simp
    rw [e, mant_none fun c hc => by
      rcases List.mem_append.1 hc with hc | hc
      · rw [List.mem_singleton.1 hc]; decide
      · rcases List.mem_cons.1 hc with rfl | hc
        · decide
        · exact dig_noE (hall c hc)]
    unfold point;rw [find_at 46 (by decide) _ [48] fun c hc => by rw [List.mem_singleton.1 hc]; decide];simp only
    have e2 : ([48] ++ 46 :: (List.replicate m (48 : UInt8) ++ d)).take ([48] : List UInt8).length ++ ([48] ++ 46 :: (List.replicate m (48 : UInt8) ++ d)).drop (([48] : List UInt8).length + 1) = List.replicate (m + 1) 48 ++ (d ++ List.replicate 0 48) := by
      simp [List.replicate_succ]
    rw [e2];refine fin_digits h h0 (m + 1) 0 _ ?_;simp only [List.length_append, List.length_cons, List.length_nil, List.length_replicate]
    omega
theorem body_head {d : List UInt8} {x : Int} (h : Fine d x) : ∃ c t, nbody d x = c :: t /\ isDigit c = true := by
  obtain ⟨c, t, hd⟩ : ∃ c t, d = c :: t := by
    cases hd : d with
    | nil => exact absurd hd h.ne
    | cons c t => exact ⟨c, t, rfl⟩
  have hc := h.all c (by rw [hd]; exact List.mem_cons_self ..);unfold nbody;split
  · exact ⟨c, _, by rw [hd]; rfl, hc⟩
  split
  · exact ⟨c, _, by rw [hd]; rfl, hc⟩
  split
  · rename_i h1 h2 h3
    obtain ⟨k, hk⟩ : ∃ k : Nat, ((d.length : Int) + x).toNat = k + 1 := ⟨((d.length : Int) + x).toNat - 1, by omega⟩;rw [hk, hd];exact ⟨c, _, rfl, hc⟩
  · exact ⟨48, _, rfl, by decide⟩
theorem parse_nprint {n : Bool} {d : List UInt8} {x : Int} (h : right n d x = true) : parse (nprint n d x) = .ok (n, d, x) := by
  have hs := scan_nprint h [] stops_nil;rw [List.append_nil] at hs;by_cases h0 : d = []
  · subst h0;unfold right at h;simp at h
    obtain ⟨rfl, rfl⟩ := h
    rfl
  · have hf := fine_of h h0;obtain ⟨c, t, hb, hc⟩ := body_head hf;unfold parse;rw [if_neg (by
      rintro (e | e)
      · exact (run_nprint h).1 e
      · exact e hs), nprint_body n d x h0, <-mant_body h h0]
    have h45 : ((c :: t).head? == some 45) = false := by
      rw [List.head?_cons, beq_eq_false_iff_ne];intro e
      injection e with e
      subst e;exact absurd hc (by decide)
    cases n with
    | false =>
      show mant ((nbody d x).head? == some 45) _ = _;have e : nfront false ++ nbody d x = nbody d x := rfl;rw [e, hb, h45]; rfl
    | true => rfl
end Go.Proofs.YtfdjolfenghmaaaGreatDoor.Num
namespace Go.Proofs.YtfdjolfenghmaaaGreatDoor.Jdec
theorem get_at {l : List UInt8} {p : Nat} {c : UInt8} {t : List UInt8} (h : l.drop p = c :: t) : l[p]? = some c := by
  have := congrArg (·[0]?) h
  simpa using this
theorem drop_at {l : List UInt8} {p : Nat} {x y : List UInt8} (h : l.drop p = x ++ y) : l.drop (p + x.length) = y := by
  rw [<-List.drop_drop, h, List.drop_left]
theorem drop_one_at {l : List UInt8} {p : Nat} {c : UInt8} {t : List UInt8} (h : l.drop p = c :: t) : l.drop (p + 1) = t := drop_at (x := [c]) h
theorem skip_at {l : List UInt8} {p : Nat} {c : UInt8} {t : List UInt8} (h : l.drop p = c :: t) (hb : blankJ c = false) : skip l p = p := by
  unfold skip;rw [h, List.takeWhile_cons, hb]; rfl
theorem skip_out {l : List UInt8} {p : Nat} (h : l.drop p = []) : skip l p = p := by
  unfold skip;rw [h]; rfl
theorem word_at (l : List UInt8) : ∀ (w post : List UInt8) (p : Nat), l.drop p = w ++ post -> word l w p = .ok (p + w.length)
  | [], _, p, _ => rfl
  | c :: w, post, p, h => by
    rw [word, if_pos (get_at h), word_at l w post (p + 1) (drop_one_at h), List.length_cons]
    congr 1; omega
theorem str_back (d : ByteArray) : (⟨d.data.toList.toArray⟩ : ByteArray) = d := by simp
theorem quoted_at {l post : List UInt8} {p : Nat} {s : ByteArray} (h : l.drop p = Quote.qprint s.data.toList ++ post) (hv : Utf.validB s.data.toList = true) : quoted l p = .ok (s, p + (Quote.qprint s.data.toList).length) := by
  unfold quoted;rw [h, Quote.scan_print hv]
theorem way_num : ∀ n : Fin 256, n.val = 45 ∨ (48 <= n.val /\ n.val <= 57) -> way (UInt8.ofNat n.val) = 2 /\ blankJ (UInt8.ofNat n.val) = false := by decide
theorem nprint_head {n : Bool} {d : List UInt8} {x : Int} (h : Num.right n d x = true) : ∃ c t, nprint n d x = c :: t /\ way c = 2 /\ blankJ c = false := by
  by_cases h0 : d = []
  · subst h0; exact ⟨48, [], rfl, by decide, by decide⟩
  · rw [Num.nprint_body n d x h0]
    cases n with
    | true => exact ⟨45, _, rfl, by decide, by decide⟩
    | false =>
      obtain ⟨c, t, hb, hc⟩ := Num.body_head (Num.fine_of h h0);unfold Num.isDigit at hc;simp only [Bool.and_eq_true, decide_eq_true_eq] at hc
      have := way_num ⟨c.toNat, UInt8.toNat_lt c⟩ (.inr hc);rw [UInt8.ofNat_toNat] at this;exact ⟨c, t, by rw [hb]; rfl, this.1, this.2⟩
theorem print_head (t : JV) (hg : GoodQ t) (dp : Nat) : ∃ c r, t.print false dp = c :: r /\ blankJ c = false /\ way c ≠ 0 := by
  cases hg with
  | mk k i n d e s ks vs O hv =>
  rw [print_mk];split
  · exact ⟨110, _, rfl, by decide, by decide⟩
  split
  · cases i
    · exact ⟨102, _, rfl, by decide, by decide⟩
    · exact ⟨116, _, rfl, by decide, by decide⟩
  split
  · obtain ⟨c, t, h1, h3, h2⟩ := nprint_head O.right;exact ⟨c, t, h1, h2, by omega⟩
  split
  · exact ⟨34, _, rfl, by decide, by decide⟩
  split
  · cases hk : decide (k = 6)
    · exact ⟨91, _, rfl, by decide, by decide⟩
    · exact ⟨123, _, rfl, by decide, by decide⟩
  · rename_i h0
    cases vs with
    | nil => exact absurd rfl h0
    | cons v vs =>
      rw [kidsP_cons];cases hk : decide (k = 6)
      · exact ⟨91, _, rfl, by decide, by decide⟩
      · exact ⟨123, _, rfl, by decide, by decide⟩
theorem stops_byte (c : UInt8) (t : List UInt8) (h : Num.sgn c.toNat = 6) : Num.Stops (c :: t) := fun d u e => by injection e with e1 e2; subst e1; exact h
theorem ends_stop {l post : List UInt8} {last : UInt8} {q : Nat} (h : l.drop q = last :: post) (hb : blankJ last = false) : ends l last q = .ok (true, q + 1) := by
  unfold ends;rw [skip_at h hb, if_pos (get_at h)]
theorem ends_next {l post : List UInt8} {last c : UInt8} {q : Nat} (h : l.drop q = 44 :: c :: post) (hl : last ≠ 44) (hb : blankJ c = false) : ends l last q = .ok (false, q + 1) := by
  unfold ends;rw [skip_at h (by decide), get_at h, if_neg (fun e => hl (by injection e with e; exact e.symm)), if_pos rfl, skip_at (drop_one_at h) hb]
theorem kids_ge (wd : Bool) (dp : Nat) (obj : Bool) (ks : List ByteArray) : ∀ (vs : List JV) (i : Nat), vs.length <= (kidsP wd dp obj ks i vs).length
  | [], i => Nat.zero_le _
  | v :: t, i => by
    have := kids_ge wd dp obj ks t (i + 1);have h1 := firstP_len obj;rw [kidsP_cons];simp only [List.length_append, List.length_cons]
    split
    · omega
    · simp only [List.length_cons, List.length_nil]; omega
def ReadsV (l : List UInt8) (val : Val) (dp : Nat) (v : JV) : Prop := ∀ (p : Nat) (post : List UInt8), l.drop p = v.print false dp ++ post -> Num.Stops post -> val p = .ok (v, p + (v.print false dp).length)
theorem items_print (l : List UInt8) (val : Val) (dp : Nat) (post : List UInt8) : ∀ (vs : List JV) (v : JV) (i n q : Nat) (acc : List JV), vs.length < n -> (∀ u ∈ v :: vs, GoodQ u /\ ReadsV l val (dp + 1) u) →
    l.drop q = v.print false (dp + 1) ++ (kidsP false dp false [] (i + 1) vs ++ 93 :: post) -> items l val n q acc = .ok (acc ++ v :: vs, q + (v.print false (dp + 1)).length + (kidsP false dp false [] (i + 1) vs).length + 1)
  | [], v, i, n, q, acc, hn, hr, h => by
    obtain ⟨n, rfl⟩ : ∃ m, n = m + 1 := ⟨n - 1, by simp at hn; omega⟩;rw [kidsP_nil, List.nil_append] at h;rw [items, (hr v (List.mem_cons_self ..)).2 q _ h (stops_byte 93 _ (by decide))];simp only
    rw [ends_stop (drop_at h) (by decide), kidsP_nil]
    rfl
  | u :: us, v, i, n, q, acc, hn, hr, h => by
    obtain ⟨n, rfl⟩ : ∃ m, n = m + 1 := ⟨n - 1, by simp at hn; omega⟩;have hu := hr u (List.mem_cons_of_mem _ (List.mem_cons_self ..));obtain ⟨c, r, hc, hb, _⟩ := print_head u hu.1 (dp + 1);have hk : kidsP false dp false [] (i + 1) (u :: us) = 44 :: (u.print false (dp + 1) ++ kidsP false dp false [] (i + 1 + 1) us) := by
      rw [kidsP_cons, if_neg (by omega)]
      rfl
    have h44 : l.drop q = v.print false (dp + 1) ++ 44 :: (u.print false (dp + 1) ++ (kidsP false dp false [] (i + 1 + 1) us ++ 93 :: post)) := by
      rw [h, hk]; simp
    rw [items, (hr v (List.mem_cons_self ..)).2 q _ h44 (stops_byte 44 _ (by decide))];simp only
    have hd := drop_at h44;have he : ends l 93 (q + (v.print false (dp + 1)).length) = .ok (false, q + (v.print false (dp + 1)).length + 1) := by
      rw [hc] at hd;exact ends_next hd (by decide) hb
    rw [he];simp only
    rw [items_print l val dp post us u (i + 1) n _ _ (by simp at hn; omega) (fun x hx => hr x (List.mem_cons_of_mem _ hx)) (drop_one_at hd), hk];simp only [List.length_cons, List.length_append, List.append_assoc, List.singleton_append]
    congr 2
    omega
theorem key_at {l post : List UInt8} {q : Nat} {k : ByteArray} {ks : List ByteArray} (h : l.drop q = Quote.qprint k.data.toList ++ post) (hv : Utf.validB k.data.toList = true) (hn : k ∉ ks) : key l ks q = .ok (k, q + (Quote.qprint k.data.toList).length) := by
  unfold key;have h34 : l[q]? = some 34 := get_at (t := k.data.toList.flatMap Quote.qp ++ [34] ++ post) (by rw [h]; unfold Quote.qprint; simp);rw [if_pos h34, quoted_at h hv];simp only
  rw [if_neg];intro he
  rw [List.any_eq_true] at he;obtain ⟨x, hx, e⟩ := he;rw [decide_eq_true_eq] at e;exact hn (e ▸ hx)
theorem colon_at {l post : List UInt8} {q : Nat} {c : UInt8} (h : l.drop q = 58 :: c :: post) (hb : blankJ c = false) : colon l q = .ok (q + 1) := by
  unfold colon;rw [skip_at h (by decide), if_pos (get_at h), skip_at (drop_one_at h) hb]
theorem members_print (l : List UInt8) (val : Val) (dp : Nat) (post : List UInt8) (ks : List ByteArray) (hnd : ks.Nodup) (hval : ∀ k ∈ ks, Utf.validB k.data.toList = true) : ∀ (vs : List JV) (v : JV) (i n q : Nat) (acc : List JV), i + vs.length + 1 = ks.length -> vs.length < n -> (∀ u ∈ v :: vs, GoodQ u /\ ReadsV l val (dp + 1) u) →
    l.drop q = keyP false true ks i ++ (v.print false (dp + 1) ++ (kidsP false dp true ks (i + 1) vs ++ 125 :: post)) -> members l val n q (ks.take i) acc = .ok (ks, acc ++ v :: vs, q + (keyP false true ks i).length + (v.print false (dp + 1)).length + (kidsP false dp true ks (i + 1) vs).length + 1)
  | vs, v, i, n, q, acc, hl, hn, hr, h => by
    obtain ⟨n, rfl⟩ : ∃ m, n = m + 1 := ⟨n - 1, by omega⟩;have hi : i < ks.length := by omega
    have hkey : ks.getD i ⟨#[]⟩ = ks[i] := by simp [List.getD, hi]
    have hkp : keyP false true ks i = Quote.qprint (ks[i]).data.toList ++ [58] := by unfold keyP; rw [hkey]; rfl
    have hnot : ks[i] ∉ ks.take i := by
      intro hm
      obtain ⟨j, hj, e⟩ := List.getElem_of_mem hm;rw [List.length_take] at hj;rw [List.getElem_take] at e;exact List.pairwise_iff_getElem.1 hnd j i (by omega) hi (by omega) e
    have hv := hr v (List.mem_cons_self ..);obtain ⟨c, r, hc, hb, _⟩ := print_head v hv.1 (dp + 1);have h1 : l.drop q = Quote.qprint (ks[i]).data.toList ++ 58 :: (v.print false (dp + 1) ++ (kidsP false dp true ks (i + 1) vs ++ 125 :: post)) := by
      rw [h, hkp]; simp
    have h2 := drop_at h1;have h3 := drop_one_at h2;have htk : ks.take i ++ [ks[i]] = ks.take (i + 1) := by rw [List.take_add_one, List.getElem?_eq_getElem hi]; rfl
    rw [members, key_at h1 (hval _ (List.getElem_mem hi)) hnot];simp only
    rw [colon_at (c := c) (post := r ++ (kidsP false dp true ks (i + 1) vs ++ 125 :: post)) (by rw [h2, hc]; rfl) hb];simp only
    cases vs with
    | nil =>
      rw [kidsP_nil, List.nil_append] at h3;rw [hv.2 _ _ h3 (stops_byte 125 _ (by decide))];simp only
      rw [ends_stop (drop_at h3) (by decide)];simp only
      have : ks.take (i + 1) = ks := List.take_of_length_le (by simp at hl; omega);rw [htk, this, kidsP_nil, hkp];simp only [List.length_append, List.length_cons, List.length_nil]
      congr 3
    | cons u us =>
      have hu := hr u (List.mem_cons_of_mem _ (List.mem_cons_self ..));have hk : kidsP false dp true ks (i + 1) (u :: us) = 44 :: (keyP false true ks (i + 1) ++ (u.print false (dp + 1) ++ kidsP false dp true ks (i + 1 + 1) us)) := by
        rw [kidsP_cons, if_neg (by omega)];simp [lineP]
      have h4 : l.drop (q + (Quote.qprint (ks[i]).data.toList).length + 1) = v.print false (dp + 1) ++ 44 :: (keyP false true ks (i + 1) ++ (u.print false (dp + 1) ++ (kidsP false dp true ks (i + 1 + 1) us ++ 125 :: post))) := by
        rw [h3, hk]; simp
      rw [hv.2 _ _ h4 (stops_byte 44 _ (by decide))];simp only
      have h5 := drop_at h4;have he : ends l 125 (q + (Quote.qprint (ks[i]).data.toList).length + 1 + (v.print false (dp + 1)).length) = .ok (false, q + (Quote.qprint (ks[i]).data.toList).length + 1 + (v.print false (dp + 1)).length + 1) := by
        refine ends_next (c := 34) (post := (keyP false true ks (i + 1)).tail ++ (u.print false (dp + 1) ++ (kidsP false dp true ks (i + 1 + 1) us ++ 125 :: post))) ?_ (by decide) (by decide);rw [h5]; rfl
      rw [he];simp only
      rw [htk, members_print l val dp post ks hnd hval us u (i + 1) n _ _ (by simp at hl; omega) (by simp at hn; omega) (fun x hx => hr x (List.mem_cons_of_mem _ hx)) (drop_one_at h5), hk, hkp];simp only [List.length_cons, List.length_append, List.append_assoc, List.singleton_append, List.length_nil]
      congr 3
      omega
theorem value_print (t : JV) (hg : GoodQ t) : ∀ (l : List UInt8) (d dp : Nat), t.deepN <= d -> ReadsV l (value l d) dp t := by
  induction hg with
  | mk k i n dg e s ks vs O hv ih =>
  intro l d dp hd p post h hp
  have hdn : 1 <= (JV.mk k i n dg e s ks vs).deepN := by rw [deepN_mk]; omega
  obtain ⟨d, rfl⟩ : ∃ d', d = d' + 1 := ⟨d - 1, by omega⟩;rw [print_mk] at h ⊢;have hk := O.k1;have hk6 := O.k6;by_cases k1 : k = 1
  · rw [if_pos k1] at h ⊢;have i1 := O.is (by omega);obtain ⟨i2, i3, i4⟩ := O.num (by omega);have i5 := O.text (by omega);have i6 := O.noKeys (by omega);have i7 := List.length_eq_zero_iff.1 (O.kids (by omega));subst i1 i2 i3 i4 i5 i6 i7;subst k1;have hw : way 110 = 7 := by decide
    rw [value, get_at h];simp only [hw]
    unfold wordV;rw [word_at l _ _ _ h]; rfl
  rw [if_neg k1] at h ⊢;by_cases k2 : k = 2
  · rw [if_pos k2] at h ⊢;obtain ⟨i2, i3, i4⟩ := O.num (by omega);have i5 := O.text (by omega);have i6 := O.noKeys (by omega);have i7 := List.length_eq_zero_iff.1 (O.kids (by omega));subst i2 i3 i4 i5 i6 i7;subst k2
    cases i with
    | true =>
      rw [if_pos rfl] at h ⊢;have hw : way 116 = 5 := by decide
      rw [value, get_at h];simp only [hw]
      unfold wordV;rw [word_at l _ _ _ h]; rfl
    | false =>
      rw [if_neg (by decide)] at h ⊢;have hw : way 102 = 6 := by decide
      rw [value, get_at h];simp only [hw]
      unfold wordV;rw [word_at l _ _ _ h]; rfl
  rw [if_neg k2] at h ⊢;by_cases k3 : k = 3
  · rw [if_pos k3] at h ⊢;have i1 := O.is (by omega);have i5 := O.text (by omega);have i6 := O.noKeys (by omega);have i7 := List.length_eq_zero_iff.1 (O.kids (by omega));subst i1 i5 i6 i7;subst k3;obtain ⟨c, t, hc, hw, hb⟩ := nprint_head O.right;have hs := Num.scan_nprint O.right post hp;have h1 : l[p]? = some c := get_at (t := t ++ post) (by rw [h, hc]; rfl);rw [value, h1];simp only [hw]
    unfold number;have hne : (nprint n dg.data.toList e).length ≠ 0 := by rw [hc]; simp
    rw [h, hs, if_neg hne, List.take_left, Num.parse_nprint O.right]
  rw [if_neg k3] at h ⊢;by_cases k4 : k = 4
  · rw [if_pos k4] at h ⊢;have i1 := O.is (by omega);obtain ⟨i2, i3, i4⟩ := O.num (by omega);have i6 := O.noKeys (by omega);have i7 := List.length_eq_zero_iff.1 (O.kids (by omega));subst i1 i2 i3 i4 i6 i7;subst k4;have h1 : l[p]? = some 34 := get_at (t := s.data.toList.flatMap Quote.qp ++ [34] ++ post) (by rw [h]; unfold Quote.qprint; simp);have hw : way 34 = 1 := by decide
    rw [value, h1];simp only [hw]
    unfold text;rw [quoted_at h O.valid]
  rw [if_neg k4] at h ⊢;have i1 := O.is (by omega);obtain ⟨i2, i3, i4⟩ := O.num (by omega);have i5 := O.text (by omega);subst i1 i2 i3 i4 i5;have hrd : ∀ u ∈ vs, GoodQ u /\ ReadsV l (value l d) (dp + 1) u := fun u hu => by
    obtain ⟨j, hj, rfl⟩ := List.getElem_of_mem hu;refine ⟨hv j hj, ih j hj l d (dp + 1) ?_⟩;rw [deepN_mk, if_pos (by omega)] at hd;exact (deepNs_le vs d).1 (by omega) _ hu
  have hlen : vs.length <= l.length := by
    by_cases h0 : vs.length = 0
    · omega
    rw [if_neg h0] at h;have h1 := congrArg List.length h;have h2 := kids_ge false dp (decide (k = 6)) ks vs 0;simp only [List.length_append, List.length_drop] at h1
    omega
  by_cases k6 : k = 6
  · subst k6;have hw : way 123 = 3 := by decide
    have hkl := O.both rfl;by_cases h0 : vs.length = 0
    · rw [if_pos h0] at h ⊢;have e1 := List.length_eq_zero_iff.1 h0;have e2 : ks = [] := List.length_eq_zero_iff.1 (by omega);subst e1 e2;have h' : l.drop p = 123 :: 125 :: post := h;rw [value, get_at h'];simp only [hw]
      unfold object;rw [skip_at (drop_one_at h') (by decide), if_pos (get_at (drop_one_at h'))]
      rfl
    · rw [if_neg h0] at h ⊢
      cases vs with
      | nil => exact absurd rfl h0
      | cons v vs =>
        have hk : kidsP false dp true ks 0 (v :: vs) = 123 :: (keyP false true ks 0 ++ (v.print false (dp + 1) ++ kidsP false dp true ks (0 + 1) vs)) := by
          rw [kidsP_cons, if_pos rfl];simp [lineP, firstP]
        have h' : l.drop p = 123 :: (keyP false true ks 0 ++ (v.print false (dp + 1) ++ (kidsP false dp true ks (0 + 1) vs ++ 125 :: post))) := by
          rw [h];simp only [decide_true]
          rw [hk];simp [lineP, lastP]
        have h1 := drop_one_at h';have h34 : ∃ r, keyP false true ks 0 = 34 :: r := ⟨_, rfl⟩;obtain ⟨r, hr⟩ := h34;have hsk : skip l (p + 1) = p + 1 := skip_at (c := 34) (t := r ++ (v.print false (dp + 1) ++ (kidsP false dp true ks (0 + 1) vs ++ 125 :: post))) (by rw [h1, hr]; rfl) (by decide);have hg1 : l[p + 1]? = some 34 := get_at (t := r ++ (v.print false (dp + 1) ++ (kidsP false dp true ks (0 + 1) vs ++ 125 :: post))) (by rw [h1, hr]; rfl);have hm := members_print l (value l d) dp post ks O.apart O.words vs v 0 (l.length + 1) (p + 1) [] (by simp at hkl; omega) (by simp at hlen; omega) hrd h1;rw [List.take_zero] at hm;rw [value, get_at h'];simp only [hw]
        unfold object;rw [hsk, hg1, if_neg (by decide), hm];simp only [decide_true, List.nil_append]
        rw [hk];unfold objectOf;simp only [lineP, lastP, List.length_cons, List.length_append, List.length_nil]
        congr 2
        simp
        omega
  · have k5 : k = 5 := by omega
    subst k5;have hw : way 91 = 4 := by decide
    have i6 := O.noKeys (by omega);subst i6;by_cases h0 : vs.length = 0
    · rw [if_pos h0] at h ⊢;have e1 := List.length_eq_zero_iff.1 h0;subst e1;have h' : l.drop p = 91 :: 93 :: post := h;rw [value, get_at h'];simp only [hw]
      unfold list;rw [skip_at (drop_one_at h') (by decide), if_pos (get_at (drop_one_at h'))]
      rfl
    · rw [if_neg h0] at h ⊢
      cases vs with
      | nil => exact absurd rfl h0
      | cons v vs =>
        have hk : kidsP false dp false [] 0 (v :: vs) = 91 :: (v.print false (dp + 1) ++ kidsP false dp false [] (0 + 1) vs) := by
          rw [kidsP_cons, if_pos rfl];simp [lineP, firstP, keyP]
        have h' : l.drop p = 91 :: (v.print false (dp + 1) ++ (kidsP false dp false [] (0 + 1) vs ++ 93 :: post)) := by
          rw [h];have : decide ((5 : Int) = 6) = false := by decide
          rw [this, hk];simp [lineP, lastP]
        have h1 := drop_one_at h';obtain ⟨c, r, hc, hb, hw0⟩ := print_head v (hrd v (List.mem_cons_self ..)).1 (dp + 1);have hsk : skip l (p + 1) = p + 1 := skip_at (c := c) (t := r ++ (kidsP false dp false [] (0 + 1) vs ++ 93 :: post)) (by rw [h1, hc]; rfl) hb;have hm := items_print l (value l d) dp post vs v 0 (l.length + 1) (p + 1) [] (by simp at hlen; omega) hrd h1;have hn93 : ¬ l[p + 1]? = some 93 := by
          rw [get_at (c := c) (t := r ++ (kidsP false dp false [] (0 + 1) vs ++ 93 :: post)) (by rw [h1, hc]; rfl)];intro e
          injection e with e
          subst e;exact hw0 (by decide)
        rw [value, get_at h'];simp only [hw]
        unfold list;rw [hsk, if_neg hn93, hm];have : decide ((5 : Int) = 6) = false := by decide
        rw [this, hk];unfold listOf;simp only [List.nil_append, lineP, lastP, List.length_cons, List.length_append, List.length_nil]
        congr 2
        simp
        omega
end Go.Proofs.YtfdjolfenghmaaaGreatDoor.Jdec
namespace Go.Proofs.YtfdjolfenghmaaaGreatDoor.Num
end Go.Proofs.YtfdjolfenghmaaaGreatDoor.Num
namespace Go.Proofs.YtfdjolfenghmaaaGreatDoor.Jdec
theorem txt_valid2 {l : List UInt8} (h : Utf.Txt l) : Utf.validB l = true := by
  unfold Utf.validB;rw [h.good]; rfl
/-! Sorted, it stays as it is. -/
end Go.Proofs.YtfdjolfenghmaaaGreatDoor.Jdec
