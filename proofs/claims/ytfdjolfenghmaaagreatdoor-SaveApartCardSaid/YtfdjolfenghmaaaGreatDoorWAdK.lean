/- Addresses in plain Lean: prints, what is read of a text; a print is read as what it was. -/
import Derived.Test.YtfdjolfenghmaaaGreatDoorWAdF
import Derived.Test.YtfdjolfenghmaaaGreatDoorWRtC
import Derived.Lib.ParseIntB
import Derived.Lib.IndexBytes
import Derived.Lib.IndexMore
import Derived.Lib.Split
set_option linter.unusedVariables false
set_option linter.unusedSimpArgs false
namespace Go.Proofs.YtfdjolfenghmaaaGreatDoor.Addr
open Go.RowKit Utf Lex
/-! ## Numbers -/
def numR : Nat -> List UInt8 -> Option Nat
  | n, [] => some n
  | n, c :: r => if 48 <= c.toNat /\ c.toNat <= 57 then (if 18446744073709551615 < n * 10 + (c.toNat - 48) then none else numR (n * 10 + (c.toNat - 48)) r) else none
def noughts (l : List UInt8) : Bool := l.isEmpty || (l.head? == some 48 && decide (1 < l.length))
def numB (l : List UInt8) : Option Nat := if noughts l then none else numR 0 l
theorem numR_append : ∀ (a b : List UInt8) (n : Nat), numR n (a ++ b) = (numR n a).bind fun m => numR m b := by
  intro a
  induction a with
  | nil => intro b n; rfl
  | cons c a ih =>
    intro b n
    rw [List.cons_append, numR, numR];split
    · split
      · rfl
      · exact ih _ _
    · rfl
theorem dig_nat (d : Nat) (h : d < 10) : (UInt8.ofNat (48 + d)).toNat = 48 + d := by
  rw [UInt8.toNat_ofNat']; omega
theorem numR_one (n d : Nat) (h : d < 10) (hn : n * 10 + d <= 18446744073709551615) : numR n [UInt8.ofNat (48 + d)] = some (n * 10 + d) := by
  rw [numR, dig_nat d h, if_pos (by omega), show 48 + d - 48 = d by omega, if_neg (by omega)]; rfl
theorem numR_dec : ∀ u, u <= 18446744073709551615 -> numR 0 (Lib.decDigits u) = some u := by
  intro u
  induction u using Nat.strongRecOn with
  | ind u ih =>
    intro h
    by_cases hu : u < 10
    · rw [Lib.decDigits, dif_pos hu, numR_one 0 u hu (by omega)]; simp
    · rw [Lib.decDigits, dif_neg hu, numR_append, ih (u / 10) (by omega) (by omega)];show numR (u / 10) [UInt8.ofNat (48 + u % 10)] = some u;rw [numR_one _ _ (by omega) (by omega)]
      congr 1; omega
theorem dec_head : ∀ u, 1 <= u -> ∃ c r, Lib.decDigits u = c :: r /\ c ≠ 48 := by
  intro u
  induction u using Nat.strongRecOn with
  | ind u ih =>
    intro h
    by_cases hu : u < 10
    · refine ⟨UInt8.ofNat (48 + u), [], by rw [Lib.decDigits, dif_pos hu], fun e => ?_⟩;have := dig_nat u hu;rw [e] at this;have h48 : (48 : UInt8).toNat = 48 := rfl;omega
    · obtain ⟨c, r, h1, h2⟩ := ih (u / 10) (by omega) (by omega);exact ⟨c, r ++ [UInt8.ofNat (48 + u % 10)], by rw [Lib.decDigits, dif_neg hu, h1]; rfl, h2⟩
theorem noughts_dec (u : Nat) : noughts (Lib.decDigits u) = false := by
  by_cases hu : u = 0
  · subst hu; rw [Lib.decDigits, dif_pos (by omega)]; rfl
  · obtain ⟨c, r, h1, h2⟩ := dec_head u (by omega);rw [h1];simp [noughts, h2]
theorem numB_dec (u : Nat) (h : u <= 18446744073709551615) : numB (Lib.decDigits u) = some u := by rw [numB, noughts_dec, if_neg (by simp), numR_dec u h]
def digitsP (l : List UInt8) : Option Nat :=
  if noughts l then none
  else if l.all Num.isDigit then (match Lib.parseUintB 64 l with | .ok u => some u | _ => none) else none
theorem isDigit_iff (c : UInt8) : Num.isDigit c = true ↔ 48 <= c.toNat /\ c.toNat <= 57 := by simp [Num.isDigit]
theorem numR_bad : ∀ (l : List UInt8) (n : Nat), l.all Num.isDigit = false -> numR n l = none := by
  intro l
  induction l with
  | nil => intro n h; cases h
  | cons c l ih =>
    intro n h
    rw [numR];rw [List.all_cons] at h
    cases hc : Num.isDigit c with
    | false => rw [if_neg (by rw [<-isDigit_iff, hc]; simp)]
    | true =>
      rw [hc] at h;split
      · split
        · rfl
        · exact ih _ (by simpa using h)
      · rfl
theorem numR_uint : ∀ (l : List UInt8) (n : Nat), l.all Num.isDigit = true -> numR n l = (match Lib.parseUintM (2 ^ 64 - 1) n l with | .ok u => some u | _ => none) := by
  intro l
  induction l with
  | nil => intro n h; rfl
  | cons c l ih =>
    intro n h
    rw [List.all_cons, Bool.and_eq_true] at h;have hc := (isDigit_iff c).1 h.1;rw [numR, Lib.parseUintM, if_pos hc, if_pos hc];have e64 : (2 : Nat) ^ 64 - 1 = 18446744073709551615 := by decide
    rw [e64];by_cases h1 : 18446744073709551615 < n * 10 + (c.toNat - 48)
    · rw [if_pos h1, if_pos h1];split <;> simp_all
    · rw [if_neg h1, if_neg h1, if_neg (by omega), ih _ h.2, e64]
theorem digits_eq (l : List UInt8) : digitsP l = numB l := by
  unfold digitsP numB
  cases hn : noughts l with
  | true => rfl
  | false =>
    simp only [Bool.false_eq_true, if_false]
    cases ha : l.all Num.isDigit with
    | false =>
      simp only [Bool.false_eq_true, if_false]
      exact (numR_bad l 0 ha).symm
    | true =>
      have h0 : l ≠ [] := by rintro rfl; cases hn
      simp only [if_true]
      rw [Lib.parseUintB, if_neg h0, numR_uint l 0 ha]
/-! ## Names -/
theorem comment_kind (k : Nat) (l : List UInt8) : (comment k l).1 = 0 ∨ (comment k l).1 = k := by unfold comment; split <;> simp
theorem next_one {l : List UInt8} (h : (next l).1 = 1) : letterB (byt l 0) = true := by
  cases hb : letterB (byt l 0) with
  | true => rfl
  | false =>
    exfalso
    unfold next at h;rw [hb] at h;simp only [Bool.false_eq_true, if_false] at h
    split at h
    · unfold decimal at h;split at h <;> simp at h
    split at h
    · split at h <;> simp at h
    split at h
    · simp at h
    split at h
    · unfold remark at h;rcases comment_kind 6 ((line l).reverse.dropWhile ([32, 9, 13].contains ·)).reverse with e | e <;> rw [e] at h <;> omega
    split at h
    · unfold aside at h;split at h
      · simp at h
      · split at h
        · simp at h
        · rcases comment_kind 7 (l.take ((Lib.index (l.drop 2) [42, 47]).toNat + 4)) with e | e <;> rw [e] at h <;> omega
    split at h <;> simp at h
theorem ident_in {l : List UInt8} (h : identB l = true) : ∀ c ∈ l, inId c = true := by
  have ht := ident_toks l h;by_cases h0 : l.length = 0
  · intro c hc; rw [List.length_eq_zero_iff.1 h0] at hc; cases hc
  have hlt : 0 < l.length := by omega
  cases hb : Lex.blank l[0] with
  | true =>
    rw [toksAt_blank l 0 hlt hb] at ht;have h1 := first_len l l.length (0 + 1) (by omega) (by omega) (1, l, 0) [] (by rw [ht]);simp only [] at h1
    omega
  | false =>
    by_cases he : (next (l.drop 0)).2.2.2 = 0
    · have hk := toksAt_tok l 0 hlt hb he;rw [hk] at ht;simp only [List.drop_zero, Prod.mk.injEq, List.cons.injEq] at ht
      have hl := next_one ht.1.1.1;have hn : next l = (1, ident l, 0, 0) := by unfold next; rw [if_pos hl]
      have h2 := congrArg List.length ht.1.1.2.1;rw [hn] at h2;simp only [List.length_take] at h2
      obtain ⟨c0, t, rfl⟩ : ∃ c t, l = c :: t := by
        cases l with
        | nil => simp at hlt
        | cons c t => exact ⟨c, t, rfl⟩
      have h3 : ident (c0 :: t) = 1 + (t.takeWhile inId).length := rfl;rw [h3, List.length_cons] at h2;have hp := List.takeWhile_prefix (l := t) inId;have h4 : (t.takeWhile inId).length = t.length := by have := hp.length_le; omega
      have h5 := hp.eq_of_length h4;intro c hc
      rcases List.mem_cons.1 hc with rfl | hc
      · have : letterB c.toNat = true := hl;rw [inId, this]; rfl
      · have := List.all_takeWhile (p := inId) (l := t);rw [h5] at this;exact List.all_eq_true.1 this c hc
    · rw [toksAt_bad l 0 hlt hb he] at ht;simp at ht
theorem ident_no {l : List UInt8} (h : identB l = true) (m : UInt8) (hm : inId m = false) : ∀ c ∈ l, c ≠ m := fun c hc e => by
  have := ident_in h c hc;rw [e, hm] at this; cases this
theorem no_dot : inId 46 = false := by decide
theorem no_open : inId 91 = false := by decide
/-! ## Prints -/
def modL (k : ByteArray) : List UInt8 := moduleL ++ 46 :: (k.data.toList ++ [46])
def pathL (ks : List ByteArray) : List UInt8 := ks.flatMap modL
def headL (ks : List ByteArray) (ty nm : List UInt8) : List UInt8 := pathL ks ++ (ty ++ 46 :: nm)
def keyL (a : Adr) : List UInt8 :=
  if a.key = 1 then 91 :: (Lib.decDigits a.place ++ [93])
  else if a.key = 2 then 91 :: (Quote.qprint a.word.data.toList ++ [93])
  else []
def printR (a : Adr) : List UInt8 := headL a.path a.type.data.toList a.name.data.toList ++ keyL a
def printA (a : Adr) : List UInt8 := if rightA a then printR a else []
/-! ## Cuts -/
def cutB (c : UInt8) : List UInt8 -> Option (List UInt8 × List UInt8)
  | [] => none
  | x :: t => if x = c then some ([], t) else match cutB c t with
    | none => none
    | some (a, b) => some (x :: a, b)
theorem cutB_at {c : UInt8} : ∀ (a b : List UInt8), (∀ x ∈ a, x ≠ c) -> cutB c (a ++ c :: b) = some (a, b) := by
  intro a
  induction a with
  | nil => intro b _; rw [List.nil_append, cutB, if_pos rfl]
  | cons x a ih =>
    intro b h
    rw [List.cons_append, cutB, if_neg (h x (by simp)), ih b (fun y hy => h y (by simp [hy]))]
theorem cutB_some {c : UInt8} : ∀ {l a b : List UInt8}, cutB c l = some (a, b) -> l = a ++ c :: b /\ ∀ x ∈ a, x ≠ c := by
  intro l
  induction l with
  | nil => intro a b h; cases h
  | cons x t ih =>
    intro a b h
    rw [cutB] at h;by_cases hx : x = c
    · rw [if_pos hx] at h;injection h with h; injection h with h1 h2
      subst h1 h2 hx;exact ⟨rfl, by simp⟩
    · rw [if_neg hx] at h
      cases hc : cutB c t with
      | none => rw [hc] at h; cases h
      | some y =>
        obtain ⟨a', b'⟩ := y;rw [hc] at h;injection h with h; injection h with h1 h2
        subst h1 h2;obtain ⟨e1, e2⟩ := ih hc;exact ⟨by rw [e1]; rfl, fun y hy => by rcases List.mem_cons.1 hy with rfl | hy; exact hx; exact e2 y hy⟩
/-! ## Keys -/
def keyR : List UInt8 -> Option (Int × Nat × ByteArray)
  | [] => some (0, 0, ⟨#[]⟩)
  | _ :: m => if m.getLast? = some 93 then (match numB m.dropLast with
      | some n => some (1, n, ⟨#[]⟩)
      | none => match Quote.scan m.dropLast with
        | .ok (s, k) => if k = m.dropLast.length then some (2, 0, ⟨s.toArray⟩) else none
        | .error _ => none)
    else none
def innerP (m : List UInt8) : Option (Int × Nat × ByteArray) :=
  if byt m 0 = 34 then (match Quote.scan m with
    | .ok (s, k) => if k < m.length then none else some (2, 0, ⟨s.toArray⟩)
    | .error _ => none)
  else match digitsP m with
    | some n => some (1, n, ⟨#[]⟩)
    | none => none
def keyP (t : List UInt8) : Option (Int × Nat × ByteArray) :=
  if t = [] then some (0, 0, ⟨#[]⟩)
  else if t.length < 3 ∨ byt t 0 ≠ 91 ∨ byt t (t.length - 1) ≠ 93 then none
  else innerP ((t.drop 1).dropLast)
theorem scan_no {l : List UInt8} (h : byt l 0 ≠ 34) : ∃ e, Quote.scan l = .error e := by
  unfold Quote.scan;by_cases h0 : l.length = 0
  · exact ⟨_, by rw [if_pos h0]⟩
  · exact ⟨_, by rw [if_neg h0, if_pos h]⟩
theorem inner_eq (m : List UInt8) (h : m ≠ []) : innerP m = (match numB m with
      | some n => some (1, n, ⟨#[]⟩)
      | none => match Quote.scan m with
        | .ok (s, k) => if k = m.length then some (2, 0, ⟨s.toArray⟩) else none
        | .error _ => none) := by
  unfold innerP;rw [digits_eq];by_cases hq : byt m 0 = 34
  · rw [if_pos hq];have hn : numB m = none := by
      cases m with
      | nil => exact absurd rfl h
      | cons c r =>
        have hc : c.toNat = 34 := hq;rw [numB];split
        · rfl
        · rw [numR, if_neg (by omega)]
    rw [hn]
    cases hs : Quote.scan m with
    | error e => rfl
    | ok y =>
      obtain ⟨s, k⟩ := y;have hf := (Jdec.quote_fits hs).2.1;simp only []
      by_cases hk : k = m.length
      · rw [if_pos hk, if_neg (by omega)]
      · rw [if_neg hk, if_pos (by omega)]
  · rw [if_neg hq];obtain ⟨e, he⟩ := scan_no hq;rw [he]
theorem byt_last (m : List UInt8) (c : UInt8) : byt (m ++ [c]) ((m ++ [c]).length - 1) = c.toNat := by
  unfold byt;simp
theorem toNat_ne {a b : UInt8} (h : a ≠ b) : a.toNat ≠ b.toNat := fun e => h (UInt8.toNat_inj.1 e)
theorem keyP_eq (t : List UInt8) (h : t = [] ∨ t.head? = some 91) : keyP t = keyR t := by
  rcases h with rfl | h
  · rfl
  cases t with
  | nil => cases h
  | cons c m =>
    injection h with h
    subst h;rw [keyP, if_neg (by simp), keyR];rcases List.eq_nil_or_concat m with rfl | ⟨m', z, rfl⟩
    · rw [if_pos (.inl (by simp))]; rfl
    · rw [List.concat_eq_append];have hb : byt (91 :: (m' ++ [z])) ((91 :: (m' ++ [z])).length - 1) = z.toNat := byt_last (91 :: m') z;have h0 : byt (91 :: (m' ++ [z])) 0 = 91 := rfl;have hl : (m' ++ [z]).getLast? = some z := by simp
      have hd : (m' ++ [z]).dropLast = m' := by simp
      rw [hb, h0, hl, hd, show ((91 : UInt8) :: (m' ++ [z])).drop 1 = m' ++ [z] from rfl, hd];by_cases hz : z = 93
      · subst hz;rw [if_pos rfl]
        cases m' with
        | nil =>
          rw [if_pos (.inl (by simp))];rw [show numB [] = none from rfl];obtain ⟨e, he⟩ := scan_no (l := []) (by decide);rw [he]
        | cons x r =>
          rw [if_neg (by simp), inner_eq _ (by simp)]
      · rw [if_pos (.inr (.inr (toNat_ne hz))), if_neg (by simpa using hz)]
def upTo91 (l : List UInt8) : List UInt8 := l.takeWhile (· != 91)
def from91 (l : List UInt8) : List UInt8 := l.dropWhile (· != 91)
theorem up_from (l : List UInt8) : upTo91 l ++ from91 l = l := List.takeWhile_append_dropWhile
theorem from_head : ∀ l : List UInt8, from91 l = [] ∨ (from91 l).head? = some 91 := by
  intro l
  induction l with
  | nil => exact .inl rfl
  | cons c t ih =>
    unfold from91;rw [List.dropWhile_cons];by_cases hc : c = 91
    · subst hc; exact .inr rfl
    · rw [if_pos (by simpa using hc)]; exact ih
theorem up_at : ∀ (a t : List UInt8), (∀ c ∈ a, c ≠ 91) -> (t = [] ∨ t.head? = some 91) -> upTo91 (a ++ t) = a /\ from91 (a ++ t) = t := by
  intro a
  induction a with
  | nil =>
    intro t _ ht
    rcases ht with rfl | ht
    · exact ⟨rfl, rfl⟩
    · cases t with
      | nil => cases ht
      | cons c t => injection ht with ht; subst ht; exact ⟨rfl, rfl⟩
  | cons c a ih =>
    intro t h ht
    have hc : (c != 91) = true := by simpa using h c (by simp)
    obtain ⟨e1, e2⟩ := ih t (fun y hy => h y (by simp [hy])) ht;unfold upTo91 from91 at *;rw [List.cons_append, List.takeWhile_cons, List.dropWhile_cons, if_pos hc, if_pos hc, e1, e2];exact ⟨rfl, rfl⟩
def adrOf (ks : List ByteArray) (ty nm : List UInt8) (k : Int × Nat × ByteArray) : Adr := ⟨ks, ⟨ty.toArray⟩, ⟨nm.toArray⟩, k.1, k.2.1, k.2.2⟩
def rightO (a : Adr) : Option Adr := if rightA a then some a else none
theorem adrOf_self (a : Adr) : adrOf a.path a.type.data.toList a.name.data.toList (a.key, a.place, a.word) = a := rfl
theorem rightO_some {a b : Adr} (h : rightO a = some b) : a = b /\ rightA a = true := by
  unfold rightO at h;split at h
  · injection h with h; exact ⟨h, by assumption⟩
  · cases h
/-! ## The program's way -/
def pathP : Nat -> List ByteArray -> List UInt8 -> Option (List ByteArray × List UInt8 × List UInt8)
  | 0, _, _ => none
  | n + 1, ks, l => match cutB 46 l with
    | none => none
    | some (w, r) => if w = moduleL then (match cutB 46 r with
        | none => none
        | some (x, r') => if ks.length = 20 then none else pathP n (ks ++ [⟨x.toArray⟩]) r')
      else some (ks, w, r)
def parseP (l : List UInt8) : Option Adr := match pathP 22 [] l with
  | none => none
  | some (ks, w, r) => match keyP (from91 r) with
    | none => none
    | some k => rightO (adrOf ks w (upTo91 r) k)
/-! ## The document's way -/
def Reads (l : List UInt8) (a : Adr) : Prop := rightA a = true /\ ∃ t, l = headL a.path a.type.data.toList a.name.data.toList ++ t /\ (t = [] ∨ t.head? = some 91) /\ keyR t = some (a.key, a.place, a.word)
theorem modL_cons (k : ByteArray) (ks : List ByteArray) (r : List UInt8) : pathL (k :: ks) ++ r = moduleL ++ 46 :: (k.data.toList ++ 46 :: (pathL ks ++ r)) := by
  simp [pathL, modL]
theorem pathP_some : ∀ (n : Nat) (ks : List ByteArray) (l : List UInt8) (ks' : List ByteArray) (w r : List UInt8), pathP n ks l = some (ks', w, r) -> ∃ ms, ks' = ks ++ ms /\ l = pathL ms ++ (w ++ 46 :: r) := by
  intro n
  induction n with
  | zero => intro ks l ks' w r h; cases h
  | succ n ih =>
    intro ks l ks' w r h
    rw [pathP] at h
    cases hc : cutB 46 l with
    | none => rw [hc] at h; cases h
    | some y =>
      obtain ⟨a, b⟩ := y;obtain ⟨e1, _⟩ := cutB_some hc;rw [hc] at h;simp only [] at h
      split at h
      · rename_i hm
        cases hc2 : cutB 46 b with
        | none => rw [hc2] at h; cases h
        | some z =>
          obtain ⟨x, r'⟩ := z;obtain ⟨e2, _⟩ := cutB_some hc2;rw [hc2] at h;simp only [] at h
          split at h
          · cases h
          · obtain ⟨ms, h1, h2⟩ := ih _ _ _ _ _ h;refine ⟨⟨x.toArray⟩ :: ms, by rw [h1]; simp, ?_⟩;rw [modL_cons, <-h2, e1, hm, e2]
      · injection h with h; injection h with h1 h; injection h with h2 h3
        subst h1 h2 h3;exact ⟨[], by simp, e1⟩
theorem moduleL_no : ∀ c ∈ moduleL, c ≠ 46 /\ c ≠ 91 := by decide
theorem pathP_at : ∀ (ms : List ByteArray) (n : Nat) (ks : List ByteArray) (w r : List UInt8), ms.length < n -> ks.length + ms.length <= 20 -> (∀ k ∈ ms, ∀ c ∈ k.data.toList, c ≠ 46) -> (∀ c ∈ w, c ≠ 46) -> w ≠ moduleL →
    pathP n ks (pathL ms ++ (w ++ 46 :: r)) = some (ks ++ ms, w, r) := by
  intro ms
  induction ms with
  | nil =>
    intro n ks w r h1 h2 h3 h4 h5
    obtain ⟨n, rfl⟩ : ∃ m, n = m + 1 := ⟨n - 1, by simp at h1; omega⟩;rw [pathP, show pathL [] ++ (w ++ 46 :: r) = w ++ 46 :: r from rfl, cutB_at w r h4];simp [h5]
  | cons k ms ih =>
    intro n ks w r h1 h2 h3 h4 h5
    obtain ⟨n, rfl⟩ : ∃ m, n = m + 1 := ⟨n - 1, by simp at h1; omega⟩;simp only [List.length_cons] at h1 h2
    rw [pathP, modL_cons, cutB_at _ _ (fun c hc => (moduleL_no c hc).1)];simp only [if_true]
    rw [cutB_at _ _ (h3 k (by simp))];simp only []
    rw [if_neg (by omega), Jdec.str_back, ih n (ks ++ [k]) w r (by omega) (by simp; omega) (fun x hx => h3 x (by simp [hx])) h4 h5];simp
structure Parts (a : Adr) : Prop where
  len : a.path.length <= 20
  path : ∀ k ∈ a.path, identB k.data.toList = true
  type : identB a.type.data.toList = true
  name : identB a.name.data.toList = true
  mod : a.type.data.toList ≠ moduleL
  key : keyA a = true
theorem right_parts {a : Adr} (h : rightA a = true) : Parts a := by
  unfold rightA at h;simp only [Bool.and_eq_true, Bool.not_eq_true', decide_eq_true_eq, beq_eq_false_iff_ne] at h
  obtain ⟨⟨⟨⟨h1, h2⟩, h3⟩, h4⟩, h5⟩ := h;unfold identsB at h3 h4;simp only [List.all_cons, List.all_nil, Bool.and_true, Bool.and_eq_true] at h3
  exact ⟨h2, fun k hk => List.all_eq_true.1 h4 k hk, h3.1, h3.2, fun e => h1 (by rw [ByteArray.toList_eq]; exact e), h5⟩
theorem parseP_iff (l : List UInt8) (a : Adr) : parseP l = some a ↔ Reads l a := by
  constructor
  · intro h
    unfold parseP at h
    cases hp : pathP 22 [] l with
    | none => rw [hp] at h; cases h
    | some y =>
      obtain ⟨ks, w, r⟩ := y;rw [hp] at h;simp only [] at h
      cases hk : keyP (from91 r) with
      | none => rw [hk] at h; cases h
      | some k =>
        rw [hk] at h;obtain ⟨rfl, h2⟩ := rightO_some h;obtain ⟨ms, h3, h4⟩ := pathP_some _ _ _ _ _ _ hp;rw [keyP_eq _ (from_head r)] at hk;refine ⟨h2, from91 r, ?_, from_head r, hk⟩;rw [List.nil_append] at h3;subst h3;show l = pathL ks ++ (w ++ 46 :: upTo91 r) ++ from91 r;rw [h4];conv => lhs; rw [<-up_from r]
        simp
  · rintro ⟨hr, t, rfl, ht, hk⟩;have P := right_parts hr;unfold parseP;have e : headL a.path a.type.data.toList a.name.data.toList ++ t = pathL a.path ++ (a.type.data.toList ++ 46 :: (a.name.data.toList ++ t)) := by simp [headL]
    rw [e, pathP_at a.path 22 [] _ _ (by have := P.len; omega) (by have := P.len; simpa using this) (fun k hk => ident_no (P.path k hk) 46 no_dot) (ident_no P.type 46 no_dot) P.mod];obtain ⟨e1, e2⟩ := up_at a.name.data.toList t (ident_no P.name 91 no_open) ht;simp only []
    rw [e2, e1, keyP_eq t ht, hk];simp only [List.nil_append]
    rw [adrOf_self, rightO, if_pos hr]
theorem bytes_empty {x : ByteArray} (h : x.toList.isEmpty = true) : x = ⟨#[]⟩ := by
  rw [ByteArray.toList_eq, List.isEmpty_iff] at h;have := Jdec.str_back x;rw [h] at this;exact this.symm
theorem keyR_print (a : Adr) (h : keyA a = true) (hp : a.place <= 18446744073709551615) : keyR (keyL a) = some (a.key, a.place, a.word) := by
  unfold keyA at h;unfold keyL;split at h
  · rename_i h0
    simp only [Bool.and_eq_true, beq_iff_eq] at h
    rw [if_neg (by omega), if_neg (by omega), h0, h.1, bytes_empty h.2]; rfl
  · split at h
    · rename_i h0 h1
      have hla : (Lib.decDigits a.place ++ [(93 : UInt8)]).getLast? = some 93 := by simp
      rw [if_pos h1, keyR, hla, if_pos rfl, List.dropLast_concat, numB_dec _ hp, h1, bytes_empty h]
    · split at h
      · rename_i h0 h1 h2
        simp only [Bool.and_eq_true, beq_iff_eq] at h
        have hv : validB a.word.data.toList = true := by rw [<-badZ_neg]; exact h.2
        have hs := Quote.scan_print hv [];rw [List.append_nil] at hs;have hq : numB (Quote.qprint a.word.data.toList) = none := by
          have : Quote.qprint a.word.data.toList = 34 :: (a.word.data.toList.flatMap Quote.qp ++ [34]) := rfl;rw [this, numB];split
          · rfl
          · rw [numR, if_neg (by decide)]
        have hla : (Quote.qprint a.word.data.toList ++ [(93 : UInt8)]).getLast? = some 93 := by simp
        rw [if_neg h1, if_pos h2, keyR, hla, if_pos rfl, List.dropLast_concat, hq, hs];simp only [if_true]
        rw [h2, h.1, Jdec.str_back]
      · cases h
theorem keyL_head (a : Adr) : keyL a = [] ∨ (keyL a).head? = some 91 := by
  unfold keyL;split
  · exact .inr rfl
  · split
    · exact .inr rfl
    · exact .inl rfl
theorem reads_print {a : Adr} (h : rightA a = true) (hp : a.place <= 18446744073709551615) : Reads (printA a) a := by
  rw [printA, if_pos h];exact ⟨h, keyL a, rfl, keyL_head a, keyR_print a (right_parts h).key hp⟩
theorem parse_print {a : Adr} (h : rightA a = true) (hp : a.place <= 18446744073709551615) : parseP (printA a) = some a := (parseP_iff _ _).2 (reads_print h hp)
theorem print_inj {a b : Adr} (ha : rightA a = true) (hb : rightA b = true) (hpa : a.place <= 18446744073709551615) (hpb : b.place <= 18446744073709551615) (h : printA a = printA b) : a = b := by
  have h1 := parse_print ha hpa;rw [h, parse_print hb hpb] at h1;injection h1 with h1; exact h1.symm
/-! ## Older texts -/
/-! ## Compared -/
theorem compare_neg : ∀ a b : List UInt8, Lib.compareBytes b a = -Lib.compareBytes a b := by
  intro a
  induction a with
  | nil => intro b; cases b <;> simp [Lib.compareBytes]
  | cons x a ih =>
    intro b
    cases b with
    | nil => simp [Lib.compareBytes]
    | cons y b =>
      rw [Lib.compareBytes, Lib.compareBytes];by_cases h1 : x < y
      · have h2 : ¬ y < x := fun h => by have h1' := UInt8.lt_iff_toNat_lt.1 h1; have h' := UInt8.lt_iff_toNat_lt.1 h; omega
        rw [if_neg h2, if_pos h1, if_pos h1]; rfl
      · by_cases h2 : y < x
        · rw [if_pos h2, if_neg h1, if_pos h2]
        · rw [if_neg h2, if_neg h1, if_neg h1, if_neg h2, ih b]
end Go.Proofs.YtfdjolfenghmaaaGreatDoor.Addr
