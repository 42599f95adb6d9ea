/- What package save makes of a state, in plain Lean: the tree; two states with one tree are one. -/
import Derived.Test.YtfdjolfenghmaaaGreatDoorWOpS
import Derived.Lib.Join
import Derived.Lib.TrimByte
set_option linter.unusedVariables false
set_option linter.unusedSimpArgs false
set_option maxRecDepth 100000
namespace Go.Proofs.YtfdjolfenghmaaaGreatDoor.Save
open Go.Proofs.YtfdjolfenghmaaaGreatDoor.Addr Go.Proofs.YtfdjolfenghmaaaGreatDoor.State Jdec
/-! ## Groups of records -/
abbrev Key := ByteArray × ByteArray × ByteArray × ByteArray
def joinP (ks : List ByteArray) : ByteArray := ⟨(Lib.join (ks.map (·.data.toList)) [46]).toArray⟩
def keyR (r : Rec) : Key := (joinP r.a.path, r.a.type, r.a.name, r.prov)
def keyG (g : List Rec) : Option Key := g.head?.map keyR
def placeG (gs : List (List Rec)) (k : Key) : Option Nat := gs.findIdx? (fun g => decide (keyG g = some k))
def addG (gs : List (List Rec)) (r : Rec) : List (List Rec) :=
  match placeG gs (keyR r) with
  | some i => gs.set i (gs.getD i [] ++ [r])
  | none => gs ++ [[r]]
def groups (l : List Rec) : List (List Rec) := l.foldl addG []
theorem groups_snoc (l : List Rec) (r : Rec) : groups (l ++ [r]) = addG (groups l) r := by simp [groups]
theorem groups_take {l : List Rec} {i : Nat} (h : i < l.length) : groups (l.take (i + 1)) = addG (groups (l.take i)) l[i] := by
  rw [<-groups_snoc, List.take_add_one, List.getElem?_eq_getElem h]; rfl
theorem mem_set_iff {α : Type} {l : List α} {i : Nat} (hi : i < l.length) {v x : α} : x ∈ l.set i v ↔ x = v ∨ ∃ j, ∃ hj : j < l.length, j ≠ i /\ l[j] = x := by
  constructor
  · intro h
    obtain ⟨j, hj, e⟩ := List.getElem_of_mem h;rw [List.getElem_set] at e;rw [List.length_set] at hj;by_cases hij : i = j
    · rw [if_pos hij] at e; exact .inl e.symm
    · rw [if_neg hij] at e; exact .inr ⟨j, hj, fun h => hij h.symm, e⟩
  · rintro (rfl | ⟨j, hj, hne, rfl⟩)
    · exact List.mem_of_getElem? (List.getElem?_set_self hi)
    · exact List.mem_of_getElem? (i := j) (by rw [List.getElem?_set_ne (Ne.symm hne), List.getElem?_eq_getElem hj])
structure GInv (l : List Rec) (gs : List (List Rec)) : Prop where
  ne : ∀ g ∈ gs, g ≠ []
  key : ∀ g ∈ gs, ∀ r ∈ g, keyG g = some (keyR r)
  mem : ∀ r, r ∈ l ↔ ∃ g ∈ gs, r ∈ g
  len : gs.length <= l.length
theorem place_some {gs : List (List Rec)} {k : Key} {i : Nat} (h : placeG gs k = some i) : ∃ hi : i < gs.length, keyG gs[i] = some k := by
  obtain ⟨hi, h1, _⟩ := List.findIdx?_eq_some_iff_getElem.1 h;exact ⟨hi, of_decide_eq_true h1⟩
theorem keyG_snoc {g : List Rec} (h : g ≠ []) (r : Rec) : keyG (g ++ [r]) = keyG g := by
  cases g with
  | nil => exact absurd rfl h
  | cons x t => rfl
theorem ginv_add {l : List Rec} {gs : List (List Rec)} (h : GInv l gs) (r : Rec) : GInv (l ++ [r]) (addG gs r) := by
  unfold addG;split
  next i hp =>
    obtain ⟨hi, hk⟩ := place_some hp;have hd : gs.getD i [] = gs[i] := by rw [List.getD_eq_getElem?_getD, List.getElem?_eq_getElem hi]; rfl
    rw [hd];have hm : gs[i] ∈ gs := List.getElem_mem hi;refine ⟨fun g hg => ?_, fun g hg x hx => ?_, fun x => ?_, by simp only [List.length_set, List.length_append, List.length_singleton]; have := h.len; omega⟩
    · rcases (mem_set_iff hi).1 hg with rfl | ⟨j, hj, _, rfl⟩
      · simp
      · exact h.ne _ (List.getElem_mem hj)
    · rcases (mem_set_iff hi).1 hg with rfl | ⟨j, hj, _, rfl⟩
      · rw [keyG_snoc (h.ne _ hm)];rcases List.mem_append.1 hx with hx | hx
        · exact h.key _ hm x hx
        · rw [List.mem_singleton.1 hx]; exact hk
      · exact h.key _ (List.getElem_mem hj) x hx
    · constructor
      · intro hx
        rcases List.mem_append.1 hx with hx | hx
        · obtain ⟨g, hg, hxg⟩ := (h.mem x).1 hx;obtain ⟨j, hj, rfl⟩ := List.getElem_of_mem hg;by_cases e : j = i
          · subst e;exact ⟨_, (mem_set_iff hi).2 (.inl rfl), List.mem_append.2 (.inl hxg)⟩
          · exact ⟨_, (mem_set_iff hi).2 (.inr ⟨j, hj, e, rfl⟩), hxg⟩
        · exact ⟨_, (mem_set_iff hi).2 (.inl rfl), List.mem_append.2 (.inr hx)⟩
      · rintro ⟨g, hg, hx⟩;rcases (mem_set_iff hi).1 hg with rfl | ⟨j, hj, _, rfl⟩
        · rcases List.mem_append.1 hx with hx | hx
          · exact List.mem_append.2 (.inl ((h.mem x).2 ⟨_, hm, hx⟩))
          · exact List.mem_append.2 (.inr hx)
        · exact List.mem_append.2 (.inl ((h.mem x).2 ⟨_, List.getElem_mem hj, hx⟩))
  next hp =>
    refine ⟨fun g hg => ?_, fun g hg x hx => ?_, fun x => ?_, by simp only [List.length_append, List.length_singleton]; have := h.len; omega⟩
    · rcases List.mem_append.1 hg with hg | hg
      · exact h.ne g hg
      · rw [List.mem_singleton.1 hg]; simp
    · rcases List.mem_append.1 hg with hg | hg
      · exact h.key g hg x hx
      · rw [List.mem_singleton.1 hg] at hx ⊢;rw [List.mem_singleton.1 hx]; rfl
    · constructor
      · intro hx
        rcases List.mem_append.1 hx with hx | hx
        · obtain ⟨g, hg, hxg⟩ := (h.mem x).1 hx;exact ⟨g, List.mem_append.2 (.inl hg), hxg⟩
        · exact ⟨[r], List.mem_append.2 (.inr (by simp)), hx⟩
      · rintro ⟨g, hg, hx⟩;rcases List.mem_append.1 hg with hg | hg
        · exact List.mem_append.2 (.inl ((h.mem x).2 ⟨g, hg, hx⟩))
        · rw [List.mem_singleton.1 hg] at hx;exact List.mem_append.2 (.inr hx)
theorem ginv_fold : ∀ (m l : List Rec) (gs : List (List Rec)), GInv l gs -> GInv (l ++ m) (m.foldl addG gs)
  | [], l, gs, h => by rw [List.append_nil]; exact h
  | r :: m, l, gs, h => by
    rw [List.foldl_cons, show l ++ r :: m = (l ++ [r]) ++ m by simp];exact ginv_fold m _ _ (ginv_add h r)
theorem ginv (l : List Rec) : GInv l (groups l) := by
  have := ginv_fold l [] [] ⟨(fun g h => by cases h), (fun g h => by cases h), (fun r => ⟨fun h => (by cases h), fun ⟨g, h, _⟩ => (by cases h)⟩), Nat.le_refl _⟩
  rwa [List.nil_append] at this
theorem place_add {l : List Rec} {gs : List (List Rec)} (h : GInv l gs) (r : Rec) (k : Key) :
    placeG (addG gs r) k = match placeG gs (keyR r) with
      | some _ => placeG gs k
      | none => if k = keyR r then some gs.length else placeG gs k := by
  unfold addG
  cases hp : placeG gs (keyR r) with
  | some i =>
    obtain ⟨hi, hk⟩ := place_some hp;simp only []
    have hd : gs.getD i [] = gs[i] := by rw [List.getD_eq_getElem?_getD, List.getElem?_eq_getElem hi]; rfl
    rw [hd];have e : (gs.set i (gs[i] ++ [r])).map keyG = gs.map keyG := by
      rw [List.map_set, keyG_snoc (h.ne _ (List.getElem_mem hi))];apply List.ext_getElem?
      intro j
      by_cases hj : i = j
      · subst hj; rw [List.getElem?_set_self (by simpa using hi), List.getElem?_map, List.getElem?_eq_getElem hi]; rfl
      · rw [List.getElem?_set_ne hj]
    have h1 : ∀ m : List (List Rec), placeG m k = (m.map keyG).findIdx? (fun x => decide (x = some k)) := fun m => by rw [placeG, List.findIdx?_map]; rfl
    rw [h1, h1, e]
  | none =>
    simp only []
    unfold placeG at hp ⊢;rw [List.findIdx?_append];by_cases hk : k = keyR r
    · rw [if_pos hk, hk, hp];simp [keyG]
    · rw [if_neg hk];have : decide (keyG [r] = some k) = false := by
        rw [decide_eq_false_iff_not];intro e
        exact hk (Option.some.inj e).symm
      cases hq : List.findIdx? (fun g => decide (keyG g = some k)) gs with
      | some j => simp
      | none => simp [List.findIdx?_cons, this]
/-! ## Joined names -/
theorem maps_inj {α β : Type} {f : α -> β} (hf : ∀ a b, f a = f b -> a = b) : ∀ {l m : List α}, l.map f = m.map f -> l = m
  | [], [], _ => rfl
  | [], y :: m, h => by simp at h
  | x :: l, [], h => by simp at h
  | x :: l, y :: m, h => by
    rw [List.map_cons, List.map_cons] at h;injection h with h1 h2
    rw [hf _ _ h1, maps_inj hf h2]
def NoDot (l : List UInt8) : Prop := ∀ c ∈ l, c ≠ 46
def Starts (l : List UInt8) : Prop := l = [] ∨ ∃ t, l = 46 :: t
theorem head_inj : ∀ (x y S T : List UInt8), NoDot x -> NoDot y -> Starts S -> Starts T -> x ++ S = y ++ T -> x = y /\ S = T
  | [], [], S, T, _, _, _, _, h => ⟨rfl, h⟩
  | [], b :: y, S, T, _, hy, hS, _, h => by
    rcases hS with rfl | ⟨t, rfl⟩
    · simp at h
    · rw [List.nil_append, List.cons_append] at h;injection h with h1 _
      exact absurd h1.symm (hy b (by simp))
  | a :: x, [], S, T, hx, _, _, hT, h => by
    rcases hT with rfl | ⟨t, rfl⟩
    · simp at h
    · rw [List.nil_append, List.cons_append] at h;injection h with h1 _
      exact absurd h1 (hx a (by simp))
  | a :: x, b :: y, S, T, hx, hy, hS, hT, h => by
    rw [List.cons_append, List.cons_append] at h;injection h with h1 h2
    obtain ⟨e1, e2⟩ := head_inj x y S T (fun c hc => hx c (by simp [hc])) (fun c hc => hy c (by simp [hc])) hS hT h2;exact ⟨by rw [h1, e1], e2⟩
theorem tail_starts (r : List (List UInt8)) : Starts (Lib.joinTail [46] r) := by
  cases r with
  | nil => exact .inl rfl
  | cons y r => exact .inr ⟨y ++ Lib.joinTail [46] r, by simp [Lib.joinTail]⟩
theorem tail_inj : ∀ (r s : List (List UInt8)), (∀ x ∈ r, NoDot x) -> (∀ x ∈ s, NoDot x) -> Lib.joinTail [46] r = Lib.joinTail [46] s -> r = s
  | [], [], _, _, _ => rfl
  | [], y :: s, _, _, h => by simp [Lib.joinTail] at h
  | x :: r, [], _, _, h => by simp [Lib.joinTail] at h
  | x :: r, y :: s, hr, hs, h => by
    have h' : x ++ Lib.joinTail [46] r = y ++ Lib.joinTail [46] s := by simpa [Lib.joinTail] using h
    obtain ⟨e1, e2⟩ := head_inj x y _ _ (hr x (by simp)) (hs y (by simp)) (tail_starts r) (tail_starts s) h';rw [e1, tail_inj r s (fun z hz => hr z (by simp [hz])) (fun z hz => hs z (by simp [hz])) e2]
theorem ident_dot {l : List UInt8} (h : identB l = true) : NoDot l /\ l ≠ [] := by
  refine ⟨ident_no h 46 no_dot, fun e => ?_⟩;rw [e] at h;have := ident_toks [] h;have e := Lex.toksAt_end [];rw [List.length_nil] at e;rw [e] at this;simp at this
theorem joins_inj : ∀ (r s : List (List UInt8)), (∀ x ∈ r, NoDot x /\ x ≠ []) -> (∀ x ∈ s, NoDot x /\ x ≠ []) -> Lib.join r [46] = Lib.join s [46] -> r = s
  | [], [], _, _, _ => rfl
  | [], y :: s, _, hs, h => by
    rw [Lib.join_nil, Lib.join_cons] at h;have := (List.append_eq_nil_iff.1 h.symm).1;exact absurd this (hs y (by simp)).2
  | x :: r, [], hr, _, h => by
    rw [Lib.join_nil, Lib.join_cons] at h;have := (List.append_eq_nil_iff.1 h).1;exact absurd this (hr x (by simp)).2
  | x :: r, y :: s, hr, hs, h => by
    rw [Lib.join_cons, Lib.join_cons] at h;obtain ⟨e1, e2⟩ := head_inj x y _ _ (hr x (by simp)).1 (hs y (by simp)).1 (tail_starts r) (tail_starts s) h;rw [e1, tail_inj r s (fun z hz => (hr z (by simp [hz])).1) (fun z hz => (hs z (by simp [hz])).1) e2]
theorem bytes_inj {a b : ByteArray} (h : a.data.toList = b.data.toList) : a = b := ByteArray.ext (Array.toList_inj.1 h)
theorem joinP_inj {ks ls : List ByteArray} (hk : identsB ks = true) (hl : identsB ls = true) (h : joinP ks = joinP ls) : ks = ls := by
  have hi : ∀ ms : List ByteArray, identsB ms = true -> ∀ x ∈ ms.map (·.data.toList), NoDot x /\ x ≠ [] := fun ms hm x hx => by
    obtain ⟨m, hm1, rfl⟩ := List.mem_map.1 hx;exact ident_dot (List.all_eq_true.1 hm m hm1)
  have h1 : Lib.join (ks.map (·.data.toList)) [46] = Lib.join (ls.map (·.data.toList)) [46] := by
    have := congrArg (fun b : ByteArray => b.data.toList) h
    simpa [joinP] using this
  have h2 := joins_inj _ _ (hi ks hk) (hi ls hl) h1;exact maps_inj (fun a b e => bytes_inj e) h2
/-! ## Whole numbers -/
def ofD (n : Nat) : List UInt8 := Lib.trimRightB (Lib.decDigits n) 48
def ofN (n : Nat) : List UInt8 × Nat := if ofD n = [] then ([], 0) else (ofD n, (Lib.decDigits n).length - (ofD n).length)
theorem trim_split (l : List UInt8) (c : UInt8) : l = Lib.trimRightB l c ++ List.replicate (l.length - (Lib.trimRightB l c).length) c := by
  have h1 : l.reverse = l.reverse.takeWhile (· == c) ++ l.reverse.dropWhile (· == c) := List.takeWhile_append_dropWhile.symm;have h2 : l.reverse.takeWhile (· == c) = List.replicate (l.reverse.takeWhile (· == c)).length c := by
    rw [List.eq_replicate_iff];refine ⟨rfl, fun b hb => ?_⟩;have := List.all_eq_true.1 (List.all_takeWhile (p := (· == c)) (l := l.reverse)) b hb;exact beq_iff_eq.1 this
  have h3 := congrArg List.length h1;rw [List.length_append, List.length_reverse] at h3;unfold Lib.trimRightB;rw [List.length_reverse, show l.length - (l.reverse.dropWhile (· == c)).length = (l.reverse.takeWhile (· == c)).length by omega];conv => lhs; rw [<-List.reverse_reverse l, h1, List.reverse_append, h2]
  simp
theorem drop_head (p : UInt8 -> Bool) : ∀ (l : List UInt8) (c : UInt8) (t : List UInt8), l.dropWhile p = c :: t -> p c = false
  | [], c, t, h => by simp at h
  | x :: l, c, t, h => by
    rw [List.dropWhile_cons] at h;split at h
    · exact drop_head p l c t h
    · injection h with h1 _
      rw [<-h1]
      simpa using ‹¬ p x = true›
theorem dec_inj {n m : Nat} (hn : n <= 18446744073709551615) (hm : m <= 18446744073709551615) (h : Lib.decDigits n = Lib.decDigits m) : n = m := by
  have h1 := numR_dec n hn;rw [h, numR_dec m hm] at h1;exact (Option.some.inj h1).symm
theorem ofD_nil {n : Nat} (h : ofD n = []) : n = 0 := by
  by_cases h0 : n = 0
  · exact h0
  obtain ⟨c, r, h1, h2⟩ := dec_head n (by omega);have h3 := trim_split (Lib.decDigits n) 48;rw [show Lib.trimRightB (Lib.decDigits n) 48 = [] from h, List.nil_append, h1] at h3;have : c ∈ List.replicate ((c :: r).length - ([] : List UInt8).length) 48 := by rw [<-h3]; simp
  exact absurd (List.mem_replicate.1 this).2 h2
theorem ofN_inj {n m : Nat} (hn : n <= 18446744073709551615) (hm : m <= 18446744073709551615) (h : ofN n = ofN m) : n = m := by
  unfold ofN at h;by_cases h1 : ofD n = []
  · by_cases h2 : ofD m = []
    · rw [ofD_nil h1, ofD_nil h2]
    · rw [if_pos h1, if_neg h2] at h;injection h with h3 _
      exact absurd h3.symm h2
  · by_cases h2 : ofD m = []
    · rw [if_neg h1, if_pos h2] at h;injection h with h3 _
      exact absurd h3 h1
    · rw [if_neg h1, if_neg h2] at h;injection h with h3 h4
      refine dec_inj hn hm ?_;rw [trim_split (Lib.decDigits n) 48, trim_split (Lib.decDigits m) 48];show ofD n ++ List.replicate ((Lib.decDigits n).length - (ofD n).length) 48 = ofD m ++ List.replicate ((Lib.decDigits m).length - (ofD m).length) 48;rw [h3, <-h3, h4, h3]
theorem digits_le : ∀ (k u : Nat), u < 10 ^ (k + 1) -> (Lib.decDigits u).length <= k + 1
  | 0, u, h => by rw [Lib.decDigits_one (by omega)]; simp
  | k + 1, u, h => by
    by_cases h1 : u < 10
    · rw [Lib.decDigits_one h1]; simp
    · rw [Lib.decDigits, dif_neg h1, List.length_append, List.length_singleton];have := digits_le k (u / 10) (by rw [Nat.div_lt_iff_lt_mul (by omega)]; rw [Nat.pow_succ] at h; exact h);omega
theorem ofN_right {n : Nat} (hn : n <= 18446744073709551615) : Num.right false (ofN n).1 (ofN n).2 = true := by
  unfold ofN;by_cases h1 : ofD n = []
  · rw [if_pos h1]; rfl
  rw [if_neg h1];have hl := digits_le 19 n (by omega);have hs := trim_split (Lib.decDigits n) 48;have hle : (ofD n).length <= (Lib.decDigits n).length := by
    have := congrArg List.length hs;rw [List.length_append] at this;unfold ofD;omega
  have hdig : ∀ c ∈ ofD n, Num.isDigit c = true := fun c hc => by
    refine (Num.dec_digit n).1 c ?_;rw [hs];exact List.mem_append.2 (.inl hc)
  unfold Num.right;rw [if_neg h1, if_neg (by rintro (h | h | h) <;> simp only [] at h <;> omega)];rw [Bool.and_eq_true, Bool.and_eq_true];refine ⟨⟨List.all_eq_true.2 hdig, ?_⟩, ?_⟩
  · have h0 : n ≠ 0 := fun e => h1 (by rw [e, ofD, Lib.decDigits_one (by omega)]; rfl);obtain ⟨c, r, e1, e2⟩ := dec_head n (by omega);rw [e1] at hs
    cases hd : ofD n with
    | nil => exact absurd hd h1
    | cons x t =>
      have : Lib.trimRightB (c :: r) 48 = x :: t := by rw [<-e1]; exact hd
      rw [this, List.cons_append] at hs;injection hs with h3 _
      show (x != 48) = true;rw [bne_iff_ne, <-h3]; exact e2
  · unfold ofD Lib.trimRightB
    cases hd : (Lib.decDigits n).reverse.dropWhile (· == 48) with
    | nil => exact absurd (by unfold ofD Lib.trimRightB; rw [hd]; rfl) h1
    | cons x t =>
      have := drop_head (· == 48) _ x t hd;rw [List.reverse_cons, List.getLastD_concat]
      simpa [bne] using this
/-! ## The tree -/
def kLin : ByteArray := ⟨#[108, 105, 110, 101, 97, 103, 101]⟩
def kRes : ByteArray := ⟨#[114, 101, 115, 111, 117, 114, 99, 101, 115]⟩
def kSer : ByteArray := ⟨#[115, 101, 114, 105, 97, 108]⟩
def kVer : ByteArray := ⟨#[118, 101, 114, 115, 105, 111, 110]⟩
def kIns : ByteArray := ⟨#[105, 110, 115, 116, 97, 110, 99, 101, 115]⟩
def kMod : ByteArray := ⟨#[109, 111, 100, 117, 108, 101]⟩
def kNam : ByteArray := ⟨#[110, 97, 109, 101]⟩
def kPro : ByteArray := ⟨#[112, 114, 111, 118, 105, 100, 101, 114]⟩
def kTyp : ByteArray := ⟨#[116, 121, 112, 101]⟩
def kAtt : ByteArray := ⟨#[97, 116, 116, 114, 105, 98, 117, 116, 101, 115]⟩
def kId : ByteArray := ⟨#[105, 100]⟩
def kKey : ByteArray := ⟨#[107, 101, 121]⟩
def strV (s : ByteArray) : JV := .mk 4 false false ⟨#[]⟩ 0 s [] []
def numV (n : Nat) : JV := .mk 3 false false ⟨(ofN n).1.toArray⟩ (ofN n).2 ⟨#[]⟩ [] []
def nullV : JV := .mk 1 false false ⟨#[]⟩ 0 ⟨#[]⟩ [] []
def keyV (a : Adr) : JV := if a.key = 1 then numV a.place else if a.key = 2 then strV a.word else nullV
def attV (l : List (ByteArray × ByteArray)) : JV := objectOf (l.map (·.1)) (l.map fun x => strV x.2)
def insV (r : Rec) : JV := objectOf [kAtt, kId, kKey] [attV r.attrs, strV r.id, keyV r.a]
def resO (r : Rec) (ins : List JV) : JV := objectOf [kIns, kMod, kNam, kPro, kTyp] [listOf ins, listOf (r.a.path.map strV), strV r.a.name, strV r.prov, strV r.a.type]
def resV (g : List Rec) : JV := resO (g.headD Rec.zero) (g.map insV)
def saveV (s : Sta) : JV := objectOf [kLin, kRes, kSer, kVer] [strV s.lin, listOf ((groups s.recs).map resV), numV s.serial, numV 4]
/-! ## Two states with one tree -/
theorem strV_inj {a b : ByteArray} (h : strV a = strV b) : a = b := by unfold strV at h; injection h
theorem strVs_inj {ks ls : List ByteArray} (h : ks.map strV = ls.map strV) : ks = ls := maps_inj (fun a b e => strV_inj e) h
theorem objectOf_inj {k k' : List ByteArray} {v v' : List JV} (h : objectOf k v = objectOf k' v') : k = k' /\ v = v' := by
  unfold objectOf at h; injection h with _ _ _ _ _ _ h1 h2; exact ⟨h1, h2⟩
theorem listOf_inj {v v' : List JV} (h : listOf v = listOf v') : v = v' := by
  unfold listOf at h; injection h
theorem numV_inj {n m : Nat} (hn : n <= 18446744073709551615) (hm : m <= 18446744073709551615) (h : numV n = numV m) : n = m := by
  unfold numV at h;injection h with _ _ _ h1 h2
  refine ofN_inj hn hm (Prod.ext ?_ (by exact_mod_cast h2));have := congrArg (fun b : ByteArray => b.data.toList) h1
  simpa using this
theorem attV_inj {l m : List (ByteArray × ByteArray)} (h : attV l = attV m) : l = m := by
  obtain ⟨h1, h2⟩ := objectOf_inj h;have h3 : l.map (·.2) = m.map (·.2) := strVs_inj (by rw [List.map_map, List.map_map]; exact h2);apply List.ext_getElem?
  intro i
  have e1 := congrArg (·[i]?) h1;have e2 := congrArg (·[i]?) h3;simp only [List.getElem?_map] at e1 e2
  cases hl : l[i]? <;> cases hm : m[i]? <;> rw [hl, hm] at e1 e2 <;> simp at e1 e2 ⊢
  exact Prod.ext e1 e2
theorem empty_bytes {x : ByteArray} (h : x.toList.isEmpty = true) : x = ⟨#[]⟩ := by
  rw [ByteArray.toList_eq, List.isEmpty_iff] at h;exact bytes_inj h
theorem keyV_inj {a b : Adr} (ha : keyA a = true) (hb : keyA b = true) (pa : a.place < 18446744073709551616) (pb : b.place < 18446744073709551616) (h : keyV a = keyV b) : a.key = b.key /\ a.place = b.place /\ a.word = b.word := by
  unfold keyA at ha hb;unfold keyV at h;by_cases a0 : a.key = 0
  · rw [if_pos a0, Bool.and_eq_true, beq_iff_eq] at ha;rw [if_neg (by omega), if_neg (by omega)] at h;by_cases b0 : b.key = 0
    · rw [if_pos b0, Bool.and_eq_true, beq_iff_eq] at hb;exact ⟨a0.trans b0.symm, ha.1.trans hb.1.symm, (empty_bytes ha.2).trans (empty_bytes hb.2).symm⟩
    · by_cases b1 : b.key = 1
      · rw [if_pos b1] at h;unfold nullV numV at h;injection h with h _
        cases h
      · by_cases b2 : b.key = 2
        · rw [if_neg b1, if_pos b2] at h;unfold nullV strV at h;injection h with h _
          cases h
        · rw [if_neg b0, if_neg b1, if_neg b2] at hb;cases hb
  · rw [if_neg a0] at ha;by_cases a1 : a.key = 1
    · rw [if_pos a1] at ha h;by_cases b1 : b.key = 1
      · rw [if_neg (by omega), if_pos b1] at hb;rw [if_pos b1] at h;exact ⟨a1.trans b1.symm, numV_inj (by omega) (by omega) h, (empty_bytes ha).trans (empty_bytes hb).symm⟩
      · rw [if_neg b1] at h;split at h
        · unfold numV strV at h;injection h with h _
          cases h
        · unfold numV nullV at h;injection h with h _
          cases h
    · rw [if_neg a1] at ha h;by_cases a2 : a.key = 2
      · rw [if_pos a2] at ha h;rw [Bool.and_eq_true, beq_iff_eq] at ha;by_cases b2 : b.key = 2
        · rw [if_neg (by omega), if_neg (by omega), if_pos b2, Bool.and_eq_true, beq_iff_eq] at hb;rw [if_neg (by omega), if_pos b2] at h;exact ⟨a2.trans b2.symm, ha.1.trans hb.1.symm, strV_inj h⟩
        · rw [if_neg b2] at h;split at h
          · unfold strV numV at h;injection h with h _
            cases h
          · unfold strV nullV at h;injection h with h _
            cases h
      · rw [if_neg a2] at ha;cases ha
theorem right_parts {a : Adr} (h : rightA a = true) : identsB a.path = true /\ keyA a = true /\ identB a.type.data.toList = true /\ identB a.name.data.toList = true /\ a.path.length <= 20 := by
  unfold rightA at h;simp only [Bool.and_eq_true, identsB, List.all_cons, List.all_nil, decide_eq_true_eq] at h
  exact ⟨h.1.2, h.2, h.1.1.2.1, h.1.1.2.2.1, h.1.1.1.2⟩
theorem ins_inj {x y : Rec} (hx : rightA x.a = true) (hy : rightA y.a = true) (px : x.a.place < 18446744073709551616) (py : y.a.place < 18446744073709551616) (hk : keyR x = keyR y) (h : insV x = insV y) : x = y := by
  obtain ⟨_, h1⟩ := objectOf_inj h;injection h1 with ha h1
  injection h1 with hi h1
  injection h1 with hk2 _
  obtain ⟨k1, k2, k3⟩ := keyV_inj (right_parts hx).2.1 (right_parts hy).2.1 px py hk2;unfold keyR at hk;injection hk with e1 hk
  injection hk with e2 hk
  injection hk with e3 e4
  have e5 := joinP_inj (right_parts hx).1 (right_parts hy).1 e1;have ha2 := attV_inj ha;have hi2 := strV_inj hi;clear ha hi hk2;obtain ⟨⟨xp, xt, xn, xk, xl, xw⟩, xv, xi, xa⟩ := x;obtain ⟨⟨yp, yt, yn, yk, yl, yw⟩, yv, yi, ya⟩ := y;simp only at k1 k2 k3 e2 e3 e4 e5 ha2 hi2
  subst k1 k2 k3 e2 e3 e4 e5 ha2 hi2
  rfl
structure Own (r : Rec) : Prop where
  right : rightA r.a = true
  place : r.a.place < 18446744073709551616
theorem res_sub {l m : List Rec} (hl : ∀ r ∈ l, Own r) (hm : ∀ r ∈ m, Own r) (h : (groups l).map resV = (groups m).map resV) : ∀ r ∈ l, r ∈ m := fun r hr => by
  have I := ginv l;have J := ginv m;obtain ⟨g, hg, hrg⟩ := (I.mem r).1 hr;have h1 : resV g ∈ (groups m).map resV := by rw [<-h]; exact List.mem_map_of_mem hg
  obtain ⟨k, hk, he⟩ := List.mem_map.1 h1;unfold resV resO at he;obtain ⟨_, h2⟩ := objectOf_inj he;injection h2 with hins h2
  injection h2 with hpath h2
  injection h2 with hname h2
  injection h2 with hprov h2
  injection h2 with htype _
  have hins := listOf_inj hins;have hpath := strVs_inj (listOf_inj hpath);have hname := strV_inj hname;have hprov := strV_inj hprov;have htype := strV_inj htype;have hmem : insV r ∈ k.map insV := by rw [hins]; exact List.mem_map_of_mem hrg
  obtain ⟨q, hq, hqr⟩ := List.mem_map.1 hmem;have kg : keyG g = some (keyR r) := I.key g hg r hrg;have kk : keyG k = some (keyR q) := J.key k hk q hq;have hgk : keyG g = keyG k := by
    cases g with
    | nil => cases hrg
    | cons x t =>
      cases k with
      | nil => cases hq
      | cons y u =>
        simp only [List.headD_cons] at hpath hname hprov htype
        show some (keyR x) = some (keyR y);unfold keyR;rw [hpath, hname, hprov, htype]
  have e : keyR r = keyR q := by rw [kg, kk] at hgk; exact Option.some.inj hgk
  have hqm : q ∈ m := (J.mem q).2 ⟨k, hk, hq⟩;have := ins_inj (hl r hr).right (hm q hqm).right (hl r hr).place (hm q hqm).place e hqr.symm;rw [this]; exact hqm
theorem own_of {l : List Rec} (h : State.Good l) : ∀ r ∈ l, Own r := fun r hr => ⟨recB_right (h.r r hr), (h.s r hr).p⟩
theorem save_inj {a b : Sta} (ha : State.Good a.recs) (hb : State.Good b.recs) (sa : a.serial <= 18446744073709551615) (sb : b.serial <= 18446744073709551615) (h : saveV a = saveV b) : a = b := by
  obtain ⟨_, h1⟩ := objectOf_inj h;injection h1 with f1 h1
  injection h1 with f2 h1
  injection h1 with f3 _
  have e1 := strV_inj f1;have e3 := numV_inj sa sb f3;have e2 := listOf_inj f2;have e4 : a.recs = b.recs := good_ext ha.o hb.o fun x => ⟨res_sub (own_of ha) (own_of hb) e2 x, res_sub (own_of hb) (own_of ha) e2.symm x⟩;clear f1 f2 f3 h ha hb sa sb e2;obtain ⟨xs, xl, xr⟩ := a;obtain ⟨ys, yl, yr⟩ := b;simp only at e1 e3 e4
  subst e1 e3 e4
  rfl
/-! ## The tree is right -/
theorem strV_good {s : ByteArray} (h : Utf.validB s.data.toList = true) : GoodQ (strV s) := by
  refine .mk 4 false false ⟨#[]⟩ 0 s [] [] ⟨by decide, by decide, fun _ => rfl, fun _ => ⟨rfl, rfl, rfl⟩, fun h => absurd rfl h, fun _ => rfl, fun _ => rfl, rfl, h, fun h => absurd h (by decide), fun x hx => (by cases hx), List.nodup_nil⟩ (fun j h => absurd h (Nat.not_lt_zero _))
theorem nullV_good : GoodQ nullV :=
  .mk 1 false false ⟨#[]⟩ 0 ⟨#[]⟩ [] [] ⟨by decide, by decide, fun _ => rfl, fun _ => ⟨rfl, rfl, rfl⟩, fun _ => rfl, fun _ => rfl, fun _ => rfl, rfl, rfl, fun h => absurd h (by decide), fun x hx => (by cases hx), List.nodup_nil⟩ (fun j h => absurd h (Nat.not_lt_zero _))
theorem numV_good {n : Nat} (hn : n <= 18446744073709551615) : GoodQ (numV n) := by
  refine .mk 3 false false ⟨(ofN n).1.toArray⟩ (ofN n).2 ⟨#[]⟩ [] [] ⟨by decide, by decide, fun _ => rfl, fun h => absurd rfl h, fun _ => rfl, fun _ => rfl, fun _ => rfl, ?_, rfl, fun h => absurd h (by decide), fun x hx => (by cases hx), List.nodup_nil⟩ (fun j h => absurd h (Nat.not_lt_zero _));exact ofN_right hn
theorem listOf_good {vs : List JV} (h : ∀ v ∈ vs, GoodQ v) : GoodQ (listOf vs) :=
  .mk 5 false false ⟨#[]⟩ 0 ⟨#[]⟩ [] vs ⟨by decide, by decide, fun _ => rfl, fun _ => ⟨rfl, rfl, rfl⟩, fun _ => rfl, fun h => absurd h (by decide), fun _ => rfl, rfl, rfl, fun h => absurd h (by decide), fun x hx => (by cases hx), List.nodup_nil⟩ (fun j hj => h _ (List.getElem_mem hj))
theorem objectOf_good {ks : List ByteArray} {vs : List JV} (hl : ks.length = vs.length) (hw : ∀ x ∈ ks, Utf.validB x.data.toList = true) (hn : ks.Nodup) (h : ∀ v ∈ vs, GoodQ v) : GoodQ (objectOf ks vs) :=
  .mk 6 false false ⟨#[]⟩ 0 ⟨#[]⟩ ks vs ⟨by decide, by decide, fun _ => rfl, fun _ => ⟨rfl, rfl, rfl⟩, fun _ => rfl, fun h => absurd h (by decide), fun h => absurd rfl h, rfl, rfl, fun _ => hl, hw, hn⟩ (fun j hj => h _ (List.getElem_mem hj))
theorem txt_low : ∀ l : List UInt8, (∀ c ∈ l, c.toNat < 128) -> Utf.Txt l
  | [], _ => .nil
  | c :: l, h => by
    have hc := h c (by simp);have hp := Quote.put_small c.toNat hc;have := Utf.Txt.scal c.toNat l (by unfold Utf.scalarB; simp; omega) (txt_low l fun x hx => h x (by simp [hx]));rw [hp, List.singleton_append] at this
    rwa [show UInt8.ofNat c.toNat = c by simp] at this
theorem id_low : ∀ n : Fin 256, Lex.inId (UInt8.ofNat n.val) = true -> n.val < 128 := by decide
theorem ident_valid {l : List UInt8} (h : identB l = true) : Utf.validB l = true :=
  txt_valid2 (txt_low l fun c hc => by
    have := id_low ⟨c.toNat, c.toNat_lt⟩;simp only [UInt8.ofNat_toNat] at this
    exact this (ident_in h c hc))
structure Texts (r : Rec) : Prop extends Own r where
  prov : Utf.validB r.prov.data.toList = true
  id : Utf.validB r.id.data.toList = true
  ats : ∀ x ∈ r.attrs, Utf.validB x.1.data.toList = true /\ Utf.validB x.2.data.toList = true
  up : risingB r.attrs = true
theorem texts_of {r : Rec} (h : recB r = true) (hp : r.a.place < 18446744073709551616) : Texts r := by
  have hr := recB_right h;unfold recB looseB at h;simp only [Bool.and_eq_true, List.all_eq_true, pairB, valid_neg] at h
  exact ⟨⟨hr, hp⟩, h.1.2.1, h.1.2.2.1, h.1.2.2.2, h.2⟩
theorem rising_nodup {l : List (ByteArray × ByteArray)} (h : risingB l = true) : (l.map (·.1)).Nodup := by
  have h1 := (rising_iff l).1 h;have key : ∀ d i (hi : i + d + 1 < l.length), ltB l[i].1 l[i + d + 1].1 = true := by
    intro d
    induction d with
    | zero => intro i hi; exact h1 i hi
    | succ d ih =>
      intro i hi
      have a := ih i (by omega);have b := h1 (i + d + 1) hi;exact less_trans a b
  rw [List.nodup_iff_pairwise_ne, List.pairwise_map, List.pairwise_iff_getElem];intro i j hi hj hij e
  obtain ⟨d, rfl⟩ : ∃ d, j = i + d + 1 := ⟨j - i - 1, by omega⟩;have := key d i hj;rw [e] at this;unfold ltB at this;rw [less_irrefl] at this;cases this
theorem keyV_good {a : Adr} (h : keyA a = true) (hp : a.place < 18446744073709551616) : GoodQ (keyV a) := by
  unfold keyV;by_cases h1 : a.key = 1
  · rw [if_pos h1]; exact numV_good (by omega)
  · rw [if_neg h1];by_cases h2 : a.key = 2
    · rw [if_pos h2];unfold keyA at h;rw [if_neg (by omega), if_neg h1, if_pos h2, Bool.and_eq_true, valid_neg] at h;exact strV_good h.2
    · rw [if_neg h2]; exact nullV_good
theorem insV_good {r : Rec} (h : Texts r) : GoodQ (insV r) := by
  refine objectOf_good rfl (by decide) (by decide) fun v hv => ?_;simp only [List.mem_cons, List.mem_nil_iff, or_false] at hv
  rcases hv with rfl | rfl | rfl
  · refine objectOf_good (by simp) (fun x hx => ?_) (rising_nodup h.up) (fun v hv => ?_)
    · obtain ⟨y, hy, rfl⟩ := List.mem_map.1 hx;exact (h.ats y hy).1
    · obtain ⟨y, hy, rfl⟩ := List.mem_map.1 hv;exact strV_good (h.ats y hy).2
  · exact strV_good h.id
  · exact keyV_good (right_parts h.right).2.1 h.place
theorem resO_good {r : Rec} (h : Texts r) {ins : List JV} (hi : ∀ v ∈ ins, GoodQ v) : GoodQ (resO r ins) := by
  obtain ⟨h1, _, h2, h3, _⟩ := right_parts h.right;refine objectOf_good rfl (by decide) (by decide) fun v hv => ?_;simp only [List.mem_cons, List.mem_nil_iff, or_false] at hv
  rcases hv with rfl | rfl | rfl | rfl | rfl
  · exact listOf_good hi
  · refine listOf_good fun v hv => ?_;obtain ⟨y, hy, rfl⟩ := List.mem_map.1 hv;exact strV_good (ident_valid (List.all_eq_true.1 h1 y hy))
  · exact strV_good (ident_valid h3)
  · exact strV_good h.prov
  · exact strV_good (ident_valid h2)
theorem resV_good {g : List Rec} (hg : g ≠ []) (h : ∀ r ∈ g, Texts r) : GoodQ (resV g) := by
  cases g with
  | nil => exact absurd rfl hg
  | cons x t =>
    refine resO_good (h x (by simp)) fun v hv => ?_;obtain ⟨y, hy, rfl⟩ := List.mem_map.1 hv;exact insV_good (h y hy)
theorem texts_all {l : List Rec} (h : State.Good l) : ∀ r ∈ l, Texts r := fun r hr => texts_of (h.r r hr) (h.s r hr).p
theorem save_good {s : Sta} (h : State.Good s.recs) (hl : Utf.validB s.lin.data.toList = true) (hs : s.serial <= 18446744073709551615) : GoodQ (saveV s) := by
  have I := ginv s.recs;refine objectOf_good rfl (by decide) (by decide) fun v hv => ?_;simp only [List.mem_cons, List.mem_nil_iff, or_false] at hv
  rcases hv with rfl | rfl | rfl | rfl
  · exact strV_good hl
  · refine listOf_good fun v hv => ?_;obtain ⟨g, hg, rfl⟩ := List.mem_map.1 hv;exact resV_good (I.ne g hg) fun r hr => texts_all h r ((I.mem r).2 ⟨g, hg, hr⟩)
  · exact numV_good hs
  · exact numV_good (by omega)
theorem print_inj {t u : JV} (ht : GoodQ t) (hu : GoodQ u) (dt : t.deepN <= 64) (du : u.deepN <= 64) (h : t.print false 0 = u.print false 0) : t = u := by
  have a := value_print t ht (t.print false 0) 64 0 dt 0 [] (by simp) Num.stops_nil;have b := value_print u hu (t.print false 0) 64 0 du 0 [] (by simp [h]) Num.stops_nil;rw [a] at b;injection b with b
  injection b
end Go.Proofs.YtfdjolfenghmaaaGreatDoor.Save
