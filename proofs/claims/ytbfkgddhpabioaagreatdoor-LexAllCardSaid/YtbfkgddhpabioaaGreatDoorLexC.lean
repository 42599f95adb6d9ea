/- lex.Parse's closure: a token is put behind the others. -/
import Derived.Test.YtbfkgddhpabioaaGreatDoorLexX
import Derived.WalkMore
import Derived.Deep.LoopGhost
namespace Go.Proofs.YtbfkgddhpabioaaGreatDoor.Lex
open Go.RowKit Go.Proofs.YtbfkgddhpabioaaGreatDoor.Utf Go.Proofs.YtbfkgddhpabioaaGreatDoor.Strs
set_option linter.unusedVariables false
set_option linter.unusedSimpArgs false
set_option maxRecDepth 100000

/-- A token's three cells. -/
def tokCells (x : Tok) : List Value := [.int .i64 x.1, .string ⟨x.2.1.toArray⟩, .int .i64 x.2.2]
def toksCells (l : List Tok) : List Value := l.flatMap tokCells
theorem toksCells_snoc (l : List Tok) (x : Tok) : toksCells (l ++ [x]) = toksCells l ++ tokCells x := by simp [toksCells]

/-- A variable that holds a row of its own of tokens. -/
structure Lst (w : World) (B b : Nat) (l : List Tok) : Prop where
  hB : B ≤ b
  it : ∃ v, w.heap[b]? = some (.cells #[v] 38 (0, 0)) ∧ w.ownsRow B 59 3 v l.length (toksCells l)

theorem own_ne {w : World} {B : Nat} {e T : TypeId} {size : Nat} {v : Value} {n : Nat} {xs : List Value} {b : Nat} {cs : Array Value} {fr : Nat × Nat} (h : w.ownsRow B e size v n xs) (hb : w.heap[b]? = some (.cells cs T fr)) (hT : T ≠ e) : v.ownBlock ≠ some b := fun e' => by
  obtain ⟨c, fz, hc⟩ := Lib.ownsRow_kind h b e'
  rw [hb] at hc
  cases hc
  exact hT rfl
theorem infoTok : (Tryz.prog.info? 59).map (fun i => (i.zero, i.size, i.bytes)) = some (some (.agg #[.int .i64 0, .string ⟨#[]⟩, .int .i64 0]), 3, 32) := by kernel_rfl

set_option maxHeartbeats 4000000 in
theorem put_tok (B b : Nat) (l : List Tok) (x : Tok) (w : World) (h : Lst w B b l) (hlen : l.length ≤ 1099511627776) (hBw : B ≤ w.heap.size) :
    Calls Tryz.prog 39 #[.agg #[.int .i64 x.1, .string ⟨x.2.1.toArray⟩, .int .i64 x.2.2], .pointer (some ⟨b, 0, none⟩)] w fun e w' => e = .returned (.bool true) ∧ Lst w' B b (l ++ [x]) ∧ Below B w w' := by
  obtain ⟨i0, hi, hz0, hz1, hz2⟩ := info_parts infoTok
  have HI := Hid.out (p := Hid _) hi; clear hi
  obtain ⟨v, hb, hown⟩ := h.it
  have hBb := h.hB
  have hlt := heap_lt hb
  have c0 := cell_of hb 0
  have f0 := frozen_of hb 0
  have HB := Hid.out (p := Hid _) hb; clear hb
  have hne : v.ownBlock ≠ some b := own_ne hown HB.out (by decide)
  go_enter Tryz.func39, Tryz.ntmps39
  have hT := toksCells_snoc l x
  go_wp2_with (at_builtin; refine wpList_append_own _ rfl _ _ 38 rfl B 59 i0 (.agg #[.int .i64 0, .string ⟨#[]⟩, .int .i64 0]) 3 32 Tryz.underlying38 HI hz0 hz1 hz2 rfl (by decide) _ _ _ rfl ((hown.alloc _).alloc _) ⟨w.heap.size + 1, 0, none⟩ 1 1 (tokCells x) rfl rfl ?c1 ?c2 ?c3 ?c4 ?c5 ?_)
  case c1 =>
    intro j u hj
    match j, hj with
    | 0, hj => simp [tokCells] at hj; subst hj; simp [Addr.add]
    | 1, hj => simp [tokCells] at hj; subst hj; simp [Addr.add]
    | 2, hj => simp [tokCells] at hj; subst hj; simp [Addr.add]
  case c2 => intro u hu; simp [tokCells] at hu; rcases hu with rfl | rfl | rfl <;> rfl
  case c3 => unfold maxLen; omega
  case c4 => omega
  case c5 => simp; omega
  intro v' w2 hown' hgrow _
  have hb2 : w2.heap[b]? = some (.cells #[v] 38 (0, 0)) := by
    rw [hgrow.block b (by simp; omega) (fun e => hne e.symm)]
    exact heap_alloc_old (heap_alloc_old HB.out)
  have d1 := cell_of hb2 0
  have f1 := frozen_of hb2 0
  have hBel : Hid (Below B w w2) := (((Below.refl B w).alloc hBw _).alloc (by simp; omega) _).grown hgrow (by simp; omega) (fun k hk => (hown.lt k hk).1)
  have HB2 := Hid.out (p := Hid _) hb2; clear hb2
  have hown2 : Hid (w2.ownsRow B 59 3 v' (l ++ [x]).length (toksCells (l ++ [x]))) := by rw [Hid, hT]; simpa using hown'
  obtain ⟨g, cap, rfl⟩ : ∃ g cap, v' = .slice (some ⟨g, 0, none⟩) (l.length + 1) cap := by
    rcases hown'.2 with ⟨_, h0⟩ | ⟨g, cap, cur, hv, _⟩
    · omega
    · exact ⟨g, cap, hv⟩
  clear hown' hgrow hown hT
  go_wp2_with fail
  go_ret
  refine ⟨rfl, ⟨hBb, _, heap_set_same HB2.out _, ?_⟩, hBel.out.setCell (p := ⟨b, 0, none⟩) hBb _⟩
  exact hown2.out.kept (row := some b) ⟨rfl, rfl, rfl, by simp [World.setCell], fun k _ hk => Below.heap_setCell _ _ _ _ (fun e => hk (by simp [e]))⟩ (Or.inr (own_ne hown2.out HB2.out (by decide)))
end Go.Proofs.YtbfkgddhpabioaaGreatDoor.Lex
/- What lex reads, in plain Lean: how much at once. -/
namespace Go.Proofs.YtbfkgddhpabioaaGreatDoor.Lex
open Go.Proofs.YtbfkgddhpabioaaGreatDoor.Utf

theorem from_ge : ∀ (l : List UInt8) (st i k : Nat), k ≤ i → k ≤ Num.from_ st i k l
  | [], st, i, k, h => Nat.le_refl _
  | c :: l, st, i, k, h => by
    unfold Num.from_
    split
    · exact Nat.le_refl _
    · split
      · exact Nat.le_trans (by omega) (from_ge l _ (i + 1) (i + 1) (Nat.le_refl _))
      · exact from_ge l _ (i + 1) k (by omega)
theorem scan_pos (c : UInt8) (t : List UInt8) (h : digitB c.toNat = true) : 1 ≤ Num.scan (c :: t) := by
  simp only [digitB, Bool.and_eq_true, decide_eq_true_eq] at h
  have hs : Num.sgn c.toNat = 2 ∨ Num.sgn c.toNat = 3 := by
    unfold Num.sgn
    (repeat' split) <;> omega
  unfold Num.scan Num.from_
  rcases hs with hs | hs
  · rw [hs]; exact from_ge t 2 1 1 (Nat.le_refl _)
  · rw [hs]; exact from_ge t 3 1 1 (Nat.le_refl _)
theorem takeWhile_le {p : UInt8 → Bool} (l : List UInt8) : (l.takeWhile p).length ≤ l.length := (List.takeWhile_prefix p).length_le
theorem trimR_le {p : UInt8 → Bool} (l : List UInt8) : (l.reverse.dropWhile p).reverse.length ≤ l.length := by
  have := Num.dropWhile_le (p := p) l.reverse
  simpa using this
theorem trimR_pos {p : UInt8 → Bool} (c : UInt8) (t : List UInt8) (h : p c = false) : 1 ≤ ((c :: t).reverse.dropWhile p).reverse.length := by
  rw [List.length_reverse]
  by_cases hn : (c :: t).reverse.dropWhile p = []
  · have hall : ∀ m : List UInt8, m.dropWhile p = [] → ∀ x ∈ m, p x = true := by
      intro m
      induction m with
      | nil => intro _ x hx; cases hx
      | cons a m ih =>
        intro hm x hx
        rw [List.dropWhile_cons] at hm
        split at hm
        · rename_i ha
          rcases List.mem_cons.1 hx with rfl | hx
          · exact ha
          · exact ih hm x hx
        · cases hm
    have := hall _ hn c (by simp)
    rw [h] at this; cases this
  · exact List.length_pos_iff.2 hn
theorem line_head (c : UInt8) (t : List UInt8) (h : c ≠ 10) : ∃ u, line (c :: t) = c :: u := by
  unfold line
  split
  · rename_i i hi
    cases i with
    | zero =>
      have := (List.findIdx?_eq_some_iff_getElem.1 hi).2.1
      simp at this; exact absurd this h
    | succ i => exact ⟨t.take i, by simp⟩
  · exact ⟨t, rfl⟩
theorem line_le (l : List UInt8) : (line l).length ≤ l.length := by
  unfold line; split
  · rw [List.length_take]; exact Nat.min_le_right _ _
  · exact Nat.le_refl _
/-- A token's bounds. -/
structure Fits (l : List UInt8) (x : Nx) : Prop where
  size : x.2.2.2 = 0 → 1 ≤ x.2.1 ∧ x.2.1 ≤ l.length
  bad : x.2.2.1 ≤ l.length
  kind : x.1 ≤ 7
  all : x.2.1 ≤ l.length
theorem comment_fits (kind : Nat) (l m : List UInt8) (hk : kind ≤ 7) (h1 : 1 ≤ m.length) (h2 : m.length ≤ l.length) : Fits l (comment kind m) := by
  have := within_le m
  unfold comment
  split
  · rename_i h
    exact ⟨fun e => absurd e h, by simp; omega, by simp, by simp⟩
  · exact ⟨fun _ => ⟨h1, h2⟩, by simp, hk, h2⟩
theorem next_fits (l : List UInt8) (h0 : l ≠ []) : Fits l (next l) := by
  obtain ⟨c, t, rfl⟩ := List.exists_cons_of_ne_nil h0
  have hb0 : byt (c :: t) 0 = c.toNat := rfl
  unfold next
  rw [hb0]
  by_cases hl : letterB c.toNat = true
  · rw [if_pos hl]
    have := takeWhile_le (p := inId) t
    exact ⟨fun _ => ⟨by simp [ident], by simp [ident]; omega⟩, by simp, by simp, by simp [ident]; omega⟩
  rw [if_neg hl]
  by_cases hd : digitB c.toNat = true
  · rw [if_pos hd]
    have h1 := scan_pos c t hd
    have h2 := Num.scan_le (c :: t)
    unfold decimal
    split
    · rename_i e he
      have := parse_err he
      exact ⟨fun h => by simp at h; omega, by simp, by simp, by simp⟩
    · exact ⟨fun _ => ⟨h1, h2⟩, by simp, by simp, h2⟩
  rw [if_neg hd]
  by_cases hq : c.toNat = 34
  · rw [if_pos hq]
    split
    · rename_i e he
      exact ⟨fun h => absurd h (scan_err he), by simp, by simp, by simp⟩
    · rename_i o n hn
      have hp := hn
      rw [Quote.scan_at (c :: t) (by simp) hq] at hp
      have := Quote.parts_size _ _ _ _ _ _ hp
      simp only [List.length_drop, List.length_cons, List.length_nil] at this
      exact ⟨fun _ => ⟨by simp; omega, by simp; omega⟩, by simp, by simp, by simp; omega⟩
  rw [if_neg hq]
  by_cases hr : c.toNat = 10
  · rw [if_pos hr]
    exact ⟨fun _ => ⟨by simp, by simp⟩, by simp, by simp, by simp⟩
  rw [if_neg hr]
  have hc10 : c ≠ 10 := fun e => hr (by rw [e]; rfl)
  by_cases hh : c.toNat = 35 ∨ [47, 47].isPrefixOf (c :: t) = true
  · rw [if_pos hh]
    obtain ⟨u, hu⟩ := line_head c t hc10
    have hcut : ([32, 9, 13] : List UInt8).contains c = false := by
      have hc : c = 35 ∨ c = 47 := by
        rcases hh with h | h
        · exact Or.inl (UInt8.toNat_inj.1 h)
        · right
          have := List.isPrefixOf_iff_prefix.1 h
          exact (List.cons_prefix_cons.1 this).1.symm
      rcases hc with rfl | rfl <;> rfl
    unfold remark
    have h1 := trimR_pos (p := ([32, 9, 13].contains ·)) c u hcut
    rw [← hu] at h1
    have h2 := trimR_le (p := ([32, 9, 13].contains ·)) (line (c :: t))
    have h3 := line_le (c :: t)
    exact comment_fits 6 _ _ (by decide) h1 (by omega)
  rw [if_neg hh]
  by_cases ha : [47, 42].isPrefixOf (c :: t) = true
  · rw [if_pos ha]
    unfold aside
    split
    · exact ⟨fun h => by simp at h, by simp, by simp, by simp⟩
    · rename_i hz
      split
      · exact ⟨fun h => by simp at h, by simp, by simp, by simp⟩
      · have := index_room [42, 47] ((c :: t).drop 2) (by simp) (by omega)
        rw [List.length_drop] at this
        simp only [List.length_cons, List.length_nil] at this
        refine comment_fits 7 _ _ (by decide) ?_ ?_
        · rw [List.length_take, List.length_cons]; omega
        · rw [List.length_take]; omega
  rw [if_neg ha]
  by_cases hs : 0 < sign (c :: t)
  · rw [if_pos hs]
    have hle : sign (c :: t) ≤ (c :: t).length := by
      unfold sign
      split
      · rename_i hd2
        obtain ⟨d, hd3, hd4⟩ := List.any_eq_true.1 hd2
        have h5 := (List.isPrefixOf_iff_prefix.1 hd4).length_le
        have h6 : d.length = 2 := by
          have : ∀ d ∈ doubles, d.length = 2 := by decide
          exact this d hd3
        omega
      · split
        · simp
        · simp
    exact ⟨fun _ => ⟨hs, hle⟩, by simp, by simp, hle⟩
  · rw [if_neg hs]
    exact ⟨fun h => by simp at h, by simp, by simp, by simp⟩

theorem toks_mono : ∀ (n m : Nat) (l : List UInt8) (p : Nat), l.length < n → l.length < m → toks n l p = toks m l p
  | 0, _, _, _, h, _ => by omega
  | _ + 1, 0, _, _, _, h => by omega
  | n + 1, m + 1, l, p, h, h' => by
    cases l with
    | nil => rfl
    | cons c t =>
      unfold toks
      simp only [List.length_cons] at h h'
      by_cases hb : blank c = true
      · simp only [hb, if_true]
        exact toks_mono n m t (p + 1) (by omega) (by omega)
      · simp only [hb, Bool.false_eq_true, if_false]
        by_cases he : (next (c :: t)).2.2.2 ≠ 0
        · rw [if_pos he, if_pos he]
        · rw [if_neg he, if_neg he]
          have hf := ((next_fits (c :: t) (by simp)).size (by omega))
          have hl : ((c :: t).drop (next (c :: t)).2.1).length < n := by rw [List.length_drop, List.length_cons]; omega
          have hl' : ((c :: t).drop (next (c :: t)).2.1).length < m := by rw [List.length_drop, List.length_cons]; omega
          rw [toks_mono n m _ _ hl hl']
/-- .. of the rest from a place on. -/
def toksAt (l : List UInt8) (p : Nat) : List Tok × Nat × Nat := toks (l.length - p + 1) (l.drop p) p
theorem toksAt_end (l : List UInt8) : toksAt l l.length = ([], 0, 0) := by
  unfold toksAt; simp [toks]
theorem toksAt_blank (l : List UInt8) (p : Nat) (h : p < l.length) (hb : blank l[p] = true) : toksAt l p = toksAt l (p + 1) := by
  unfold toksAt
  rw [List.drop_eq_getElem_cons h]
  conv => lhs; unfold toks
  simp only [hb, if_true]
  exact toks_mono _ _ _ _ (by rw [List.length_drop]; omega) (by rw [List.length_drop]; omega)
theorem toksAt_bad (l : List UInt8) (p : Nat) (h : p < l.length) (hb : blank l[p] = false) (he : (next (l.drop p)).2.2.2 ≠ 0) : toksAt l p = ([], p + (next (l.drop p)).2.2.1, (next (l.drop p)).2.2.2) := by
  unfold toksAt
  rw [List.drop_eq_getElem_cons h] at he ⊢
  conv => lhs; unfold toks
  simp only [hb, Bool.false_eq_true, if_false]
  rw [if_pos he]
theorem toksAt_tok (l : List UInt8) (p : Nat) (h : p < l.length) (hb : blank l[p] = false) (he : (next (l.drop p)).2.2.2 = 0) :
    toksAt l p = (((next (l.drop p)).1, (l.drop p).take (next (l.drop p)).2.1, p) :: (toksAt l (p + (next (l.drop p)).2.1)).1, (toksAt l (p + (next (l.drop p)).2.1)).2) := by
  unfold toksAt
  have hf := (next_fits (l.drop p) (List.ne_nil_of_length_pos (by rw [List.length_drop]; omega))).size he
  rw [List.length_drop] at hf
  have hm := toks_mono (l.length - p) (l.length - (p + (next (l.drop p)).2.1) + 1) (l.drop (p + (next (l.drop p)).2.1)) (p + (next (l.drop p)).2.1) (by rw [List.length_drop]; omega) (by rw [List.length_drop]; omega)
  rw [← hm, ← List.drop_drop]
  rw [List.drop_eq_getElem_cons h] at he ⊢
  conv => lhs; unfold toks
  simp only [hb, Bool.false_eq_true, if_false]
  rw [if_neg (by rw [he]; simp)]
end Go.Proofs.YtbfkgddhpabioaaGreatDoor.Lex
/- lex.walk with lex.Parse's closure. -/
namespace Go.Proofs.YtbfkgddhpabioaaGreatDoor.Lex
open Go.RowKit Go.Proofs.YtbfkgddhpabioaaGreatDoor.Utf Go.Proofs.YtbfkgddhpabioaaGreatDoor.Strs
set_option linter.unusedVariables false
set_option linter.unusedSimpArgs false
set_option maxRecDepth 100000

theorem Lst.stays {w w' : World} {B b : Nat} {l : List Tok} (h : Lst w B b l) (hb : Below w.heap.size w w') : Lst w' B b l := by
  obtain ⟨v, hv, ho⟩ := h.it
  refine ⟨h.hB, v, (hb.block b (heap_lt hv)).trans hv, ?_⟩
  exact ho.kept (row := none) ⟨hb.os, hb.tape, hb.output, hb.size, fun k hk _ => hb.block k hk⟩ (by cases v.ownBlock <;> simp)
theorem Lst.lt {w : World} {B b : Nat} {l : List Tok} (h : Lst w B b l) : b < w.heap.size := by
  obtain ⟨v, hv, _⟩ := h.it; exact heap_lt hv
theorem str_of (a : ByteArray) (l : List UInt8) (h : a.data.toList = l) : a = ⟨l.toArray⟩ := by
  subst h; rfl
theorem ext_take (s : ByteArray) (k n : Nat) : s.extract k (k + n) = ⟨((s.data.toList.drop k).take n).toArray⟩ := by
  apply str_of
  rw [Lib.extract_data]
  congr 1
  omega
theorem ext_drop (s : ByteArray) (k : Nat) : (s.extract k s.size).data.toList = s.data.toList.drop k := by
  rw [Lib.extract_data]
  apply List.take_of_length_le
  simp

/-- What walk leaves, with Parse's closure. -/
def WPost (s : ByteArray) (w0 : World) (B b : Nat) (e : Ending) (w' : World) : Prop :=
  e = .returned (.tuple #[.int .i64 (toksAt s.data.toList 0).2.1, .int .i64 (toksAt s.data.toList 0).2.2]) ∧ Lst w' B b (toksAt s.data.toList 0).1 ∧ Below w0.heap.size w0 w'

theorem walk_big (s : ByteArray) (y : Value) (w : World) (hs : 1048576 < s.size) (hm : s.size ≤ 9223372036854775807) :
    Calls Tryz.prog 38 #[.string s, y] w fun e w' => e = .returned (.tuple #[.int .i64 0, .int .i64 4]) ∧ w = w' := by
  go_enter Tryz.func38, Tryz.ntmps38
  go_wp2_with fail
  go_step3
  go_wp2_with fail
  rw [Exit.noGoto_ret]
  go_ret2
  exact ⟨rfl, rfl⟩

set_option maxHeartbeats 4000000 in
theorem walk_put (s : ByteArray) (w0 w : World) (B b : Nat) (hs : s.size ≤ 1048576) (T : Tabs w0) (hW : Below w0.heap.size w0 w) (hB : w0.heap.size = B) (H : Lst w B b []) :
    Calls Tryz.prog 38 #[.string s, .func (.func 39) #[] #[.pointer (some ⟨b, 0, none⟩)]] w (WPost s w0 B b) := by
  have HT := Hid.out (p := Hid _) T; clear T
  have HW := Hid.out (p := Hid _) hW; clear hW
  have HB := Hid.out (p := Hid _) hB; clear hB
  have hl : s.data.toList.length = s.size := by simp
  have HL := Hid.out (p := Hid _) hl; clear hl
  go_enter Tryz.func38, Tryz.ntmps38
  go_wp2_with fail
  go_step3
  go_wp2_with fail
  go_step3
  go_wp2_with fail
  go_loopw [4, 5, 6] (fun p4 p5 p wr => ∃ (k : Nat) (pre : List Tok), k ≤ s.size ∧ p4 = .int .i64 0 ∧ p5 = .int .i64 0 ∧ p = .int .i64 k ∧ Hid (toksAt s.data.toList 0 = (pre ++ (toksAt s.data.toList k).1, (toksAt s.data.toList k).2)) ∧ Hid (pre.length ≤ k) ∧ Hid (Lst wr B b pre) ∧ Hid (Below w0.heap.size w0 wr))
    (fun _ _ p _ => s.size - (intOf p).toNat)
  case atStart => exact ⟨0, [], Nat.zero_le _, rfl, rfl, rfl, rfl, Nat.zero_le _, H, HW.out⟩
  case round =>
    obtain ⟨k, pre, hk, rfl, rfl, rfl, hp, hpk, hL, hb⟩ := hrel
    by_cases hlt : k < s.size
    · have hlen : k < s.data.toList.length := by rw [HL.out]; exact hlt
      have hget : s.data.toList[k] = s[k] := rfl
      cases hbl : blank s[k]
      · have hix : [32, 9, 13].findIdx? (· == UInt8.ofNat s[k].toNat) = none := by
          rw [UInt8.ofNat_toNat]; unfold blank at hbl; rwa [Option.isSome_eq_false_iff, Option.isNone_iff_eq_none] at hbl
        have HX := Hid.out (p := Hid _) hix; clear hix
        obtain ⟨a, n, c, d, hx⟩ : ∃ a n c d, next (s.data.toList.drop k) = (a, n, c, d) := ⟨_, _, _, _, rfl⟩
        have hf := next_fits (s.data.toList.drop k) (List.ne_nil_of_length_pos (by rw [List.length_drop]; omega))
        rw [hx] at hf
        have f1 := hf.size
        have f2 := hf.bad
        have f4 := hf.all
        simp only [List.length_drop, HL.out] at f1 f2 f4
        have hnx := next_any (s.extract k s.size) wr (by rw [ByteArray.size_extract]; omega) (by rw [ByteArray.size_extract]; omega) (HT.out.stays hb.out)
        unfold NPost at hnx
        rw [ext_drop, hx, show val (a, n, c, d) = .tuple #[.int .i64 a, .int .i64 n, .int .i64 c, .int .i64 d] from rfl] at hnx
        have hbad : d ≠ 0 → Hid (toksAt s.data.toList 0 = (pre, ((k + c : Nat), d))) := by
          intro hd
          rw [Hid, hp.out, toksAt_bad _ _ hlen hbl (by rw [hx]; exact hd), hx]; simp
        have htok : d = 0 → Hid (toksAt s.data.toList 0 = ((pre ++ [(a, (s.data.toList.drop k).take n, k)]) ++ (toksAt s.data.toList (k + n)).1, (toksAt s.data.toList (k + n)).2)) := by
          intro hd
          rw [Hid, hp.out, toksAt_tok _ _ hlen hbl (by rw [hx]; exact hd), hx]; simp
        clear hx hf hbl hget
        have HN := Hid.out (p := Hid _) hnx; clear hnx
        go_wp2_with fail
        refine (indexByte_any ⟨#[32, 9, 13]⟩ s[k].toNat wr (UInt8.toNat_lt _)).mono ?_
        rintro e w' ⟨rfl, rfl⟩
        rw [show (⟨#[32, 9, 13]⟩ : ByteArray).data.toList = [32, 9, 13] from rfl, HX.out, show zidx none = -1 from rfl]
        go_wp2_with fail
        refine (Calls.mono HN.out ?_)
        rintro e w2 ⟨rfl, hb2⟩
        have B2 : Hid (Below w0.heap.size w0 w2) := hb.out.trans (hb2.mono hb.out.size)
        have L2 : Hid (Lst w2 B b pre) := hL.out.stays hb2
        clear hb2
        by_cases hd : d = 0
        · subst hd
          have h1 := f1 rfl
          have HF := htok rfl
          clear f1 htok hbad
          obtain ⟨q, hq⟩ : ∃ q : Nat, k + n = q := ⟨_, rfl⟩
          have hqq : (k : Int) + (n : Int) = (q : Int) := by omega
          have hq1 : k ≤ q := by omega
          have hq2 : q ≤ s.size := by omega
          have hex : Hid (s.extract k q = ⟨((s.data.toList.drop k).take n).toArray⟩) := by rw [Hid, ← hq]; exact ext_take s k n
          have HQ := Hid.out (p := Hid _) hq; clear hq
          go_wp2_with fail
          rw [hex.out]
          have hBs : B ≤ w2.heap.size := by rw [← HB.out]; exact B2.out.size
          refine (put_tok B b pre (a, (s.data.toList.drop k).take n, k) w2 L2.out (by have := hpk.out; omega) hBs).mono ?_
          rintro e w3 ⟨rfl, h3, hb3⟩
          have L3 : Hid (Lst w3 B b (pre ++ [(a, (s.data.toList.drop k).take n, k)])) := h3
          have B3 : Hid (Below w0.heap.size w0 w3) := B2.out.trans (by rw [HB.out]; exact hb3)
          have hP3 : Hid ((pre ++ [(a, (s.data.toList.drop k).take n, k)]).length ≤ k + n) := by rw [Hid, List.length_append]; have := hpk.out; simp; omega
          clear h3 hb3
          go_wp2_with fail
          go_roundw
          case rel => exact ⟨q, _, hq2, rfl, rfl, rfl, by rw [← HQ.out]; exact HF.out, by rw [← HQ.out]; exact hP3, L3.out, B3.out⟩
          case measure => have := HQ.out; simp [intOf]; omega
        · have hq : ((d : Int) != 0) = true := by rw [bne_iff_ne]; omega
          have HF := hbad hd
          clear hbad htok f1 hd
          go_wp2_with fail
          rw [Exit.noGoto_ret]
          go_ret2
          refine ⟨?_, ?_, B2.out⟩
          · rw [HF.out]; simp
          · rw [HF.out]; exact L2.out
      · obtain ⟨i, hi⟩ : ∃ i, [32, 9, 13].findIdx? (· == UInt8.ofNat s[k].toNat) = some i := by
          rw [UInt8.ofNat_toNat]; unfold blank at hbl; exact Option.isSome_iff_exists.1 hbl
        have HX := Hid.out (p := Hid _) hi; clear hi
        have hge : decide (0 ≤ (i : Int)) = true := by simp
        have HF : Hid (toksAt s.data.toList 0 = (pre ++ (toksAt s.data.toList (k + 1)).1, (toksAt s.data.toList (k + 1)).2)) := by
          rw [Hid, hp.out, toksAt_blank _ _ hlen hbl]
        clear hbl hget
        go_wp2_with fail
        refine (indexByte_any ⟨#[32, 9, 13]⟩ s[k].toNat wr (UInt8.toNat_lt _)).mono ?_
        rintro e w' ⟨rfl, rfl⟩
        rw [show (⟨#[32, 9, 13]⟩ : ByteArray).data.toList = [32, 9, 13] from rfl, HX.out, show zidx (some i) = (i : Int) from rfl]
        go_wp2_with fail
        go_roundw
        case rel => exact ⟨k + 1, pre, by omega, rfl, rfl, by go_num, HF.out, by have := hpk.out; unfold Hid; omega, hL.out, hb.out⟩
        case measure => simp [intOf]; omega
    · obtain rfl : k = s.size := by omega
      have HF : Hid (toksAt s.data.toList 0 = (pre, (0, 0))) := by
        have h1 := toksAt_end s.data.toList
        rw [HL.out] at h1
        rw [Hid, hp.out, h1]; simp
      go_wp2_with fail
      rw [Exit.noGoto_ret]
      go_ret2
      refine ⟨?_, ?_, hb.out⟩
      · rw [HF.out]; rfl
      · rw [HF.out]; exact hL.out
end Go.Proofs.YtbfkgddhpabioaaGreatDoor.Lex
/- lex.Parse. -/
namespace Go.Proofs.YtbfkgddhpabioaaGreatDoor.Lex
open Go.RowKit Go.Proofs.YtbfkgddhpabioaaGreatDoor.Utf Go.Proofs.YtbfkgddhpabioaaGreatDoor.Strs
set_option linter.unusedVariables false
set_option linter.unusedSimpArgs false
set_option maxRecDepth 100000

/-- What Parse tells: the tokens; where it goes wrong, and how. -/
def parse (l : List UInt8) : List Tok × Int × Nat :=
  if 1048576 < l.length then ([], 0, 4)
  else if (toksAt l 0).2.2 ≠ 0 then ([], (((toksAt l 0).2.1 : Nat) : Int), (toksAt l 0).2.2) else ((toksAt l 0).1, -1, 0)
theorem parse_big {l : List UInt8} (h : 1048576 < l.length) : parse l = ([], 0, 4) := by unfold parse; rw [if_pos h]
theorem parse_bad {l : List UInt8} (h : ¬ 1048576 < l.length) (he : (toksAt l 0).2.2 ≠ 0) : parse l = ([], (((toksAt l 0).2.1 : Nat) : Int), (toksAt l 0).2.2) := by unfold parse; rw [if_neg h, if_pos he]
theorem parse_ok {l : List UInt8} (h : ¬ 1048576 < l.length) (he : (toksAt l 0).2.2 = 0) : parse l = ((toksAt l 0).1, -1, 0) := by unfold parse; rw [if_neg h, if_neg (by rw [he]; simp)]

/-- A row of tokens. -/
def Row (w : World) (B : Nat) (v : Value) (l : List Tok) : Prop := w.ownsRow B 59 3 v l.length (toksCells l)
theorem Row.stays {w w' : World} {B : Nat} {v : Value} {l : List Tok} (h : Row w B v l) (hb : Below w.heap.size w w') : Row w' B v l :=
by
  have h' : w.ownsRow B 59 3 v l.length (toksCells l) := h
  exact h'.kept (row := none) ⟨hb.os, hb.tape, hb.output, hb.size, fun k hk _ => hb.block k hk⟩ (Decidable.em (v.ownBlock = none))
theorem Row.form {w : World} {B : Nat} {v : Value} {l : List Tok} (h : Row w B v l) : ∃ a c, v = .slice a l.length c := by
  rcases h.2 with ⟨h1, h2⟩ | ⟨g, cap, cur, hv, _⟩
  · exact ⟨none, 0, by rw [h1, h2]⟩
  · exact ⟨_, _, hv⟩
theorem Row.nil (w : World) (B : Nat) : Row w B (.slice none 0 0) [] := World.ownsRow_nil _ _ _ _
/-- What Parse leaves. -/
def PPost (l : List UInt8) (w : World) (e : Ending) (w' : World) : Prop :=
  ∃ v, e = .returned (.tuple #[v, .int .i64 (parse l).2.1, .int .i64 (parse l).2.2]) ∧ Row w' w.heap.size v (parse l).1 ∧ Below w.heap.size w w'

theorem parse_any_big (s : ByteArray) (w : World) (hs : 1048576 < s.size) (hm : s.size ≤ 9223372036854775807) :
    Calls Tryz.prog 21 #[.string s] w (PPost s.data.toList w) := by
  have hmf : ∀ (fn : Fn) (first cap : Array Value) (w : World), (Instr.makeFunc fn first cap).run Tryz.prog w = .ok (.func fn first cap) w := fun _ _ _ _ => rfl
  have HP : Hid (parse s.data.toList = ([], 0, 4)) := parse_big (by simpa using hs)
  go_enter Tryz.func21, Tryz.ntmps21
  go_wp2_with fail
  refine (walk_big s _ _ hs hm).mono ?_
  rintro e w' ⟨rfl, rfl⟩
  go_wp2_with fail
  refine bodyPost_ret (v := .tuple #[.slice none 0 0, .int .i64 0, .int .i64 4]) (by simp [results, Tryz.results21, go_sem]) rfl ?_
  refine ⟨_, by rw [HP.out]; rfl, by rw [HP.out]; exact Row.nil _ _, (Below.refl _ _).alloc (Nat.le_refl _) _⟩

set_option maxHeartbeats 2000000 in
theorem parse_any_small (s : ByteArray) (w : World) (hs : s.size ≤ 1048576) (T : Tabs w) :
    Calls Tryz.prog 21 #[.string s] w (PPost s.data.toList w) := by
  have HT := Hid.out (p := Hid _) T; clear T
  have hmf : ∀ (fn : Fn) (first cap : Array Value) (w : World), (Instr.makeFunc fn first cap).run Tryz.prog w = .ok (.func fn first cap) w := fun _ _ _ _ => rfl
  have hnb : ¬ 1048576 < s.data.toList.length := by simp; omega
  have hw := walk_put s w (w.alloc (.cells #[.slice none 0 0] 38)) w.heap.size w.heap.size hs HT.out ((Below.refl _ _).alloc (Nat.le_refl _) _) rfl ⟨Nat.le_refl _, _, heap_alloc_new _ _, World.ownsRow_nil _ _ _ _⟩
  obtain ⟨L, at_, e_, hx⟩ : ∃ L a e, toksAt s.data.toList 0 = (L, a, e) := ⟨_, _, _, rfl⟩
  unfold WPost at hw
  rw [hx] at hw
  simp only at hw
  by_cases he : e_ = 0
  · have HP : Hid (parse s.data.toList = (L, -1, 0)) := by
      rw [Hid, parse_ok hnb (by rw [hx]; exact he), hx]
    subst he
    clear hx hnb
    go_enter Tryz.func21, Tryz.ntmps21
    go_wp2_with fail
    refine hw.mono ?_
    rintro e w2 ⟨rfl, h2, hb2⟩
    obtain ⟨v, hv, ho⟩ := h2.it
    obtain ⟨va, vc, rfl⟩ := Row.form ho
    obtain ⟨n, hn⟩ : ∃ n, n = L.length := ⟨_, rfl⟩
    rw [← hn] at hv ho
    have HN := Hid.out (p := Hid _) hn; clear hn
    have c0 := cell_of hv 0
    have f0 := frozen_of hv 0
    have HV := Hid.out (p := Hid _) hv
    have HO : Hid (Row w2 w.heap.size (.slice va n vc) L) := by rw [Hid, Row, ← HN.out]; exact ho
    have HB2 := Hid.out (p := Hid _) hb2
    have hne : Hid ((Value.slice va n vc).ownBlock ≠ some w.heap.size) := own_ne ho hv (by decide)
    clear h2 hv ho hb2 hw
    go_wp2_with fail
    refine bodyPost_ret (v := .tuple #[.slice va n vc, .int .i64 (-1), .int .i64 0]) (by simp [results, Tryz.results21, go_sem, c0]) rfl ?_
    refine ⟨_, by rw [HP.out]; rfl, ?_, HB2.out.setCell (by simp) _⟩
    rw [HP.out]
    exact World.ownsRow.kept (row := some w.heap.size) HO.out ⟨rfl, rfl, rfl, by simp [World.setCell], fun k _ hk => Below.heap_setCell _ _ _ _ (fun e => hk (by simp [e]))⟩ (Or.inr hne.out)
  · have HP : Hid (parse s.data.toList = ([], (at_ : Int), e_)) := by
      rw [Hid, parse_bad hnb (by rw [hx]; exact he), hx]
    have hq : ((e_ : Int) != 0) = true := by rw [bne_iff_ne]; omega
    clear hx hnb he
    go_enter Tryz.func21, Tryz.ntmps21
    go_wp2_with fail
    refine hw.mono ?_
    rintro e w2 ⟨rfl, h2, hb2⟩
    obtain ⟨v, hv, ho⟩ := h2.it
    obtain ⟨va, vc, rfl⟩ := Row.form ho
    obtain ⟨n, hn⟩ : ∃ n, n = L.length := ⟨_, rfl⟩
    rw [← hn] at hv ho
    have HN := Hid.out (p := Hid _) hn; clear hn
    have c0 := cell_of hv 0
    have f0 := frozen_of hv 0
    have HV := Hid.out (p := Hid _) hv
    have HB2 := Hid.out (p := Hid _) hb2
    clear h2 hv ho hb2 hw
    go_wp2_with fail
    refine bodyPost_ret (v := .tuple #[.slice none 0 0, .int .i64 at_, .int .i64 e_]) (by simp [results, Tryz.results21, go_sem, c0]) rfl ?_
    exact ⟨_, by rw [HP.out], by rw [HP.out]; exact Row.nil _ _, HB2.out.setCell (by simp) _⟩

theorem parse_any (s : ByteArray) (w : World) (hm : s.size ≤ 9223372036854775807) (T : Tabs w) :
    Calls Tryz.prog 21 #[.string s] w (PPost s.data.toList w) := by
  by_cases h : 1048576 < s.size
  · exact parse_any_big s w h hm
  · exact parse_any_small s w (by omega) T
end Go.Proofs.YtbfkgddhpabioaaGreatDoor.Lex
