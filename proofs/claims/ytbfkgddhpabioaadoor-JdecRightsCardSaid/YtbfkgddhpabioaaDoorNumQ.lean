/- num.Parse. -/
import Derived.Test.YtbfkgddhpabioaaDoorNumPR
import Derived.Test.YtbfkgddhpabioaaDoorPlainA
import Derived.Test.YtbfkgddhpabioaaDoorLib
namespace Go.Proofs.YtbfkgddhpabioaaDoor.Num
open Go.RowKit Go.Proofs.YtbfkgddhpabioaaDoor.Strs
set_option linter.unusedVariables false
set_option linter.unusedSimpArgs false
set_option maxRecDepth 100000

/-- The digits and the power at last. -/
def fin (neg : Bool) (d : List UInt8) (x : Int) : Except Nat (Bool × List UInt8 × Int) :=
  let d3 := d.dropWhile (· == 48)
  let cut := (d3.reverse.dropWhile (· == 48)).reverse
  if cut = [] then .ok (false, [], 0)
  else if right neg cut (x + ((d3.length : Int) - cut.length)) then .ok (neg, cut, x + ((d3.length : Int) - cut.length)) else .error 4
def point (neg : Bool) (d : List UInt8) (x : Int) : Except Nat (Bool × List UInt8 × Int) :=
  match d.findIdx? (· == 46) with
  | none => fin neg d x
  | some j => fin neg (d.take j ++ d.drop (j + 1)) (x - ((d.length : Int) - j - 1))
def mant (neg : Bool) (d : List UInt8) : Except Nat (Bool × List UInt8 × Int) :=
  match d.findIdx? ([101, 69].contains ·) with
  | none => point neg d 0
  | some i => point neg (d.take i) (power (d.drop (i + 1)))
def parse (l : List UInt8) : Except Nat (Bool × List UInt8 × Int) :=
  if l = [] ∨ scan l ≠ l.length then .error 3
  else mant (l.head? == some 45) (if l.head? == some 45 then l.drop 1 else l)
/-- .. as the program tells it. -/
def parseV (l : List UInt8) : Value :=
  match parse l with
  | .error k => .tuple #[.agg #[.bool false, .string ⟨#[]⟩, .int .i64 0], .int .i64 k]
  | .ok (n, d, x) => .tuple #[.agg #[.bool n, .string ⟨d.toArray⟩, .int .i64 x], .int .i64 0]

theorem pdigits_le (l : List UInt8) : pdigits l ≤ 1099511627776 := by
  have : ∀ (l : List UInt8) (n : Nat), n ≤ 1099511627776 → l.foldl pstep n ≤ 1099511627776 := by
    intro l
    induction l with
    | nil => intro n h; exact h
    | cons c l ih => intro n h; exact ih _ (pstep_le n c)
  exact this l 0 (by omega)
theorem power_le (l : List UInt8) : -1099511627776 ≤ power l ∧ power l ≤ 1099511627776 := by
  unfold power
  split
  · omega
  · rename_i c t
    have h1 := pdigits_le t
    have h2 := pdigits_le (c :: t)
    split
    · omega
    · split <;> omega
theorem dropWhile_le {p : UInt8 → Bool} : ∀ l : List UInt8, (l.dropWhile p).length ≤ l.length
  | [] => Nat.le_refl _
  | c :: l => by
    rw [List.dropWhile_cons]
    split
    · have := dropWhile_le (p := p) l; simp; omega
    · exact Nat.le_refl _
theorem mk_str {d : ByteArray} {l : List UInt8} (h : d.data.toList = l) : (⟨l.toArray⟩ : ByteArray) = d := by
  subst h; simp

theorem nil_size {d : ByteArray} : d.data.toList = [] ↔ d.size = 0 := by
  rw [← List.length_eq_zero_iff]; simp
theorem fin_zero {neg : Bool} {d : List UInt8} {x : Int} {d3 cut : ByteArray} (h3 : d3.data.toList = d.dropWhile (· == 48)) (hc : cut.data.toList = (d3.data.toList.reverse.dropWhile (· == 48)).reverse) (hz : cut.size = 0) :
    fin neg d x = .ok (false, [], 0) := by
  unfold fin
  simp only []
  rw [← h3, ← hc, if_pos (nil_size.2 hz)]
theorem fin_bad {neg : Bool} {d : List UInt8} {x : Int} {d3 cut : ByteArray} (h3 : d3.data.toList = d.dropWhile (· == 48)) (hc : cut.data.toList = (d3.data.toList.reverse.dropWhile (· == 48)).reverse) (hz : ¬ cut.size = 0)
    (y : Int) (hy : y = x + ((d3.size : Int) - cut.size)) (hr : right neg cut.data.toList y = false) : fin neg d x = .error 4 := by
  unfold fin
  simp only []
  rw [← h3, ← hc, if_neg (fun e => hz (nil_size.1 e)), show ((d3.data.toList.length : Nat) : Int) - (cut.data.toList.length : Nat) = (d3.size : Int) - cut.size by simp, ← hy, if_neg (by rw [hr]; decide)]
theorem fin_ok {neg : Bool} {d : List UInt8} {x : Int} {d3 cut : ByteArray} (h3 : d3.data.toList = d.dropWhile (· == 48)) (hc : cut.data.toList = (d3.data.toList.reverse.dropWhile (· == 48)).reverse) (hz : ¬ cut.size = 0)
    (y : Int) (hy : y = x + ((d3.size : Int) - cut.size)) (hr : right neg cut.data.toList y = true) : fin neg d x = .ok (neg, cut.data.toList, y) := by
  unfold fin
  simp only []
  rw [← h3, ← hc, if_neg (fun e => hz (nil_size.1 e)), show ((d3.data.toList.length : Nat) : Int) - (cut.data.toList.length : Nat) = (d3.size : Int) - cut.size by simp, ← hy, if_pos hr]

/-- A text that is a number's: what the walk is to know of it. -/
structure Whole (s : ByteArray) (d0 : ByteArray) (neg : Bool) : Prop where
  parse : parseV s.data.toList = (match mant neg d0.data.toList with
    | .error k => .tuple #[.agg #[.bool false, .string ⟨#[]⟩, .int .i64 0], .int .i64 k]
    | .ok (n, d, x) => .tuple #[.agg #[.bool n, .string ⟨d.toArray⟩, .int .i64 x], .int .i64 0])
  ascii : ∀ c ∈ d0.data.toList, c.toNat < 128
  more : ∀ i, d0.data.toList.findIdx? ([101, 69].contains ·) = some i → i + 1 < d0.size
  size : d0.size ≤ s.size
theorem whole_of (s d0 : ByteArray) (neg : Bool) (h0 : s.data.toList ≠ []) (hsc : scan s.data.toList = s.data.toList.length) (hn : neg = (s.data.toList.head? == some 45)) (hd : d0.data.toList = if s.data.toList.head? == some 45 then s.data.toList.drop 1 else s.data.toList) : Whole s d0 neg := by
  have hr := (scan_full _ h0).1 hsc
  have hsuf : ∃ a, s.data.toList = a ++ d0.data.toList := by
    rw [hd]
    split
    · exact ⟨s.data.toList.take 1, (List.take_append_drop 1 _).symm⟩
    · exact ⟨[], rfl⟩
  obtain ⟨a, ha⟩ := hsuf
  refine ⟨?_, ?_, ?_, ?_⟩
  · unfold parseV parse
    rw [if_neg (by simp [h0, hsc]), hd, hn]
  · intro c hc
    exact sgn_ascii _ (run_signs _ 0 (by omega) hr.1 c (by rw [ha]; exact List.mem_append_right _ hc))
  · intro i hi
    obtain ⟨hlt, hp, _⟩ := List.findIdx?_eq_some_iff_getElem.1 hi
    have hl : d0.data.toList.length = d0.size := by simp
    have hc : sgn (d0.data.toList[i]).toNat = 5 := by
      have : d0.data.toList[i] = 101 ∨ d0.data.toList[i] = 69 := by simpa using hp
      rcases this with h | h <;> rw [h] <;> rfl
    have hsp : s.data.toList = (a ++ d0.data.toList.take i) ++ d0.data.toList[i] :: d0.data.toList.drop (i + 1) := by
      rw [ha, List.append_assoc, ← List.drop_eq_getElem_cons hlt, List.take_append_drop]
    rw [hsp] at hr
    have := mark_more _ _ _ hc hr.1 hr.2
    have h2 := List.length_pos_iff.2 this
    rw [List.length_drop] at h2
    omega
  · have := congrArg List.length ha
    simp at this
    omega

/-- What lies behind the call. -/
def PPost (s : ByteArray) (w : World) (e : Ending) (w' : World) : Prop := e = .returned (parseV s.data.toList) ∧ Below w.heap.size w w'

theorem set3 {w : World} {b : Nat} {x y z : Value} {T : TypeId} (h : w.heap[b]? = some (.cells #[x, y, z] T (0, 0))) (a c d : Value) :
    (((w.setCell ⟨b, 0, none⟩ a).setCell ⟨b, 1, none⟩ c).setCell ⟨b, 2, none⟩ d).heap[b]? = some (.cells #[a, c, d] T (0, 0)) :=
  heap_set_same (heap_set_same (heap_set_same h a) c) d
theorem below_set3 {w w' : World} {b : Nat} (h : Below b w w') (a c d : Value) : Below b w (((w'.setCell ⟨b, 0, none⟩ a).setCell ⟨b, 1, none⟩ c).setCell ⟨b, 2, none⟩ d) :=
  ((h.setCell (p := ⟨b, 0, none⟩) (Nat.le_refl _) _).setCell (p := ⟨b, 1, none⟩) (Nat.le_refl _) _).setCell (p := ⟨b, 2, none⟩) (Nat.le_refl _) _
theorem pret (s : ByteArray) (w w' : World) (tm : Array Value) (a b c k : Value) (hb : w'.heap[w.heap.size]? = some (.cells #[a, b, c] 25 (0, 0))) (hB : Below w.heap.size w w') (hv : parseV s.data.toList = .tuple #[.agg #[a, b, c], k])
    (h2 : tm[2]? = some (.pointer (some ⟨w.heap.size, 0, none⟩))) (h3 : tm[3]? = some k) :
    bodyPost Tryd.prog Tryd.f59 (PPost s w) Exit.ret { tmps := tm, defers := [] } w' := by
  have c0 := cell_of hb 0
  have c1 := cell_of hb 1
  have c2 := cell_of hb 2
  refine bodyPost_ret (v := .tuple #[.agg #[a, b, c], k]) ?_ rfl ⟨by rw [hv], hB⟩
  simp [results, Tryd.results59, go_sem, h2, h3, c0, c1, c2]

set_option maxHeartbeats 4000000 in
theorem parse_e0 (s : ByteArray) (w : World) (hs : s.size ≤ 2147483648) (T : Steps w) (h0 : s = ⟨#[]⟩) :
    Calls Tryd.prog 59 #[.string s] w (PPost s w) := by
  have HT := Hid.out (p := Hid _) T; clear T
  subst h0
  have HV : Hid (parseV (⟨#[]⟩ : ByteArray).data.toList = .tuple #[.agg #[.bool false, .string ⟨#[]⟩, .int .i64 0], .int .i64 3]) := rfl
  go_enter Tryd.func59, Tryd.ntmps59
  go_wp2_with fail
  exact pret _ w _ _ _ _ _ _ (heap_alloc_new _ _) ((Below.refl _ _).alloc (Nat.le_refl _) _) HV.out rfl rfl

set_option maxHeartbeats 4000000 in
theorem parse_e1 (s : ByteArray) (w : World) (hs : s.size ≤ 2147483648) (T : Steps w) (h0 : s.size ≠ 0) (h1 : scan s.data.toList ≠ s.size) :
    Calls Tryd.prog 59 #[.string s] w (PPost s w) := by
  have HT := Hid.out (p := Hid _) T; clear T
  have hne : s.toList.isEmpty = false := by rw [isEmpty_size]; simp [h0]
  have q1 : ((scan s.data.toList : Int) != (s.size : Int)) = true := by rw [bne_iff_ne]; omega
  have HV : Hid (parseV s.data.toList = .tuple #[.agg #[.bool false, .string ⟨#[]⟩, .int .i64 0], .int .i64 3]) := by
    rw [Hid, parseV, parse, if_pos (Or.inr (by rw [show s.data.toList.length = s.size by simp]; exact h1))]; rfl
  clear h0 h1
  have hsl := scan_le s.data.toList
  rw [show s.data.toList.length = s.size by simp] at hsl
  have hsc := fun w T0 => scan_any s w (by omega) T0
  generalize scan s.data.toList = sc at *
  have T0 : Steps (w.alloc (.cells #[.bool false, .string ⟨#[]⟩, .int .i64 0] 25)) := ⟨fun st sg h1 h2 => (World.cell?_of_block (Below.heap_alloc _ _ _ HT.out.lt)).trans (HT.out.cell st sg h1 h2)⟩
  go_enter Tryd.func59, Tryd.ntmps59
  go_wp2_with fail
  refine (hsc _ T0).mono ?_
  rintro e w1 ⟨rfl, n, hw1⟩
  clear T0
  have R1 : Hid (w1.heap[w.heap.size]? = some (.cells #[.bool false, .string ⟨#[]⟩, .int .i64 0] 25 (0, 0))) := by rw [hw1]; exact heap_alloc_new _ _
  have B1 : Hid (Below w.heap.size w w1) := by rw [hw1]; exact ((Below.refl _ _).alloc (Nat.le_refl _) _).trans (below_drewN _ _ _)
  clear hw1
  have cR0_1 := cell_of R1.out 0
  have fR0_1 := frozen_of R1.out 0
  have cR1_1 := cell_of R1.out 1
  have fR1_1 := frozen_of R1.out 1
  have cR2_1 := cell_of R1.out 2
  have fR2_1 := frozen_of R1.out 2
  go_wp2_with fail
  exact pret s w _ _ _ _ _ _ (set3 R1.out _ _ _) (below_set3 B1.out _ _ _) HV.out rfl rfl

set_option maxHeartbeats 8000000 in
theorem parse_main (s : ByteArray) (w : World) (hs : s.size ≤ 2147483648) (T : Steps w) (h0 : s.size ≠ 0) (h1 : scan s.data.toList = s.size) :
    Calls Tryd.prog 59 #[.string s] w (PPost s w) := by
  have HT := Hid.out (p := Hid _) T; clear T
  have hne : s.toList.isEmpty = false := by rw [isEmpty_size]; simp [h0]
  have hl : s.data.toList.length = s.size := by simp
  have hn0 : s.data.toList ≠ [] := List.ne_nil_of_length_pos (by omega)
  have q1 : ((s.size : Int) != (s.size : Int)) = false := by simp
  have HW : Hid (∀ (d0 : ByteArray) (neg : Bool), neg = (s.data.toList.head? == some 45) → (d0.data.toList = if s.data.toList.head? == some 45 then s.data.toList.drop 1 else s.data.toList) → Whole s d0 neg) := fun d0 neg a b => whole_of s d0 neg hn0 (by rw [h1, hl]) a b
  have hsc := fun w T0 => scan_any s w (by omega) T0
  rw [h1] at hsc
  clear h0 h1 hl hn0
  have T0 : Steps (w.alloc (.cells #[.bool false, .string ⟨#[]⟩, .int .i64 0] 25)) := ⟨fun st sg h1 h2 => (World.cell?_of_block (Below.heap_alloc _ _ _ HT.out.lt)).trans (HT.out.cell st sg h1 h2)⟩
  go_enter Tryd.func59, Tryd.ntmps59
  go_wp2_with fail
  refine (hsc _ T0).mono ?_
  rintro e w1 ⟨rfl, n, hw1⟩
  clear T0 hsc
  have R1 : Hid (w1.heap[w.heap.size]? = some (.cells #[.bool false, .string ⟨#[]⟩, .int .i64 0] 25 (0, 0))) := by rw [hw1]; exact heap_alloc_new _ _
  have B1 : Hid (Below w.heap.size w w1) := by rw [hw1]; exact ((Below.refl _ _).alloc (Nat.le_refl _) _).trans (below_drewN _ _ _)
  clear hw1
  go_wp2_with fail
  refine (cut1_any s 45 w1).mono ?_
  rintro e w' ⟨d0, neg, rfl, hneg, hd0, rfl⟩
  have WH := Hid.out (p := Hid _) (HW.out d0 neg hneg hd0)
  have hds := WH.out.size
  clear hneg hd0
  go_wp2_with fail
  have hix : Calls Tryd.prog 83 #[.string d0, .string ⟨#[101, 69]⟩] w1 fun e w' => e = .returned (.int .i64 (zidx (d0.data.toList.findIdx? ([101, 69].contains ·)))) ∧ Below w1.heap.size w1 w' := indexAny_any d0 ⟨#[101, 69]⟩ w1 (by omega) (by decide) WH.out.ascii (by decide)
  cases he : d0.data.toList.findIdx? ([101, 69].contains ·) with
  | none =>
    simp only [he, zidx] at hix
    have HE := Hid.out (p := Hid _) he; clear he
    refine hix.mono ?_
    rintro e w2 ⟨rfl, hb2⟩
    have R2 : Hid (w2.heap[w.heap.size]? = some (.cells #[.bool false, .string ⟨#[]⟩, .int .i64 0] 25 (0, 0))) := (hb2.block _ (heap_lt R1.out)).trans R1.out
    have B2 : Hid (Below w.heap.size w w2) := B1.out.trans (hb2.mono B1.out.size)
    clear hb2 hix R1 B1
    go_wp2_with fail
    have hjx : Calls Tryd.prog 45 #[.string d0, .int .u8 (46 : Nat)] w2 fun e w' => e = .returned (.int .i64 (zidx (d0.data.toList.findIdx? (· == 46)))) ∧ w2 = w' := indexByte_any d0 46 w2 (by decide)
    cases hj : d0.data.toList.findIdx? (· == 46) with
    | none =>
      simp only [hj, zidx] at hjx
      have HJ := Hid.out (p := Hid _) hj; clear hj
      refine hjx.mono ?_
      rintro e w' ⟨rfl, rfl⟩
      clear hjx
      go_wp2_with fail
      refine (trimLeft_any d0 48 (by decide) _).mono ?_
      rintro e w' ⟨d3, rfl, hd3', rfl⟩
      have hd3 : Hid (d3.data.toList = (d0.data.toList).dropWhile (· == 48)) := hd3'
      clear hd3'
      have hd3s : d3.size ≤ d0.size := by
        have := congrArg List.length hd3.out
        have h2 := dropWhile_le (p := (· == 48)) (d0.data.toList)
        rw [show d3.data.toList.length = d3.size by simp] at this
        have h3 : (d0.data.toList).length = d0.size := by simp
        omega
      go_wp2_with fail
      refine (trimRight_any d3 48 (by decide) _ (by omega)).mono ?_
      rintro e w' ⟨cut, rfl, hcut', rfl⟩
      have hcut : Hid (cut.data.toList = (d3.data.toList.reverse.dropWhile (· == 48)).reverse) := hcut'
      clear hcut'
      have hcs : cut.size ≤ d3.size := by
        have := congrArg List.length hcut.out
        have h2 := dropWhile_le (p := (· == 48)) d3.data.toList.reverse
        rw [show cut.data.toList.length = cut.size by simp, List.length_reverse] at this
        rw [List.length_reverse, show d3.data.toList.length = d3.size by simp] at h2
        omega
      by_cases hz : cut.size = 0
      · have qz : cut.toList.isEmpty = true := by rw [isEmpty_size]; simp [hz]
        have HV : Hid (parseV s.data.toList = .tuple #[.agg #[.bool false, .string ⟨#[]⟩, .int .i64 0], .int .i64 0]) := by
          rw [Hid, WH.out.parse, mant, HE.out]; simp only []; rw [point, HJ.out]; simp only []
          rw [fin_zero hd3.out hcut.out hz]
        clear hz
        have cR0_2 := cell_of R2.out 0
        have fR0_2 := frozen_of R2.out 0
        have cR1_2 := cell_of R2.out 1
        have fR1_2 := frozen_of R2.out 1
        have cR2_2 := cell_of R2.out 2
        have fR2_2 := frozen_of R2.out 2
        go_wp2_with fail
        exact pret s w _ _ _ _ _ _ (set3 R2.out _ _ _) (below_set3 B2.out _ _ _) HV.out rfl rfl
      · have qz : cut.toList.isEmpty = false := by rw [isEmpty_size]; simp [hz]
        go_wp2_with fail
        refine (right_any neg cut ((d3.size : Int) - cut.size) _ (by omega)).mono ?_
        rintro e w5 ⟨rfl, hb5⟩
        have R5 : Hid (w5.heap[w.heap.size]? = some (.cells #[.bool false, .string ⟨#[]⟩, .int .i64 0] 25 (0, 0))) := (hb5.block _ (by have := heap_lt R2.out; simp; omega)).trans (heap_alloc_old R2.out)
        have N5 : Hid (w5.heap[w2.heap.size]? = some (.cells #[.bool neg, .string cut, .int .i64 ((d3.size : Int) - cut.size)] 25 (0, 0))) := (hb5.block _ (by simp)).trans (heap_alloc_new _ _)
        have B5 : Hid (Below w.heap.size w w5) := (B2.out.alloc B2.out.size _).trans (hb5.mono (by have := B2.out.size; simp; omega))
        have hRN : w.heap.size ≠ w2.heap.size := by have := heap_lt R2.out; omega
        clear hb5
        cases hr : right neg cut.data.toList ((d3.size : Int) - cut.size) with
        | false =>
          have HV : Hid (parseV s.data.toList = .tuple #[.agg #[.bool false, .string ⟨#[]⟩, .int .i64 0], .int .i64 4]) := by
            rw [Hid, WH.out.parse, mant, HE.out]; simp only []; rw [point, HJ.out]; simp only []
            rw [fin_bad hd3.out hcut.out hz ((d3.size : Int) - cut.size) (by omega) hr]; rfl
          clear hz hr
          have cR0_5 := cell_of R5.out 0
          have fR0_5 := frozen_of R5.out 0
          have cR1_5 := cell_of R5.out 1
          have fR1_5 := frozen_of R5.out 1
          have cR2_5 := cell_of R5.out 2
          have fR2_5 := frozen_of R5.out 2
          go_wp2_with fail
          exact pret s w _ _ _ _ _ _ (set3 R5.out _ _ _) (below_set3 B5.out _ _ _) HV.out rfl rfl
        | true =>
          have HV : Hid (parseV s.data.toList = .tuple #[.agg #[.bool neg, .string cut, .int .i64 ((d3.size : Int) - cut.size)], .int .i64 0]) := by
            rw [Hid, WH.out.parse, mant, HE.out]; simp only []; rw [point, HJ.out]; simp only []
            rw [fin_ok hd3.out hcut.out hz ((d3.size : Int) - cut.size) (by omega) hr]
          clear hz hr
          go_wp2_with fail
          refine (clone_any cut w5 (by omega)).mono ?_
          rintro e w6 ⟨rfl, hb6⟩
          have R6 : Hid (w6.heap[w.heap.size]? = some (.cells #[.bool false, .string ⟨#[]⟩, .int .i64 0] 25 (0, 0))) := (hb6.block _ (heap_lt R5.out)).trans R5.out
          have N6 : Hid (w6.heap[w2.heap.size]? = some (.cells #[.bool neg, .string cut, .int .i64 ((d3.size : Int) - cut.size)] 25 (0, 0))) := (hb6.block _ (heap_lt N5.out)).trans N5.out
          have B6 : Hid (Below w.heap.size w w6) := B5.out.trans (hb6.mono B5.out.size)
          clear hb6 R5 N5 B5
          have cR0_6 := cell_of R6.out 0
          have fR0_6 := frozen_of R6.out 0
          have cR1_6 := cell_of R6.out 1
          have fR1_6 := frozen_of R6.out 1
          have cR2_6 := cell_of R6.out 2
          have fR2_6 := frozen_of R6.out 2
          have cN0 := cell_of N6.out 0
          have cN1 := cell_of N6.out 1
          have cN2 := cell_of N6.out 2
          have fN1 := frozen_of N6.out 1
          go_wp2_with fail
          exact pret s w _ _ _ _ _ _ (set3 (heap_set_other R6.out hRN _) _ _ _) (below_set3 (B6.out.setCell (p := ⟨w2.heap.size, 1, none⟩) (by have := B2.out.size; exact this) _) _ _ _) HV.out rfl rfl
    | some j =>
      simp only [hj, zidx] at hjx
      have hjs : j < d0.size := by have h1 := (List.findIdx?_eq_some_iff_getElem.1 hj).1; simpa using h1
      have HJ := Hid.out (p := Hid _) hj; clear hj
      refine hjx.mono ?_
      rintro e w' ⟨rfl, rfl⟩
      clear hjx
      go_wp2_with fail
      go_quiet (fail)
      go_wp2_with fail
      obtain ⟨d2, hd2⟩ : ∃ d2, d2 = d0.extract 0 j ++ d0.extract (j + 1) d0.size := ⟨_, rfl⟩
      rw [← hd2]
      have HD2 : Hid (d2.data.toList = d0.data.toList.take j ++ d0.data.toList.drop (j + 1)) := by
        rw [Hid, hd2, ByteArray.data_append, Array.toList_append, Lib.extract_data, Lib.extract_data, List.take_of_length_le (l := List.drop (j + 1) _) (by simp)]; simp
      have hd2s : d2.size ≤ d0.size := by rw [hd2, ByteArray.size_append, ByteArray.size_extract, ByteArray.size_extract]; omega
      clear hd2
      have R3 : Hid ((w2.drewN nq).heap[w.heap.size]? = some (.cells #[.bool false, .string ⟨#[]⟩, .int .i64 0] 25 (0, 0))) := R2.out
      have B3 : Hid (Below w.heap.size w (w2.drewN nq)) := B2.out.trans (below_drewN _ _ _)
      clear R2 B2
      generalize w2.drewN nq = w3 at *
      refine (trimLeft_any d2 48 (by decide) _).mono ?_
      rintro e w' ⟨d3, rfl, hd3', rfl⟩
      have hd3 : Hid (d3.data.toList = (d2.data.toList).dropWhile (· == 48)) := hd3'
      clear hd3'
      have hd3s : d3.size ≤ d2.size := by
        have := congrArg List.length hd3.out
        have h2 := dropWhile_le (p := (· == 48)) (d2.data.toList)
        rw [show d3.data.toList.length = d3.size by simp] at this
        have h3 : (d2.data.toList).length = d2.size := by simp
        omega
      go_wp2_with fail
      refine (trimRight_any d3 48 (by decide) _ (by omega)).mono ?_
      rintro e w' ⟨cut, rfl, hcut', rfl⟩
      have hcut : Hid (cut.data.toList = (d3.data.toList.reverse.dropWhile (· == 48)).reverse) := hcut'
      clear hcut'
      have hcs : cut.size ≤ d3.size := by
        have := congrArg List.length hcut.out
        have h2 := dropWhile_le (p := (· == 48)) d3.data.toList.reverse
        rw [show cut.data.toList.length = cut.size by simp, List.length_reverse] at this
        rw [List.length_reverse, show d3.data.toList.length = d3.size by simp] at h2
        omega
      by_cases hz : cut.size = 0
      · have qz : cut.toList.isEmpty = true := by rw [isEmpty_size]; simp [hz]
        have HV : Hid (parseV s.data.toList = .tuple #[.agg #[.bool false, .string ⟨#[]⟩, .int .i64 0], .int .i64 0]) := by
          rw [Hid, WH.out.parse, mant, HE.out]; simp only []; rw [point, HJ.out]; simp only []; rw [← HD2.out]
          rw [fin_zero hd3.out hcut.out hz]
        clear hz
        have cR0_2 := cell_of R3.out 0
        have fR0_2 := frozen_of R3.out 0
        have cR1_2 := cell_of R3.out 1
        have fR1_2 := frozen_of R3.out 1
        have cR2_2 := cell_of R3.out 2
        have fR2_2 := frozen_of R3.out 2
        go_wp2_with fail
        exact pret s w _ _ _ _ _ _ (set3 R3.out _ _ _) (below_set3 B3.out _ _ _) HV.out rfl rfl
      · have qz : cut.toList.isEmpty = false := by rw [isEmpty_size]; simp [hz]
        go_wp2_with fail
        refine (right_any neg cut (-((d0.size : Int) - j - 1) + ((d3.size : Int) - cut.size)) _ (by omega)).mono ?_
        rintro e w5 ⟨rfl, hb5⟩
        have R5 : Hid (w5.heap[w.heap.size]? = some (.cells #[.bool false, .string ⟨#[]⟩, .int .i64 0] 25 (0, 0))) := (hb5.block _ (by have := heap_lt R3.out; simp; omega)).trans (heap_alloc_old R3.out)
        have N5 : Hid (w5.heap[w3.heap.size]? = some (.cells #[.bool neg, .string cut, .int .i64 (-((d0.size : Int) - j - 1) + ((d3.size : Int) - cut.size))] 25 (0, 0))) := (hb5.block _ (by simp)).trans (heap_alloc_new _ _)
        have B5 : Hid (Below w.heap.size w w5) := (B3.out.alloc B3.out.size _).trans (hb5.mono (by have := B3.out.size; simp; omega))
        have hRN : w.heap.size ≠ w3.heap.size := by have := heap_lt R3.out; omega
        clear hb5
        cases hr : right neg cut.data.toList (-((d0.size : Int) - j - 1) + ((d3.size : Int) - cut.size)) with
        | false =>
          have HV : Hid (parseV s.data.toList = .tuple #[.agg #[.bool false, .string ⟨#[]⟩, .int .i64 0], .int .i64 4]) := by
            rw [Hid, WH.out.parse, mant, HE.out]; simp only []; rw [point, HJ.out]; simp only []; rw [← HD2.out]
            rw [fin_bad hd3.out hcut.out hz (-((d0.size : Int) - j - 1) + ((d3.size : Int) - cut.size)) (by simp <;> omega) hr]; rfl
          clear hz hr
          have cR0_5 := cell_of R5.out 0
          have fR0_5 := frozen_of R5.out 0
          have cR1_5 := cell_of R5.out 1
          have fR1_5 := frozen_of R5.out 1
          have cR2_5 := cell_of R5.out 2
          have fR2_5 := frozen_of R5.out 2
          go_wp2_with fail
          exact pret s w _ _ _ _ _ _ (set3 R5.out _ _ _) (below_set3 B5.out _ _ _) HV.out rfl rfl
        | true =>
          have HV : Hid (parseV s.data.toList = .tuple #[.agg #[.bool neg, .string cut, .int .i64 (-((d0.size : Int) - j - 1) + ((d3.size : Int) - cut.size))], .int .i64 0]) := by
            rw [Hid, WH.out.parse, mant, HE.out]; simp only []; rw [point, HJ.out]; simp only []; rw [← HD2.out]
            rw [fin_ok hd3.out hcut.out hz (-((d0.size : Int) - j - 1) + ((d3.size : Int) - cut.size)) (by simp <;> omega) hr]
          clear hz hr
          go_wp2_with fail
          refine (clone_any cut w5 (by omega)).mono ?_
          rintro e w6 ⟨rfl, hb6⟩
          have R6 : Hid (w6.heap[w.heap.size]? = some (.cells #[.bool false, .string ⟨#[]⟩, .int .i64 0] 25 (0, 0))) := (hb6.block _ (heap_lt R5.out)).trans R5.out
          have N6 : Hid (w6.heap[w3.heap.size]? = some (.cells #[.bool neg, .string cut, .int .i64 (-((d0.size : Int) - j - 1) + ((d3.size : Int) - cut.size))] 25 (0, 0))) := (hb6.block _ (heap_lt N5.out)).trans N5.out
          have B6 : Hid (Below w.heap.size w w6) := B5.out.trans (hb6.mono B5.out.size)
          clear hb6 R5 N5 B5
          have cR0_6 := cell_of R6.out 0
          have fR0_6 := frozen_of R6.out 0
          have cR1_6 := cell_of R6.out 1
          have fR1_6 := frozen_of R6.out 1
          have cR2_6 := cell_of R6.out 2
          have fR2_6 := frozen_of R6.out 2
          have cN0 := cell_of N6.out 0
          have cN1 := cell_of N6.out 1
          have cN2 := cell_of N6.out 2
          have fN1 := frozen_of N6.out 1
          go_wp2_with fail
          exact pret s w _ _ _ _ _ _ (set3 (heap_set_other R6.out hRN _) _ _ _) (below_set3 (B6.out.setCell (p := ⟨w3.heap.size, 1, none⟩) (by have := B3.out.size; exact this) _) _ _ _) HV.out rfl rfl
  | some i =>
    simp only [he, zidx] at hix
    have hmore := WH.out.more i he
    have HE := Hid.out (p := Hid _) he; clear he
    refine hix.mono ?_
    rintro e w2 ⟨rfl, hb2⟩
    have R2 : Hid (w2.heap[w.heap.size]? = some (.cells #[.bool false, .string ⟨#[]⟩, .int .i64 0] 25 (0, 0))) := (hb2.block _ (heap_lt R1.out)).trans R1.out
    have B2 : Hid (Below w.heap.size w w2) := B1.out.trans (hb2.mono B1.out.size)
    clear hb2 hix R1 B1
    go_wp2_with fail
    refine (power_any (d0.extract (i + 1) d0.size) w2 (by rw [ByteArray.size_extract]; omega) (by rw [ByteArray.size_extract]; omega)).mono ?_
    rintro e w' ⟨rfl, rfl⟩
    have hpw := power_le (d0.extract (i + 1) d0.size).data.toList
    obtain ⟨x, hx⟩ : ∃ x, x = power (d0.extract (i + 1) d0.size).data.toList := ⟨_, rfl⟩
    rw [← hx] at hpw ⊢
    have HX : Hid (power (d0.data.toList.drop (i + 1)) = x) := by
      rw [Hid, hx, Lib.extract_data, List.take_of_length_le (by simp)]
    clear hx
    go_wp2_with fail
    obtain ⟨d1, hd1⟩ : ∃ d1, d1 = d0.extract 0 i := ⟨_, rfl⟩
    rw [← hd1]
    have HD1 : Hid (d1.data.toList = d0.data.toList.take i) := by rw [Hid, hd1, Lib.extract_data]; simp
    have hd1s : d1.size ≤ d0.size := by rw [hd1, ByteArray.size_extract]; omega
    clear hd1
    have hjx : Calls Tryd.prog 45 #[.string d1, .int .u8 (46 : Nat)] w2 fun e w' => e = .returned (.int .i64 (zidx (d1.data.toList.findIdx? (· == 46)))) ∧ w2 = w' := indexByte_any d1 46 w2 (by decide)
    cases hj : d1.data.toList.findIdx? (· == 46) with
    | none =>
      simp only [hj, zidx] at hjx
      have HJ := Hid.out (p := Hid _) hj; clear hj
      refine hjx.mono ?_
      rintro e w' ⟨rfl, rfl⟩
      clear hjx
      go_wp2_with fail
      refine (trimLeft_any d1 48 (by decide) _).mono ?_
      rintro e w' ⟨d3, rfl, hd3', rfl⟩
      have hd3 : Hid (d3.data.toList = (d1.data.toList).dropWhile (· == 48)) := hd3'
      clear hd3'
      have hd3s : d3.size ≤ d1.size := by
        have := congrArg List.length hd3.out
        have h2 := dropWhile_le (p := (· == 48)) (d1.data.toList)
        rw [show d3.data.toList.length = d3.size by simp] at this
        have h3 : (d1.data.toList).length = d1.size := by simp
        omega
      go_wp2_with fail
      refine (trimRight_any d3 48 (by decide) _ (by omega)).mono ?_
      rintro e w' ⟨cut, rfl, hcut', rfl⟩
      have hcut : Hid (cut.data.toList = (d3.data.toList.reverse.dropWhile (· == 48)).reverse) := hcut'
      clear hcut'
      have hcs : cut.size ≤ d3.size := by
        have := congrArg List.length hcut.out
        have h2 := dropWhile_le (p := (· == 48)) d3.data.toList.reverse
        rw [show cut.data.toList.length = cut.size by simp, List.length_reverse] at this
        rw [List.length_reverse, show d3.data.toList.length = d3.size by simp] at h2
        omega
      by_cases hz : cut.size = 0
      · have qz : cut.toList.isEmpty = true := by rw [isEmpty_size]; simp [hz]
        have HV : Hid (parseV s.data.toList = .tuple #[.agg #[.bool false, .string ⟨#[]⟩, .int .i64 0], .int .i64 0]) := by
          rw [Hid, WH.out.parse, mant, HE.out]; simp only []; rw [HX.out, ← HD1.out]; rw [point, HJ.out]; simp only []
          rw [fin_zero hd3.out hcut.out hz]
        clear hz
        have cR0_2 := cell_of R2.out 0
        have fR0_2 := frozen_of R2.out 0
        have cR1_2 := cell_of R2.out 1
        have fR1_2 := frozen_of R2.out 1
        have cR2_2 := cell_of R2.out 2
        have fR2_2 := frozen_of R2.out 2
        go_wp2_with fail
        exact pret s w _ _ _ _ _ _ (set3 R2.out _ _ _) (below_set3 B2.out _ _ _) HV.out rfl rfl
      · have qz : cut.toList.isEmpty = false := by rw [isEmpty_size]; simp [hz]
        go_wp2_with fail
        refine (right_any neg cut (x + ((d3.size : Int) - cut.size)) _ (by omega)).mono ?_
        rintro e w5 ⟨rfl, hb5⟩
        have R5 : Hid (w5.heap[w.heap.size]? = some (.cells #[.bool false, .string ⟨#[]⟩, .int .i64 0] 25 (0, 0))) := (hb5.block _ (by have := heap_lt R2.out; simp; omega)).trans (heap_alloc_old R2.out)
        have N5 : Hid (w5.heap[w2.heap.size]? = some (.cells #[.bool neg, .string cut, .int .i64 (x + ((d3.size : Int) - cut.size))] 25 (0, 0))) := (hb5.block _ (by simp)).trans (heap_alloc_new _ _)
        have B5 : Hid (Below w.heap.size w w5) := (B2.out.alloc B2.out.size _).trans (hb5.mono (by have := B2.out.size; simp; omega))
        have hRN : w.heap.size ≠ w2.heap.size := by have := heap_lt R2.out; omega
        clear hb5
        cases hr : right neg cut.data.toList (x + ((d3.size : Int) - cut.size)) with
        | false =>
          have HV : Hid (parseV s.data.toList = .tuple #[.agg #[.bool false, .string ⟨#[]⟩, .int .i64 0], .int .i64 4]) := by
            rw [Hid, WH.out.parse, mant, HE.out]; simp only []; rw [HX.out, ← HD1.out]; rw [point, HJ.out]; simp only []
            rw [fin_bad hd3.out hcut.out hz (x + ((d3.size : Int) - cut.size)) (by omega) hr]; rfl
          clear hz hr
          have cR0_5 := cell_of R5.out 0
          have fR0_5 := frozen_of R5.out 0
          have cR1_5 := cell_of R5.out 1
          have fR1_5 := frozen_of R5.out 1
          have cR2_5 := cell_of R5.out 2
          have fR2_5 := frozen_of R5.out 2
          go_wp2_with fail
          exact pret s w _ _ _ _ _ _ (set3 R5.out _ _ _) (below_set3 B5.out _ _ _) HV.out rfl rfl
        | true =>
          have HV : Hid (parseV s.data.toList = .tuple #[.agg #[.bool neg, .string cut, .int .i64 (x + ((d3.size : Int) - cut.size))], .int .i64 0]) := by
            rw [Hid, WH.out.parse, mant, HE.out]; simp only []; rw [HX.out, ← HD1.out]; rw [point, HJ.out]; simp only []
            rw [fin_ok hd3.out hcut.out hz (x + ((d3.size : Int) - cut.size)) (by omega) hr]
          clear hz hr
          go_wp2_with fail
          refine (clone_any cut w5 (by omega)).mono ?_
          rintro e w6 ⟨rfl, hb6⟩
          have R6 : Hid (w6.heap[w.heap.size]? = some (.cells #[.bool false, .string ⟨#[]⟩, .int .i64 0] 25 (0, 0))) := (hb6.block _ (heap_lt R5.out)).trans R5.out
          have N6 : Hid (w6.heap[w2.heap.size]? = some (.cells #[.bool neg, .string cut, .int .i64 (x + ((d3.size : Int) - cut.size))] 25 (0, 0))) := (hb6.block _ (heap_lt N5.out)).trans N5.out
          have B6 : Hid (Below w.heap.size w w6) := B5.out.trans (hb6.mono B5.out.size)
          clear hb6 R5 N5 B5
          have cR0_6 := cell_of R6.out 0
          have fR0_6 := frozen_of R6.out 0
          have cR1_6 := cell_of R6.out 1
          have fR1_6 := frozen_of R6.out 1
          have cR2_6 := cell_of R6.out 2
          have fR2_6 := frozen_of R6.out 2
          have cN0 := cell_of N6.out 0
          have cN1 := cell_of N6.out 1
          have cN2 := cell_of N6.out 2
          have fN1 := frozen_of N6.out 1
          go_wp2_with fail
          exact pret s w _ _ _ _ _ _ (set3 (heap_set_other R6.out hRN _) _ _ _) (below_set3 (B6.out.setCell (p := ⟨w2.heap.size, 1, none⟩) (by have := B2.out.size; exact this) _) _ _ _) HV.out rfl rfl
    | some j =>
      simp only [hj, zidx] at hjx
      have hjs : j < d1.size := by have h1 := (List.findIdx?_eq_some_iff_getElem.1 hj).1; simpa using h1
      have HJ := Hid.out (p := Hid _) hj; clear hj
      refine hjx.mono ?_
      rintro e w' ⟨rfl, rfl⟩
      clear hjx
      go_wp2_with fail
      go_quiet (fail)
      go_wp2_with fail
      obtain ⟨d2, hd2⟩ : ∃ d2, d2 = d1.extract 0 j ++ d1.extract (j + 1) d1.size := ⟨_, rfl⟩
      rw [← hd2]
      have HD2 : Hid (d2.data.toList = d1.data.toList.take j ++ d1.data.toList.drop (j + 1)) := by
        rw [Hid, hd2, ByteArray.data_append, Array.toList_append, Lib.extract_data, Lib.extract_data, List.take_of_length_le (l := List.drop (j + 1) _) (by simp)]; simp
      have hd2s : d2.size ≤ d1.size := by rw [hd2, ByteArray.size_append, ByteArray.size_extract, ByteArray.size_extract]; omega
      clear hd2
      have R3 : Hid ((w2.drewN nq).heap[w.heap.size]? = some (.cells #[.bool false, .string ⟨#[]⟩, .int .i64 0] 25 (0, 0))) := R2.out
      have B3 : Hid (Below w.heap.size w (w2.drewN nq)) := B2.out.trans (below_drewN _ _ _)
      clear R2 B2
      generalize w2.drewN nq = w3 at *
      refine (trimLeft_any d2 48 (by decide) _).mono ?_
      rintro e w' ⟨d3, rfl, hd3', rfl⟩
      have hd3 : Hid (d3.data.toList = (d2.data.toList).dropWhile (· == 48)) := hd3'
      clear hd3'
      have hd3s : d3.size ≤ d2.size := by
        have := congrArg List.length hd3.out
        have h2 := dropWhile_le (p := (· == 48)) (d2.data.toList)
        rw [show d3.data.toList.length = d3.size by simp] at this
        have h3 : (d2.data.toList).length = d2.size := by simp
        omega
      go_wp2_with fail
      refine (trimRight_any d3 48 (by decide) _ (by omega)).mono ?_
      rintro e w' ⟨cut, rfl, hcut', rfl⟩
      have hcut : Hid (cut.data.toList = (d3.data.toList.reverse.dropWhile (· == 48)).reverse) := hcut'
      clear hcut'
      have hcs : cut.size ≤ d3.size := by
        have := congrArg List.length hcut.out
        have h2 := dropWhile_le (p := (· == 48)) d3.data.toList.reverse
        rw [show cut.data.toList.length = cut.size by simp, List.length_reverse] at this
        rw [List.length_reverse, show d3.data.toList.length = d3.size by simp] at h2
        omega
      by_cases hz : cut.size = 0
      · have qz : cut.toList.isEmpty = true := by rw [isEmpty_size]; simp [hz]
        have HV : Hid (parseV s.data.toList = .tuple #[.agg #[.bool false, .string ⟨#[]⟩, .int .i64 0], .int .i64 0]) := by
          rw [Hid, WH.out.parse, mant, HE.out]; simp only []; rw [HX.out, ← HD1.out]; rw [point, HJ.out]; simp only []; rw [← HD2.out]
          rw [fin_zero hd3.out hcut.out hz]
        clear hz
        have cR0_2 := cell_of R3.out 0
        have fR0_2 := frozen_of R3.out 0
        have cR1_2 := cell_of R3.out 1
        have fR1_2 := frozen_of R3.out 1
        have cR2_2 := cell_of R3.out 2
        have fR2_2 := frozen_of R3.out 2
        go_wp2_with fail
        exact pret s w _ _ _ _ _ _ (set3 R3.out _ _ _) (below_set3 B3.out _ _ _) HV.out rfl rfl
      · have qz : cut.toList.isEmpty = false := by rw [isEmpty_size]; simp [hz]
        go_wp2_with fail
        refine (right_any neg cut (x - ((d1.size : Int) - j - 1) + ((d3.size : Int) - cut.size)) _ (by omega)).mono ?_
        rintro e w5 ⟨rfl, hb5⟩
        have R5 : Hid (w5.heap[w.heap.size]? = some (.cells #[.bool false, .string ⟨#[]⟩, .int .i64 0] 25 (0, 0))) := (hb5.block _ (by have := heap_lt R3.out; simp; omega)).trans (heap_alloc_old R3.out)
        have N5 : Hid (w5.heap[w3.heap.size]? = some (.cells #[.bool neg, .string cut, .int .i64 (x - ((d1.size : Int) - j - 1) + ((d3.size : Int) - cut.size))] 25 (0, 0))) := (hb5.block _ (by simp)).trans (heap_alloc_new _ _)
        have B5 : Hid (Below w.heap.size w w5) := (B3.out.alloc B3.out.size _).trans (hb5.mono (by have := B3.out.size; simp; omega))
        have hRN : w.heap.size ≠ w3.heap.size := by have := heap_lt R3.out; omega
        clear hb5
        cases hr : right neg cut.data.toList (x - ((d1.size : Int) - j - 1) + ((d3.size : Int) - cut.size)) with
        | false =>
          have HV : Hid (parseV s.data.toList = .tuple #[.agg #[.bool false, .string ⟨#[]⟩, .int .i64 0], .int .i64 4]) := by
            rw [Hid, WH.out.parse, mant, HE.out]; simp only []; rw [HX.out, ← HD1.out]; rw [point, HJ.out]; simp only []; rw [← HD2.out]
            rw [fin_bad hd3.out hcut.out hz (x - ((d1.size : Int) - j - 1) + ((d3.size : Int) - cut.size)) (by simp <;> omega) hr]; rfl
          clear hz hr
          have cR0_5 := cell_of R5.out 0
          have fR0_5 := frozen_of R5.out 0
          have cR1_5 := cell_of R5.out 1
          have fR1_5 := frozen_of R5.out 1
          have cR2_5 := cell_of R5.out 2
          have fR2_5 := frozen_of R5.out 2
          go_wp2_with fail
          exact pret s w _ _ _ _ _ _ (set3 R5.out _ _ _) (below_set3 B5.out _ _ _) HV.out rfl rfl
        | true =>
          have HV : Hid (parseV s.data.toList = .tuple #[.agg #[.bool neg, .string cut, .int .i64 (x - ((d1.size : Int) - j - 1) + ((d3.size : Int) - cut.size))], .int .i64 0]) := by
            rw [Hid, WH.out.parse, mant, HE.out]; simp only []; rw [HX.out, ← HD1.out]; rw [point, HJ.out]; simp only []; rw [← HD2.out]
            rw [fin_ok hd3.out hcut.out hz (x - ((d1.size : Int) - j - 1) + ((d3.size : Int) - cut.size)) (by simp <;> omega) hr]
          clear hz hr
          go_wp2_with fail
          refine (clone_any cut w5 (by omega)).mono ?_
          rintro e w6 ⟨rfl, hb6⟩
          have R6 : Hid (w6.heap[w.heap.size]? = some (.cells #[.bool false, .string ⟨#[]⟩, .int .i64 0] 25 (0, 0))) := (hb6.block _ (heap_lt R5.out)).trans R5.out
          have N6 : Hid (w6.heap[w3.heap.size]? = some (.cells #[.bool neg, .string cut, .int .i64 (x - ((d1.size : Int) - j - 1) + ((d3.size : Int) - cut.size))] 25 (0, 0))) := (hb6.block _ (heap_lt N5.out)).trans N5.out
          have B6 : Hid (Below w.heap.size w w6) := B5.out.trans (hb6.mono B5.out.size)
          clear hb6 R5 N5 B5
          have cR0_6 := cell_of R6.out 0
          have fR0_6 := frozen_of R6.out 0
          have cR1_6 := cell_of R6.out 1
          have fR1_6 := frozen_of R6.out 1
          have cR2_6 := cell_of R6.out 2
          have fR2_6 := frozen_of R6.out 2
          have cN0 := cell_of N6.out 0
          have cN1 := cell_of N6.out 1
          have cN2 := cell_of N6.out 2
          have fN1 := frozen_of N6.out 1
          go_wp2_with fail
          exact pret s w _ _ _ _ _ _ (set3 (heap_set_other R6.out hRN _) _ _ _) (below_set3 (B6.out.setCell (p := ⟨w3.heap.size, 1, none⟩) (by have := B3.out.size; exact this) _) _ _ _) HV.out rfl rfl

theorem parse_any (s : ByteArray) (w : World) (hs : s.size ≤ 2147483648) (T : Steps w) :
    Calls Tryd.prog 59 #[.string s] w fun e w' => e = .returned (parseV s.data.toList) ∧ Below w.heap.size w w' := by
  by_cases h0 : s.size = 0
  · refine parse_e0 s w hs T ?_
    have : s.data.toList = [] := nil_size.2 h0
    rw [← Lib.mk_data s, this]
  by_cases h1 : scan s.data.toList = s.size
  · exact parse_main s w hs T h0 h1
  · exact parse_e1 s w hs T h0 h1
end Go.Proofs.YtbfkgddhpabioaaDoor.Num
