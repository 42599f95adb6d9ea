/- quote.Parse, addr.digits. -/
import Derived.Test.YtmjlklefpiciaaaGreatDoorZAdL
import Derived.Test.YtmjlklefpiciaaaGreatDoorZShelf
import Derived.Test.YtmjlklefpiciaaaGreatDoorZJdecP
namespace Go.Proofs.YtmjlklefpiciaaaGreatDoor.Addr
open Go.RowKit Go.Shelf Go.Proofs.YtmjlklefpiciaaaGreatDoor.Utf Go.Proofs.YtmjlklefpiciaaaGreatDoor.Strs Go.Proofs.YtmjlklefpiciaaaGreatDoor.Lex
set_option linter.unusedVariables false
set_option linter.unusedSimpArgs false
set_option maxRecDepth 100000

/-- What quote.Parse tells. -/
def qparse (l : List UInt8) : List UInt8 × Nat := match Quote.scan l with
  | .error e => ([], e)
  | .ok (s, k) => if k < l.length then ([], 14) else (s, 0)
set_option maxHeartbeats 2000000 in
theorem qparse_any (s : ByteArray) (w : World) (hs : s.size ≤ 1048576) (T : Sizes w) :
    Calls Tryz.prog 104 #[.string s] w fun e w' => e = .returned (.tuple #[.string ⟨(qparse s.data.toList).1.toArray⟩, .int .i64 (qparse s.data.toList).2]) ∧ Below w.heap.size w w' := by
  have hc := Quote.scan_any s w (by omega) T
  have hl : s.data.toList.length = s.size := by simp
  have HL := Hid.out (p := Hid _) hl
  cases hsc : Quote.scan s.data.toList with
  | error k =>
    have hv : Quote.scanV s = .tuple #[.string ⟨#[]⟩, .int .i64 0, .int .i64 k] := by rw [Quote.scanV, hsc]
    have hk := Jdec.scan_err hsc
    have q1 : ((k : Int) != 0) = true := by rw [bne_iff_ne]; omega
    have HQ : Hid (qparse s.data.toList = ([], k)) := by rw [Hid, qparse, hsc]
    rw [hv] at hc
    have HC := Hid.out (p := Hid _) hc
    clear hc hv hsc hl hk
    go_enter Tryz.func104, Tryz.ntmps104
    go_wp2_with fail
    refine (Calls.mono HC.out ?_)
    rintro z w2 ⟨rfl, hb2⟩
    have B2 := Hid.out (p := Hid _) hb2
    clear hb2
    go_wp2_with fail
    go_ret2
    exact ⟨by rw [HQ.out] <;> rfl, B2.out⟩
  | ok y =>
    obtain ⟨o, k⟩ := y
    have hv : Quote.scanV s = .tuple #[.string ⟨o.toArray⟩, .int .i64 k, .int .i64 0] := by rw [Quote.scanV, hsc]
    rw [hv] at hc
    have HC := Hid.out (p := Hid _) hc
    by_cases hk : k < s.size
    · have q1 : decide ((k : Int) < (s.size : Int)) = true := by rw [decide_eq_true_eq]; omega
      have q2 : decide (k < s.size) = true := by rw [decide_eq_true_eq]; omega
      have HQ : Hid (qparse s.data.toList = ([], 14)) := by rw [Hid, qparse, hsc]; simp only []; rw [if_pos (by omega)]
      clear hc hv hsc hl hk
      go_enter Tryz.func104, Tryz.ntmps104
      go_wp2_with fail
      refine (Calls.mono HC.out ?_)
      rintro z w2 ⟨rfl, hb2⟩
      have B2 := Hid.out (p := Hid _) hb2
      clear hb2
      go_wp2_with fail
      go_ret2
      exact ⟨by rw [HQ.out] <;> rfl, B2.out⟩
    · have q1 : decide ((k : Int) < (s.size : Int)) = false := by rw [decide_eq_false_iff_not]; omega
      have q2 : decide (k < s.size) = false := by rw [decide_eq_false_iff_not]; omega
      have HQ : Hid (qparse s.data.toList = (o, 0)) := by rw [Hid, qparse, hsc]; simp only []; rw [if_neg (by omega)]
      clear hc hv hsc hl hk
      go_enter Tryz.func104, Tryz.ntmps104
      go_wp2_with fail
      refine (Calls.mono HC.out ?_)
      rintro z w2 ⟨rfl, hb2⟩
      have B2 := Hid.out (p := Hid _) hb2
      clear hb2
      go_wp2_with fail
      go_ret2
      exact ⟨by rw [HQ.out] <;> rfl, B2.out⟩

/-- The library's error of a number that is too great. -/
def ErrT (w : World) : Prop := ∃ ev, w.cell? ⟨4, 0, none⟩ = some ev ∧ (ev = .nilIface ∨ ∃ te pe, ev = .iface te pe)
theorem ErrT.stays {w w' : World} (T : ErrT w) (h : Below w.heap.size w w') : ErrT w' := by
  obtain ⟨ev, h1, h2⟩ := T
  exact ⟨ev, (World.cell?_of_block (w := w) (h.block _ (World.block_lt_of_cell? w _ h1))).trans h1, h2⟩
theorem uint_runs (M : Nat) : ∀ (l : List UInt8) (n : Nat), l.all Num.isDigit = true → (∃ u, Lib.parseUintM M n l = .ok u) ∨ Lib.parseUintM M n l = .range := by
  intro l
  induction l with
  | nil => intro n _; exact .inl ⟨n, rfl⟩
  | cons c l ih =>
    intro n h
    rw [List.all_cons, Bool.and_eq_true] at h
    rw [Lib.parseUintM, if_pos ((isDigit_iff c).1 h.1)]
    split
    · exact .inr rfl
    · split
      · exact .inr rfl
      · exact ih _ h.2
/-- What addr.digits leaves. -/
def DPost (l : List UInt8) (w : World) (e : Ending) (w' : World) : Prop :=
  ∃ n : Nat, e = .returned (.tuple #[.int .u64 n, .bool (digitsP l).isSome]) ∧ (∀ m, digitsP l = some m → n = m) ∧ Below w.heap.size w w'
theorem below_drewN {B : Nat} {w w' : World} (h : Below B w w') (n : Nat) : Below B w (w'.drewN n) := ⟨h.os, h.tape, h.output, h.size, h.block⟩
theorem take_all {l : List UInt8} {i : Nat} (h : i < l.length) : (l.take (i + 1)).all Num.isDigit = ((l.take i).all Num.isDigit && Num.isDigit l[i]) := by
  rw [List.take_add_one, List.getElem?_eq_getElem h, List.all_append]
  simp
theorem all_bad {l : List UInt8} {i : Nat} (h : i < l.length) (hb : Num.isDigit l[i] = false) : l.all Num.isDigit = false := by
  rw [List.all_eq_false]
  exact ⟨_, List.getElem_mem h, by rw [hb]; simp⟩
set_option maxHeartbeats 4000000 in
theorem digits_loop (s : ByteArray) (w : World) (hs : s.size ≤ 1048576) (h0 : 0 < s.size) (hno : noughts s.data.toList = false) (T : ErrT w) (b1 b2 : Bool) (hb1 : ((s[0].toNat : Int) == 48) = b1) (hb2 : decide ((1 : Int) < (s.size : Int)) = b2) (hb2' : decide (1 < s.size) = b2) (hbb : (b1 && b2) = false) :
    Calls Tryz.prog 73 #[.string s] w (DPost s.data.toList w) := by
  have hl : s.data.toList.length = s.size := by simp
  have HL := Hid.out (p := Hid _) hl
  have HNO := Hid.out (p := Hid _) hno
  have HT : Hid (ErrT w) := T
  have hne : s.data.toList ≠ [] := fun e => by rw [e] at hl; simp at hl; omega
  have qe : s.toList.isEmpty = false := by
    rw [ByteArray.toList_eq]
    cases h : s.data.toList with
    | nil => exact absurd h hne
    | cons c r => rfl
  have qn : s ≠ ByteArray.empty := fun e => by rw [e] at h0; exact absurd h0 (by decide)
  have HDG : Hid (digitsP s.data.toList = if s.data.toList.all Num.isDigit then (match Lib.parseUintM (2 ^ 64 - 1) 0 s.data.toList with | .ok u => some u | _ => none) else none) := by
    rw [Hid, digitsP, hno, Lib.parseUintB, if_neg hne]; simp only [Bool.false_eq_true, if_false]; rfl
  have HPU : Hid (Lib.parseUintB 64 s.data.toList = Lib.parseUintM (2 ^ 64 - 1) 0 s.data.toList) := by rw [Hid, Lib.parseUintB, if_neg hne]
  clear hl hne hno T
  cases b1 <;> cases b2
  case true.true => cases hbb
  all_goals
    clear hbb
    go_enter Tryz.func73, Tryz.ntmps73
    go_wp2_with fail
    go_loopw [21] (fun p wr => w = wr ∧ ∃ i : Nat, p = .int .i64 i ∧ i ≤ s.size ∧ Hid ((s.data.toList.take i).all Num.isDigit = true)) (fun p _ => s.size - (intOf p).toNat)
    case atStart => exact ⟨rfl, 0, rfl, Nat.zero_le _, rfl⟩
    case round =>
      obtain ⟨rfl, i, rfl, hi, hT⟩ := hrel
      by_cases hlt : i < s.size
      · have hlen : i < s.data.toList.length := by rw [HL.out]; exact hlt
        have hqi : (s.data.toList[i]'hlen) = s[i] := rfl
        have hta := take_all hlen
        have hba := all_bad hlen
        rw [hqi] at hta hba
        have HTA := Hid.out (p := Hid _) hta
        have HBA := Hid.out (p := Hid _) hba
        have hdi := isDigit_iff s[i]
        have HDI := Hid.out (p := Hid _) hdi
        clear hta hba hdi hqi
        by_cases c1 : s[i].toNat < 48
        · have d1 : decide ((s[i].toNat : Int) < 48) = true := by rw [decide_eq_true_eq]; omega
          have d1' : decide (s[i].toNat < 48) = true := by rw [decide_eq_true_eq]; omega
          have HF : Hid (digitsP s.data.toList = none) := by
            have hx : Num.isDigit s[i] = false := by
              cases h : Num.isDigit s[i] with
              | false => rfl
              | true => have := HDI.out.1 h; omega
            rw [Hid, HDG.out, HBA.out hx]; rfl
          clear c1 HTA HBA HDI HDG
          go_wp2_with fail
          go_ret2
          exact ⟨0, by rw [HF.out] <;> rfl, (fun m h => by rw [HF.out] at h; cases h), Below.refl _ _⟩
        · have d1 : decide ((s[i].toNat : Int) < 48) = false := by rw [decide_eq_false_iff_not]; omega
          have d1' : decide (s[i].toNat < 48) = false := by rw [decide_eq_false_iff_not]; omega
          by_cases c2 : 57 < s[i].toNat
          · have d2 : decide ((57 : Int) < (s[i].toNat : Int)) = true := by rw [decide_eq_true_eq]; omega
            have d2' : decide (57 < s[i].toNat) = true := by rw [decide_eq_true_eq]; omega
            have HF : Hid (digitsP s.data.toList = none) := by
              have hx : Num.isDigit s[i] = false := by
                cases h : Num.isDigit s[i] with
                | false => rfl
                | true => have := HDI.out.1 h; omega
              rw [Hid, HDG.out, HBA.out hx]; rfl
            clear c1 c2 HTA HBA HDI HDG
            go_wp2_with fail
            go_ret2
            exact ⟨0, by rw [HF.out] <;> rfl, (fun m h => by rw [HF.out] at h; cases h), Below.refl _ _⟩
          · have d2 : decide ((57 : Int) < (s[i].toNat : Int)) = false := by rw [decide_eq_false_iff_not]; omega
            have d2' : decide (57 < s[i].toNat) = false := by rw [decide_eq_false_iff_not]; omega
            have HN : Hid ((s.data.toList.take (i + 1)).all Num.isDigit = true) := by
              rw [Hid, HTA.out, hT.out, HDI.out.2 ⟨by omega, by omega⟩]; rfl
            clear c1 c2 HTA HBA HDI
            go_wp2_with fail
            go_roundw
            case rel => exact ⟨trivial, i + 1, by go_num, by omega, HN.out⟩
            case measure => simp [intOf]; omega
      · obtain rfl : i = s.size := by omega
        have hall : s.data.toList.all Num.isDigit = true := by
          have := hT.out
          rw [List.take_of_length_le (by rw [HL.out]; exact Nat.le_refl _)] at this
          exact this
        have hsn := uint_runs (2 ^ 64 - 1) s.data.toList 0 hall
        have HD2 : Hid (digitsP s.data.toList = (match Lib.parseUintM (2 ^ 64 - 1) 0 s.data.toList with | .ok u => some u | _ => none)) := by rw [Hid, HDG.out, hall]; rfl
        rcases hsn with ⟨u, hp⟩ | hp
        case inl =>
          have HF : Hid (digitsP s.data.toList = some u) := by rw [Hid, HD2.out, hp]
          have hc := Tryz.strconv_ParseUint_10_at64_ok s (by omega) u (by rw [HPU.out, hp]) w
          have HC := Hid.out (p := Hid _) hc
          clear hc hp HD2 HDG HPU hall
          go_wp2_with fail
          refine (Calls.mono HC.out ?_)
          rintro z w2 ⟨rfl, hw2⟩
          have HB : Hid (Below w.heap.size w w2) := by
            rcases hw2 with rfl | rfl
            · exact Below.refl _ _
            · exact Lib.bytesWorld_below _ _ _
          clear hw2
          go_wp2_with fail
          go_quiet (fail)
          go_wp2_with fail
          go_ret2
          exact ⟨u, by rw [HF.out] <;> rfl, (fun m h => by rw [HF.out] at h; injection h), below_drewN HB.out _⟩
        case inr =>
          have HF : Hid (digitsP s.data.toList = none) := by rw [Hid, HD2.out, hp]
          obtain ⟨ev, hev1, hev2⟩ := HT.out
          have hc := Tryz.strconv_ParseUint_10_at64_range s (by omega) (by rw [HPU.out, hp]) ev w hev1 hev2
          have HC := Hid.out (p := Hid _) hc
          clear hc hp HD2 HDG HPU hall hev1 hev2
          go_wp2_with fail
          refine (Calls.mono HC.out ?_)
          rintro z w2 ⟨N, rfl, _, _, hB⟩
          have HB := Hid.out (p := Hid _) hB
          clear hB
          go_wp2_with fail
          go_quiet (fail)
          go_wp2_with fail
          go_ret2
          exact ⟨18446744073709551615, by rw [HF.out] <;> rfl, (fun m h => by rw [HF.out] at h; cases h), below_drewN HB.out _⟩
theorem noughts_at {s : ByteArray} (h : 0 < s.size) : noughts s.data.toList = (((s[0].toNat : Int) == 48) && decide (1 < s.size)) := by
  have hl : s.data.toList.length = s.size := by simp
  have h1 : s.data.toList[0]'(by omega) = s[0] := rfl
  cases hc : s.data.toList with
  | nil => rw [hc] at hl; simp at hl; omega
  | cons c r =>
    have h2 : c = s[0] := by rw [← h1]; simp [hc]
    rw [hc] at hl
    rw [noughts, hl, ← h2]
    have h3 : (c == 48) = ((c.toNat : Int) == 48) := by
      by_cases e : c = 48
      · subst e; rfl
      · have : (c == 48) = false := by simpa using e
        have h48 : (48 : UInt8).toNat = 48 := rfl
        have := toNat_ne e
        rw [‹(c == 48) = false›, eq_comm, beq_eq_false_iff_ne]
        omega
    rw [← h3]
    simp
set_option maxHeartbeats 4000000 in
theorem digits_any (s : ByteArray) (w : World) (hs : s.size ≤ 1048576) (T : ErrT w) :
    Calls Tryz.prog 73 #[.string s] w (DPost s.data.toList w) := by
  by_cases h0 : s.size = 0
  · have he : s = ⟨#[]⟩ := by
      have := Jdec.str_back s
      have hl : s.data.toList.length = s.size := by simp
      have e0 := List.length_eq_zero_iff.1 (hl.trans h0)
      rw [e0] at this
      exact this.symm
    subst he
    clear h0 T hs
    go_enter Tryz.func73, Tryz.ntmps73
    go_wp2_with fail
    go_ret2
    exact ⟨0, rfl, (fun m h => by cases h), Below.refl _ _⟩
  have h0' : 0 < s.size := by omega
  have hna := noughts_at h0'
  cases hno : noughts s.data.toList with
  | false => exact digits_loop s w hs h0' hno T _ _ rfl (by rw [decide_eq_decide]; omega) rfl (by rw [← hna, hno])
  | true =>
    rw [hno] at hna
    have h1 := hna.symm
    rw [Bool.and_eq_true, decide_eq_true_eq] at h1
    have t1 : ((s[0].toNat : Int) == 48) = true := h1.1
    have t2 : decide ((1 : Int) < (s.size : Int)) = true := by rw [decide_eq_true_eq]; omega
    have t3 : decide (1 < s.size) = true := by rw [decide_eq_true_eq]; omega
    have qn : s ≠ ByteArray.empty := fun e => by rw [e] at h0'; exact absurd h0' (by decide)
    have qe : s.toList.isEmpty = false := by
      rw [ByteArray.toList_eq]
      cases h : s.data.toList with
      | nil => have hl : s.data.toList.length = s.size := by simp
               rw [h] at hl; simp at hl; omega
      | cons c r => rfl
    have HF : Hid (digitsP s.data.toList = none) := by rw [Hid, digitsP, hno]; rfl
    clear hna hno h1 T
    go_enter Tryz.func73, Tryz.ntmps73
    go_wp2_with fail
    go_ret2
    exact ⟨0, by rw [HF.out] <;> rfl, (fun m h => by rw [HF.out] at h; cases h), Below.refl _ _⟩
end Go.Proofs.YtmjlklefpiciaaaGreatDoor.Addr
/- addr.keyed. -/
namespace Go.Proofs.YtmjlklefpiciaaaGreatDoor.Addr
open Go.RowKit Go.Shelf Go.Proofs.YtmjlklefpiciaaaGreatDoor.Utf Go.Proofs.YtmjlklefpiciaaaGreatDoor.Strs Go.Proofs.YtmjlklefpiciaaaGreatDoor.Lex
open Go.Proofs.YtmjlklefpiciaaaGreatDoor.Jdec (gb_refl gb_drew gb_set gb_below)
set_option linter.unusedVariables false
set_option linter.unusedSimpArgs false
set_option maxRecDepth 100000

def withKey (a : Adr) (k : Int × Nat × ByteArray) : Adr := { a with key := k.1, place := k.2.1, word := k.2.2 }
/-- What keyed leaves. -/
def KPost (a : Adr) (pa : Option Addr) (pc b : Nat) (l : List UInt8) (w : World) (e : Ending) (w' : World) : Prop :=
  e = .returned (.bool (keyP l).isSome) ∧ w.grownBy w' (some b) ∧ ∀ k, keyP l = some k → w'.heap[b]? = some (.cells (arrA pa pc (withKey a k)) 29 (0, 0))
theorem byt_ext {s : ByteArray} {i : Nat} (h : i < s.size) : byt s.data.toList i = s[i].toNat := by
  have := byt_drop s 0 i (by omega)
  simpa using this
theorem inner_ext (s m : ByteArray) (q : Nat) (hq : q + 1 = s.size) (hm : s.extract 1 q = m) : (s.data.toList.drop 1).dropLast = m.data.toList := by
  subst hm
  have h1 : (s.extract 1 q).data.toList = (s.data.toList.drop 1).take (q - 1) := by
    rw [ByteArray.data_extract, Array.toList_extract, List.extract_eq_take_drop]
  have hl : s.data.toList.length = s.size := by simp
  rw [h1, List.dropLast_eq_take, List.length_drop, hl]
  congr 1
  omega
theorem two_set {W : World} {b : Nat} {a : Adr} {pa : Option Addr} {pc : Nat} (h : W.heap[b]? = some (.cells (arrA pa pc a) 29 (0, 0))) (h4 : a.key = 0) (n : Nat) (hw : a.word = ⟨#[]⟩) :
    ((W.setCell ⟨b, 3, none⟩ (.int .i64 1)).setCell ⟨b, 4, none⟩ (.int .u64 n)).heap[b]? = some (.cells (arrA pa pc (withKey a (1, n, ⟨#[]⟩))) 29 (0, 0)) := by
  rw [heap_set_same (heap_set_same h _)]
  simp [arrA, withKey, hw]
theorem two_word {W : World} {b : Nat} {a : Adr} {pa : Option Addr} {pc : Nat} (h : W.heap[b]? = some (.cells (arrA pa pc a) 29 (0, 0))) (x : ByteArray) (hp : a.place = 0) :
    ((W.setCell ⟨b, 3, none⟩ (.int .i64 2)).setCell ⟨b, 5, none⟩ (.string x)).heap[b]? = some (.cells (arrA pa pc (withKey a (2, 0, x))) 29 (0, 0)) := by
  rw [heap_set_same (heap_set_same h _)]
  simp [arrA, withKey, hp]
theorem gb_two (w w2 : World) (b i j : Nat) (u v : Value) (h : Below w.heap.size w w2) : w.grownBy ((w2.setCell ⟨b, i, none⟩ u).setCell ⟨b, j, none⟩ v) (some b) :=
  ((gb_below h (some b)).trans (gb_set _ _ _ _)).trans (gb_set _ _ _ _)
theorem isSome_inner {m : List UInt8} (h : byt m 0 ≠ 34) : (innerP m).isSome = (digitsP m).isSome ∧ ∀ k, innerP m = some k → ∃ n, digitsP m = some n ∧ k = (1, n, ⟨#[]⟩) := by
  rw [innerP, if_neg h]
  cases digitsP m with
  | none => exact ⟨rfl, fun k h => by cases h⟩
  | some n => exact ⟨rfl, fun k h => ⟨n, rfl, by injection h with h; exact h.symm⟩⟩
theorem isSome_word {m : List UInt8} (h : byt m 0 = 34) : (innerP m).isSome = ((qparse m).2 == 0) ∧ ∀ k, innerP m = some k → k = (2, 0, ⟨(qparse m).1.toArray⟩) := by
  rw [innerP, if_pos h, qparse]
  cases hs : Quote.scan m with
  | error e =>
    have := Jdec.scan_err hs
    refine ⟨?_, fun k h => by cases h⟩
    simp only []
    rw [eq_comm]
    simpa using this
  | ok y =>
    obtain ⟨s, k⟩ := y
    simp only []
    split
    · exact ⟨rfl, fun k h => by cases h⟩
    · exact ⟨rfl, fun k h => by injection h with h; exact h.symm⟩
set_option maxHeartbeats 8000000 in
theorem keyed_any (s : ByteArray) (a : Adr) (pa : Option Addr) (pc b : Nat) (w : World) (hs : s.size ≤ 1000000) (hb : w.heap[b]? = some (.cells (arrA pa pc a) 29 (0, 0)))
    (hk : a.key = 0) (hp : a.place = 0) (hw : a.word = ⟨#[]⟩) (Z : Sizes w) (T : ErrT w) :
    Calls Tryz.prog 78 #[.pointer (some ⟨b, 0, none⟩), .string s] w (KPost a pa pc b s.data.toList w) := by
  have HB : Hid (w.heap[b]? = some (.cells (arrA pa pc a) 29 (0, 0))) := hb
  have HK := Hid.out (p := Hid _) hk
  have HP := Hid.out (p := Hid _) hp
  have HW := Hid.out (p := Hid _) hw
  have hl : s.data.toList.length = s.size := by simp
  clear hk hp hw
  by_cases h0 : s.size = 0
  · have he : s = ⟨#[]⟩ := by
      have := Jdec.str_back s
      have e0 := List.length_eq_zero_iff.1 (hl.trans h0)
      rw [e0] at this
      exact this.symm
    subst he
    clear h0 hs hl Z T hb
    go_enter Tryz.func78, Tryz.ntmps78
    go_wp2_with fail
    go_ret
    refine ⟨rfl, gb_refl _ _, fun k h => ?_⟩
    injection h with h
    subst h
    have : withKey a (0, 0, ⟨#[]⟩) = a := by
      obtain ⟨p, t, n, k, pl, wd⟩ := a
      have hk := HK.out; have hp := HP.out; have hw := HW.out
      simp only at hk hp hw
      subst hk hp hw
      rfl
    rw [this]; exact HB.out
  have h0' : 0 < s.size := by omega
  have hne : s.data.toList ≠ [] := fun e => by rw [e] at hl; simp at hl; omega
  have qn : s ≠ ByteArray.empty := fun e => by rw [e] at h0'; exact absurd h0' (by decide)
  have qe : s.toList.isEmpty = false := by
    rw [ByteArray.toList_eq]
    cases h : s.data.toList with
    | nil => exact absurd h hne
    | cons c r => rfl
  by_cases h3 : s.size < 3
  · have t1 : decide ((s.size : Int) < 3) = true := by rw [decide_eq_true_eq]; omega
    have t1' : decide (s.size < 3) = true := by rw [decide_eq_true_eq]; omega
    have HF : Hid (keyP s.data.toList = none) := by rw [Hid, keyP, if_neg hne, if_pos (.inl (by omega))]
    clear h3 hl Z T hne h0 hb
    go_enter Tryz.func78, Tryz.ntmps78
    go_wp2_with fail
    go_ret
    exact ⟨by rw [HF.out] <;> rfl, gb_refl _ _, fun k h => by rw [HF.out] at h; cases h⟩
  have t1 : decide ((s.size : Int) < 3) = false := by rw [decide_eq_false_iff_not]; omega
  have t1' : decide (s.size < 3) = false := by rw [decide_eq_false_iff_not]; omega
  have hb0 := byt_ext (i := 0) h0'
  by_cases c0 : s[0].toNat = 91
  case neg =>
    have t2 : ((s[0].toNat : Int) != 91) = true := by rw [bne_iff_ne]; omega
    have HF : Hid (keyP s.data.toList = none) := by rw [Hid, keyP, if_neg hne, if_pos (.inr (.inl (by rw [hb0]; exact c0)))]
    clear h3 hl Z T hne h0 c0 hb0 hb
    go_enter Tryz.func78, Tryz.ntmps78
    go_wp2_with fail
    go_ret
    exact ⟨by rw [HF.out] <;> rfl, gb_refl _ _, fun k h => by rw [HF.out] at h; cases h⟩
  case pos =>
  have t2 : ((s[0].toNat : Int) != 91) = false := by rw [c0]; rfl
  obtain ⟨q, hq⟩ : ∃ q, q + 1 = s.size := ⟨s.size - 1, by omega⟩
  have hqi : (s.size : Int) - 1 = (q : Int) := by omega
  have hqs : q < s.size := by omega
  have hbq := byt_ext (i := q) hqs
  by_cases c1 : s[q].toNat = 93
  case neg =>
    have t3 : ((s[q].toNat : Int) != 93) = true := by rw [bne_iff_ne]; omega
    have HF : Hid (keyP s.data.toList = none) := by rw [Hid, keyP, if_neg hne, if_pos (.inr (.inr (by rw [hl, show s.size - 1 = q by omega, hbq]; exact c1)))]
    clear h3 hl Z T hne h0 c0 hb0 c1 hbq hb hq
    go_enter Tryz.func78, Tryz.ntmps78
    go_wp2_with fail
    go_ret
    exact ⟨by rw [HF.out] <;> rfl, gb_refl _ _, fun k h => by rw [HF.out] at h; cases h⟩
  case pos =>
  have t3 : ((s[q].toNat : Int) != 93) = false := by rw [c1]; rfl
  obtain ⟨m, hm⟩ : ∃ m, s.extract 1 q = m := ⟨_, rfl⟩
  have him := inner_ext s m q hq hm
  have HKP : Hid (keyP s.data.toList = innerP m.data.toList) := by
    rw [Hid, keyP, if_neg hne, if_neg (by rw [hl, show s.size - 1 = q by omega, hb0, hbq]; omega), him]
  have hms : m.size = q - 1 := by rw [← hm, ByteArray.size_extract]; omega
  have hsl : ∀ wx, (Instr.slice 9 (.string s) (some (.int .i64 1)) (some (.int .i64 q)) none).run Tryz.prog wx = .ok (.string m) wx := fun wx => by
    rw [run_slice_string (P := Tryz.prog) wx 9 s .i64 .i64 1 q Tryz.underlying9 (by omega) (by omega) (by omega)]
    rw [show (1 : Int).toNat = 1 from rfl, Int.toNat_natCast, hm]
  have hm0 : 0 < m.size := by omega
  have hm1 : 1 ≤ q := by omega
  have hbm := byt_ext (i := 0) hm0
  have qm : m ≠ ByteArray.empty := fun e => by rw [e] at hm0; exact absurd hm0 (by decide)
  by_cases cm : m[0].toNat = 34
  · have t4 : ((m[0].toNat : Int) != 34) = false := by rw [cm]; rfl
    have hqp := qparse_any m w (by omega) Z
    obtain ⟨r, hr⟩ : ∃ r, qparse m.data.toList = r := ⟨_, rfl⟩
    have HI : Hid ((keyP s.data.toList).isSome = (r.2 == 0) ∧ ∀ k, keyP s.data.toList = some k → k = (2, 0, ⟨r.1.toArray⟩)) := by
      rw [Hid, HKP.out, ← hr]; exact isSome_word (by rw [hbm]; exact cm)
    rw [hr] at hqp
    obtain ⟨rw_, re⟩ := r
    obtain ⟨x, hx⟩ : ∃ x, (⟨rw_.toArray⟩ : ByteArray) = x := ⟨_, rfl⟩
    simp only [] at hqp
    rw [hx] at hqp
    obtain ⟨bb, hbb⟩ : ∃ bb, ((re : Int) == 0) = bb := ⟨_, rfl⟩
    have HBB : Hid ((re == 0) = bb) := by
      rw [Hid, ← hbb]
      by_cases h : re = 0
      · subst h; rfl
      · rw [beq_eq_false_iff_ne.2 h, eq_comm, beq_eq_false_iff_ne]; omega
    have HX := Hid.out (p := Hid _) hx
    have HQ := Hid.out (p := Hid _) hqp
    clear h3 hl Z T hne h0 c0 hb0 c1 hbq hq him hms hbm cm hr hqp hx hb
    go_enter Tryz.func78, Tryz.ntmps78
    go_wp2_with fail
    refine (Calls.mono HQ.out ?_)
    rintro z w2 ⟨rfl, hb2⟩
    have B2 := Hid.out (p := Hid _) hb2
    have V2 : Hid (w2.heap[b]? = some (.cells (arrA pa pc a) 29 (0, 0))) := (hb2.block _ (heap_lt HB.out)).trans HB.out
    clear hb2
    obtain ⟨x0, x1, x2, x3, x4, x5⟩ := adr_cells V2.out
    have f3 := frozen_of V2.out 3
    have f5 := frozen_of V2.out 5
    have HT5 : Hid (((w2.setCell ⟨b, 3, none⟩ (.int .i64 2)).setCell ⟨b, 5, none⟩ (.string x)).heap[b]? = some (.cells (arrA pa pc (withKey a (2, 0, x))) 29 (0, 0))) := two_word V2.out x HP.out
    have HG : Hid (w.grownBy ((w2.setCell ⟨b, 3, none⟩ (.int .i64 2)).setCell ⟨b, 5, none⟩ (.string x)) (some b)) := gb_two w w2 b 3 5 _ _ B2.out
    go_wp2_with fail
    go_ret
    refine ⟨by rw [HI.out.1, HBB.out] <;> rfl, HG.out, fun k h => ?_⟩
    rw [HI.out.2 k h, HX.out]
    exact HT5.out
  · have t4 : ((m[0].toNat : Int) != 34) = true := by rw [bne_iff_ne]; omega
    have hdp := digits_any m w (by omega) T
    have HI : Hid ((keyP s.data.toList).isSome = (digitsP m.data.toList).isSome ∧ ∀ k, keyP s.data.toList = some k → ∃ n, digitsP m.data.toList = some n ∧ k = (1, n, ⟨#[]⟩)) := by
      rw [Hid, HKP.out]; exact isSome_inner (by rw [hbm]; exact cm)
    obtain ⟨r, hr⟩ : ∃ r, digitsP m.data.toList = r := ⟨_, rfl⟩
    unfold DPost at hdp
    rw [hr] at hdp
    have HR := Hid.out (p := Hid _) hr
    obtain ⟨bb, hbb⟩ : ∃ bb, r.isSome = bb := ⟨_, rfl⟩
    rw [hbb] at hdp
    have HBB := Hid.out (p := Hid _) hbb
    have HD := Hid.out (p := Hid _) hdp
    clear h3 hl Z T hne h0 c0 hb0 c1 hbq hq him hms hbm cm hr hdp hbb hb
    go_enter Tryz.func78, Tryz.ntmps78
    go_wp2_with fail
    refine (Calls.mono HD.out ?_)
    rintro z w2 ⟨n, rfl, hn, hb2⟩
    have HN := Hid.out (p := Hid _) hn
    have B2 := Hid.out (p := Hid _) hb2
    have V2 : Hid (w2.heap[b]? = some (.cells (arrA pa pc a) 29 (0, 0))) := (hb2.block _ (heap_lt HB.out)).trans HB.out
    clear hb2 hn
    obtain ⟨x0, x1, x2, x3, x4, x5⟩ := adr_cells V2.out
    have f3 := frozen_of V2.out 3
    have f4 := frozen_of V2.out 4
    have HT5 : Hid (((w2.setCell ⟨b, 3, none⟩ (.int .i64 1)).setCell ⟨b, 4, none⟩ (.int .u64 n)).heap[b]? = some (.cells (arrA pa pc (withKey a (1, n, ⟨#[]⟩))) 29 (0, 0))) := two_set V2.out HK.out n HW.out
    have HG : Hid (w.grownBy ((w2.setCell ⟨b, 3, none⟩ (.int .i64 1)).setCell ⟨b, 4, none⟩ (.int .u64 n)) (some b)) := gb_two w w2 b 3 4 _ _ B2.out
    go_wp2_with fail
    go_ret
    refine ⟨by rw [HI.out.1, HR.out, HBB.out] <;> rfl, HG.out, fun k h => ?_⟩
    obtain ⟨n', h1, rfl⟩ := HI.out.2 k h
    rw [← HN.out n' (by rw [← HR.out]; exact h1)]
    exact HT5.out
end Go.Proofs.YtmjlklefpiciaaaGreatDoor.Addr
/- addr.Parse: what it needs. -/
namespace Go.Proofs.YtmjlklefpiciaaaGreatDoor.Addr
open Go.RowKit Go.Shelf Go.Proofs.YtmjlklefpiciaaaGreatDoor.Utf Go.Proofs.YtmjlklefpiciaaaGreatDoor.Strs Go.Proofs.YtmjlklefpiciaaaGreatDoor.Lex
open Go.Proofs.YtmjlklefpiciaaaGreatDoor.Jdec (gb_refl gb_drew gb_set gb_below IsTexts infoStr)
set_option linter.unusedVariables false
set_option linter.unusedSimpArgs false
set_option maxRecDepth 100000

/-- A list of texts of the call's own. -/
def RowT (w : World) (B : Nat) (v : Value) (l : List ByteArray) : Prop := w.ownsRow B 9 1 v l.length (l.map Value.string)
theorem RowT.form {w : World} {B : Nat} {v : Value} {l : List ByteArray} (h : RowT w B v l) : ∃ a c, v = .slice a l.length c := by
  rcases h.2 with ⟨h1, h2⟩ | ⟨g, cap, cur, hv, _⟩
  · exact ⟨none, 0, by rw [h1, h2]⟩
  · exact ⟨_, _, hv⟩
theorem RowT.nil (w : World) (B : Nat) : RowT w B (.slice none 0 0) [] := World.ownsRow_nil _ _ _ _
theorem RowT.texts {w : World} {B : Nat} {a : Option Addr} {c : Nat} {l : List ByteArray} (h : RowT w B (.slice a l.length c) l) : IsTexts w (fun b => B ≤ b) a l := by
  by_cases hl : l = []
  · exact .inl hl
  right
  have h' : w.ownsRow B 9 1 (.slice a l.length c) l.length (l.map Value.string) := h
  rcases h'.2 with ⟨_, e2⟩ | ⟨g, cap, cur, hv, _⟩
  · exact absurd (List.length_eq_zero_iff.1 e2) hl
  · injection hv with e1 _ _
    subst e1
    have hb := h'.lt g (by simp [Value.ownBlock])
    refine ⟨g, 0, rfl, hb.1, hb.2, fun i hi => ?_⟩
    have := h'.cellAt i (by omega)
    rw [Nat.zero_add, this]
    simp [hi]
theorem RowT.kept {w w' : World} {B : Nat} {v : Value} {l : List ByteArray} {r : Option Nat} (h : RowT w B v l) (hg : w.grownBy w' r) (hn : v.ownBlock = none ∨ v.ownBlock ≠ r) : RowT w' B v l := World.ownsRow.kept h hg hn
theorem RowT.stays {w w' : World} {B : Nat} {v : Value} {l : List ByteArray} (h : RowT w B v l) (hb : Below w.heap.size w w') : RowT w' B v l := h.kept (gb_below hb none) (by cases v.ownBlock <;> simp)
theorem RowT.ne {w : World} {B : Nat} {v : Value} {l : List ByteArray} (h : RowT w B v l) {b : Nat} (hb : b < B) : v.ownBlock ≠ some b := fun e => by
  have := (World.ownsRow.lt h b e).1; omega
/-- One text more is put behind. -/
theorem app_one (w : World) (B : Nat) (v : Value) (l : List ByteArray) (x : ByteArray) (h : RowT w B v l) (hl : l.length ≤ 1048576) (hB : B ≤ w.heap.size) :
    ∃ g cap w', (Builtin.append_ #[27, 27] 27 #[v, .slice (some ⟨w.heap.size, 0, none⟩) 1 1]).run Tryz.prog (w.alloc (.cells #[.string x] 9)) = .ok (.slice (some ⟨g, 0, none⟩) (l.length + 1) cap) w' ∧
      Hid (RowT w' B (.slice (some ⟨g, 0, none⟩) (l.length + 1) cap) (l ++ [x])) ∧ Hid (w.grownBy w' v.ownBlock) ∧ Hid (B ≤ g ∧ g < w'.heap.size) := by
  obtain ⟨i0, hi, hz0, hz1, hz2⟩ := info_parts infoStr
  have h' : w.ownsRow B 9 1 v l.length (l.map Value.string) := h
  have hsz : (w.alloc (.cells #[.string x] 9 (0, 0))).heap.size = w.heap.size + 1 := by simp
  obtain ⟨v', w', hr, ho, hg, _⟩ := run_append_own (P := Tryz.prog) (w.alloc (.cells #[.string x] 9 (0, 0))) B 27 27 9 i0 (.string ⟨#[]⟩) 1 16 Tryz.underlying27 hi hz0 hz1 hz2 rfl (by decide) v l.length (l.map Value.string) (h'.alloc _) ⟨w.heap.size, 0, none⟩ 1 1 [.string x] rfl (World.news_of_block (cs := #[.string x]) (t := 9) (fr := (0, 0)) (heap_alloc_new w _)) (fun u hu => by simp at hu; subst hu; rfl) (by unfold maxLen; omega) (by omega) (by omega)
  obtain ⟨g, c, rfl⟩ : ∃ g c, v' = .slice (some ⟨g, 0, none⟩) (l.length + 1) c := by
    rcases ho.2 with ⟨rfl, e0⟩ | ⟨g, cap, cur, rfl, _⟩
    · omega
    · exact ⟨_, _, rfl⟩
  have hgg := ho.lt g (by simp [Value.ownBlock])
  refine ⟨g, c, w', hr, ?_, ⟨hg.os, hg.tape, hg.output, Nat.le_trans (by omega) hg.size, fun k hk hne => (hg.block k (by omega) hne).trans (Below.heap_alloc _ _ _ hk)⟩, hgg⟩
  unfold Hid RowT
  rw [List.length_append, List.map_append]
  exact ho

/-- append, by what its run is. -/
theorem wpList_append_run {P : Program} {w w' : World} {ops : Array Oper} {rest : List Oper} {o : Oper} {a : Act} {Q : Exit → Act → World → Prop} {v' : Value} (v1 v2 : Value) (t : TypeId) (hr : (Builtin.append_ #[t, t] o.type #[v1, v2]).run P w = .ok v' w') (hgd : o.guard = none) (s x : Operand)
    (ho : o.op = .call { callee := .builtin .append, args := #[s, x], argTypes := #[t, t] }) (hs : a.eval s = v1) (hx : a.eval x = v2) (h : wpList P ops Q rest (a.put o.dst v') w') : wpList P ops Q (o :: rest) a w := by
  refine wpList_plain hgd fun K hK => ?_
  unfold Oper.wp
  simp [execOp, ho, resolve, invoke, builtin, hs, hx, hr, Result.andThen]
  exact hK _ _ h
/-- An address that is none. -/
def adr0 (ks : List ByteArray) (ty nm : ByteArray) : Adr := ⟨ks, ty, nm, 0, 0, ⟨#[]⟩⟩
def zeroA : Adr := adr0 [] ⟨#[]⟩ ⟨#[]⟩
theorem setA {w : World} {b : Nat} {pa : Option Addr} {pc : Nat} {a : Adr} {T : TypeId} (h : w.heap[b]? = some (.cells (arrA pa pc a) T (0, 0))) (pa' : Option Addr) (pc' : Nat) (c : Adr) :
    ((((((w.setCell ⟨b, 0, none⟩ (.slice pa' c.path.length pc')).setCell ⟨b, 1, none⟩ (.string c.type)).setCell ⟨b, 2, none⟩ (.string c.name)).setCell ⟨b, 3, none⟩ (.int .i64 c.key)).setCell ⟨b, 4, none⟩ (.int .u64 c.place)).setCell ⟨b, 5, none⟩ (.string c.word)).heap[b]? = some (.cells (arrA pa' pc' c) T (0, 0)) := by
  have h0 := heap_set_same h (i := 0) (.slice pa' c.path.length pc')
  have h1 := heap_set_same h0 (i := 1) (.string c.type)
  have h2 := heap_set_same h1 (i := 2) (.string c.name)
  have h3 := heap_set_same h2 (i := 3) (.int .i64 c.key)
  have h4 := heap_set_same h3 (i := 4) (.int .u64 c.place)
  have h5 := heap_set_same h4 (i := 5) (.string c.word)
  rw [h5]
  simp [arrA]
theorem gb6 (w : World) (b : Nat) (x0 x1 x2 x3 x4 x5 : Value) :
    w.grownBy ((((((w.setCell ⟨b, 0, none⟩ x0).setCell ⟨b, 1, none⟩ x1).setCell ⟨b, 2, none⟩ x2).setCell ⟨b, 3, none⟩ x3).setCell ⟨b, 4, none⟩ x4).setCell ⟨b, 5, none⟩ x5) (some b) :=
  ((((((gb_set _ _ _ _).trans (gb_set _ _ _ _)).trans (gb_set _ _ _ _)).trans (gb_set _ _ _ _)).trans (gb_set _ _ _ _)).trans (gb_set _ _ _ _))
theorem adr_frozen {w : World} {b : Nat} {pa : Option Addr} {pc : Nat} {a : Adr} (h : w.heap[b]? = some (.cells (arrA pa pc a) 29 (0, 0))) :
    w.frozen? ⟨b, 0, none⟩ = false ∧ w.frozen? ⟨b, 1, none⟩ = false ∧ w.frozen? ⟨b, 2, none⟩ = false ∧ w.frozen? ⟨b, 3, none⟩ = false ∧ w.frozen? ⟨b, 4, none⟩ = false ∧ w.frozen? ⟨b, 5, none⟩ = false :=
  ⟨frozen_of h 0, frozen_of h 1, frozen_of h 2, frozen_of h 3, frozen_of h 4, frozen_of h 5⟩
/-- An address is told, beside an error. -/
def APost (r : Option Adr) (w : World) (e : Ending) (w' : World) : Prop :=
  ∃ pa pc, e = .returned (.tuple #[wordsA pa pc (r.getD zeroA), .int .i64 (if r.isSome then 0 else 3)]) ∧ IsTexts w' (fun b => w.heap.size ≤ b) pa (r.getD zeroA).path ∧ Below w.heap.size w w'
/-- The tables that addresses are read by. -/
structure TabsP (w : World) : Prop where
  t : Tabs w
  p : Jdec.Pow10 w
  e : ErrT w
theorem TabsP.stays {w w' : World} (T : TabsP w) (h : Below w.heap.size w w') : TabsP w' := ⟨T.t.stays h, T.p.stays h, T.e.stays h⟩
theorem TabsP.a {w : World} (T : TabsP w) : TabsA w := ⟨T.t, T.p⟩
theorem cut_any (s : ByteArray) (w : World) (hs : s.size < 4294967281) (T : MaxL w) :
    Calls Tryz.prog 76 #[.string s, .string ⟨#[46]⟩] w fun e w' => (match cutB 46 s.data.toList with
      | none => e = .returned (.tuple #[.string s, .string ⟨#[]⟩, .bool false])
      | some (a, b) => e = .returned (.tuple #[.string ⟨a.toArray⟩, .string ⟨b.toArray⟩, .bool true])) ∧ ∃ n, w' = w.drewN n := by
  obtain ⟨m, hm⟩ := T.cell
  refine (Tryz.strings_Cut s ⟨#[46]⟩ m w hs hm).mono ?_
  rintro e w' ⟨he, hw⟩
  refine ⟨?_, hw⟩
  have hc : Lib.cut s.data.toList (⟨#[46]⟩ : ByteArray).data.toList = _ := cut_eq 46 s.data.toList
  rw [hc] at he
  cases h : cutB 46 s.data.toList with
  | none => rw [h] at he; simp only [] at he ⊢; rw [he, Jdec.str_back]
  | some y =>
    obtain ⟨a, b⟩ := y
    rw [h] at he
    exact he
theorem up_cut (l : List UInt8) : upTo91 l = (match cutB 91 l with | none => l | some (a, _) => a) ∧ from91 l = (match cutB 91 l with | none => [] | some (_, b) => 91 :: b) := by
  cases h : cutB 91 l with
  | none =>
    have := up_at l [] (cutB_none.1 h) (.inl rfl)
    rw [List.append_nil] at this
    exact this
  | some y =>
    obtain ⟨a, b⟩ := y
    obtain ⟨e, hn⟩ := cutB_some h
    rw [e]
    exact up_at a (91 :: b) hn (.inr rfl)
theorem up_len (l : List UInt8) : (upTo91 l).length ≤ l.length := by
  have := congrArg List.length (up_from l)
  rw [List.length_append] at this
  omega
theorem take_of {l a b : List UInt8} (h : a ++ b = l) : l.take a.length = a ∧ l.drop a.length = b := by subst h; simp
theorem ext_up (s : ByteArray) : s.extract 0 (upTo91 s.data.toList).length = ⟨(upTo91 s.data.toList).toArray⟩ ∧ s.extract (upTo91 s.data.toList).length s.size = ⟨(from91 s.data.toList).toArray⟩ := by
  obtain ⟨h1, h2⟩ := take_of (up_from s.data.toList)
  have hl : s.data.toList.length = s.size := by simp
  refine ⟨Utf.str_of _ _ ?_, Utf.str_of _ _ ?_⟩
  · rw [ByteArray.data_extract, Array.toList_extract, List.extract_eq_take_drop, List.drop_zero, Nat.sub_zero, h1]
  · rw [ByteArray.data_extract, Array.toList_extract, List.extract_eq_take_drop, List.take_of_length_le (by rw [List.length_drop, hl]; exact Nat.le_refl _), h2]
end Go.Proofs.YtmjlklefpiciaaaGreatDoor.Addr
