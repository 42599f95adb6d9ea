/- state.Right. -/
import Derived.Test.YtckflnibkglheaaGreatDoorYSStN
namespace Go.Proofs.YtckflnibkglheaaGreatDoor.State
open Go.RowKit Go.Shelf Go.Proofs.YtckflnibkglheaaGreatDoor.Utf Go.Proofs.YtckflnibkglheaaGreatDoor.Strs Go.Proofs.YtckflnibkglheaaGreatDoor.Addr
open Go.Proofs.YtckflnibkglheaaGreatDoor.Jdec (IsTexts Turn infoStr gb_set gb_below gb_refl)
set_option linter.unusedVariables false
set_option linter.unusedSimpArgs false
set_option maxRecDepth 100000

/-- Right records, each above the one ahead. -/
structure Rows (l : List Rec) : Prop where
 r : ∀ j (h : j < l.length), recB l[j] = true
 o : ∀ j (h : j + 1 < l.length), Op.bytesLess (printA l[j].a) (printA l[j + 1].a) = true
/-- Is a state right? -/
noncomputable def rightS (s : Sta) : Bool := decide (badZ s.lin.data.toList < 0) && @decide (Rows s.recs) (Classical.propDecidable _)
theorem Rows.sorted {l : List Rec} (h : Rows l) : Sorted l := by
 have key : ∀ d i (hj : i + d + 1 < l.length), Op.bytesLess (printA l[i].a) (printA l[i + d + 1].a) = true := by
  intro d
  induction d with
  | zero => intro i hj; exact h.o i hj
  | succ d ih =>
   intro i hj
   exact less_trans (ih i (by omega)) (h.o (i + d + 1) (by omega))
 intro i j hi hj hij
 obtain ⟨d, rfl⟩ : ∃ d, j = i + d + 1 := ⟨j - i - 1, by omega⟩
 exact key d i hj
theorem rows_of {l : List Rec} (h : ∀ r ∈ l, recB r = true) (ho : Sorted l) : Rows l := ⟨fun j hj => h _ (List.getElem_mem hj), fun j hj => ho j (j + 1) (by omega) hj (by omega)⟩
theorem rightS_iff (s : Sta) : rightS s = true ↔ badZ s.lin.data.toList < 0 ∧ Rows s.recs := by
 unfold rightS
 rw [Bool.and_eq_true, decide_eq_true_eq, @decide_eq_true_eq (Rows s.recs) (Classical.propDecidable _)]
/-- How far it is right. -/
structure RInv (l : List Rec) (i : Nat) (ah : ByteArray) : Prop where
 r : ∀ j (h : j < l.length), j < i → recB l[j] = true
 o : ∀ j (h : j + 1 < l.length), j + 1 < i → Op.bytesLess (printA l[j].a) (printA l[j + 1].a) = true
 a : 0 < i → ∃ h : i - 1 < l.length, printA l[i - 1].a = ah.data.toList
theorem pr_ok (r : Rec) (p : At) (w : World) (h : IsRec w (fun _ => True) p r) (hs : Small r) (T : TabsA w) (q : ByteArray) (hq : (⟨(printA r.a).toArray⟩ : ByteArray) = q) :
  Hid (Calls Tryz.prog 58 #[.agg #[.slice p.pa r.a.path.length p.pc, .string r.a.type, .string r.a.name, .int .i64 r.a.key, .int .u64 r.a.place, .string r.a.word]] w fun e w' => e = .returned (.string q) ∧ Below w.heap.size w w') := by
 have ha := h.adr hs
 have h := print_any r.a p.pa p.pc _ w ha.t ha.l ha.s ha.ty ha.nm ha.wd ha.p T
 rw [hq] at h
 exact h
set_option maxHeartbeats 8000000 in
theorem sright_any (s : Sta) (ra : Option Addr) (rc : Nat) (w : World) (h : RecsAt w ra s.recs) (hl : s.lin.size ≤ 6000) (T : TabsA w) :
  Calls Tryz.prog 25 #[staV ra rc s] w fun e w' => e = .returned (.bool (rightS s)) ∧ Below w.heap.size w w' := by
 obtain ⟨w1, hw1, V1, B1⟩ := sta_new w ra rc s
 have hl1 := heap_lt V1.out
 obtain ⟨v1, hv1⟩ : ∃ x, decide (badZ s.lin.data.toList < 0) = x := ⟨_, rfl⟩
 have HRS : Hid (rightS s = (v1 && @decide (Rows s.recs) (Classical.propDecidable _))) := by rw [Hid, rightS, hv1]
 have HUT := utf_ok s.lin w1 hl (T.stays B1.out).t.z v1 hv1
 have HR : Hid (∀ W, Below w.heap.size w W → RecsAt W ra s.recs) := fun W hb => h.stays hb
 have HT : Hid (∀ W, Below w.heap.size w W → TabsA W) := fun W hb => T.stays hb
 have hn := h.n
 obtain ⟨x0, x1, x2⟩ := sta_cells V1.out
 unfold staV
 clear hv1 h T
 go_enter Tryz.func25, Tryz.ntmps25
 go_wp2_with fail
 refine (Calls.mono HUT.out ?_)
 rintro z w2 ⟨rfl, rfl⟩
 cases v1
 case false =>
  go_wp2_with fail
  go_ret
  exact ⟨by rw [HRS.out] <;> rfl, B1.out⟩
 go_wp2_with fail
 clear x0 x1 x2 hw1
 go_loopw [3, 14] (fun p3 p14 wr => ∃ (i : Nat) (ah : ByteArray), p3 = .string ah ∧ p14 = .int .i64 i ∧ i ≤ s.recs.length ∧ Hid (RInv s.recs i ah) ∧ Hid (Below w.heap.size w wr)) (fun _ p14 _ => s.recs.length - (intOf p14).toNat)
 case atStart => exact ⟨0, ⟨#[]⟩, rfl, rfl, Nat.zero_le _, ⟨fun j _ h => by omega, fun j _ h => by omega, fun h => by omega⟩, B1.out⟩
 case round =>
  obtain ⟨i, ah, rfl, rfl, hi, hI, hB⟩ := hrel
  by_cases hlt : i < s.recs.length
  ·obtain ⟨b, o, p, hra, hb, hcr, hir⟩ := (HR.out wr hB.out).get hlt
   have hsm := (HR.out wr hB.out).s _ (List.getElem_mem hlt)
   obtain ⟨r, hr⟩ : ∃ r, s.recs[i] = r := ⟨_, rfl⟩
   rw [hr] at hcr hir hsm
   obtain ⟨z0, z1, z2, z3, z4, z5, z6, z7, z8⟩ := recs_nine hcr
   obtain ⟨w4, hw4, V4, B4⟩ := rec_new wr p r
   have B04 : Hid (Below w.heap.size w w4) := hB.out.trans (B4.out.mono hB.out.size)
   obtain ⟨rb, hrb⟩ : ∃ b, recB r = b := ⟨_, rfl⟩
   have HIR : Hid (∀ W, Below wr.heap.size wr W → IsRec W (fun _ => True) p r) := fun W hW => hir.turn (Turn.below hW)
   have HSM := Hid.out (p := Hid _) hsm
   have HRC := rec_ok r p w4 (HIR.out w4 B4.out) hsm (HT.out w4 B04.out) rb hrb
   have HRB := Hid.out (p := Hid _) hrb
   have HRi := Hid.out (p := Hid _) hr
   obtain ⟨y0, y1, y2, y3, y4, y5, y6, y7, y8⟩ := rec_cells V4.out
   clear hcr hir hsm hrb hr
   rw [hra]
   clear hra
   go_wp2_with fail
   refine (Calls.mono HRC.out ?_)
   rintro z w5 ⟨rfl, hb5⟩
   have B45 : Hid (Below wr.heap.size wr w5) := B4.out.trans (hb5.mono B4.out.size)
   have B05 : Hid (Below w.heap.size w w5) := B04.out.trans (hb5.mono B04.out.size)
   have V5 : Hid (w5.heap[wr.heap.size]? = some (.cells (recArr p r) 32 (0, 0))) := (hb5.block _ (heap_lt V4.out)).trans V4.out
   clear hb5 HRC y0 y1 y2 y3 y4 y5 y6 y7 y8 z0 z1 z2 z3 z4 z5 z6 z7 z8 hw4
   cases rb
   case false =>
    have HF : Hid (rightS s = false) := by
     rw [Hid, ← Bool.not_eq_true, rightS_iff]
     rintro ⟨_, h⟩
     have := h.r i hlt
     rw [HRi.out, HRB.out] at this
     cases this
    go_wp2_with fail
    go_ret
    exact ⟨by rw [HF.out] <;> rfl, B05.out⟩
   obtain ⟨y0, y1, y2, y3, y4, y5, y6, y7, y8⟩ := rec_cells V5.out
   obtain ⟨q, hq⟩ : ∃ q : ByteArray, (⟨(printA r.a).toArray⟩ : ByteArray) = q := ⟨_, rfl⟩
   have HPR := pr_ok r p w5 (HIR.out w5 B45.out) HSM.out (HT.out w5 B05.out) q hq
   have HQ : Hid (printA s.recs[i].a = q.data.toList) := by rw [Hid, HRi.out, ← hq]
   clear hq
   go_wp2_with fail
   refine (Calls.mono HPR.out ?_)
   rintro z w6 ⟨rfl, hb6⟩
   have B06 : Hid (Below w.heap.size w w6) := B05.out.trans (hb6.mono B05.out.size)
   clear hb6 HPR y0 y1 y2 y3 y4 y5 y6 y7 y8
   rcases Nat.eq_zero_or_pos i with hi0 | hi0
   ·subst hi0
    have HN : Hid (RInv s.recs 1 q) := ⟨fun j hj h => (by obtain rfl : j = 0 := by omega
                                                          rw [HRi.out]; exact HRB.out), fun j _ h => by omega, fun _ => ⟨hlt, HQ.out⟩⟩
    go_wp2_with fail
    go_roundw
    case rel => exact ⟨1, q, rfl, rfl, by omega, HN.out, B06.out⟩
    case measure => simp [intOf]; omega
   ·obtain ⟨k, hk⟩ : ∃ k, k + 1 = i := ⟨i - 1, by omega⟩
    have hsw := less_swap q.toList ah.toList
    obtain ⟨c1, h1⟩ : ∃ c, Op.bytesLess q.toList ah.toList = c := ⟨_, rfl⟩
    obtain ⟨c2, h2⟩ : ∃ c, (q.toList == ah.toList) = c := ⟨_, rfl⟩
    rw [h1, h2] at hsw
    have HLT : Hid (∀ (h1 : k < s.recs.length) (h2 : i < s.recs.length), Op.bytesLess (printA s.recs[k].a) (printA s.recs[i].a) = !(c1 || c2)) := fun g1 g2 => by
     obtain ⟨e0, e1⟩ := hI.out.a hi0
     have e2 : i - 1 = k := by omega
     simp only [e2] at e1
     rw [e1, HQ.out, ← ByteArray.toList_eq, ← ByteArray.toList_eq]
     exact hsw
    have hi1 : decide ((0 : Int) < (i : Int)) = true := by rw [decide_eq_true_eq]; omega
    have hi2 : decide (0 < i) = true := by rw [decide_eq_true_eq]; omega
    have HK := Hid.out (p := Hid _) hk
    have HBADC : Hid ((c1 || c2) = true → rightS s = false) := fun hc => by
     rw [← Bool.not_eq_true, rightS_iff]
     rintro ⟨_, h⟩
     have e := HK.out
     subst e
     have h3 := HLT.out (by omega) hlt
     have h4 := h.o k hlt
     rw [h3, hc] at h4
     cases h4
    have HGOOD : Hid ((c1 || c2) = false → RInv s.recs (i + 1) q) := fun hc => by
     refine ⟨fun j hj h => ?_, fun j hj h => ?_, fun _ => ⟨by omega, HQ.out⟩⟩
     ·by_cases e : j = i
      ·subst e; rw [HRi.out]; exact HRB.out
      ·exact hI.out.r j hj (by omega)
     ·by_cases e : j + 1 = i
      ·have e2 : j = k := by have := HK.out; omega
       subst e2
       have := HLT.out (by omega) hlt
       simp only [e]
       rw [this, hc]; rfl
      ·exact hI.out.o j hj (by omega)
    clear hsw hk
    cases c1
    ·cases c2
     ·have HN : Hid (RInv s.recs (i + 1) q) := HGOOD.out rfl
      clear HBADC HGOOD
      go_wp2_with fail
      go_roundw
      case rel => exact ⟨i + 1, q, rfl, by go_num, by omega, HN.out, B06.out⟩
      case measure => simp [intOf]; omega
     ·have HF : Hid (rightS s = false) := HBADC.out rfl
      clear HBADC HGOOD
      go_wp2_with fail
      go_ret
      exact ⟨by rw [HF.out] <;> rfl, B06.out⟩
    ·have HF : Hid (rightS s = false) := HBADC.out rfl
     clear HBADC HGOOD
     go_wp2_with fail
     go_ret
     exact ⟨by rw [HF.out] <;> rfl, B06.out⟩
  ·have HF : Hid (rightS s = true) := by
    rw [Hid, HRS.out, Bool.true_and, @decide_eq_true_eq (Rows s.recs) (Classical.propDecidable _)]
    exact ⟨fun j hj => hI.out.r j hj (by omega), fun j hj => hI.out.o j hj (by omega)⟩
   go_wp2_with fail
   go_ret
   exact ⟨by rw [HF.out] <;> rfl, hB.out⟩
end Go.Proofs.YtckflnibkglheaaGreatDoor.State
/- tabulariumref18.Right. -/
namespace Go.Proofs.YtckflnibkglheaaGreatDoor.State
open Go.RowKit Go.Shelf Go.Proofs.YtckflnibkglheaaGreatDoor.Utf Go.Proofs.YtckflnibkglheaaGreatDoor.Strs Go.Proofs.YtckflnibkglheaaGreatDoor.Addr
open Go.Proofs.YtckflnibkglheaaGreatDoor.Jdec (IsTexts Turn infoStr gb_set gb_below gb_refl)
set_option linter.unusedVariables false
set_option linter.unusedSimpArgs false
set_option maxRecDepth 100000

theorem rpr_ok (r : Rec) (p : At) (w : World) (h : IsRec w (fun _ => True) p r) (hs : Small r) (q : ByteArray) (hq : (⟨(printA r.a).toArray⟩ : ByteArray) = q) :
  Hid (Calls Tryz.prog 32 #[.agg #[.slice p.pa r.a.path.length p.pc, .string r.a.type, .string r.a.name, .int .i64 r.a.key, .int .u64 r.a.place, .string r.a.word]] w fun e w' => e = .returned (.string q) ∧ Below w.heap.size w w') := by
 have h := (h.adr hs).rprint p.pc
 rw [hq] at h
 exact h
end Go.Proofs.YtckflnibkglheaaGreatDoor.State
/- States in plain Lean: what is put, dropped, found. -/
namespace Go.Proofs.YtckflnibkglheaaGreatDoor.State
open Go.RowKit Go.Shelf Go.Proofs.YtckflnibkglheaaGreatDoor.Utf Go.Proofs.YtckflnibkglheaaGreatDoor.Strs Go.Proofs.YtckflnibkglheaaGreatDoor.Addr
open Go.Proofs.YtckflnibkglheaaGreatDoor.Jdec (IsTexts Turn)
set_option linter.unusedVariables false
set_option linter.unusedSimpArgs false
set_option maxRecDepth 100000

/-- One print is below the other. -/
def Lt (x y : Rec) : Prop := Op.bytesLess (printA x.a) (printA y.a) = true
theorem sorted_iff (l : List Rec) : Sorted l ↔ l.Pairwise Lt := by
 rw [List.pairwise_iff_getElem]
 exact Iff.rfl
theorem recB_right {r : Rec} (h : recB r = true) : rightA r.a = true := by
 rw [recB, Bool.and_eq_true, looseB, Bool.and_eq_true] at h
 exact h.1.1
/-- Right records of no more than the statements take, in order. -/
structure Good (l : List Rec) : Prop where
 r : ∀ x ∈ l, recB x = true
 o : l.Pairwise Lt
 s : ∀ x ∈ l, Small x
theorem Good.sorted {l : List Rec} (h : Good l) : Sorted l := (sorted_iff l).2 h.o
theorem Good.rows {l : List Rec} (h : Good l) : Rows l := rows_of h.r h.sorted
theorem Good.nil : Good [] := ⟨(fun x h => by cases h), List.Pairwise.nil, (fun x h => by cases h)⟩
theorem Lt.irrefl (x : Rec) : ¬ Lt x x := fun h => by rw [Lt, less_irrefl] at h; cases h
theorem Lt.trans {x y z : Rec} (h1 : Lt x y) (h2 : Lt y z) : Lt x z := less_trans h1 h2
/-- Two right addresses of one print are one. -/
theorem adr_eq {x : Rec} {a : Adr} (hr : recB x = true) (hs : Small x) (hp : a.place < 18446744073709551616) (e : printA x.a = printA a) : x.a = a := by
 have h1 := recB_right hr
 have h2 := hs.p
 cases hb : rightA a
 ·exfalso
  rw [print_wrong hb] at e
  exact print_ne h1 e
 ·exact print_inj h1 hb (by omega) (by omega) e
theorem Good.inj {l : List Rec} (h : Good l) {x y : Rec} (hx : x ∈ l) (hy : y ∈ l) (e : x.a = y.a) : x = y := by
 obtain ⟨i, hi, rfl⟩ := List.getElem_of_mem hx
 obtain ⟨j, hj, rfl⟩ := List.getElem_of_mem hy
 have hs := h.sorted
 rcases Nat.lt_trichotomy i j with hl | rfl | hl
 ·have := hs i j hi hj hl; rw [e, less_irrefl] at this; cases this
 ·rfl
 ·have := hs j i hj hi hl; rw [e, less_irrefl] at this; cases this
theorem Good.idx {l : List Rec} (h : Good l) {i j : Nat} (hi : i < l.length) (hj : j < l.length) (e : l[i].a = l[j].a) : i = j := by
 have hs := h.sorted
 rcases Nat.lt_trichotomy i j with hl | rfl | hl
 ·have := hs i j hi hj hl; rw [e, less_irrefl] at this; cases this
 ·rfl
 ·have := hs j i hj hi hl; rw [e, less_irrefl] at this; cases this
theorem is_iff {l : List Rec} (h : Good l) {a : Adr} (hp : a.place < 18446744073709551616) (i : Nat) : Is l (printA a) i ↔ ∃ hi : i < l.length, l[i].a = a :=
 ⟨fun ⟨hi, e⟩ => ⟨hi, adr_eq (h.r _ (List.getElem_mem hi)) (h.s _ (List.getElem_mem hi)) hp e⟩, fun ⟨hi, e⟩ => ⟨hi, by rw [e]⟩⟩
/-! ## Dropped -/
/-- Records without one. -/
def dropR (l : List Rec) (i : Nat) : List Rec := l.take i ++ l.drop (i + 1)
theorem dropR_sub (l : List Rec) (i : Nat) : (dropR l i).Sublist l := by
 conv => rhs; rw [← List.take_append_drop i l]
 refine List.Sublist.append (List.Sublist.refl _) ?_
 have : l.drop (i + 1) = (l.drop i).drop 1 := by rw [List.drop_drop]
 rw [this]
 exact List.drop_sublist _ _
theorem Good.sub {l m : List Rec} (h : Good l) (hs : m.Sublist l) : Good m := ⟨fun x hx => h.r x (hs.subset hx), h.o.sublist hs, fun x hx => h.s x (hs.subset hx)⟩
theorem good_drop {l : List Rec} (h : Good l) (i : Nat) : Good (dropR l i) := h.sub (dropR_sub l i)
theorem dropR_len {l : List Rec} {i : Nat} (h : i < l.length) : (dropR l i).length = l.length - 1 := by
 rw [dropR, List.length_append, List.length_take, List.length_drop]; omega
theorem split_at {l : List Rec} {i : Nat} (h : i < l.length) : l = l.take i ++ l[i] :: l.drop (i + 1) := by
 rw [← List.drop_eq_getElem_cons h, List.take_append_drop]
theorem mem_drop {l : List Rec} (h : Good l) {i : Nat} (hi : i < l.length) (x : Rec) : x ∈ dropR l i ↔ x ∈ l ∧ x.a ≠ l[i].a := by
 constructor
 ·intro hx
  refine ⟨(dropR_sub l i).subset hx, fun e => ?_⟩
  have e2 : x = l[i] := h.inj ((dropR_sub l i).subset hx) (List.getElem_mem hi) e
  have ho := h.o
  rw [split_at hi, List.pairwise_append] at ho
  rcases List.mem_append.1 hx with hx | hx
  ·have := ho.2.2 x hx l[i] (List.mem_cons_self ..)
   rw [e2] at this
   exact Lt.irrefl _ this
  ·have := (List.pairwise_cons.1 ho.2.1).1 x hx
   rw [e2] at this
   exact Lt.irrefl _ this
 ·rintro ⟨hx, hn⟩
  have hx2 := hx
  rw [split_at hi] at hx2
  rcases List.mem_append.1 hx2 with hx2 | hx2
  ·exact List.mem_append.2 (.inl hx2)
  ·rcases List.mem_cons.1 hx2 with rfl | hx2
   ·exact absurd rfl hn
   ·exact List.mem_append.2 (.inr hx2)

/-! ## Put -/
def putR (l : List Rec) (r : Rec) (i nx : Nat) : List Rec := l.take i ++ r :: l.drop nx
theorem next_le {l : List Rec} {t : List UInt8} {i nx : Nat} (h : Next l t i nx) (hP : Place l t i) : i ≤ nx ∧ nx ≤ l.length := by
 rcases h with ⟨⟨hi, _⟩, rfl⟩ | ⟨_, rfl⟩
 ·exact ⟨by omega, by omega⟩
 ·exact ⟨Nat.le_refl _, hP.n⟩
/-- What stands behind is above. -/
theorem above {l : List Rec} (h : Sorted l) {t : List UInt8} {i nx : Nat} (hP : Place l t i) (hN : Next l t i nx) (m : Nat) (hm : m < l.length) (hnm : nx ≤ m) : Op.bytesLess t (printA l[m].a) = true := by
 have hle := next_le hN hP
 have h1 := hP.hi m hm (by omega)
 have hne : printA l[m].a ≠ t := by
  intro e
  rcases hN with ⟨⟨hi, e2⟩, rfl⟩ | ⟨hN, rfl⟩
  ·have := h i m hi hm (by omega)
   rw [e, e2, less_irrefl] at this; cases this
  ·rcases Nat.eq_or_lt_of_le hnm with rfl | hl
   ·exact hN ⟨hm, e⟩
   ·have h3 := h nx m (by omega) hm hl
    have h4 := hP.hi nx (by omega) (Nat.le_refl _)
    rw [e, h4] at h3; cases h3
 have hsw := less_swap (printA l[m].a) t
 rw [h1] at hsw
 have hb : (printA l[m].a == t) = false := by rw [beq_eq_false_iff_ne]; exact hne
 rw [hb] at hsw
 exact hsw
theorem good_put {l : List Rec} {r : Rec} {i nx : Nat} (h : Good l) (hr : recB r = true) (hs : Small r) (hP : Place l (printA r.a) i) (hN : Next l (printA r.a) i nx) : Good (putR l r i nx) := by
 have hle := next_le hN hP
 refine ⟨fun x hx => ?_, ?_, fun x hx => ?_⟩
 ·rcases List.mem_append.1 hx with hx | hx
  ·exact h.r x (List.mem_of_mem_take hx)
  ·rcases List.mem_cons.1 hx with rfl | hx
   ·exact hr
   ·exact h.r x (List.mem_of_mem_drop hx)
 ·have lo : ∀ x ∈ l.take i, Lt x r := fun x hx => by
   obtain ⟨m, hm, rfl⟩ := List.getElem_of_mem hx
   rw [List.length_take] at hm
   rw [List.getElem_take]
   exact hP.lo m (by omega) (by omega)
  have hi : ∀ x ∈ l.drop nx, Lt r x := fun x hx => by
   obtain ⟨m, hm, rfl⟩ := List.getElem_of_mem hx
   rw [List.length_drop] at hm
   rw [List.getElem_drop]
   exact above h.sorted hP hN _ (by omega) (by omega)
  rw [putR, List.pairwise_append, List.pairwise_cons]
  refine ⟨h.o.sublist (List.take_sublist _ _), ⟨hi, h.o.sublist (List.drop_sublist _ _)⟩, fun x hx y hy => ?_⟩
  rcases List.mem_cons.1 hy with rfl | hy
  ·exact lo x hx
  ·exact (lo x hx).trans (hi y hy)
 ·rcases List.mem_append.1 hx with hx | hx
  ·exact h.s x (List.mem_of_mem_take hx)
  ·rcases List.mem_cons.1 hx with rfl | hx
   ·exact hs
   ·exact h.s x (List.mem_of_mem_drop hx)
theorem mem_put {l : List Rec} {r : Rec} {i nx : Nat} (h : Good l) (hr : recB r = true) (hs : Small r) (hP : Place l (printA r.a) i) (hN : Next l (printA r.a) i nx) (x : Rec) : x ∈ putR l r i nx ↔ x = r ∨ x ∈ l ∧ x.a ≠ r.a := by
 have hg := good_put h hr hs hP hN
 constructor
 ·intro hx
  by_cases e : x.a = r.a
  ·exact .inl (hg.inj hx (by simp [putR]) e)
  ·rcases List.mem_append.1 hx with hx | hx
   ·exact .inr ⟨List.mem_of_mem_take hx, e⟩
   ·rcases List.mem_cons.1 hx with rfl | hx
    ·exact .inl rfl
    ·exact .inr ⟨List.mem_of_mem_drop hx, e⟩
 ·rintro (rfl | ⟨hx, hn⟩)
  ·simp [putR]
  ·obtain ⟨m, hm, rfl⟩ := List.getElem_of_mem hx
   have hle := next_le hN hP
   by_cases h1 : m < i
   ·refine List.mem_append.2 (.inl ?_)
    exact List.mem_take_iff_getElem.2 ⟨m, by omega, rfl⟩
   ·by_cases h2 : nx ≤ m
    ·refine List.mem_append.2 (.inr (List.mem_cons.2 (.inr ?_)))
     exact List.mem_drop_iff_getElem.2 ⟨m - nx, by omega, by congr 1; omega⟩
    ·rcases hN with ⟨⟨hi, e2⟩, rfl⟩ | ⟨_, rfl⟩
     ·obtain rfl : m = i := by omega
      exact absurd (adr_eq (h.r _ (List.getElem_mem hm)) (h.s _ (List.getElem_mem hm)) hs.p e2) hn
     ·omega
/-- Two lists in order with the same members are one. -/
theorem good_ext : ∀ {l m : List Rec}, l.Pairwise Lt → m.Pairwise Lt → (∀ x, x ∈ l ↔ x ∈ m) → l = m := by
 intro l
 induction l with
 | nil =>
  intro m _ _ h
  cases m with
  | nil => rfl
  | cons y u => have := (h y).2 (by simp); cases this
 | cons x t ih =>
  intro m hl hm h
  cases m with
  | nil => have := (h x).1 (by simp); cases this
  | cons y u =>
   rw [List.pairwise_cons] at hl hm
   have e : x = y := by
    rcases List.mem_cons.1 ((h x).1 (by simp)) with e | hx
    ·exact e
    ·rcases List.mem_cons.1 ((h y).2 (by simp)) with e | hy
     ·exact e.symm
     ·exact absurd ((hl.1 y hy).trans (hm.1 x hx)) (Lt.irrefl x)
   subst e
   rw [ih hl.2 hm.2 fun z => ⟨fun hz => ?_, fun hz => ?_⟩]
   ·rcases List.mem_cons.1 ((h z).1 (List.mem_cons_of_mem _ hz)) with rfl | h2
    ·exact absurd (hl.1 z hz) (Lt.irrefl z)
    ·exact h2
   ·rcases List.mem_cons.1 ((h z).2 (List.mem_cons_of_mem _ hz)) with rfl | h2
    ·exact absurd (hm.1 z hz) (Lt.irrefl z)
    ·exact h2
/-- The document's place of a record: behind all that aren't above. -/
structure Behind (l : List Rec) (t : List UInt8) (k : Nat) : Prop where
 n : k ≤ l.length
 lo : ∀ m (h : m < l.length), m < k → Op.bytesLess t (printA l[m].a) = false
 hi : ∀ h : k < l.length, Op.bytesLess t (printA l[k].a) = true
theorem behind_place {l : List Rec} (h : Good l) {t : List UInt8} {k : Nat} (hB : Behind l t k) (hN : ∀ x ∈ l, printA x.a ≠ t) : Place l t k := by
 refine ⟨hB.n, fun m hm hk => ?_, fun m hm hk => ?_⟩
 ·have h1 := hB.lo m hm hk
  have hsw := less_swap t (printA l[m].a)
  rw [h1] at hsw
  have hb : (t == printA l[m].a) = false := by rw [beq_eq_false_iff_ne]; exact fun e => hN _ (List.getElem_mem hm) e.symm
  rw [hb] at hsw
  exact hsw
 ·have hkl : k < l.length := by omega
  have h1 := hB.hi hkl
  have h2 : Op.bytesLess t (printA l[m].a) = true := by
   rcases Nat.eq_or_lt_of_le hk with rfl | hl
   ·exact h1
   ·exact less_trans h1 (h.sorted k m hkl hm hl)
  cases h3 : Op.bytesLess (printA l[m].a) t
  ·rfl
  ·have := less_trans h2 h3; rw [less_irrefl] at this; cases this
/-- The document's Put is the program's. -/
theorem put_both {l : List Rec} {r : Rec} {i nx k : Nat} (h : Good l) (hr : recB r = true) (hs : Small r) (hP : Place l (printA r.a) i) (hN : Next l (printA r.a) i nx) {l' : List Rec}
  (hl' : (∃ j, ∃ hj : j < l.length, l[j].a = r.a ∧ l' = dropR l j) ∨ ((∀ x ∈ l, x.a ≠ r.a) ∧ l' = l)) (hB : Behind l' (printA r.a) k) : putR l' r k k = putR l r i nx := by
 have hg' : Good l' := by
  rcases hl' with ⟨j, _, _, rfl⟩ | ⟨_, rfl⟩
  ·exact good_drop h j
  ·exact h
 have hm' : ∀ x, x ∈ l' ↔ x ∈ l ∧ x.a ≠ r.a := fun x => by
  rcases hl' with ⟨j, hj, e, rfl⟩ | ⟨hn, rfl⟩
  ·rw [mem_drop h hj, e]
  ·exact ⟨fun hx => ⟨hx, hn x hx⟩, fun hx => hx.1⟩
 have hne : ∀ x ∈ l', printA x.a ≠ printA r.a := fun x hx e => ((hm' x).1 hx).2 (adr_eq (hg'.r x hx) (hg'.s x hx) hs.p e)
 have hP' := behind_place hg' hB hne
 have hN' : Next l' (printA r.a) k k := .inr ⟨fun ⟨hk, e⟩ => hne _ (List.getElem_mem hk) e, rfl⟩
 refine good_ext (good_put hg' hr hs hP' hN').o (good_put h hr hs hP hN).o fun x => ?_
 rw [mem_put hg' hr hs hP' hN', mem_put h hr hs hP hN, hm']
 constructor
 ·rintro (e | ⟨⟨h1, h2⟩, _⟩)
  ·exact .inl e
  ·exact .inr ⟨h1, h2⟩
 ·rintro (e | ⟨h1, h2⟩)
  ·exact .inl e
  ·exact .inr ⟨⟨h1, h2⟩, h2⟩
end Go.Proofs.YtckflnibkglheaaGreatDoor.State
