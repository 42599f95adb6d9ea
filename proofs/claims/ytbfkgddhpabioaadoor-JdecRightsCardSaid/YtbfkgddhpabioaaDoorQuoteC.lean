/- quote.reader: scalar. -/
import Derived.Test.YtbfkgddhpabioaaDoorQuoteX
import Derived.Test.YtbfkgddhpabioaaDoorUtfA
import Derived.Lib.OwnKind
namespace Go.Proofs.YtbfkgddhpabioaaDoor.Quote
open Go.RowKit Go.Shelf Go.Proofs.YtbfkgddhpabioaaDoor.Utf
set_option linter.unusedVariables false
set_option linter.unusedSimpArgs false
set_option maxRecDepth 100000
attribute [local go_sem] Oper.semAt_some

theorem put_all (c : Nat) (w : World) : Calls Tryd.prog 129 #[.int .i64 c] w fun e w' => e = .returned (.tuple #[.string ⟨(put c).toArray⟩, .bool (scalarB c)]) ∧ Below w.heap.size w w' := by
  cases h : scalarB c
  · exact put_no c w h
  · exact put_any c w h

theorem Rdr.grown {w w' : World} {B b : Nat} {src : ByteArray} {p : Nat} {out : List UInt8} {row : Option Nat} (h : Rdr w B b src p out) (hg : w.grownBy w' row) (hr : ∀ r, row = some r → ∃ o : Obj, w.heap[r]? = some o ∧ o.isCells = false) : Rdr w' B b src p out := by
  obtain ⟨cs, hb, hs, h0, h1⟩ := h.it
  obtain ⟨v, hv, ho⟩ := hb.buf
  refine ⟨cs, ⟨hb.hB, (hg.block b hb.lt ?_).trans hb.blk, hb.size, hb.ptr, ⟨v, hv, ho.kept hg ?_⟩, hb.ne, hb.lies⟩, hs, h0, h1⟩
  · intro e
    obtain ⟨o, h1, h2⟩ := hr b e.symm
    rw [hb.blk] at h1; cases h1; cases h2
  · cases hvo : v.ownBlock with
    | none => exact Or.inl rfl
    | some g =>
      refine Or.inr (fun e => ?_)
      obtain ⟨c, fz, hc⟩ := Lib.ownsRow_kind ho g hvo
      obtain ⟨o, h1, h2⟩ := hr g e.symm
      rw [hc] at h1; cases h1; cases h2
theorem _root_.Go.Proofs.YtbfkgddhpabioaaDoor.Keeps.grownFar {B b : Nat} {w W W' : World} {row : Option Nat} (h : Keeps B b w W) (hB : B ≤ w.heap.size) (hg : W.grownBy W' row) (hr : ∀ r, row = some r → w.heap.size ≤ r) : Keeps B b w W' :=
  ⟨h.below.grown hg (Nat.le_trans hB h.below.size) (fun k e => Nat.le_trans hB (hr k e)), fun k hk hb hn => (hg.block k (Nat.lt_of_lt_of_le hk h.below.size) (fun e => by have := hr k e.symm; omega)).trans (h.block k hk hb hn)⟩
theorem _root_.Go.Proofs.YtbfkgddhpabioaaDoor.Keeps.others {B b B' : Nat} {w W : World} (h : Keeps B b w W) {cs : Array Value} {T : TypeId} {fr : Nat × Nat} (hb : w.heap[b]? = some (.cells cs T fr)) : KeepsFrom B' w W :=
  ⟨h.below.size, fun k o _ hk ho => (h.block k (heap_lt hk) (fun e => by subst e; rw [hb] at hk; cases hk; cases ho) (fun c fr e => by rw [hk] at e; cases e; cases ho)).trans hk⟩

theorem Rdr.blk {w : World} {B b : Nat} {src : ByteArray} {p : Nat} {out : List UInt8} (h : Rdr w B b src p out) : ∃ cs T fr, w.heap[b]? = some (.cells cs T fr) := by
  obtain ⟨cs, hb, _⟩ := h.it; exact ⟨_, _, _, hb.blk⟩
theorem blk_grown {w w' : World} {k : Nat} {cs : Array Value} {T : TypeId} {fr : Nat × Nat} {row : Option Nat} (h : w.heap[k]? = some (.cells cs T fr)) (hg : w.grownBy w' row) (hr : ∀ r, row = some r → ∃ o : Obj, w.heap[r]? = some o ∧ o.isCells = false) : w'.heap[k]? = some (.cells cs T fr) :=
  (hg.block k (heap_lt h) (fun e => by obtain ⟨o, h1, h2⟩ := hr k e.symm; rw [h] at h1; cases h1; cases h2)).trans h

/-- What 'scalar' comes to. -/
def scalarR (src : ByteArray) (p : Nat) (out : List UInt8) : Except Nat (Value × Nat × List UInt8) :=
  if (one (src.data.toList.drop p)).2 = 0 then .error 7 else .ok (.tuple #[], p + (put (one (src.data.toList.drop p)).1).length, out ++ put (one (src.data.toList.drop p)).1)

theorem one_take (l : List UInt8) : one (l.take 4) = one l := by
  have hb : ∀ i, i < 4 → byt (l.take 4) i = byt l i := fun i hi => by
    unfold byt
    rw [List.getD_eq_getElem?_getD, List.getD_eq_getElem?_getD, List.getElem?_take, if_pos hi]
  have hz := sizeAt_le (byt l 0)
  have h0 := hb 0 (by omega)
  have h1 := hb 1 (by omega)
  have h2 := hb 2 (by omega)
  have h3 := hb 3 (by omega)
  unfold one stands
  rw [h0]
  have hv : val (l.take 4) (sizeAt (byt l 0)) = val l (sizeAt (byt l 0)) := by unfold val; simp only [h0, h1, h2, h3]
  have hc : conts (l.take 4) (sizeAt (byt l 0)) = conts l (sizeAt (byt l 0)) := by unfold conts; simp only [h1, h2, h3]
  have hl : decide (sizeAt (byt l 0) ≤ (l.take 4).length) = decide (sizeAt (byt l 0) ≤ l.length) := by
    rw [List.length_take]; congr 1; apply propext; omega
  rw [hv, hc, hl]

set_option maxHeartbeats 2000000 in
theorem scalar_any (B b : Nat) (src : ByteArray) (p : Nat) (out : List UInt8) (w : World) (h : Rdr w B b src p out) (hp : p < src.size) (hs : src.size ≤ 1099511627776) (hlen : out.length ≤ p) (T : Sizes w) :
    Calls Tryd.prog 116 #[.pointer (some ⟨b, 0, none⟩)] w (RPost B b src w (scalarR src p out)) := by
  have c0 := h.c0
  have c1 := h.c1
  have f1 := h.f1
  have hb := h.hB
  have hlt := h.lt
  have H := Hid.out (p := Hid _) h; clear h
  have HT := Hid.out (p := Hid _) T; clear T
  obtain ⟨q, hq⟩ : ∃ q : Nat, q = min (p + 4) src.size := ⟨_, rfl⟩
  have hw1 : IntKind.i64.wrap ((p : Int) + 4) = (p : Int) + 4 := by simp [IntKind.wrap, IntKind.bits, IntKind.signed]; omega
  have hm : (if (src.size : Int) < (p : Int) + 4 then (src.size : Int) else (p : Int) + 4) = (q : Int) := by split <;> omega
  have hpq : p ≤ q := by omega
  have hq1 : q ≤ src.size := by omega
  have hext : (src.extract p q).data.toList = (src.data.toList.drop p).take 4 := by
    have e1 : (src.extract p q).data.toList = (src.data.toList.drop p).take (q - p) := by
      simp [ByteArray.data_extract, Array.toList_extract, List.extract_eq_take_drop]
    rw [e1]
    by_cases h4 : p + 4 ≤ src.size
    · rw [show q - p = 4 by omega]
    · rw [List.take_of_length_le (by simp; omega), List.take_of_length_le (by simp; omega)]
  have hlist : ∃ t, scalAt (src.extract p q).data.toList 0 = if (one (src.data.toList.drop p)).2 = 0 then [] else (0, (one (src.data.toList.drop p)).1) :: t := by
    refine ⟨scalAt ((src.data.toList.drop p).take 4) (0 + (one (src.data.toList.drop p)).2), ?_⟩
    rw [hext, scalAt_step _ _ (Nat.zero_le _), if_neg (by simp; omega), List.drop_zero, one_take]
  obtain ⟨t, hlist0⟩ := hlist
  have hlist := Hid.out (p := Hid _) hlist0; clear hlist0 hext
  have HQ := Hid.out (p := Hid _) hq; clear hq
  rw [← callsIn_wide (n := 10)]
  refine callsIn_of_wp_marks Tryd.func116 rfl trivial ?_ rfl
  simp only [Tryd.ntmps116, List.size_toArray, List.length_cons, List.length_nil, Nat.reduceAdd, Nat.reduceSub, Array.replicate_succ, Array.replicate_zero, List.push_toArray, List.append_toArray, List.nil_append, List.cons_append]
  refine wpIn_wide.2 ?_
  go_wp2_with fail
  go_quiet (fail)
  go_wp2_with fail
  refine (all_any (src.extract p q) _).mono ?_
  rintro e w1 ⟨rfl, hb1, hbox⟩
  have hb0 : Below w.heap.size w w1 := (((Below.refl _ w).alloc (Nat.le_refl _) _).trans (below_drewN _ _ _)).trans (hb1.mono (by simp))
  have hrb : w1.heap[w.heap.size]? = some (.cells #[.pointer (some ⟨b, 0, none⟩)] 105 (0, 0)) := (hb1.block _ (by simp)).trans (heap_alloc_new _ _)
  have hcr := cell_of hrb 0
  have hsz : w.heap.size < w1.heap.size := heap_lt hrb
  have R1 : Hid (Rdr w1 B b src p out) := H.out.stays hb0
  have K1 : Hid (Keeps B b w w1) := Keeps.of_below hb0 (by omega)
  have T1 : Hid (Sizes w1) := HT.out.stays hb0
  have HB := Hid.out (p := Hid _) hb0; clear hb0
  have HB1 := Hid.out (p := Hid _) hb1; clear hb1
  have HX := Hid.out (p := Hid _) hbox; clear hbox
  have HRB := Hid.out (p := Hid _) hrb; clear hrb
  go_wp2_with fail
  have hxe : (src.extract p q).size ≤ 4611686018427387904 := by rw [ByteArray.size_extract]; omega
  have hX : Hid (w1.heap[w.heap.size + 1]? = some (.cells #[.string (src.extract p q)] 9 (0, 0))) := by have := HX.out; unfold Hid; simpa using this
  refine (wpIn_wide (n := 10)).1 ?_
  refine wpIn_rangeFunc_ownG (α := Nat × Nat) (w := w1) rfl (by decide) (gf := 131) (lb := #[.pointer (some ⟨w.heap.size + 1, 0, none⟩)]) rfl trivial (enters_of Tryd.func131 (by kernel_rfl) rfl)
    (scal_stops 9 (w.heap.size + 1) (src.extract p q) hxe (by decide) w1 hX.out T1.out) (fun h k => KpA.t h k)
    (fun W l o o' hl ho hc _ => ⟨World.putObj_heap_other (fun e => by have := heap_lt hX.out; omega), fun t => t.kept (World.putObj_heap_other (fun e => by have := T1.out.lt; omega))⟩) (Below.refl _ _) (fun _ => rfl)
    (fun pre W => pre = [] ∧ Hid (Rdr W B b src p out) ∧ Hid (Keeps B b w W) ∧ Hid (W.heap[w.heap.size]? = some (.cells #[.pointer (some ⟨b, 0, none⟩)] 105 (0, 0))))
    (fun c pre W => c = .ret ∧ ∃ x : Nat × Nat, pre = [x] ∧ Rdr W B b src (p + (put x.2).length) (out ++ put x.2) ∧ Keeps B b w W)
    (fun s A B row hs hg hr => ⟨hs.1, hs.2.1.out.grown hg (fun r e => (hr r e).2), hs.2.2.1.out.grownFar (by omega) hg (fun r e => by have := (hr r e).1; omega), blk_grown hs.2.2.2.out hg (fun r e => (hr r e).2)⟩)
    (fun c s A B row hs hg hr => ⟨hs.1, by obtain ⟨_, x, h1, h2, h3⟩ := hs; exact ⟨x, h1, h2.grown hg (fun r e => (hr r e).2), h3.grownFar (by omega) hg (fun r e => by have := (hr r e).1; omega)⟩⟩)
    ⟨rfl, R1.out, K1.out, HRB.out⟩
    (fun x => { tmps := #[.pointer (some ⟨b, 0, none⟩), .pointer (some ⟨w.heap.size, 0, none⟩), .string (src.extract p q), undef, .int .i64 x.2, undef, undef, .pointer (some ⟨b, 0, none⟩), .pointer (some ⟨b, 0, none⟩), .pointer (some ⟨b, 0, none⟩), .string src, .pointer (some ⟨b, 0, none⟩), .pointer (some ⟨b, 0, none⟩), .pointer (some ⟨b, 1, none⟩), .int .i64 p, .pointer (some ⟨b, 0, none⟩), .pointer (some ⟨b, 0, none⟩), .pointer (some ⟨b, 1, none⟩), .int .i64 p, .int .i64 (p + 4), .pointer (some ⟨b, 0, none⟩), .pointer (some ⟨b, 0, none⟩), .pointer (some ⟨b, 0, none⟩), .string src, .int .i64 src.size, .int .i64 q, .string (src.extract p q), .string (src.extract p q), .func (.func 131) #[] #[.pointer (some ⟨w.heap.size + 1, 0, none⟩)], .int .i64 x.1, .int .i64 x.2, undef, undef, undef, undef, undef, undef, undef, undef, undef, undef, undef, undef, undef, undef, undef, undef, undef, undef, undef, undef], defers := [] }) ?assign ?body ?done ?stop
  case assign =>
    intro l x W K hK
    gi_wp2
    exact hK
  case body =>
    rintro l pre x W ⟨rfl, hR, hK, hbx⟩ _
    have hcW := cell_of hbx.out 0
    have hpl := put_length x.2
    gi_wp2_with fail
    refine ⟨trivial, ?_⟩
    refine (CallsIn.inRound l (callsIn_wide.2 (put_all x.2 W))).mono ?_
    rintro e w2 ⟨rfl, hb2⟩
    have R2 : Hid (Rdr w2 B b src p out) := hR.out.stays hb2
    have K2 : Hid (Keeps B b w w2) := hK.out.trans (Keeps.of_below hb2 (by have := hR.out.hB; have := hR.out.lt; omega))
    have K2' : Hid (Keeps B b W w2) := (Keeps.of_below hb2 (by have := hR.out.hB; have := hR.out.lt; omega))
    have X2 : Hid (w2.heap[w.heap.size]? = some (.cells #[.pointer (some ⟨b, 0, none⟩)] 105 (0, 0))) := (hb2.block _ (heap_lt hbx.out)).trans hbx.out
    have hcW2 := cell_of X2.out 0
    clear hb2 hcW
    gi_wp2_with fail
    refine ⟨trivial, ?_⟩
    refine (CallsIn.inRound l (callsIn_wide.2 (rWriteString B b src p out ⟨(put x.2).toArray⟩ w2 R2.out (by show out.length + (put x.2).toArray.size ≤ _; simp only [List.size_toArray]; omega)))).mono ?_
    rintro e w3 ⟨rfl, h3, hk⟩
    have K3 : Hid (Keeps B b w w3) := K2.out.trans hk
    have K3' : Hid (Keeps B b W w3) := K2'.out.trans hk
    have R3 : Hid (Rdr w3 B b src p (out ++ put x.2)) := h3
    have X3 : Hid (w3.heap[w.heap.size]? = some (.cells #[.pointer (some ⟨b, 0, none⟩)] 105 (0, 0))) :=
      (hk.block _ (heap_lt X2.out) (by omega) (fun c fr e => by rw [X2.out] at e; cases e)).trans X2.out
    have hcW3 := cell_of X3.out 0
    have c13 := R3.out.c1
    have f13 := R3.out.f1
    have hput : (⟨(put x.2).toArray⟩ : ByteArray).size = (put x.2).length := by simp [ByteArray.size]
    clear h3 hk hcW2
    gi_wp2_with fail
    rw [show (p : Int) + ((put x.2).length : Int) = ((p + (put x.2).length : Nat) : Int) by omega]
    exact ⟨(K3'.out.setCell (p := ⟨b, 1, none⟩) rfl hb _).others hR.out.blk.choose_spec.choose_spec.choose_spec, rfl, x, rfl, R3.out.setAt _, K3.out.setCell (p := ⟨b, 1, none⟩) rfl hb _⟩
  case done =>
    rintro D xs W hD hxs ⟨rfl, hR, hK, hbx⟩ hKD
    have hz : (one (src.data.toList.drop p)).2 = 0 := by
      have := hlist.out
      rw [← hxs] at this
      by_cases h0 : (one (src.data.toList.drop p)).2 = 0
      · exact h0
      · rw [if_neg h0] at this; cases this
    have HF : Hid (scalarR src p out = .error 7) := by rw [Hid, scalarR, if_pos hz]
    clear hz hxs
    go_wp2_with fail
    refine (fail_any 7 _).mono ?_
    rintro e w' ⟨rfl, rfl⟩
    go_wp2_with fail
    refine ⟨by simp, .inl ⟨_, _, rfl, run_takeDeferred hKD, ?_⟩⟩
    exact rpost_err HF (hK.out.grownFar (by omega) (grownBy_putObj' _ D (.deferred none)) (fun r e => by cases e; omega))
  case stop =>
    rintro D c pre W hD hpre ⟨rfl, x, rfl, hR, hK⟩ hKD
    have HR := Hid.out (p := Hid _) hR; clear hR
    have HK := Hid.out (p := Hid _) hK; clear hK
    have HO : Hid (scalarR src p out = .ok (.tuple #[], p + (put x.2).length, out ++ put x.2)) := by
      have := hlist.out
      rw [Hid, scalarR]
      by_cases h0 : (one (src.data.toList.drop p)).2 = 0
      · rw [if_pos h0] at this; rw [this] at hpre; simp at hpre
      · rw [if_neg h0] at this
        rw [this] at hpre
        have hx := (List.cons_prefix_cons.1 hpre).1
        rw [if_neg h0, hx]
    clear hpre
    refine wpIn_wide.2 ?_
    go_wp2_with fail
    refine ⟨by simp, .inl ⟨_, _, rfl, run_takeDeferred hKD, ?_⟩⟩
    refine ⟨_, results_none rfl _ _ _, ?_⟩
    exact rpost_ok HO (HK.out.grownFar (by omega) (grownBy_putObj' _ D (.deferred none)) (fun r e => by cases e; omega)) (HR.out.grown (grownBy_putObj' _ D (.deferred none)) (fun r e => by cases e; exact ⟨_, hKD, rfl⟩))
end Go.Proofs.YtbfkgddhpabioaaDoor.Quote
