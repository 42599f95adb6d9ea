/- tabulariumref18.Record, Pairs, SameRecord. -/
import Derived.Test.YtfdjolfenghmaaaGreatDoorWStC
import Derived.Laws.StructEq
set_option linter.unusedVariables false
set_option linter.unusedSimpArgs false
set_option maxRecDepth 100000
set_option maxHeartbeats 8000000
namespace Go.Proofs.YtfdjolfenghmaaaGreatDoor.State
open Go.RowKit Go.Shelf Utf Strs Go.Proofs.YtfdjolfenghmaaaGreatDoor.Addr
open Jdec (IsTexts Turn)
theorem rrecord_any (r : Rec) (p : At) (w : World) (h : IsRec w (fun _ => True) p r) (hs : Small r) : Calls Tryz.prog 12 #[recV p r] w fun e w' => e = .returned (.bool (recB r)) /\ Below w.heap.size w w' := by
  obtain ⟨w1, hw1, V1, B1⟩ := rec_new w p r;have hl1 := heap_lt V1.out;have HI : Hid (IsPairs w1 (fun _ => True) p.ta r.attrs) := h.attrs.turn (Turn.below B1.out);have HTX : Hid (∀ n, Calls Tryz.prog 19 #[.agg #[.slice p.pa r.a.path.length p.pc, .string r.a.type, .string r.a.name, .int .i64 r.a.key, .int .u64 r.a.place, .string r.a.word, .string r.prov, .string r.id, .slice p.ta r.attrs.length p.tc]] (w1.drewN n) fun e w' => e = .returned (.bool (looseB r)) /\ Below (w1.drewN n).heap.size (w1.drewN n) w') := fun n =>
    rtexts_any r p (w1.drewN n) (h.turn (Turn.below (Addr.below_drewN B1.out n))) hs
  have hn := hs.n;obtain ⟨lo, hlo⟩ : ∃ x, looseB r = x := ⟨_, rfl⟩;obtain ⟨ri, hri⟩ : ∃ x, risingB r.attrs = x := ⟨_, rfl⟩;have HR : Hid (recB r = (lo && ri)) := by rw [Hid, recB, hlo, hri]
  have HRI := hZz hri;rw [hlo] at HTX;obtain ⟨x0, x1, x2, x3, x4, x5, x6, x7, x8⟩ := rec_cells V1.out;unfold recV;clear hlo hri h hs;generalize hla : r.attrs = l at *;have HLA := hZz hla;clear hla;go_enter Tryz.func12, Tryz.ntmps12
  go_wp2_with fail
  clear hw1
  go_loopw [3] (fun q wr => ∃ i n : Nat, q = .int .i64 i /\ 1 <= i /\ i <= l.length + 1 /\ Hid (∀ j (h : j + 1 < l.length), j + 1 < i -> ltB l[j].1 l[j + 1].1 = true) /\ wr = w1.drewN n) (fun q _ => l.length + 1 - (intOf q).toNat)
  case atStart => exact ⟨1, 0, rfl, Nat.le_refl _, by omega, fun j _ h => by omega, rfl⟩
  case round =>
    obtain ⟨i, n, rfl, hi1, hi, hR, rfl⟩ := hrel;by_cases hlt : i < l.length
    · obtain ⟨b, o, hta, _, hb, hc⟩ := HI.out.resolve_left (by intro e; rw [e] at hlt; simp at hlt);obtain ⟨q, hq⟩ : ∃ q, q + 1 = i := ⟨i - 1, by omega⟩;have hql : q < l.length := by omega
      have gq : (i : Int) - 1 = (q : Int) := by omega
      have wq : IntKind.i64.wrap (q : Int) = (q : Int) := IntWalk.i64_in _ (by omega);have k1 := (hc i hlt).1;have k2 := (hc q hql).1;obtain ⟨x, hx⟩ : ∃ x, l[i].1 = x := ⟨_, rfl⟩;obtain ⟨y, hy⟩ : ∃ y, l[q].1 = y := ⟨_, rfl⟩;rw [hx] at k1;rw [hy] at k2;rw [hta] at x8;obtain ⟨c1, h1⟩ : ∃ c, Op.bytesLess y.toList x.toList = c := ⟨_, rfl⟩;have HLT : Hid (∀ (h1 : q < l.length) (h2 : i < l.length), ltB l[q].1 l[i].1 = c1) := fun _ _ => by
        rw [hx, hy]; exact h1
      have HQ := hZz hq;have HTA := hZz hta;clear hc hx hy hq hta;cases c1
      · have HF : Hid (ri = false) := by
          rw [Hid, <-HRI.out, <-Bool.not_eq_true, rising_iff];intro h
          have h3 := HLT.out hql hlt;have h4 := h q (by have := HQ.out; omega);have e := HQ.out;subst e;rw [h3] at h4;cases h4
        have HF2 : Hid (recB r = false) := by rw [Hid, HR.out, HF.out, Bool.and_false]
        go_wp2_with fail
        go_quiet (fail)
        go_wp2_with fail
        go_ret
        exact ⟨by rw [HF2.out] <;> rfl, Addr.below_drewN (Addr.below_drewN B1.out _) _⟩
      · have HN : Hid (∀ j (h : j + 1 < l.length), j + 1 < i + 1 -> ltB l[j].1 l[j + 1].1 = true) := by
          intro j hj h
          by_cases e : j + 1 = i
          · have e2 : j = q := by have := HQ.out; omega
            subst e2;have := HLT.out hql hlt;simp only [e]
            exact this
          · exact hR.out j hj (by omega)
        go_wp2_with fail
        go_quiet (fail)
        go_wp2_with fail
        go_roundw
        case rel => exact ⟨i + 1, _, by go_num, by omega, by omega, HN.out, rfl⟩
        case measure => simp [intOf]; omega
    · have HF : Hid (ri = true) := by
        rw [Hid, <-HRI.out, rising_iff];exact fun j hj => hR.out j hj (by omega)
      have HF2 : Hid (recB r = lo) := by rw [Hid, HR.out, HF.out, Bool.and_true]
      have HTW : Hid (Calls Tryz.prog 19 #[.agg #[.slice p.pa r.a.path.length p.pc, .string r.a.type, .string r.a.name, .int .i64 r.a.key, .int .u64 r.a.place, .string r.a.word, .string r.prov, .string r.id, .slice p.ta l.length p.tc]] (w1.drewN n) fun e w' => e = .returned (.bool lo) /\ Below (w1.drewN n).heap.size (w1.drewN n) w') := HTX.out n;go_wp2_with fail
      refine (Calls.mono HTW.out ?_);rintro z w5 ⟨rfl, hb5⟩;have B5 : Hid (Below w.heap.size w w5) := (Addr.below_drewN B1.out n).trans (hb5.mono (Addr.below_drewN B1.out n).size);clear hb5;go_wp2_with fail
      go_ret
      exact ⟨by rw [HF2.out] <;> rfl, B5.out⟩
theorem pairs_any (l l' : List (ByteArray × ByteArray)) (ta ta' : Option Addr) (tc tc' : Nat) (A B : Nat -> Prop) (w : World) (h : IsPairs w A ta l) (h' : IsPairs w B ta' l') (hl : l.length <= 1048576) (hl' : l'.length <= 1048576) : Calls Tryz.prog 32 #[.slice ta l.length tc, .slice ta' l'.length tc'] w fun e w' => e = .returned (.bool (decide (l = l'))) /\ Below w.heap.size w w' := by
  by_cases hne : l.length = l'.length
  · have hz : ((l.length : Int) != (l'.length : Int)) = false := by rw [bne_eq_false_iff_eq]; omega
    have HN := hZz hne;clear hne;go_enter Tryz.func32, Tryz.ntmps32
    go_wp2_with fail
    go_loopw [5] (fun p wr => ∃ i n : Nat, p = .int .i64 i /\ i <= l.length /\ Hid (∀ j (h : j < l.length) (h2 : j < l'.length), j < i -> l[j] = l'[j]) /\ wr = w.drewN n) (fun p _ => l.length - (intOf p).toNat)
    case atStart => exact ⟨0, 0, rfl, Nat.zero_le _, fun j _ _ h => by omega, rfl⟩
    case round =>
      obtain ⟨i, n, rfl, hi, hno, rfl⟩ := hrel;by_cases hlt : i < l.length
      · have hlt' : i < l'.length := by have := HN.out; omega
        obtain ⟨b, o, rfl, _, hb, hc⟩ := h.resolve_left (by intro e; rw [e] at hlt; simp at hlt);obtain ⟨b', o', rfl, _, hb', hc'⟩ := h'.resolve_left (by intro e; rw [e] at hlt'; simp at hlt');obtain ⟨k1, k2⟩ := hc i hlt;obtain ⟨g1, g2⟩ := hc' i hlt';obtain ⟨x1, hx1⟩ : ∃ x, l[i].1 = x := ⟨_, rfl⟩;obtain ⟨x2, hx2⟩ : ∃ x, l[i].2 = x := ⟨_, rfl⟩;obtain ⟨y1, hy1⟩ : ∃ y, l'[i].1 = y := ⟨_, rfl⟩;obtain ⟨y2, hy2⟩ : ∃ y, l'[i].2 = y := ⟨_, rfl⟩;rw [hx1] at k1;rw [hx2] at k2;rw [hy1] at g1;rw [hy2] at g2;obtain ⟨c1, h1⟩ : ∃ c, (x1.toList == y1.toList) = c := ⟨_, rfl⟩;obtain ⟨c2, h2⟩ : ∃ c, (x2.toList == y2.toList) = c := ⟨_, rfl⟩;have HEQ : Hid (l[i] = l'[i] ↔ (c1 && c2) = true) := by
          rw [Hid, <-h1, <-h2, Bool.and_eq_true, bytes_same, bytes_same, <-hx1, <-hx2, <-hy1, <-hy2];exact Prod.ext_iff
        clear hc hc' hx1 hx2 hy1 hy2;by_cases hcc : (c1 && c2) = true
        · have HF : Hid (∀ j (h : j < l.length) (h2 : j < l'.length), j < i + 1 -> l[j] = l'[j]) := by
            intro j h h2 h3
            by_cases e : j = i
            · subst e; exact HEQ.out.2 hcc
            · exact hno.out j h h2 (by omega)
          rw [Bool.and_eq_true] at hcc;obtain ⟨rfl, rfl⟩ := hcc;go_wp2_with fail
          go_quiet (fail)
          go_wp2_with fail
          go_roundw
          case rel => exact ⟨i + 1, _, by go_num, by omega, HF.out, rfl⟩
          case measure => simp [intOf]; omega
        · have HF : Hid (decide (l = l') = false) := by
            rw [Hid, decide_eq_false_iff_not];intro e
            exact hcc (HEQ.out.1 (by subst e; rfl))
          have hcs : (c1 = false) ∨ (c1 = true /\ c2 = false) := by cases c1 <;> cases c2 <;> simp_all
          clear hcc;rcases hcs with rfl | ⟨rfl, rfl⟩
          all_goals
            go_wp2_with fail
            go_quiet (fail)
            go_wp2_with fail
            go_ret
            exact ⟨by rw [HF.out] <;> rfl, Addr.below_drewN (Addr.below_drewN (Below.refl _ _) _) _⟩
      · have HF : Hid (decide (l = l') = true) := by
          rw [Hid, decide_eq_true_eq];exact List.ext_getElem HN.out (fun j h h2 => hno.out j h h2 (by omega))
        go_wp2_with fail
        go_ret
        exact ⟨by rw [HF.out] <;> rfl, Addr.below_drewN (Below.refl _ _) _⟩
  · have HF : Hid (decide (l = l') = false) := by
      rw [Hid, decide_eq_false_iff_not]; intro e; exact hne (by rw [e])
    have hz : ((l.length : Int) != (l'.length : Int)) = true := by rw [bne_iff_ne]; omega
    clear hne;go_enter Tryz.func32, Tryz.ntmps32
    go_wp2_with fail
    go_ret
    exact ⟨by rw [HF.out] <;> rfl, Below.refl _ _⟩
def sameRec (r s : Rec) : Bool := sameA r.a s.a && ((r.prov.toList == s.prov.toList) && ((r.id.toList == s.id.toList) && decide (r.attrs = s.attrs)))
theorem sameRec_iff (r s : Rec) : sameRec r s = true ↔ r = s := by
  unfold sameRec;rw [Bool.and_eq_true, Bool.and_eq_true, Bool.and_eq_true, sameA_iff, bytes_same, bytes_same, decide_eq_true_eq];constructor
  · rintro ⟨h1, h2, h3, h4⟩;obtain ⟨a, p, i, t⟩ := r;obtain ⟨a', p', i', t'⟩ := s;simp only at h1 h2 h3 h4
    subst h1 h2 h3 h4
    rfl
  · rintro rfl;exact ⟨rfl, rfl, rfl, rfl⟩
theorem rsameRec_any (r s : Rec) (p q : At) (w : World) (h : IsRec w (fun _ => True) p r) (h' : IsRec w (fun _ => True) q s) (hl : r.a.path.length <= 1048576) (hl' : s.a.path.length <= 1048576) (hn : r.attrs.length <= 1048576) (hn' : s.attrs.length <= 1048576) : Calls Tryz.prog 16 #[recV p r, recV q s] w fun e w' => e = .returned (.bool (sameRec r s)) /\ Below w.heap.size w w' := by
  obtain ⟨w1, hw1, V1, B1⟩ := rec_new w p r;obtain ⟨w2, hw2, V2, B2⟩ := rec_new w1 q s;have hl1 := heap_lt V1.out;have hl2 := heap_lt V2.out;have B02 : Hid (Below w.heap.size w w2) := B1.out.trans (B2.out.mono (by omega));have V12 : Hid (w2.heap[w.heap.size]? = some (.cells (recArr p r) 38 (0, 0))) := (B2.out.block _ hl1).trans V1.out;have HKA : Hid (∀ W, Below w2.heap.size w2 W -> W.heap[w.heap.size]? = some (.cells (recArr p r) 38 (0, 0))) := fun W hb => (hb.block _ (by omega)).trans V12.out;have HKB : Hid (∀ W, Below w2.heap.size w2 W -> W.heap[w1.heap.size]? = some (.cells (recArr q s) 38 (0, 0))) := fun W hb => (hb.block _ (by omega)).trans V2.out;obtain ⟨t0, h0⟩ : ∃ t, sameA r.a s.a = t := ⟨_, rfl⟩;obtain ⟨t1, h1⟩ : ∃ t, (r.prov.toList == s.prov.toList) = t := ⟨_, rfl⟩;obtain ⟨t2, h2⟩ : ∃ t, (r.id.toList == s.id.toList) = t := ⟨_, rfl⟩;obtain ⟨t3, h3⟩ : ∃ t, decide (r.attrs = s.attrs) = t := ⟨_, rfl⟩;have HS : Hid (sameRec r s = (t0 && (t1 && (t2 && t3)))) := by rw [Hid, sameRec, h0, h1, h2, h3]
  have hra := rsame_any r.a s.a p.pa q.pa p.pc q.pc _ _ w2 (h.path.turn (Turn.below B02.out)) (h'.path.turn (Turn.below B02.out)) hl hl';rw [h0] at hra;have HRA : Hid (Calls Tryz.prog 31 #[.agg #[.slice p.pa r.a.path.length p.pc, .string r.a.type, .string r.a.name, .int .i64 r.a.key, .int .u64 r.a.place, .string r.a.word], .agg #[.slice q.pa s.a.path.length q.pc, .string s.a.type, .string s.a.name, .int .i64 s.a.key, .int .u64 s.a.place, .string s.a.word]] w2 fun e w' => e = .returned (.bool t0) /\ Below w2.heap.size w2 w') := hra;have HPP : Hid (∀ W, Below w2.heap.size w2 W -> Calls Tryz.prog 32 #[.slice p.ta r.attrs.length p.tc, .slice q.ta s.attrs.length q.tc] W fun e w' => e = .returned (.bool t3) /\ Below W.heap.size W w') := fun W hb => by
    have hW : Below w.heap.size w W := B02.out.trans (hb.mono (by omega));have := pairs_any r.attrs s.attrs p.ta q.ta p.tc q.tc _ _ W (h.attrs.turn (Turn.below hW)) (h'.attrs.turn (Turn.below hW)) hn hn';rw [h3] at this;exact this
  obtain ⟨x0, x1, x2, x3, x4, x5, x6, x7, x8⟩ := rec_cells V12.out;obtain ⟨y0, y1, y2, y3, y4, y5, y6, y7, y8⟩ := rec_cells V2.out;unfold recV;clear h h' h0 h3 hra;go_enter Tryz.func16, Tryz.ntmps16
  go_wp2_with fail
  refine (Calls.mono HRA.out ?_);rintro z w3 ⟨rfl, hb3⟩;have B3 : Hid (Below w2.heap.size w2 w3) := hb3;have B03 : Hid (Below w.heap.size w w3) := B02.out.trans (hb3.mono (by omega));clear hb3 x0 x1 x2 x3 x4 x5 x6 x7 x8 y0 y1 y2 y3 y4 y5 y6 y7 y8 HRA hw1 hw2;cases t0
  · go_wp2_with fail
    go_ret
    exact ⟨by rw [HS.out] <;> rfl, B03.out⟩
  obtain ⟨x0, x1, x2, x3, x4, x5, x6, x7, x8⟩ := rec_cells (HKA.out w3 B3.out);obtain ⟨y0, y1, y2, y3, y4, y5, y6, y7, y8⟩ := rec_cells (HKB.out w3 B3.out);cases t1
  · go_wp2_with fail
    go_ret
    exact ⟨by rw [HS.out] <;> rfl, B03.out⟩
  cases t2
  · go_wp2_with fail
    go_ret
    exact ⟨by rw [HS.out] <;> rfl, B03.out⟩
  have HPW : Hid (Calls Tryz.prog 32 #[.slice p.ta r.attrs.length p.tc, .slice q.ta s.attrs.length q.tc] w3 fun e w' => e = .returned (.bool t3) /\ Below w3.heap.size w3 w') := HPP.out w3 B3.out;go_wp2_with fail
  refine (Calls.mono HPW.out ?_);rintro z w4 ⟨rfl, hb4⟩;have B04 := bel B03 hb4;clear hb4;cases t3
  · go_wp2_with fail
    go_ret
    exact ⟨by rw [HS.out] <;> rfl, B04.out⟩
  · go_wp2_with fail
    go_ret
    exact ⟨by rw [HS.out] <;> rfl, B04.out⟩
end Go.Proofs.YtfdjolfenghmaaaGreatDoor.State
