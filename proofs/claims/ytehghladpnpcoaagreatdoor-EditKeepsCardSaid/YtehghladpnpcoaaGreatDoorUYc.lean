/- addr.Same. -/
import Derived.Test.YtehghladpnpcoaaGreatDoorUStG
set_option linter.unusedVariables false
set_option linter.unusedSimpArgs false
set_option maxRecDepth 100000
set_option maxHeartbeats 8000000
section
namespace Go.Proofs.YtehghladpnpcoaaGreatDoor.Addr
open Go.RowKit Go.Shelf Utf Strs
open Jdec (IsTexts)
theorem etexts_any (ks ls : List ByteArray) (ka la : Option Addr) (kc lc : Nat) (A B : Nat -> Prop) (w : World) (h : IsTexts w A ka ks) (h' : IsTexts w B la ls) (hl : ks.length <= 1048576) (hl' : ls.length <= 1048576) : Calls Tryz.prog 121 #[.slice ka ks.length kc, .slice la ls.length lc] w fun e w' => e = .returned (.bool (decide (ks = ls))) /\ Below w.heap.size w w' := by
  by_cases hne : ks.length = ls.length
  · by_cases h0 : ks = []
    · have h0' : ls = [] := by rw [h0] at hne; exact List.length_eq_zero_iff.1 hne.symm
      subst h0 h0';clear h h' hne;go_enter Tryz.func121, Tryz.ntmps121
      go_wp2_with fail
      go_loop [13] (fun p => p = .int .i64 0) (fun p => 0)
      case atStart => rfl
      case round =>
        obtain rfl := hrel;go_wp2_with fail
        go_ret
        exact ⟨rfl, Below.refl _ _⟩
    · obtain ⟨b, o, rfl, _, _, hc⟩ := h.resolve_left h0;obtain ⟨b', o', rfl, _, _, hc'⟩ := h'.resolve_left (fun e => h0 (by rw [e] at hne; exact List.length_eq_zero_iff.1 hne));have HT := hdQ hc; clear hc;have HT' := hdQ hc'; clear hc';have hz : ((ks.length : Int) != (ls.length : Int)) = false := by rw [bne_eq_false_iff_eq]; omega
      have HN := hdQ hne;clear hne h h';go_enter Tryz.func121, Tryz.ntmps121
      go_wp2_with fail
      go_loopw [13] (fun p wr => ∃ i n : Nat, p = .int .i64 i /\ i <= ks.length /\ Hid (∀ j (h : j < ks.length) (h2 : j < ls.length), j < i -> ks[j] = ls[j]) /\ wr = w.drewN n) (fun p _ => ks.length - (intOf p).toNat)
      case atStart => exact ⟨0, 0, rfl, Nat.zero_le _, fun j _ _ h => by omega, rfl⟩
      case round =>
        obtain ⟨i, n, rfl, hi, hno, rfl⟩ := hrel;by_cases hlt : i < ks.length
        · have hlt' : i < ls.length := by have := HN.out; omega
          have k2 : w.cell? ⟨b, o + i, none⟩ = some (.string ks[i]) := HT.out i hlt;have g2 : w.cell? ⟨b', o' + i, none⟩ = some (.string ls[i]) := HT'.out i hlt';obtain ⟨x2, hx⟩ : ∃ x, ks[i] = x := ⟨_, rfl⟩;obtain ⟨y2, hy⟩ : ∃ y, ls[i] = y := ⟨_, rfl⟩;rw [hx] at k2;rw [hy] at g2;have HX := hdQ hx; clear hx;have HY := hdQ hy; clear hy;by_cases hq : x2.toList = y2.toList
          · have HE : Hid (ks[i] = ls[i]) := by
              rw [Hid, HX.out, HY.out];rw [Lib.toList_data, Lib.toList_data] at hq;rw [Utf.str_of x2 _ rfl, Utf.str_of y2 _ rfl, hq]
            have q2 : (x2.toList != y2.toList) = false := by rw [bne_eq_false_iff_eq]; exact hq
            have q3 : (x2.toList == y2.toList) = true := by rw [beq_iff_eq]; exact hq
            have HF : Hid (∀ j (h : j < ks.length) (h2 : j < ls.length), j < i + 1 -> ks[j] = ls[j]) := by
              intro j h h2 h3
              by_cases e : j = i
              · subst e; exact HE.out
              · exact hno.out j h h2 (by omega)
            clear hq;go_wp2_with fail
            go_quiet (fail)
            go_wp2_with fail
            go_roundw
            case rel => exact ⟨i + 1, _, by go_num, by omega, HF.out, rfl⟩
            case measure => simp [intOf]; omega
          · have HF : Hid (decide (ks = ls) = false) := by
              rw [Hid, dfQ]; intro e;apply hq
              have h2 : ks[i] = ls[i] := by subst e; rfl
              rw [HX.out, HY.out] at h2;rw [h2]
            have q2 : (x2.toList != y2.toList) = true := by rw [bne_iff_ne]; exact hq
            have q3 : (x2.toList == y2.toList) = false := by rw [bnQ]; exact hq
            clear hq;go_wp2_with fail
            go_quiet (fail)
            go_wp2_with fail
            go_ret
            exact ⟨by rw [HF.out]; rfl, below_drewN (below_drewN (Below.refl _ _) _) _⟩
        · have HF : Hid (decide (ks = ls) = true) := by
            rw [Hid, dtQ];exact List.ext_getElem HN.out (fun j h h2 => hno.out j h h2 (by omega))
          go_wp2_with fail
          go_ret
          exact ⟨by rw [HF.out]; rfl, below_drewN (Below.refl _ _) _⟩
  · have HF : Hid (decide (ks = ls) = false) := by
      rw [Hid, dfQ]; intro e; exact hne (by rw [e])
    have hz : ((ks.length : Int) != (ls.length : Int)) = true := by rw [bne_iff_ne]; omega
    clear hne h h';go_enter Tryz.func121, Tryz.ntmps121
    go_wp2_with fail
    go_ret
    exact ⟨by rw [HF.out]; rfl, Below.refl _ _⟩
def fldsA (a : Adr) : Array Value := #[.string a.type, .string a.name, .int .i64 a.key, .int .u64 a.place, .string a.word]
theorem bare_ret (w w' : World) (tm : Array Value) (b : Nat) (a : Adr) (hb : w'.heap[b]? = some (.cells (fldsA a) 178 (0, 0))) (h2 : tm[2]? = some (.pointer (some ⟨b, 0, none⟩))) (hB : Below w.heap.size w w') : bodyPost Tryz.prog Tryz.f120 (fun e w' => e = .returned (.agg (fldsA a)) /\ Below w.heap.size w w') Exit.ret { tmps := tm, defers := [] } w' := by
  have c0 := cell_of hb 0;have c1 := cell_of hb 1;have c2 := cell_of hb 2;have c3 := cell_of hb 3;have c4 := cell_of hb 4;refine bodyPost_ret (v := .agg (fldsA a)) ?_ rfl ⟨rfl, hB⟩;simp [results, Tryz.results120, go_sem, h2, c0, c1, c2, c3, c4, fldsA]
theorem setF {w : World} {b : Nat} {z0 z1 z2 z3 z4 : Value} {T : TypeId} (h : w.heap[b]? = some (.cells #[z0, z1, z2, z3, z4] T (0, 0))) (a : Adr) : (((((w.setCell ⟨b, 0, none⟩ (.string a.type)).setCell ⟨b, 1, none⟩ (.string a.name)).setCell ⟨b, 2, none⟩ (.int .i64 a.key)).setCell ⟨b, 3, none⟩ (.int .u64 a.place)).setCell ⟨b, 4, none⟩ (.string a.word)).heap[b]? = some (.cells (fldsA a) T (0, 0)) := by
  have h1 := heap_set_same h (i := 0) (.string a.type);have h2 := heap_set_same h1 (i := 1) (.string a.name);have h3 := heap_set_same h2 (i := 2) (.int .i64 a.key);have h4 := heap_set_same h3 (i := 3) (.int .u64 a.place);have h5 := heap_set_same h4 (i := 4) (.string a.word);rw [h5];simp [fldsA]
theorem flds_new (w : World) : ∃ w1, w.alloc (.cells #[.string ⟨#[]⟩, .string ⟨#[]⟩, .int .i64 0, .int .u64 0, .string ⟨#[]⟩] 178) = w1 /\ Hid (w1.heap[w.heap.size]? = some (.cells #[.string ⟨#[]⟩, .string ⟨#[]⟩, .int .i64 0, .int .u64 0, .string ⟨#[]⟩] 178 (0, 0))) /\ Hid (Below w.heap.size w w1) :=
  ⟨_, rfl, heap_alloc_new _ _, (Below.refl _ _).alloc (Nat.le_refl _) _⟩
theorem bare_any (a : Adr) (pa : Option Addr) (pc : Nat) (w : World) : Calls Tryz.prog 120 #[wordsA pa pc a] w fun e w' => e = .returned (.agg (fldsA a)) /\ Below w.heap.size w w' := by
  obtain ⟨w1, hw1, V1, B1⟩ := adr_new w pa pc a;have hl1 := heap_lt V1.out;obtain ⟨w2, hw2, V2, B2⟩ := flds_new w1;have V12 : Hid (w2.heap[w.heap.size]? = some (.cells (arrA pa pc a) 35 (0, 0))) := (B2.out.block _ hl1).trans V1.out;obtain ⟨x0, x1, x2, x3, x4, x5⟩ := adr_cells V12.out;have f0 := frozen_of V2.out 0;have f1 := frozen_of V2.out 1;have f2 := frozen_of V2.out 2;have f3 := frozen_of V2.out 3;have f4 := frozen_of V2.out 4;have g0 := cell_of V2.out 0;have g1 := cell_of V2.out 1;have g2 := cell_of V2.out 2;have g3 := cell_of V2.out 3;have g4 := cell_of V2.out 4;have HB : Hid (Below w.heap.size w ((((((w2.setCell ⟨w1.heap.size, 0, none⟩ (.string a.type)).setCell ⟨w1.heap.size, 1, none⟩ (.string a.name)).setCell ⟨w1.heap.size, 2, none⟩ (.int .i64 a.key)).setCell ⟨w1.heap.size, 3, none⟩ (.int .u64 a.place)).setCell ⟨w1.heap.size, 4, none⟩ (.string a.word)))) := by
    have hg : w2.grownBy ((((((w2.setCell ⟨w1.heap.size, 0, none⟩ (.string a.type)).setCell ⟨w1.heap.size, 1, none⟩ (.string a.name)).setCell ⟨w1.heap.size, 2, none⟩ (.int .i64 a.key)).setCell ⟨w1.heap.size, 3, none⟩ (.int .u64 a.place)).setCell ⟨w1.heap.size, 4, none⟩ (.string a.word))) (some w1.heap.size) :=
      ((((Jdec.gb_set _ _ _ _).trans (Jdec.gb_set _ _ _ _)).trans (Jdec.gb_set _ _ _ _)).trans (Jdec.gb_set _ _ _ _)).trans (Jdec.gb_set _ _ _ _)
    have hB2 : Below w.heap.size w w2 := B1.out.trans (B2.out.mono (by omega));exact hB2.grown hg hB2.size (fun k hk => by injection hk with hk; omega)
  unfold wordsA;go_enter Tryz.func120, Tryz.ntmps120
  go_wp2_with fail
  exact bare_ret w _ _ _ a (setF V2.out a) rfl HB.out
theorem same_any (a b : Adr) (pa pb : Option Addr) (pc pd : Nat) (A B : Nat -> Prop) (w : World) (ha : IsTexts w A pa a.path) (hb : IsTexts w B pb b.path) (hla : a.path.length <= 1048576) (hlb : b.path.length <= 1048576) : Calls Tryz.prog 95 #[wordsA pa pc a, wordsA pb pd b] w fun e w' => e = .returned (.bool (sameA a b)) /\ Below w.heap.size w w' := by
  obtain ⟨w1, hw1, V1, B1⟩ := adr_new w pa pc a;obtain ⟨w2, hw2, V2, B2⟩ := adr_new w1 pb pd b;have hl1 := heap_lt V1.out;have hl2 := heap_lt V2.out;have B02 : Hid (Below w.heap.size w w2) := B1.out.trans (B2.out.mono (by omega));have V12 : Hid (w2.heap[w.heap.size]? = some (.cells (arrA pa pc a) 35 (0, 0))) := (B2.out.block _ hl1).trans V1.out;have HKA : Hid (∀ W, Below w2.heap.size w2 W -> W.heap[w.heap.size]? = some (.cells (arrA pa pc a) 35 (0, 0))) := fun W h => (h.block _ (by omega)).trans V12.out;have HKB : Hid (∀ W, Below w2.heap.size w2 W -> W.heap[w1.heap.size]? = some (.cells (arrA pb pd b) 35 (0, 0))) := fun W h => (h.block _ (by omega)).trans V2.out;obtain ⟨p, hp⟩ : ∃ p, decide (a.path = b.path) = p := ⟨_, rfl⟩;have HTX : Hid (∀ W, Below w2.heap.size w2 W -> Calls Tryz.prog 121 #[.slice pa a.path.length pc, .slice pb b.path.length pd] W fun e w' => e = .returned (.bool p) /\ Below W.heap.size W w') := fun W h => by
    have h0 : Below w.heap.size w W := B02.out.trans (h.mono (by omega));have := etexts_any a.path b.path pa pb pc pd A B W (ha.turn (Jdec.Turn.below h0)) (hb.turn (Jdec.Turn.below h0)) hla hlb;rw [hp] at this;exact this
  have HBA : Hid (∀ W, Calls Tryz.prog 120 #[.agg #[.slice pa a.path.length pc, .string a.type, .string a.name, .int .i64 a.key, .int .u64 a.place, .string a.word]] W fun e w' => e = .returned (.agg (fldsA a)) /\ Below W.heap.size W w') := fun W => bare_any a pa pc W;have HBB : Hid (∀ W, Calls Tryz.prog 120 #[.agg #[.slice pb b.path.length pd, .string b.type, .string b.name, .int .i64 b.key, .int .u64 b.place, .string b.word]] W fun e w' => e = .returned (.agg (fldsA b)) /\ Below W.heap.size W w') := fun W => bare_any b pb pd W;obtain ⟨t1, h1⟩ : ∃ t, (a.type.toList == b.type.toList) = t := ⟨_, rfl⟩;obtain ⟨t2, h2⟩ : ∃ t, (a.name.toList == b.name.toList) = t := ⟨_, rfl⟩;obtain ⟨t3, h3⟩ : ∃ t, (a.key == b.key) = t := ⟨_, rfl⟩;obtain ⟨t4, h4⟩ : ∃ t, ((a.place : Int) == (b.place : Int)) = t := ⟨_, rfl⟩;obtain ⟨t5, h5⟩ : ∃ t, (a.word.toList == b.word.toList) = t := ⟨_, rfl⟩;have HS : Hid (sameA a b = (p && (t1 && (t2 && (t3 && (t4 && t5)))))) := by rw [Hid, sameA, sameB, hp, h1, h2, h3, h4, h5]
  have b0 : Below w2.heap.size w2 w2.drew := (Below.refl _ _).drew;have B0 := hdQ b0;obtain ⟨x0, x1, x2, x3, x4, x5⟩ := adr_cells (HKA.out _ b0);obtain ⟨c0, c1, c2, c3, c4, c5⟩ := adr_cells (HKB.out _ b0);obtain ⟨u0, u1, u2, u3, u4, u5⟩ := adr_cells V12.out;unfold wordsA;unfold fldsA at HBA HBB;clear hp ha hb b0;go_enter Tryz.func95, Tryz.ntmps95
  go_wp2_with fail
  cases t1
  · first
      | (go_region_law
          (first
            | (go_simp; go_at_call 120; refine (Calls.mono (HBB.out w3) ?_); rintro z w4 ⟨rfl, hb4⟩; have HB4 := hdQ (HB3.out.trans (hb4.mono HB3.out.size)); clear hb4)
            | (go_simp; go_at_call 120; refine (Calls.mono (HBA.out w2.drew) ?_); rintro z w3 ⟨rfl, hb3⟩; have HB3 := hdQ (B0.out.trans (hb3.mono B0.out.size)); clear hb3; obtain ⟨y0, y1, y2, y3, y4, y5⟩ := adr_cells (HKB.out w3 HB3.out))))
      | (fail)
    all_goals
      go_wp2_with fail
      go_ret
      exact ⟨by rw [HS.out]; cases p <;> rfl, B02.out.trans (HB4.out.mono (by omega))⟩
  cases t2
  · first
      | (go_region_law
          (first
            | (go_simp; go_at_call 120; refine (Calls.mono (HBB.out w3) ?_); rintro z w4 ⟨rfl, hb4⟩; have HB4 := hdQ (HB3.out.trans (hb4.mono HB3.out.size)); clear hb4)
            | (go_simp; go_at_call 120; refine (Calls.mono (HBA.out w2.drew) ?_); rintro z w3 ⟨rfl, hb3⟩; have HB3 := hdQ (B0.out.trans (hb3.mono B0.out.size)); clear hb3; obtain ⟨y0, y1, y2, y3, y4, y5⟩ := adr_cells (HKB.out w3 HB3.out))))
      | (fail)
    all_goals
      go_wp2_with fail
      go_ret
      exact ⟨by rw [HS.out]; cases p <;> rfl, B02.out.trans (HB4.out.mono (by omega))⟩
  cases t3
  · first
      | (go_region_law
          (first
            | (go_simp; go_at_call 120; refine (Calls.mono (HBB.out w3) ?_); rintro z w4 ⟨rfl, hb4⟩; have HB4 := hdQ (HB3.out.trans (hb4.mono HB3.out.size)); clear hb4)
            | (go_simp; go_at_call 120; refine (Calls.mono (HBA.out w2.drew) ?_); rintro z w3 ⟨rfl, hb3⟩; have HB3 := hdQ (B0.out.trans (hb3.mono B0.out.size)); clear hb3; obtain ⟨y0, y1, y2, y3, y4, y5⟩ := adr_cells (HKB.out w3 HB3.out))))
      | (fail)
    all_goals
      go_wp2_with fail
      go_ret
      exact ⟨by rw [HS.out]; cases p <;> rfl, B02.out.trans (HB4.out.mono (by omega))⟩
  cases t4
  · first
      | (go_region_law
          (first
            | (go_simp; go_at_call 120; refine (Calls.mono (HBB.out w3) ?_); rintro z w4 ⟨rfl, hb4⟩; have HB4 := hdQ (HB3.out.trans (hb4.mono HB3.out.size)); clear hb4)
            | (go_simp; go_at_call 120; refine (Calls.mono (HBA.out w2.drew) ?_); rintro z w3 ⟨rfl, hb3⟩; have HB3 := hdQ (B0.out.trans (hb3.mono B0.out.size)); clear hb3; obtain ⟨y0, y1, y2, y3, y4, y5⟩ := adr_cells (HKB.out w3 HB3.out))))
      | (fail)
    all_goals
      go_wp2_with fail
      go_ret
      exact ⟨by rw [HS.out]; cases p <;> rfl, B02.out.trans (HB4.out.mono (by omega))⟩
  cases t5
  · first
      | (go_region_law
          (first
            | (go_simp; go_at_call 120; refine (Calls.mono (HBB.out w3) ?_); rintro z w4 ⟨rfl, hb4⟩; have HB4 := hdQ (HB3.out.trans (hb4.mono HB3.out.size)); clear hb4)
            | (go_simp; go_at_call 120; refine (Calls.mono (HBA.out w2.drew) ?_); rintro z w3 ⟨rfl, hb3⟩; have HB3 := hdQ (B0.out.trans (hb3.mono B0.out.size)); clear hb3; obtain ⟨y0, y1, y2, y3, y4, y5⟩ := adr_cells (HKB.out w3 HB3.out))))
      | (fail)
    all_goals
      go_wp2_with fail
      go_ret
      exact ⟨by rw [HS.out]; cases p <;> rfl, B02.out.trans (HB4.out.mono (by omega))⟩
  first
    | (go_region_law
        (first
          | (go_simp; go_at_call 121; refine (Calls.mono (HTX.out w4 HB4.out) ?_); rintro z w5 ⟨rfl, hb5⟩; have HB5 := hdQ (HB4.out.trans (hb5.mono HB4.out.size)); clear hb5)
          | (go_simp; go_at_call 120; refine (Calls.mono (HBB.out w3) ?_); rintro z w4 ⟨rfl, hb4⟩; have HB4 := hdQ (HB3.out.trans (hb4.mono HB3.out.size)); clear hb4; obtain ⟨z0, z1, z2, z3, z4, z5⟩ := adr_cells (HKA.out w4 HB4.out); obtain ⟨v0, v1, v2, v3, v4, v5⟩ := adr_cells (HKB.out w4 HB4.out))
          | (go_simp; go_at_call 120; refine (Calls.mono (HBA.out w2.drew) ?_); rintro z w3 ⟨rfl, hb3⟩; have HB3 := hdQ (B0.out.trans (hb3.mono B0.out.size)); clear hb3; obtain ⟨y0, y1, y2, y3, y4, y5⟩ := adr_cells (HKB.out w3 HB3.out))))
    | (fail)
  all_goals
    go_wp2_with fail
    go_ret
    exact ⟨by rw [HS.out]; cases p <;> rfl, B02.out.trans (HB5.out.mono (by omega))⟩
end Go.Proofs.YtehghladpnpcoaaGreatDoor.Addr
end
