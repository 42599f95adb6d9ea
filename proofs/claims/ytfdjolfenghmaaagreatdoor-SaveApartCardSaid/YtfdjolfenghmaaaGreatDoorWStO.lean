/- tabulariumref18.Same. -/
import Derived.Test.YtfdjolfenghmaaaGreatDoorWStF
import Derived.Laws.OwnMore
import Derived.OwnWalk
set_option linter.unusedVariables false
set_option linter.unusedSimpArgs false
set_option maxRecDepth 100000
set_option maxHeartbeats 8000000
namespace Go.Proofs.YtfdjolfenghmaaaGreatDoor.State
open Go.RowKit Go.Shelf Utf Strs Go.Proofs.YtfdjolfenghmaaaGreatDoor.Addr
open Jdec (IsTexts Turn)
noncomputable def sameSta (a b : Sta) : Bool := ((a.serial : Int) == (b.serial : Int)) && ((a.lin.toList == b.lin.toList) && @decide (a.recs = b.recs) (Classical.propDecidable _))
theorem sameSta_iff (a b : Sta) : sameSta a b = true ↔ a = b := by
  unfold sameSta;rw [Bool.and_eq_true, Bool.and_eq_true, beq_iff_eq, bytes_same, @decide_eq_true_eq (a.recs = b.recs) (Classical.propDecidable _)];constructor
  · rintro ⟨h1, h2, h3⟩;obtain ⟨x, l, r⟩ := a;obtain ⟨x', l', r'⟩ := b;simp only at h1 h2 h3
    subst h2 h3;obtain rfl : x = x' := by omega
    rfl
  · rintro rfl;exact ⟨rfl, rfl, rfl⟩
theorem sr_ok (r s : Rec) (p q : At) (w : World) (h : IsRec w (fun _ => True) p r) (h' : IsRec w (fun _ => True) q s) (hr : Small r) (hs : Small s) : Hid (Calls Tryz.prog 16 #[.agg #[.slice p.pa r.a.path.length p.pc, .string r.a.type, .string r.a.name, .int .i64 r.a.key, .int .u64 r.a.place, .string r.a.word, .string r.prov, .string r.id, .slice p.ta r.attrs.length p.tc], .agg #[.slice q.pa s.a.path.length q.pc, .string s.a.type, .string s.a.name, .int .i64 s.a.key, .int .u64 s.a.place, .string s.a.word, .string s.prov, .string s.id, .slice q.ta s.attrs.length q.tc]] w fun e w' => e = .returned (.bool (sameRec r s)) /\ Below w.heap.size w w') :=
  rsameRec_any r s p q w h h' (Nat.le_trans hr.l (by omega)) (Nat.le_trans hs.l (by omega)) (Nat.le_trans hr.n (by omega)) (Nat.le_trans hs.n (by omega))
structure RecsAt (w : World) (ra : Option Addr) (l : List Rec) : Prop where
  t : IsRecs w (fun _ => True) ra l
  n : l.length <= 3000
  s : ∀ r ∈ l, Small r
theorem RecsAt.stays {w w' : World} {ra : Option Addr} {l : List Rec} (h : RecsAt w ra l) (hb : Below w.heap.size w w') : RecsAt w' ra l := ⟨h.t.turn (Turn.below hb), h.n, h.s⟩
theorem RecsAt.get {w : World} {ra : Option Addr} {l : List Rec} (h : RecsAt w ra l) {i : Nat} (hi : i < l.length) : ∃ b o p, ra = some ⟨b, o, none⟩ /\ b < w.heap.size /\ (∀ j u, (recArr p l[i])[j]? = some u -> w.cell? ⟨b, o + i * 9 + j, none⟩ = some u) /\ IsRec w (fun _ => True) p l[i] := by
  obtain ⟨b, o, ha, _, hb, f, hc⟩ := h.t.resolve_left (by intro e; rw [e] at hi; simp at hi);exact ⟨b, o, f i, ha, hb, (hc i hi).1, (hc i hi).2⟩
theorem same18_any (a b : Sta) (ra rb : Option Addr) (rc rd : Nat) (w : World) (h : RecsAt w ra a.recs) (h' : RecsAt w rb b.recs) : Calls Tryz.prog 8 #[staV ra rc a, staV rb rd b] w fun e w' => e = .returned (.bool (sameSta a b)) /\ Below w.heap.size w w' := by
  obtain ⟨w1, hw1, V1, B1⟩ := sta_new w ra rc a;obtain ⟨w2, hw2, V2, B2⟩ := sta_new w1 rb rd b;have hl1 := heap_lt V1.out;have hl2 := heap_lt V2.out;have B02 : Hid (Below w.heap.size w w2) := B1.out.trans (B2.out.mono (by omega));have V12 : Hid (w2.heap[w.heap.size]? = some (.cells (staArr ra rc a) 25 (0, 0))) := (B2.out.block _ hl1).trans V1.out;have HKA : Hid (∀ W, Below w2.heap.size w2 W -> W.heap[w.heap.size]? = some (.cells (staArr ra rc a) 25 (0, 0))) := fun W hb => (hb.block _ (by omega)).trans V12.out;have HKB : Hid (∀ W, Below w2.heap.size w2 W -> W.heap[w1.heap.size]? = some (.cells (staArr rb rd b) 25 (0, 0))) := fun W hb => (hb.block _ (by omega)).trans V2.out;have HBW : Hid (∀ W, Below w2.heap.size w2 W -> Below w.heap.size w W) := fun W hb => B02.out.trans (hb.mono (by omega));have HA : Hid (∀ W, Below w2.heap.size w2 W -> RecsAt W ra a.recs) := fun W hb => h.stays (HBW.out W hb);have HB : Hid (∀ W, Below w2.heap.size w2 W -> RecsAt W rb b.recs) := fun W hb => h'.stays (HBW.out W hb);have hn := h.n;have hn' := h'.n;obtain ⟨t1, h1⟩ : ∃ t, ((a.serial : Int) == (b.serial : Int)) = t := ⟨_, rfl⟩;obtain ⟨t2, h2⟩ : ∃ t, (a.lin.toList == b.lin.toList) = t := ⟨_, rfl⟩;have n1 : ((a.serial : Int) != (b.serial : Int)) = !t1 := by rw [bne, h1]
  have n2 : (a.lin.toList != b.lin.toList) = !t2 := by rw [bne, h2]
  have HS : Hid (sameSta a b = (t1 && (t2 && @decide (a.recs = b.recs) (Classical.propDecidable _)))) := by rw [Hid, sameSta, h1, h2]
  obtain ⟨x0, x1, x2⟩ := sta_cells V12.out;obtain ⟨y0, y1, y2⟩ := sta_cells V2.out;unfold staV;clear h h';cases t1
  · have n1' : ((a.serial : Int) != (b.serial : Int)) = true := n1;clear n1;go_enter Tryz.func8, Tryz.ntmps8
    go_wp2_with fail
    go_ret
    exact ⟨by rw [HS.out] <;> rfl, B02.out⟩
  have n1' : ((a.serial : Int) != (b.serial : Int)) = false := n1;clear n1;cases t2
  · have n2' : (a.lin.toList != b.lin.toList) = true := n2;clear n2;go_enter Tryz.func8, Tryz.ntmps8
    go_wp2_with fail
    go_ret
    exact ⟨by rw [HS.out] <;> rfl, B02.out⟩
  have n2' : (a.lin.toList != b.lin.toList) = false := n2;clear n2;by_cases hne : a.recs.length = b.recs.length
  case neg =>
    have hz : ((a.recs.length : Int) != (b.recs.length : Int)) = true := by rw [bne_iff_ne]; omega
    have HF : Hid (sameSta a b = false) := by
      rw [Hid, <-Bool.not_eq_true, sameSta_iff];intro e
      exact hne (by rw [e])
    clear hne;go_enter Tryz.func8, Tryz.ntmps8
    go_wp2_with fail
    go_ret
    exact ⟨by rw [HF.out] <;> rfl, B02.out⟩
  case pos =>
  have hz : ((a.recs.length : Int) != (b.recs.length : Int)) = false := by rw [bne_eq_false_iff_eq]; omega
  have HN := hZz hne;clear hne;go_enter Tryz.func8, Tryz.ntmps8
  go_wp2_with fail
  clear x0 x1 x2 y0 y1 y2 hw1 hw2
  go_loopw [5] (fun p5 wr => ∃ i : Nat, p5 = .int .i64 i /\ i <= a.recs.length /\ Hid (∀ j (h : j < a.recs.length) (h2 : j < b.recs.length), j < i -> a.recs[j] = b.recs[j]) /\ Hid (Below w2.heap.size w2 wr)) (fun p5 _ => a.recs.length - (intOf p5).toNat)
  case atStart => exact ⟨0, rfl, Nat.zero_le _, fun j _ _ h => by omega, Below.refl _ _⟩
  case round =>
    obtain ⟨i, rfl, hi, hno, hBr⟩ := hrel;obtain ⟨x0, x1, x2⟩ := sta_cells (HKA.out wr hBr.out);obtain ⟨y0, y1, y2⟩ := sta_cells (HKB.out wr hBr.out);by_cases hlt : i < a.recs.length
    · have hlt' : i < b.recs.length := by have := HN.out; omega
      obtain ⟨b1, o1, p, hra, hb1, hc, hir⟩ := (HA.out wr hBr.out).get hlt;obtain ⟨b2, o2, q, hrb, hb2, hd, hjr⟩ := (HB.out wr hBr.out).get hlt';have hsr := (HA.out wr hBr.out).s _ (List.getElem_mem hlt);have hss := (HB.out wr hBr.out).s _ (List.getElem_mem hlt');obtain ⟨r, hr⟩ : ∃ r, a.recs[i] = r := ⟨_, rfl⟩;obtain ⟨s, hs⟩ : ∃ s, b.recs[i] = s := ⟨_, rfl⟩;rw [hr] at hc hir hsr;rw [hs] at hd hjr hss;have HC : Hid (∀ W, Below wr.heap.size wr W -> ∀ j u, (recArr p r)[j]? = some u -> W.cell? ⟨b1, o1 + i * 9 + j, none⟩ = some u) := fun W hW j u hu => by rw [cell_blk (hW.block b1 hb1)]; exact hc j u hu
      have HD : Hid (∀ W, Below wr.heap.size wr W -> ∀ j u, (recArr q s)[j]? = some u -> W.cell? ⟨b2, o2 + i * 9 + j, none⟩ = some u) := fun W hW j u hu => by rw [cell_blk (hW.block b2 hb2)]; exact hd j u hu
      have hdr : Below wr.heap.size wr wr.drew := (Below.refl _ _).drew;have HDR := hZz hdr;have hsame := sr_ok r s p q wr.drew (hir.turn (Turn.below hdr)) (hjr.turn (Turn.below hdr)) hsr hss;obtain ⟨e, he⟩ : ∃ e, sameRec r s = e := ⟨_, rfl⟩;rw [he] at hsame;have HSM : Hid (Calls Tryz.prog 16 #[.agg #[.slice p.pa r.a.path.length p.pc, .string r.a.type, .string r.a.name, .int .i64 r.a.key, .int .u64 r.a.place, .string r.a.word, .string r.prov, .string r.id, .slice p.ta r.attrs.length p.tc], .agg #[.slice q.pa s.a.path.length q.pc, .string s.a.type, .string s.a.name, .int .i64 s.a.key, .int .u64 s.a.place, .string s.a.word, .string s.prov, .string s.id, .slice q.ta s.attrs.length q.tc]] wr.drew fun z w' => z = .returned (.bool e) /\ Below wr.drew.heap.size wr.drew w') := hsame.out;have HEQ : Hid (e = true ↔ a.recs[i] = b.recs[i]) := by rw [Hid, <-he, sameRec_iff, hr, hs]
      obtain ⟨c0, c1, c2, c3, c4, c5, c6, c7, c8⟩ := recs_nine hc;obtain ⟨d0, d1, d2, d3, d4, d5, d6, d7, d8⟩ := recs_nine hd;have HRA := hZz hra;have HRB := hZz hrb;rw [hra] at x2;rw [hrb] at y2;clear hc hd hir hjr hsr hss hr hs hdr hsame he hra hrb;go_wp2_with fail
      go_region_held3 (fun w' => w'.cell? ⟨w.heap.size, 2, none⟩ = some (.slice (some ⟨b1, o1, none⟩) a.recs.length rc) /\ w'.cell? ⟨w1.heap.size, 2, none⟩ = some (.slice (some ⟨b2, o2, none⟩) b.recs.length rd) /\ w'.cell? ⟨b1, o1 + i * 9, none⟩ = some (.slice p.pa r.a.path.length p.pc) /\ w'.cell? ⟨b1, o1 + i * 9 + 1, none⟩ = some (.string r.a.type) /\ w'.cell? ⟨b1, o1 + i * 9 + 2, none⟩ = some (.string r.a.name) /\ w'.cell? ⟨b1, o1 + i * 9 + 3, none⟩ = some (.int .i64 r.a.key) /\ w'.cell? ⟨b1, o1 + i * 9 + 4, none⟩ = some (.int .u64 r.a.place) /\ w'.cell? ⟨b1, o1 + i * 9 + 5, none⟩ = some (.string r.a.word) /\ w'.cell? ⟨b1, o1 + i * 9 + 6, none⟩ = some (.string r.prov) /\ w'.cell? ⟨b1, o1 + i * 9 + 7, none⟩ = some (.string r.id) /\ w'.cell? ⟨b1, o1 + i * 9 + 8, none⟩ = some (.slice p.ta r.attrs.length p.tc) /\ w'.cell? ⟨b2, o2 + i * 9, none⟩ = some (.slice q.pa s.a.path.length q.pc) /\ w'.cell? ⟨b2, o2 + i * 9 + 1, none⟩ = some (.string s.a.type) /\ w'.cell? ⟨b2, o2 + i * 9 + 2, none⟩ = some (.string s.a.name) /\ w'.cell? ⟨b2, o2 + i * 9 + 3, none⟩ = some (.int .i64 s.a.key) /\ w'.cell? ⟨b2, o2 + i * 9 + 4, none⟩ = some (.int .u64 s.a.place) /\ w'.cell? ⟨b2, o2 + i * 9 + 5, none⟩ = some (.string s.a.word) /\ w'.cell? ⟨b2, o2 + i * 9 + 6, none⟩ = some (.string s.prov) /\ w'.cell? ⟨b2, o2 + i * 9 + 7, none⟩ = some (.string s.id) /\ w'.cell? ⟨b2, o2 + i * 9 + 8, none⟩ = some (.slice q.ta s.attrs.length q.tc)) (go_keep)
        (first
          | (go_at_call 16; refine (Calls.mono HSM.out ?_); rintro z w4 ⟨rfl, hb4⟩; have B4 : Hid (Below wr.heap.size wr w4) := HDR.out.trans hb4; have B24 := bel hBr B4; clear hb4; obtain ⟨f0, f1, f2⟩ := sta_cells (HKA.out w4 B24.out); obtain ⟨g0, g1, g2⟩ := sta_cells (HKB.out w4 B24.out); rw [HRA.out] at f2; rw [HRB.out] at g2; obtain ⟨m0, m1, m2, m3, m4, m5, m6, m7, m8⟩ := recs_nine (HC.out w4 B4.out); obtain ⟨n0, n1, n2, n3, n4, n5, n6, n7, n8⟩ := recs_nine (HD.out w4 B4.out)))
      rename_i hHeld
      clear hHeld f0 f1 f2 g0 g1 g2 x0 x1 x2 y0 y1 y2 c0 c1 c2 c3 c4 c5 c6 c7 c8 d0 d1 d2 d3 d4 d5 d6 d7 d8 m0 m1 m2 m3 m4 m5 m6 m7 m8 n0 n1 n2 n3 n4 n5 n6 n7 n8 HSM;cases e
      case false =>
        have HF : Hid (sameSta a b = false) := by
          rw [Hid, <-Bool.not_eq_true, sameSta_iff];intro e
          have : false = true := HEQ.out.2 (by subst e; rfl);cases this
        go_wp2_with fail
        go_ret
        exact ⟨by rw [HF.out] <;> rfl, HBW.out w4 B24.out⟩
      case true =>
        have HF : Hid (∀ j (h : j < a.recs.length) (h2 : j < b.recs.length), j < i + 1 -> a.recs[j] = b.recs[j]) := by
          intro j h h2 h3
          by_cases e : j = i
          · subst e; exact HEQ.out.1 (by first | rfl | trivial)
          · exact hno.out j h h2 (by omega)
        go_wp2_with fail
        go_roundw
        case rel => exact ⟨i + 1, by go_num, by omega, HF.out, B24.out⟩
        case measure => simp [intOf]; omega
    · have HF : Hid (sameSta a b = true) := by
        rw [Hid, HS.out, Bool.true_and, Bool.true_and, @decide_eq_true_eq (a.recs = b.recs) (Classical.propDecidable _)];exact List.ext_getElem HN.out (fun j h h2 => hno.out j h h2 (by omega))
      go_wp2_with fail
      go_ret
      exact ⟨by rw [HF.out] <;> rfl, HBW.out wr hBr.out⟩
open Jdec (IsTexts Turn infoStr gb_set gb_below gb_refl)
theorem less_trans {x y z : List UInt8} (h1 : Op.bytesLess x y = true) (h2 : Op.bytesLess y z = true) : Op.bytesLess x z = true := by
  rw [bytesLess_eq, decide_eq_true_eq] at *;exact List.lt_trans h1 h2
theorem less_irrefl (x : List UInt8) : Op.bytesLess x x = false := by
  rw [bytesLess_eq, decide_eq_false_iff_not];exact List.lt_irrefl x
def Sorted (l : List Rec) : Prop := ∀ i j (hi : i < l.length) (hj : j < l.length), i < j -> Op.bytesLess (printA l[i].a) (printA l[j].a) = true
theorem rec_ok (r : Rec) (p : At) (w : World) (h : IsRec w (fun _ => True) p r) (hs : Small r) (T : TabsA w) (b : Bool) (hb : recB r = b) : Hid (Calls Tryz.prog 38 #[.agg #[.slice p.pa r.a.path.length p.pc, .string r.a.type, .string r.a.name, .int .i64 r.a.key, .int .u64 r.a.place, .string r.a.word, .string r.prov, .string r.id, .slice p.ta r.attrs.length p.tc]] w fun e w' => e = .returned (.bool b) /\ Below w.heap.size w w') := by
  rw [<-hb];exact record_any r p w h hs T
structure Rows (l : List Rec) : Prop where
  r : ∀ j (h : j < l.length), recB l[j] = true
  o : ∀ j (h : j + 1 < l.length), Op.bytesLess (printA l[j].a) (printA l[j + 1].a) = true
noncomputable def rightS (s : Sta) : Bool := decide (badZ s.lin.data.toList < 0) && @decide (Rows s.recs) (Classical.propDecidable _)
theorem Rows.sorted {l : List Rec} (h : Rows l) : Sorted l := by
  have key : ∀ d i (hj : i + d + 1 < l.length), Op.bytesLess (printA l[i].a) (printA l[i + d + 1].a) = true := by
    intro d
    induction d with
    | zero => intro i hj; exact h.o i hj
    | succ d ih =>
      intro i hj
      exact less_trans (ih i (by omega)) (h.o (i + d + 1) (by omega))
  intro i j hi hj hij
  obtain ⟨d, rfl⟩ : ∃ d, j = i + d + 1 := ⟨j - i - 1, by omega⟩;exact key d i hj
theorem rightS_iff (s : Sta) : rightS s = true ↔ badZ s.lin.data.toList < 0 /\ Rows s.recs := by
  unfold rightS;rw [Bool.and_eq_true, decide_eq_true_eq, @decide_eq_true_eq (Rows s.recs) (Classical.propDecidable _)]
structure RInv (l : List Rec) (i : Nat) (ah : ByteArray) : Prop where
  r : ∀ j (h : j < l.length), j < i -> recB l[j] = true
  o : ∀ j (h : j + 1 < l.length), j + 1 < i -> Op.bytesLess (printA l[j].a) (printA l[j + 1].a) = true
  a : 0 < i -> ∃ h : i - 1 < l.length, printA l[i - 1].a = ah.data.toList
theorem pr_ok (r : Rec) (p : At) (w : World) (h : IsRec w (fun _ => True) p r) (hs : Small r) (T : TabsA w) (q : ByteArray) (hq : (⟨(printA r.a).toArray⟩ : ByteArray) = q) : Hid (Calls Tryz.prog 39 #[.agg #[.slice p.pa r.a.path.length p.pc, .string r.a.type, .string r.a.name, .int .i64 r.a.key, .int .u64 r.a.place, .string r.a.word]] w fun e w' => e = .returned (.string q) /\ Below w.heap.size w w') := by
  have ha := h.adr hs;have h := print_any r.a p.pa p.pc _ w ha.t ha.l ha.s ha.ty ha.nm ha.wd ha.p T;rw [hq] at h;exact h
theorem sright_any (s : Sta) (ra : Option Addr) (rc : Nat) (w : World) (h : RecsAt w ra s.recs) (hl : s.lin.size <= 6000) (T : TabsA w) : Calls Tryz.prog 23 #[staV ra rc s] w fun e w' => e = .returned (.bool (rightS s)) /\ Below w.heap.size w w' := by
  obtain ⟨w1, hw1, V1, B1⟩ := sta_new w ra rc s;have hl1 := heap_lt V1.out;obtain ⟨v1, hv1⟩ : ∃ x, decide (badZ s.lin.data.toList < 0) = x := ⟨_, rfl⟩;have HRS : Hid (rightS s = (v1 && @decide (Rows s.recs) (Classical.propDecidable _))) := by rw [Hid, rightS, hv1]
  have HUT := utf_ok s.lin w1 hl (T.stays B1.out).t.z v1 hv1;have HR : Hid (∀ W, Below w.heap.size w W -> RecsAt W ra s.recs) := fun W hb => h.stays hb;have HT : Hid (∀ W, Below w.heap.size w W -> TabsA W) := fun W hb => T.stays hb;have hn := h.n;obtain ⟨x0, x1, x2⟩ := sta_cells V1.out;unfold staV;clear hv1 h T;go_enter Tryz.func23, Tryz.ntmps23
  go_wp2_with fail
  refine (Calls.mono HUT.out ?_);rintro z w2 ⟨rfl, rfl⟩;cases v1
  case false =>
    go_wp2_with fail
    go_ret
    exact ⟨by rw [HRS.out] <;> rfl, B1.out⟩
  go_wp2_with fail
  clear x0 x1 x2 hw1
  go_loopw [3, 14] (fun p3 p14 wr => ∃ (i : Nat) (ah : ByteArray), p3 = .string ah /\ p14 = .int .i64 i /\ i <= s.recs.length /\ Hid (RInv s.recs i ah) /\ Hid (Below w.heap.size w wr)) (fun _ p14 _ => s.recs.length - (intOf p14).toNat)
  case atStart => exact ⟨0, ⟨#[]⟩, rfl, rfl, Nat.zero_le _, ⟨fun j _ h => by omega, fun j _ h => by omega, fun h => by omega⟩, B1.out⟩
  case round =>
    obtain ⟨i, ah, rfl, rfl, hi, hI, hB⟩ := hrel;by_cases hlt : i < s.recs.length
    · obtain ⟨b, o, p, hra, hb, hcr, hir⟩ := (HR.out wr hB.out).get hlt;have hsm := (HR.out wr hB.out).s _ (List.getElem_mem hlt);obtain ⟨r, hr⟩ : ∃ r, s.recs[i] = r := ⟨_, rfl⟩;rw [hr] at hcr hir hsm;obtain ⟨z0, z1, z2, z3, z4, z5, z6, z7, z8⟩ := recs_nine hcr;obtain ⟨w4, hw4, V4, B4⟩ := rec_new wr p r;have B04 := bel hB B4;obtain ⟨rb, hrb⟩ : ∃ b, recB r = b := ⟨_, rfl⟩;have HIR : Hid (∀ W, Below wr.heap.size wr W -> IsRec W (fun _ => True) p r) := fun W hW => hir.turn (Turn.below hW);have HSM := hZz hsm;have HRC := rec_ok r p w4 (HIR.out w4 B4.out) hsm (HT.out w4 B04.out) rb hrb;have HRB := hZz hrb;have HRi := hZz hr;obtain ⟨y0, y1, y2, y3, y4, y5, y6, y7, y8⟩ := rec_cells V4.out;clear hcr hir hsm hrb hr;rw [hra];clear hra;go_wp2_with fail
      refine (Calls.mono HRC.out ?_);rintro z w5 ⟨rfl, hb5⟩;have B45 := bel B4 hb5;have B05 := bel B04 hb5;have V5 := hst V4 hb5;clear hb5 HRC y0 y1 y2 y3 y4 y5 y6 y7 y8 z0 z1 z2 z3 z4 z5 z6 z7 z8 hw4;cases rb
      case false =>
        have HF : Hid (rightS s = false) := by
          rw [Hid, <-Bool.not_eq_true, rightS_iff];rintro ⟨_, h⟩;have := h.r i hlt;rw [HRi.out, HRB.out] at this;cases this
        go_wp2_with fail
        go_ret
        exact ⟨by rw [HF.out] <;> rfl, B05.out⟩
      obtain ⟨y0, y1, y2, y3, y4, y5, y6, y7, y8⟩ := rec_cells V5.out;obtain ⟨q, hq⟩ : ∃ q : ByteArray, (⟨(printA r.a).toArray⟩ : ByteArray) = q := ⟨_, rfl⟩;have HPR := pr_ok r p w5 (HIR.out w5 B45.out) HSM.out (HT.out w5 B05.out) q hq;have HQ : Hid (printA s.recs[i].a = q.data.toList) := by rw [Hid, HRi.out, <-hq]
      clear hq;go_wp2_with fail
      refine (Calls.mono HPR.out ?_);rintro z w6 ⟨rfl, hb6⟩;have B06 := bel B05 hb6;clear hb6 HPR y0 y1 y2 y3 y4 y5 y6 y7 y8;rcases Nat.eq_zero_or_pos i with hi0 | hi0
      · subst hi0
        have HN : Hid (RInv s.recs 1 q) := ⟨fun j hj h => (by obtain rfl : j = 0 := by omega
                                                              rw [HRi.out]; exact HRB.out), fun j _ h => by omega, fun _ => ⟨hlt, HQ.out⟩⟩
        go_wp2_with fail
        go_roundw
        case rel => exact ⟨1, q, rfl, rfl, by omega, HN.out, B06.out⟩
        case measure => simp [intOf]; omega
      · obtain ⟨k, hk⟩ : ∃ k, k + 1 = i := ⟨i - 1, by omega⟩;have hsw := less_swap q.toList ah.toList;obtain ⟨c1, h1⟩ : ∃ c, Op.bytesLess q.toList ah.toList = c := ⟨_, rfl⟩;obtain ⟨c2, h2⟩ : ∃ c, (q.toList == ah.toList) = c := ⟨_, rfl⟩;rw [h1, h2] at hsw;have HLT : Hid (∀ (h1 : k < s.recs.length) (h2 : i < s.recs.length), Op.bytesLess (printA s.recs[k].a) (printA s.recs[i].a) = !(c1 || c2)) := fun g1 g2 => by
          obtain ⟨e0, e1⟩ := hI.out.a hi0;have e2 : i - 1 = k := by omega
          simp only [e2] at e1
          rw [e1, HQ.out, <-ByteArray.toList_eq, <-ByteArray.toList_eq];exact hsw
        have hi1 : decide ((0 : Int) < (i : Int)) = true := by rw [decide_eq_true_eq]; omega
        have hi2 : decide (0 < i) = true := by rw [decide_eq_true_eq]; omega
        have HK := hZz hk;have HBADC : Hid ((c1 || c2) = true -> rightS s = false) := fun hc => by
          rw [<-Bool.not_eq_true, rightS_iff];rintro ⟨_, h⟩;have e := HK.out;subst e;have h3 := HLT.out (by omega) hlt;have h4 := h.o k hlt;rw [h3, hc] at h4;cases h4
        have HGOOD : Hid ((c1 || c2) = false -> RInv s.recs (i + 1) q) := fun hc => by
          refine ⟨fun j hj h => ?_, fun j hj h => ?_, fun _ => ⟨by omega, HQ.out⟩⟩
          · by_cases e : j = i
            · subst e; rw [HRi.out]; exact HRB.out
            · exact hI.out.r j hj (by omega)
          · by_cases e : j + 1 = i
            · have e2 : j = k := by have := HK.out; omega
              subst e2;have := HLT.out (by omega) hlt;simp only [e]
              rw [this, hc]; rfl
            · exact hI.out.o j hj (by omega)
        clear hsw hk;cases c1
        · cases c2
          · have HN : Hid (RInv s.recs (i + 1) q) := HGOOD.out rfl;clear HBADC HGOOD;go_wp2_with fail
            go_roundw
            case rel => exact ⟨i + 1, q, rfl, by go_num, by omega, HN.out, B06.out⟩
            case measure => simp [intOf]; omega
          · have HF : Hid (rightS s = false) := HBADC.out rfl;clear HBADC HGOOD;go_wp2_with fail
            go_ret
            exact ⟨by rw [HF.out] <;> rfl, B06.out⟩
        · have HF : Hid (rightS s = false) := HBADC.out rfl;clear HBADC HGOOD;go_wp2_with fail
          go_ret
          exact ⟨by rw [HF.out] <;> rfl, B06.out⟩
    · have HF : Hid (rightS s = true) := by
        rw [Hid, HRS.out, Bool.true_and, @decide_eq_true_eq (Rows s.recs) (Classical.propDecidable _)];exact ⟨fun j hj => hI.out.r j hj (by omega), fun j hj => hI.out.o j hj (by omega)⟩
      go_wp2_with fail
      go_ret
      exact ⟨by rw [HF.out] <;> rfl, hB.out⟩
end Go.Proofs.YtfdjolfenghmaaaGreatDoor.State
