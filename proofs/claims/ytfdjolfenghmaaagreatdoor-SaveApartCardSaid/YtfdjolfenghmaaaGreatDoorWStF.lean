/- tabulariumref18.Size, GreatRecord. -/
import Derived.Test.YtfdjolfenghmaaaGreatDoorWStD
import Derived.Deep.RegionHeld3
set_option linter.unusedVariables false
set_option linter.unusedSimpArgs false
set_option maxRecDepth 100000
set_option maxHeartbeats 8000000
namespace Go.Proofs.YtfdjolfenghmaaaGreatDoor.State
open Go.RowKit Go.Shelf Utf Strs Go.Proofs.YtfdjolfenghmaaaGreatDoor.Addr
open Jdec (IsTexts Turn)
structure RecIn (w : World) (p : At) (r : Rec) : Prop where
  a : AdrIn w p.pa r.a
  t : IsPairs w (fun _ => True) p.ta r.attrs
  pr : r.prov.size <= 140737488351232
  id : r.id.size <= 140737488351232
  n : r.attrs.length <= 140737488351232
  at1 : ∀ x ∈ r.attrs, x.1.size <= 140737488351232
  at2 : ∀ x ∈ r.attrs, x.2.size <= 140737488351232
theorem RecIn.stays {w w' : World} {p : At} {r : Rec} (h : RecIn w p r) (hb : Below w.heap.size w w') : RecIn w' p r := ⟨h.a.stays hb, h.t.turn (Turn.below hb), h.pr, h.id, h.n, h.at1, h.at2⟩
def sumP (l : List (ByteArray × ByteArray)) : Nat := (l.map fun x => x.1.size + x.2.size).sum
theorem sumP_take {l : List (ByteArray × ByteArray)} {i : Nat} (h : i < l.length) : sumP (l.take (i + 1)) = sumP (l.take i) + l[i].1.size + l[i].2.size := by
  unfold sumP;rw [List.take_add_one, List.getElem?_eq_getElem h, List.map_append, List.sum_append];simp
  omega
theorem sumP_le : ∀ (l : List (ByteArray × ByteArray)) (x : ByteArray × ByteArray), x ∈ l -> x.1.size + x.2.size <= sumP l := by
  intro l
  induction l with
  | nil => intro x h; cases h
  | cons k l ih =>
    intro x h
    have e : sumP (k :: l) = k.1.size + k.2.size + sumP l := by simp [sumP]
    rw [e];rcases List.mem_cons.1 h with rfl | h
    · omega
    · have := ih x h; omega
def SzPost (r : Rec) (w : World) (e : Ending) (w' : World) : Prop := ∃ m : Nat, e = .returned (.int .i64 m) /\ m <= 300000000000000 /\ (m <= 5000 -> Small r) /\ Below w.heap.size w w'
theorem SzPost.to {r : Rec} {w w' : World} {e : Ending} (h : SzPost r w e w') : ∃ m : Nat, e = .returned (.int .i64 m) /\ m <= 300000000000000 /\ Hid (m <= 5000 -> Small r) /\ Hid (Below w.heap.size w w') := h
theorem size_any (r : Rec) (p : At) (w : World) (h : RecIn w p r) : Calls Tryz.prog 10 #[recV p r] w (SzPost r w) := by
  obtain ⟨w1, hw1, V1, B1⟩ := rec_new w p r;have hl1 := heap_lt V1.out;have HIN := hZz h;have hgr := great_any r.a p.pa p.pc w1 (h.a.stays B1.out);obtain ⟨ga, hga⟩ : ∃ g, greatA r.a = g := ⟨_, rfl⟩;rw [hga] at hgr;have HGA := hZz hga;have HGR : Hid (Calls Tryz.prog 17 #[.agg #[.slice p.pa r.a.path.length p.pc, .string r.a.type, .string r.a.name, .int .i64 r.a.key, .int .u64 r.a.place, .string r.a.word]] w1 fun e w' => e = .returned (.bool ga) /\ Below w1.heap.size w1 w') := hgr;have HB1 : Hid (∀ w', Below w1.heap.size w1 w' -> Below w.heap.size w w') := fun w' hb => B1.out.trans (hb.mono (by omega));obtain ⟨x0, x1, x2, x3, x4, x5, x6, x7, x8⟩ := rec_cells V1.out;have hpr := h.pr;have hid := h.id;have hn := h.n;unfold recV;clear hgr hga h;go_enter Tryz.func10, Tryz.ntmps10
  go_wp2_with fail
  refine (Calls.mono HGR.out ?_);rintro z w2 ⟨rfl, hb2⟩;have V2 : Hid (w2.heap[w.heap.size]? = some (.cells (recArr p r) 38 (0, 0))) := (hb2.block _ hl1).trans V1.out;have B2 : Hid (Below w.heap.size w w2) := HB1.out w2 hb2;clear hb2 HGR x0 x1 x2 x3 x4 x5 x6 x7 x8 hw1;cases ga
  case true =>
    go_wp2_with fail
    go_ret
    exact ⟨10000, rfl, by omega, fun h => by omega, B2.out⟩
  obtain ⟨x0, x1, x2, x3, x4, x5, x6, x7, x8⟩ := rec_cells V2.out;by_cases h60 : 60 < r.attrs.length
  · have q1 : decide ((60 : Int) < (r.attrs.length : Int)) = true := by rw [decide_eq_true_eq]; omega
    have q2 : decide (60 < r.attrs.length) = true := by rw [decide_eq_true_eq]; omega
    go_wp2_with fail
    go_ret
    exact ⟨10000, rfl, by omega, fun h => by omega, B2.out⟩
  have q1 : decide ((60 : Int) < (r.attrs.length : Int)) = false := by rw [decide_eq_false_iff_not]; omega
  have q2 : decide (60 < r.attrs.length) = false := by rw [decide_eq_false_iff_not]; omega
  have hn60 : r.attrs.length <= 60 := by omega
  obtain ⟨s, hs⟩ : ∃ s, r.prov.size + r.id.size = s := ⟨_, rfl⟩;have gs : (r.prov.size : Int) + (r.id.size : Int) = (s : Int) := by omega
  have ws : IntKind.i64.wrap (s : Int) = (s : Int) := IntWalk.i64_in _ (by omega);by_cases hbig : 1000 < s
  · have q3 : decide ((1000 : Int) < (s : Int)) = true := by rw [decide_eq_true_eq]; omega
    have q4 : decide (1000 < s) = true := by rw [decide_eq_true_eq]; omega
    clear hs h60;go_wp2_with fail
    go_ret
    exact ⟨10000, rfl, by omega, fun h => by omega, B2.out⟩
  have q3 : decide ((1000 : Int) < (s : Int)) = false := by rw [decide_eq_false_iff_not]; omega
  have q4 : decide (1000 < s) = false := by rw [decide_eq_false_iff_not]; omega
  have hsp : r.prov.size <= 1000 := by omega
  have hsi : r.id.size <= 1000 := by omega
  have hs1 : s <= 1000 := by omega
  obtain ⟨m1, hm1⟩ : ∃ m, 1000 + r.prov.size = m := ⟨_, rfl⟩;obtain ⟨m2, hm2⟩ : ∃ m, m1 + r.id.size = m := ⟨_, rfl⟩;have g1 : (1000 : Int) + (r.prov.size : Int) = (m1 : Int) := by omega
  have g2 : (m1 : Int) + (r.id.size : Int) = (m2 : Int) := by omega
  have w1' : IntKind.i64.wrap (m1 : Int) = (m1 : Int) := IntWalk.i64_in _ (by omega);have w2' : IntKind.i64.wrap (m2 : Int) = (m2 : Int) := IntWalk.i64_in _ (by omega);have hm2b : m2 <= 2000 := by omega
  have HSM : Hid (∀ t, t <= 5000 -> t = m2 + sumP r.attrs -> Small r) := fun t ht he => by
    have hat := (HIN.out.a).at HGA.out;exact ⟨hat.l, hat.s, hat.ty, hat.nm, hat.wd, hat.p, by omega, by omega, by omega, fun x hx => by have := sumP_le _ x hx; omega, fun x hx => by have := sumP_le _ x hx; omega, by omega⟩
  clear hs hm1 hm2 h60 hbig;go_wp2_with fail
  clear x0 x1 x2 x3 x4 x5 x6 x7 x8
  go_loopw [3, 4] (fun p3 p4 wr => ∃ n i k : Nat, p3 = .int .i64 n /\ p4 = .int .i64 i /\ i <= r.attrs.length /\ n <= 281474976712464 /\ Hid (n = m2 + sumP (r.attrs.take i)) /\ wr = w2.drewN k) (fun _ p4 _ => r.attrs.length - (intOf p4).toNat)
  case atStart => exact ⟨m2, 0, 0, rfl, rfl, Nat.zero_le _, by omega, by simp [Hid, sumP], rfl⟩
  case round =>
    obtain ⟨n, i, k, rfl, rfl, hi, hnb, hN, rfl⟩ := hrel;obtain ⟨x0, x1, x2, x3, x4, x5, x6, x7, x8⟩ := rec_cells V2.out;by_cases hgo : i < r.attrs.length /\ n < 10000
    · obtain ⟨hlt, h10⟩ := hgo;obtain ⟨b, o, hta, _, hb, hc⟩ := (HIN.out.stays B2.out).t.resolve_left (by intro e; rw [e] at hlt; simp at hlt);obtain ⟨k1, k2⟩ := hc i hlt;have hx1 := HIN.out.at1 _ (List.getElem_mem hlt);have hx2 := HIN.out.at2 _ (List.getElem_mem hlt);have hst := sumP_take hlt;obtain ⟨x, hx⟩ : ∃ x, r.attrs[i].1 = x := ⟨_, rfl⟩;obtain ⟨y, hy⟩ : ∃ y, r.attrs[i].2 = y := ⟨_, rfl⟩;rw [hx] at k1 hx1 hst;rw [hy] at k2 hx2 hst;rw [hta] at x8;obtain ⟨n1, hn1⟩ : ∃ m, n + x.size = m := ⟨_, rfl⟩;obtain ⟨n2, hn2⟩ : ∃ m, n1 + y.size = m := ⟨_, rfl⟩;have e1 : (n : Int) + (x.size : Int) = (n1 : Int) := by omega
      have e2 : (n1 : Int) + (y.size : Int) = (n2 : Int) := by omega
      have u1 : IntKind.i64.wrap (n1 : Int) = (n1 : Int) := IntWalk.i64_in _ (by omega);have u2 : IntKind.i64.wrap (n2 : Int) = (n2 : Int) := IntWalk.i64_in _ (by omega);have hn2b : n2 <= 281474976712464 := by omega
      have HM : Hid (n2 = m2 + sumP (r.attrs.take (i + 1))) := by rw [Hid, hst, <-hn2, <-hn1, hN.out]; omega
      have t0 : decide ((i : Int) < (r.attrs.length : Int)) = true := by rw [decide_eq_true_eq]; omega
      have t1 : decide (i < r.attrs.length) = true := by rw [decide_eq_true_eq]; omega
      have t2 : decide ((n : Int) < 10000) = true := by rw [decide_eq_true_eq]; omega
      have t3 : decide (n < 10000) = true := by rw [decide_eq_true_eq]; omega
      clear hc hx hy hst hn1 hn2 hx1 hx2 hta h10;go_wp2_with fail
      go_quiet (fail)
      go_wp2_with fail
      go_roundw
      case rel => exact ⟨n2, i + 1, _, rfl, by go_num, by omega, hn2b, HM.out, rfl⟩
      case measure => simp [intOf]; omega
    · have hcs : (decide ((i : Int) < (r.attrs.length : Int)) = false /\ decide (i < r.attrs.length) = false) ∨ (decide ((i : Int) < (r.attrs.length : Int)) = true /\ decide (i < r.attrs.length) = true /\ decide ((n : Int) < 10000) = false /\ decide (n < 10000) = false) := by
        by_cases h : i < r.attrs.length
        · refine .inr ⟨?_, ?_, ?_, ?_⟩
          · rw [decide_eq_true_eq]; omega
          · rw [decide_eq_true_eq]; omega
          · rw [decide_eq_false_iff_not]; omega
          · rw [decide_eq_false_iff_not]; omega
        · refine .inl ⟨?_, ?_⟩
          · rw [decide_eq_false_iff_not]; omega
          · rw [decide_eq_false_iff_not]; omega
      have HFS : Hid (n <= 5000 -> Small r) := fun h => by
        have hil : i = r.attrs.length := by omega
        have := hN.out;rw [hil, List.take_length] at this;exact HSM.out n h this
      clear hgo;rcases hcs with ⟨t0, t1⟩ | ⟨t0, t1, t2, t3⟩
      all_goals
        go_wp2_with fail
        go_ret
        exact ⟨n, rfl, by omega, HFS.out, Addr.below_drewN B2.out _⟩
theorem greatRec_any (r : Rec) (p : At) (w : World) (h : RecIn w p r) : Calls Tryz.prog 9 #[recV p r] w fun e w' => ∃ g : Bool, e = .returned (.bool g) /\ (g = false -> Small r) /\ Below w.heap.size w w' := by
  obtain ⟨w1, hw1, V1, B1⟩ := rec_new w p r;have HSZ : Hid (Calls Tryz.prog 10 #[.agg #[.slice p.pa r.a.path.length p.pc, .string r.a.type, .string r.a.name, .int .i64 r.a.key, .int .u64 r.a.place, .string r.a.word, .string r.prov, .string r.id, .slice p.ta r.attrs.length p.tc]] w1 (SzPost r w1)) := size_any r p w1 (h.stays B1.out);obtain ⟨x0, x1, x2, x3, x4, x5, x6, x7, x8⟩ := rec_cells V1.out;unfold recV;clear h;go_enter Tryz.func9, Tryz.ntmps9
  go_wp2_with fail
  refine (Calls.mono HSZ.out ?_);rintro z w2 hz;obtain ⟨m, rfl, hm, hS, B2⟩ := hz.to;have B02 := bel B1 B2;by_cases hg : 5000 < m
  · have q1 : decide ((5000 : Int) < (m : Int)) = true := by rw [decide_eq_true_eq]; omega
    have q2 : decide (5000 < m) = true := by rw [decide_eq_true_eq]; omega
    clear hz hg;go_wp2_with fail
    go_ret
    exact ⟨true, rfl, fun h => (by cases h), B02.out⟩
  · have q1 : decide ((5000 : Int) < (m : Int)) = false := by rw [decide_eq_false_iff_not]; omega
    have q2 : decide (5000 < m) = false := by rw [decide_eq_false_iff_not]; omega
    have HSS : Hid (Small r) := hS.out (by omega);clear hz hg hS;go_wp2_with fail
    go_ret
    exact ⟨false, rfl, fun _ => HSS.out, B02.out⟩
structure Wide (r : Rec) : Prop where
  l : r.a.path.length <= 140737488351232
  s : ∀ x ∈ r.a.path, x.size <= 140737488351232
  ty : r.a.type.size <= 140737488351232
  nm : r.a.name.size <= 140737488351232
  wd : r.a.word.size <= 140737488351232
  p : r.a.place < 18446744073709551616
  pr : r.prov.size <= 140737488351232
  id : r.id.size <= 140737488351232
  n : r.attrs.length <= 140737488351232
  at1 : ∀ x ∈ r.attrs, x.1.size <= 140737488351232
  at2 : ∀ x ∈ r.attrs, x.2.size <= 140737488351232
theorem Wide.recIn {w : World} {p : At} {r : Rec} (hw : Wide r) (h : IsRec w (fun _ => True) p r) : RecIn w p r := ⟨⟨h.path, hw.l, hw.s, hw.ty, hw.nm, hw.wd, hw.p⟩, h.attrs, hw.pr, hw.id, hw.n, hw.at1, hw.at2⟩
structure StaIn (w : World) (ra : Option Addr) (s : Sta) : Prop where
  t : IsRecs w (fun _ => True) ra s.recs
  n : s.recs.length <= 140737488351232
  b : ∀ r ∈ s.recs, Wide r
theorem StaIn.stays {w w' : World} {ra : Option Addr} {s : Sta} (h : StaIn w ra s) (hb : Below w.heap.size w w') : StaIn w' ra s := ⟨h.t.turn (Turn.below hb), h.n, h.b⟩
theorem recs_nine {w : World} {b o : Nat} {p : At} {r : Rec} (h : ∀ j u, (recArr p r)[j]? = some u -> w.cell? ⟨b, o + j, none⟩ = some u) : w.cell? ⟨b, o, none⟩ = some (.slice p.pa r.a.path.length p.pc) /\ w.cell? ⟨b, o + 1, none⟩ = some (.string r.a.type) /\ w.cell? ⟨b, o + 2, none⟩ = some (.string r.a.name) /\ w.cell? ⟨b, o + 3, none⟩ = some (.int .i64 r.a.key) /\ w.cell? ⟨b, o + 4, none⟩ = some (.int .u64 r.a.place) /\ w.cell? ⟨b, o + 5, none⟩ = some (.string r.a.word) /\ w.cell? ⟨b, o + 6, none⟩ = some (.string r.prov) /\ w.cell? ⟨b, o + 7, none⟩ = some (.string r.id) /\ w.cell? ⟨b, o + 8, none⟩ = some (.slice p.ta r.attrs.length p.tc) :=
  ⟨h 0 _ rfl, h 1 _ rfl, h 2 _ rfl, h 3 _ rfl, h 4 _ rfl, h 5 _ rfl, h 6 _ rfl, h 7 _ rfl, h 8 _ rfl⟩
theorem sta_cells {w : World} {b : Nat} {ra : Option Addr} {rc : Nat} {s : Sta} (h : w.heap[b]? = some (.cells (staArr ra rc s) 25 (0, 0))) :
    w.cell? ⟨b, 0, none⟩ = some (.int .u64 s.serial) /\ w.cell? ⟨b, 1, none⟩ = some (.string s.lin) /\ w.cell? ⟨b, 2, none⟩ = some (.slice ra s.recs.length rc) := ⟨cell_of h 0, cell_of h 1, cell_of h 2⟩
theorem sz_ok (r : Rec) (p : At) (w : World) (h : RecIn w p r) : Hid (Calls Tryz.prog 10 #[.agg #[.slice p.pa r.a.path.length p.pc, .string r.a.type, .string r.a.name, .int .i64 r.a.key, .int .u64 r.a.place, .string r.a.word, .string r.prov, .string r.id, .slice p.ta r.attrs.length p.tc]] w (SzPost r w)) := size_any r p w h
def GrPost (r : Rec) (w : World) (e : Ending) (w' : World) : Prop := ∃ g : Bool, e = .returned (.bool g) /\ (g = false -> Small r) /\ Below w.heap.size w w'
theorem GrPost.to {r : Rec} {w w' : World} {e : Ending} (h : GrPost r w e w') : ∃ g : Bool, e = .returned (.bool g) /\ Hid (g = false -> Small r) /\ Hid (Below w.heap.size w w') := h
theorem gr_ok (r : Rec) (p : At) (w : World) (h : RecIn w p r) : Hid (Calls Tryz.prog 9 #[.agg #[.slice p.pa r.a.path.length p.pc, .string r.a.type, .string r.a.name, .int .i64 r.a.key, .int .u64 r.a.place, .string r.a.word, .string r.prov, .string r.id, .slice p.ta r.attrs.length p.tc]] w (GrPost r w)) := greatRec_any r p w h
theorem great18_any (s : Sta) (ra : Option Addr) (rc : Nat) (w : World) (h : StaIn w ra s) : Calls Tryz.prog 5 #[staV ra rc s] w fun e w' => ∃ g : Bool, e = .returned (.bool g) /\ (g = false -> s.recs.length <= 30 /\ s.lin.size <= 1000 /\ ∀ r ∈ s.recs, Small r) /\ Below w.heap.size w w' := by
  obtain ⟨w1, hw1, V1, B1⟩ := sta_new w ra rc s;have hl1 := heap_lt V1.out;have HIN : Hid (∀ W, Below w1.heap.size w1 W -> StaIn W ra s) := fun W hb => (h.stays B1.out).stays hb;have HKA : Hid (∀ W, Below w1.heap.size w1 W -> W.heap[w.heap.size]? = some (.cells (staArr ra rc s) 25 (0, 0))) := fun W hb => (hb.block _ hl1).trans V1.out;have HBW : Hid (∀ W, Below w1.heap.size w1 W -> Below w.heap.size w W) := fun W hb => B1.out.trans (hb.mono (by omega));have hnn := h.n;obtain ⟨x0, x1, x2⟩ := sta_cells V1.out;unfold staV;clear h;by_cases h30 : 30 < s.recs.length
  · have q1 : decide ((30 : Int) < (s.recs.length : Int)) = true := by rw [decide_eq_true_eq]; omega
    have q2 : decide (30 < s.recs.length) = true := by rw [decide_eq_true_eq]; omega
    clear h30;go_enter Tryz.func5, Tryz.ntmps5
    go_wp2_with fail
    go_ret
    exact ⟨true, rfl, fun h => (by cases h), B1.out⟩
  have q1 : decide ((30 : Int) < (s.recs.length : Int)) = false := by rw [decide_eq_false_iff_not]; omega
  have q2 : decide (30 < s.recs.length) = false := by rw [decide_eq_false_iff_not]; omega
  have hn30 : s.recs.length <= 30 := by omega
  clear h30;by_cases hli : 1000 < s.lin.size
  · have q3 : decide ((1000 : Int) < (s.lin.size : Int)) = true := by rw [decide_eq_true_eq]; omega
    have q4 : decide (1000 < s.lin.size) = true := by rw [decide_eq_true_eq]; omega
    clear hli;go_enter Tryz.func5, Tryz.ntmps5
    go_wp2_with fail
    go_ret
    exact ⟨true, rfl, fun h => (by cases h), B1.out⟩
  have q3 : decide ((1000 : Int) < (s.lin.size : Int)) = false := by rw [decide_eq_false_iff_not]; omega
  have q4 : decide (1000 < s.lin.size) = false := by rw [decide_eq_false_iff_not]; omega
  have hl1000 : s.lin.size <= 1000 := by omega
  clear hli;go_enter Tryz.func5, Tryz.ntmps5
  go_wp2_with fail
  clear x0 x1 x2 hw1
  go_loopw [3, 4] (fun p3 p4 wr => ∃ n i : Nat, p3 = .int .i64 n /\ p4 = .int .i64 i /\ i <= s.recs.length /\ n <= i * 300000000000000 /\ Hid (∀ r ∈ s.recs.take i, Small r) /\ Hid (Below w1.heap.size w1 wr)) (fun _ p4 _ => s.recs.length - (intOf p4).toNat)
  case atStart => exact ⟨0, 0, rfl, rfl, Nat.zero_le _, by omega, fun r h => by simp at h, Below.refl _ _⟩
  case round =>
    obtain ⟨n, i, rfl, rfl, hi, hn, hS, hB⟩ := hrel;obtain ⟨x0, x1, x2⟩ := sta_cells (HKA.out wr hB.out);by_cases hlt : i < s.recs.length
    · obtain ⟨b, o, hra, _, hb, f, hc⟩ := (HIN.out wr hB.out).t.resolve_left (by intro e; rw [e] at hlt; simp at hlt);obtain ⟨hc1, hc2⟩ := hc i hlt;have hri := ((HIN.out wr hB.out).b _ (List.getElem_mem hlt)).recIn hc2;have htk : ∀ r ∈ s.recs.take (i + 1), r ∈ s.recs.take i ∨ r = s.recs[i] := by
        intro r hr
        rw [List.take_add_one, List.getElem?_eq_getElem hlt, List.mem_append] at hr
        simpa using hr
      obtain ⟨r, hr⟩ : ∃ r, s.recs[i] = r := ⟨_, rfl⟩;rw [hr] at hc1 hri htk;obtain ⟨p, hp⟩ : ∃ p, f i = p := ⟨_, rfl⟩;rw [hp] at hc1 hri;obtain ⟨z0, z1, z2, z3, z4, z5, z6, z7, z8⟩ := recs_nine hc1;have HC1 := hZz hc1;have HRI : Hid (RecIn wr p r) := hri;have HGR := gr_ok r p wr hri;have HTK := hZz htk;have HRA := hZz hra;rw [hra] at x2;clear hc hc1 hc2 hri htk hr hp hra;go_wp2_with fail
      refine (Calls.mono HGR.out ?_);rintro z w3 hz;obtain ⟨g, rfl, hg, B3⟩ := hz.to;have B13 := bel hB B3;clear hz x0 x1 x2 z0 z1 z2 z3 z4 z5 z6 z7 z8 HGR;cases g
      case true =>
        go_wp2_with fail
        go_ret
        exact ⟨true, rfl, fun h => (by cases h), HBW.out w3 B13.out⟩
      have HSM : Hid (Small r) := hg.out rfl;obtain ⟨x0, x1, x2⟩ := sta_cells (HKA.out w3 B13.out);have hc3 : ∀ j u, (recArr p r)[j]? = some u -> w3.cell? ⟨b, o + i * 9 + j, none⟩ = some u := fun j u hu => by rw [cell_blk (B3.out.block b hb)]; exact HC1.out j u hu
      obtain ⟨z0, z1, z2, z3, z4, z5, z6, z7, z8⟩ := recs_nine hc3;have HSZ := sz_ok r p w3 (HRI.out.stays B3.out);rw [HRA.out] at x2;clear hc3 hg;go_wp2_with fail
      refine (Calls.mono HSZ.out ?_);rintro z w4 hz;obtain ⟨m, rfl, hm, hmS, B4⟩ := hz.to;have B14 := bel B13 B4;obtain ⟨n2, hn2⟩ : ∃ n2, n + m = n2 := ⟨_, rfl⟩;have gn2 : (n : Int) + (m : Int) = (n2 : Int) := by omega
      have hn2b : n2 <= (i + 1) * 300000000000000 := by omega
      have wn2 : IntKind.i64.wrap (n2 : Int) = (n2 : Int) := IntWalk.i64_in _ (by omega);have HN : Hid (∀ x ∈ s.recs.take (i + 1), Small x) := fun x hx => by
        rcases HTK.out x hx with hx | rfl
        · exact hS.out x hx
        · exact HSM.out
      clear hz hn2 x0 x1 x2 z0 z1 z2 z3 z4 z5 z6 z7 z8 HSZ hmS;go_wp2_with fail
      go_roundw
      case rel => exact ⟨n2, i + 1, rfl, by go_num, by omega, hn2b, HN.out, B14.out⟩
      case measure => simp [intOf]; omega
    · have HFS : Hid (∀ r ∈ s.recs, Small r) := by
        have := hS.out;rw [List.take_of_length_le (by omega)] at this;exact this
      by_cases hbig : 60000 < n
      · have t1 : decide ((60000 : Int) < (n : Int)) = true := by rw [decide_eq_true_eq]; omega
        have t2 : decide (60000 < n) = true := by rw [decide_eq_true_eq]; omega
        clear hbig;go_wp2_with fail
        go_ret
        exact ⟨true, rfl, fun h => (by cases h), HBW.out wr hB.out⟩
      · have t1 : decide ((60000 : Int) < (n : Int)) = false := by rw [decide_eq_false_iff_not]; omega
        have t2 : decide (60000 < n) = false := by rw [decide_eq_false_iff_not]; omega
        clear hbig;go_wp2_with fail
        go_ret
        exact ⟨false, rfl, fun _ => ⟨hn30, hl1000, HFS.out⟩, HBW.out wr hB.out⟩
end Go.Proofs.YtfdjolfenghmaaaGreatDoor.State
