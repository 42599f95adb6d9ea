/- jenc.writeText, writeKids, write, all over either printer. (Written by gen/jenq.py.) -/
import Derived.Test.YtfdjolfenghmaaaGreatDoorWJenP
set_option linter.unusedVariables false
set_option linter.unusedSimpArgs false
set_option maxRecDepth 100000
set_option maxHeartbeats 8000000
namespace Go.Proofs.YtfdjolfenghmaaaGreatDoor.Jdec
open Go.RowKit Strs
theorem below_grows {w w' : World} (g : Below w.heap.size w w') : w.grownBy w' none := ⟨g.os, g.tape, g.output, g.size, fun k hk _ => g.block k hk⟩
theorem PB.stays {T : TypeId} {n : Nat} {w w' : World} {bs : List UInt8} (h : PB T n w bs) (g : Below w.heap.size w w') : PB T n w' bs := by
  obtain ⟨cs, h⟩ := h;obtain ⟨v, hv, ho⟩ := h.buf;exact ⟨cs, h.hB, (g.block n (heap_lt h.blk)).trans h.blk, h.size, h.ptr, ⟨v, hv, ho.kept (below_grows g) (by cases hx : v.ownBlock <;> simp)⟩, h.ne, h.lies⟩
theorem keeps_val {n k : Nat} {w w' : World} {cs : Array Value} (h : Keeps n n w w') (hk : Hid (w.heap[k]? = some (.cells cs 46 (0, 0)))) (hn : n < k) : Hid (w'.heap[k]? = some (.cells cs 46 (0, 0))) := by
  have hk := hk.out;refine (h.block k (heap_lt hk) (by omega) (fun c fr e => ?_)).trans hk;rw [hk] at e;injection e with e
  injection e with _ e
  exact absurd e (by decide)
theorem keeps_grew {n : Nat} {x w w' : World} (h : Keeps n n x w) (g : Below w.heap.size w w') (hn : n <= w.heap.size) : Keeps n n x w' := h.trans (Keeps.of_below g hn)
theorem PW.to {T : TypeId} {n : Nat} {w : World} {bs : List UInt8} {e : Ending} {w' : World} (h : PW T n w bs e w') : e = .returned (.tuple #[]) /\ Hid (PB T n w' bs) /\ Hid (Keeps n n w w') := h
theorem kidsP_snoc (wd : Bool) (dp : Nat) (obj : Bool) (ks : List ByteArray) : ∀ (a : List JV) (v : JV) (j : Nat), kidsP wd dp obj ks j (a ++ [v]) = kidsP wd dp obj ks j a ++ ((if j + a.length = 0 then firstP obj else [44]) ++ lineP wd (dp + 1) ++ keyP wd obj ks (j + a.length) ++ v.print wd (dp + 1))
  | [], v, j => by rw [List.nil_append, kidsP_cons, kidsP_nil, kidsP_nil, List.append_nil, List.nil_append]; rfl
  | u :: t, v, j => by
    rw [List.cons_append, kidsP_cons, kidsP_cons, kidsP_snoc wd dp obj ks t v (j + 1), List.length_cons];rw [show j + 1 + t.length = j + (t.length + 1) by omega];simp only [List.append_assoc]
theorem kidsP_take (wd : Bool) (dp : Nat) (obj : Bool) (ks : List ByteArray) (vs : List JV) (i : Nat) (h : i < vs.length) : kidsP wd dp obj ks 0 (vs.take (i + 1)) = kidsP wd dp obj ks 0 (vs.take i) ++ ((if i = 0 then firstP obj else [44]) ++ lineP wd (dp + 1) ++ keyP wd obj ks i ++ vs[i].print wd (dp + 1)) := by
  have e : vs.take (i + 1) = vs.take i ++ [vs[i]] := by rw [List.take_add_one, List.getElem?_eq_getElem h]; rfl
  have hl : (vs.take i).length = i := by rw [List.length_take]; omega
  rw [e, kidsP_snoc, Nat.zero_add, hl]
theorem masses_take (vs : List JV) (i : Nat) (h : i < vs.length) : masses (vs.take i) + vs[i].mass <= masses vs := by
  have e : vs = vs.take i ++ vs[i] :: vs.drop (i + 1) := by rw [<-List.drop_eq_getElem_cons h, List.take_append_drop]
  have e2 := congrArg masses e;have e3 : ∀ a b, masses (a ++ b) = masses a + masses b := fun a b => by rw [masses_sum, masses_sum, masses_sum, List.map_append, List.sum_append]
  rw [e3, masses_cons] at e2;omega
def Prints (wd : Bool) (vs : List JV) : Prop := ∀ v ∈ vs, ∀ dp, dp + v.deepN <= 200 -> (v.print wd dp).length + 36500 <= v.mass * 80000
theorem kidsP_part (wd : Bool) (dp : Nat) (obj : Bool) (ks : List ByteArray) (vs : List JV) (hz : ∀ x ∈ ks, x.size <= 6000) (hp : Prints wd vs) (hd : dp + 1 + deepNs vs <= 200) (i : Nat) : (kidsP wd dp obj ks 0 (vs.take i)).length <= masses (vs.take i) * 80000 :=
  kidsP_len wd dp (by omega) obj ks hz _ 0 (fun v hv => hp v (List.mem_of_mem_take hv) (dp + 1) (by have := (deepNs_le vs (deepNs vs)).1 (Nat.le_refl _) v (List.mem_of_mem_take hv); omega))
theorem deepNs_at (vs : List JV) (i : Nat) (h : i < vs.length) : vs[i].deepN <= deepNs vs := (deepNs_le vs _).1 (Nat.le_refl _) _ (List.getElem_mem h)
theorem two_data (a b : UInt8) : (⟨#[a]⟩ ++ ⟨#[b]⟩ : ByteArray).data.toList = [a, b] := by simp [ByteArray.data_append]
theorem two_size (a b : UInt8) : (⟨#[a]⟩ ++ ⟨#[b]⟩ : ByteArray).size = 2 := by rw [ByteArray.size_append]; rfl
theorem nput_line (T : TypeId) (n : Nat) (W : World) (bs : List UInt8) (s : ByteArray) (x y : Nat) (h : PB T n W bs) (hl : bs.length + s.size + 30000 <= 140737488355328) : Calls Tryz.prog 195 #[.pointer (some ⟨n, 0, none⟩), .string s, .int .i64 x, .int .i64 y] W (PW T n W ((bs ++ s.data.toList) ++ lineP false y)) := by
  rw [show (bs ++ s.data.toList) ++ lineP false y = bs ++ s.data.toList from List.append_nil _];exact nput_any T n W bs s x y h (by omega)
@[go_sem] theorem meth_nput (n : Nat) (w : World) : Sem.run Tryz.prog (method 324 68 (.pointer (some ⟨n, 0, none⟩)) "tabularium/jenc.put") w = .ok (195, .pointer (some ⟨n, 0, none⟩)) w := by kernel_rfl
@[go_sem] theorem meth_ntext (n : Nat) (w : World) : Sem.run Tryz.prog (method 324 68 (.pointer (some ⟨n, 0, none⟩)) "tabularium/jenc.text") w = .ok (196, .pointer (some ⟨n, 0, none⟩)) w := by kernel_rfl
@[go_sem] theorem meth_nString (n : Nat) (w : World) : Sem.run Tryz.prog (method 324 68 (.pointer (some ⟨n, 0, none⟩)) "String") w = .ok (42, .pointer (some ⟨n, 0, none⟩)) w := by kernel_rfl
@[go_sem] theorem ahead_ntext (n : Nat) (w : World) : Sem.run Tryz.prog (nilAhead 324 68 (.pointer (some ⟨n, 0, none⟩)) "tabularium/jenc.text") w = .ok (some false) w := by kernel_rfl
def pvn (n : Nat) : Value := .iface 68 (.pointer (some ⟨n, 0, none⟩))
theorem wtext_n (n : Nat) (W : World) (bs : List UInt8) (s : ByteArray) (h : PB 74 n W bs) (hl : bs.length <= 110000000000000) (hs : s.size <= 6000) (T : Utf.Sizes W) (hv : Utf.badZ s.data.toList < 0) : Calls Tryz.prog 66 #[.iface 68 (.pointer (some ⟨n, 0, none⟩)), .string s] W (PW 74 n W (bs ++ Quote.qprint s.data.toList)) := by
  have hq := Quote.qprint_any s W (by omega) T hv;have HQ := hZz hq;have hql := qprint_len s.data.toList;have hsl : s.data.toList.length = s.size := by simp
  rw [hsl] at hql;have H0 : Hid (PB 74 n W bs) := h;have hn := h.lt;obtain ⟨r, hr⟩ : ∃ r : ByteArray, (⟨(Quote.qprint s.data.toList).toArray⟩ : ByteArray) = r := ⟨_, rfl⟩;have hrl : r.data.toList = Quote.qprint s.data.toList := by rw [<-hr]
  have hrs : r.size <= 36002 := by
    have : r.size = r.data.toList.length := by simp
    rw [this, hrl]; omega
  have HRL := hZz hrl;rw [hr] at HQ;clear hq h T hv hql hsl hr hrl;go_enter Tryz.func66, Tryz.ntmps66
  go_wp2_with fail
  refine (Calls.mono HQ.out ?_);rintro e w2 ⟨rfl, b2⟩;have B2 := hZz b2;clear b2;go_wp2_with fail
  refine (ptext_any 74 n w2 bs r (H0.out.stays B2.out) (by omega)).mono ?_;rintro e w3 hz;obtain ⟨rfl, K3, B3⟩ := hz.to;have B4 := hZz ((Keeps.of_below B2.out (by omega)).trans B3.out);clear hz;go_wp2_with fail
  go_end0
  exact ⟨rfl, by rw [<-HRL.out]; exact K3.out, B4.out⟩
def Wrn (w0 : World) (t : JV) : Prop := ∀ (ra : Raw) (dp : Nat) (bs : List UInt8) (w : World), IsV w0 (fun _ => True) ra t -> PB 74 w0.heap.size w bs -> Below w0.heap.size w0 w -> dp + t.deepN <= 150 -> bs.length + t.mass * 80000 <= 100000000000000 →
    Calls Tryz.prog 46 #[pvn w0.heap.size, ra.val, .int .i64 dp] w (PW 74 w0.heap.size w (bs ++ t.print false dp))
theorem wkids_n5 (w0 : World) (T0 : Utf.Sizes w0) (is ng : Bool) (d : ByteArray) (e : Int) (s : ByteArray) (ks : List ByteArray) (vs : List JV) (hz : ∀ x ∈ ks, x.size <= 6000) (hpl : Prints false vs)
    (IH : ∀ j (h : j < vs.length), Wrn w0 vs[j]) (hvl : vs.length <= 1000000) (ka va : Option Addr) (kc vc : Nat) (f : Nat -> Raw) (ht : IsTexts w0 (fun _ => True) ka ks)
    (hc : vs = [] ∨ ∃ b o, va = some ⟨b, o, none⟩ /\ b < w0.heap.size /\ ∀ i, i < vs.length -> CellsAt w0 b (o + i * 8) (f i)) (hi : ∀ i (h : i < vs.length), IsV w0 (fun _ => True) (f i) vs[i])
    (dp : Nat) (bs : List UInt8) (w : World) (hp : PB 74 w0.heap.size w bs) (hb : Below w0.heap.size w0 w) (hdp : dp + 1 + deepNs vs <= 150) (hbl : bs.length + (1 + masses vs) * 80000 <= 100000000000000) :
    Calls Tryz.prog 67 #[pvn w0.heap.size, (Raw.mk 5 is ng d e s ka ks.length kc va vs.length vc).val, .int .i64 dp, .string ⟨#[91]⟩, .string ⟨#[93]⟩] w (PW 74 w0.heap.size w (bs ++ (JV.mk 5 is ng d e s ks vs).print false dp)) := by
  have hn := hp.lt;have HIH := hZz IH;have HC := hZz hc;have HI := hZz hi;have HPL := hZz hpl;have HZ := hZz hz;have HT0 := hZz T0;have HBB := hZz hb;have HTX : Hid (IsTexts w0 (fun _ => True) ka ks) := ht;obtain ⟨w2, hw2, V2, B2⟩ := own_new w (Raw.mk 5 is ng d e s ka ks.length kc va vs.length vc);have V2 : Hid (w2.heap[w.heap.size]? = some (.cells (Raw.mk 5 is ng d e s ka ks.length kc va vs.length vc).arr 46 (0, 0))) := V2.out;have K2 : Hid (PB 74 w0.heap.size w2 bs) := hp.stays B2.out;have S2 : Hid (Keeps w0.heap.size w0.heap.size w w2) := Keeps.of_below B2.out (by omega);clear IH hc hi hpl hz T0 hb ht hp
  dsimp only at hw2
  unfold Raw.val pvn;obtain ⟨⟨x0, x1, x2, x3, x4, x5, x6, x7⟩, _⟩ := val_cells V2.out;by_cases h0 : vs.length = 0
  · have HF : Hid ((JV.mk 5 is ng d e s ks vs).print false dp = [91, 93]) := by
      rw [Hid, print_mk, if_neg (by decide), if_neg (by decide), if_neg (by decide), if_neg (by decide), if_pos h0]; rfl
    have q0 : ((vs.length : Int) == 0) = true := by rw [beq_iff_eq]; omega
    clear hdp h0;go_enter Tryz.func67, Tryz.ntmps67
    go_wp2_with fail
    refine (ptext_any 74 w0.heap.size w2 bs _ K2.out (by rw [two_size]; omega)).mono ?_;rintro e w3 hz;obtain ⟨rfl, K3, S3⟩ := hz.to;clear hz;go_wp2_with fail
    go_end0
    exact ⟨rfl, by rw [HF.out]; have := K3.out; rw [two_data] at this; exact this, S2.out.trans S3.out⟩
  have q0 : ((vs.length : Int) == 0) = false := by rw [beq_eq_false_iff_ne]; omega
  have HF : Hid ((JV.mk 5 is ng d e s ks vs).print false dp = kidsP false dp false ks 0 vs ++ lineP false dp ++ lastP false) := by
    rw [Hid, print_mk, if_neg (by decide), if_neg (by decide), if_neg (by decide), if_neg (by decide), if_neg h0]; rfl
  have hne : vs ≠ [] := fun e => h0 (by rw [e]; rfl);obtain ⟨g, o, rfl, hg, hcs⟩ := HC.out.resolve_left hne;have HCS := hZz hcs;clear HC hcs hne;go_enter Tryz.func67, Tryz.ntmps67
  go_wp2_with fail
  clear x0 x1 x2 x3 x4 x5 x6 x7 hw2;have hK0 : Hid (PB 74 w0.heap.size w2 (bs ++ kidsP false dp false ks 0 (vs.take 0))) := by rw [List.take_zero, kidsP_nil, List.append_nil]; exact K2.out
  go_loopw [10, 26] (fun p10 p26 wr => ∃ (i : Nat) (ah : ByteArray), p26 = .int .i64 i /\ i <= vs.length /\ p10 = .string ah /\ Hid (ah.data.toList = if i = 0 then firstP false else [44]) /\ Hid (PB 74 w0.heap.size wr (bs ++ kidsP false dp false ks 0 (vs.take i))) /\ Hid (Keeps w0.heap.size w0.heap.size w2 wr)) (fun _ p _ => vs.length - (intOf p).toNat)
  case atStart => exact ⟨0, ⟨#[91]⟩, rfl, Nat.zero_le _, rfl, by rw [Hid]; rfl, hK0.out, Keeps.refl _ _ _⟩
  case round =>
    obtain ⟨i, ah, rfl, hi, rfl, hah, hK, hS⟩ := hrel;have VR := keeps_val hS.out V2 hn;have hnr := hK.out.lt;by_cases hlt : i < vs.length
    · have Bw : Hid (Below w0.heap.size w0 wr) := (HBB.out.trans S2.out.below).trans hS.out.below;have K1 := hZz ((HCS.out i hlt).below hg Bw.out);have I1 := hZz (HI.out i hlt);have htk := kidsP_take false dp false ks vs i hlt;have hpt := kidsP_part false dp false ks vs HZ.out HPL.out (by omega) i;have hmt := masses_take vs i hlt;have hdi := deepNs_at vs i hlt;have hlp := lineP_len false (dp + 1);have hkp := keyP_len false false ks HZ.out i;have hahs : ah.size = 1 := by
        have e1 := congrArg List.length hah.out;have e2 : ah.data.toList.length = ah.size := by simp
        have e3 : (if i = 0 then firstP false else [44]).length = 1 := by split; exact firstP_len _; rfl
        omega
      have hah1 : ah.size <= 1 := by omega
      obtain ⟨pre, hpre⟩ : ∃ pre, bs ++ kidsP false dp false ks 0 (vs.take i) = pre := ⟨_, rfl⟩;have hprl : pre.length <= bs.length + masses (vs.take i) * 80000 := by rw [<-hpre, List.length_append]; omega
      have hprb : pre.length + vs[i].mass * 80000 + 80000 <= 100000000000000 := by omega
      have HTK : Hid (bs ++ kidsP false dp false ks 0 (vs.take (i + 1)) = (((pre ++ ah.data.toList) ++ lineP false (dp + 1)) ++ keyP false false ks i) ++ vs[i].print false (dp + 1)) := by
        rw [Hid, htk, <-hpre, hah.out]; simp only [List.append_assoc]
      rw [hpre] at hK;obtain ⟨w4, hw4, V4, B4⟩ := own_new wr (f i);have hK4 := hZz (hK.out.stays B4.out);have hS4 := hZz (keeps_grew hS.out B4.out (by omega));have VR4 := hst VR B4
      have hal : ah.data.toList.length <= 1 := by have : ah.data.toList.length = ah.size := (by simp); omega
      have hcall := HIH.out i hlt;generalize f i = x at *;have K1c : CellsAt wr g (o + i * 8) x := K1.out;obtain ⟨u0, u1, u2, u3, u4, u5, u6, u7⟩ := K1c.eight;have V4 : Hid (w4.heap[wr.heap.size]? = some (.cells x.arr 46 (0, 0))) := V4.out;have HCL := hZz hcall;have hlw : w.heap.size < wr.heap.size := heap_lt VR.out;clear K1 K1c htk hpt hmt hahs hpre hprl hcall hK VR hS;generalize vs[i] = vi at *;go_wp2_with fail
      clear hw4 u0 u1 u2 u3 u4 u5 u6 u7;refine (nput_line 74 w0.heap.size w4 pre ah 0 (dp + 1) hK4.out (by omega)).mono ?_;rintro e w5 hz;obtain ⟨rfl, K5, S5⟩ := hz.to;have V5 := keeps_val S5.out V4 hnr;have VR5 := keeps_val S5.out VR4 hn;have S25 := hZz (hS4.out.trans S5.out);have h5l : ((pre ++ ah.data.toList) ++ lineP false (dp + 1)).length <= pre.length + 500 := by simp only [List.length_append]; omega
      have hn5 := K5.out.lt;clear hz hK4 hS4 V4 VR4 S5;generalize ((pre ++ ah.data.toList) ++ lineP false (dp + 1)) = p5 at *;obtain ⟨⟨x0, x1, x2, x3, x4, x5, x6, x7⟩, _⟩ := val_cells VR5.out;have K7 : Hid (PB 74 w0.heap.size w5 (p5 ++ keyP false false ks i)) := by
        rw [Hid, show keyP false false ks i = [] from rfl, List.append_nil]; exact K5.out
      have hp7 : (p5 ++ keyP false false ks i).length <= p5.length + 36004 := by rw [List.length_append]; omega
      have V7 := V5;have S27 := S25;have hn7 := hn5;clear V5 S25 K5 hn5;generalize p5 ++ keyP false false ks i = p7 at *;have Bw7 : Hid (Below w0.heap.size w0 w5) := (HBB.out.trans S2.out.below).trans S27.out.below;have hcl := HCL.out x (dp + 1) p7 w5 I1.out K7.out Bw7.out (by omega) (by omega);have HCL2 := hZz hcl;unfold Raw.val pvn at HCL2;obtain ⟨⟨y0, y1, y2, y3, y4, y5, y6, y7⟩, _⟩ := val_cells V7.out;clear hcl HCL;go_wp2_with fail
      refine (Calls.mono HCL2.out ?_);rintro e w8 hz;obtain ⟨rfl, K8, S8⟩ := hz.to;have K9 : Hid (PB 74 w0.heap.size w8 (bs ++ kidsP false dp false ks 0 (vs.take (i + 1)))) := by rw [Hid, HTK.out]; exact K8.out
      have S9 := hZz (S27.out.trans S8.out);clear hz;go_wp2_with fail
      go_roundw
      case rel => exact ⟨i + 1, ⟨#[44]⟩, by go_num, by omega, rfl, by rw [Hid, if_neg (by omega)], K9.out, S9.out⟩
      case measure => simp [intOf]; omega
    · obtain rfl : i = vs.length := by omega
      rw [List.take_length] at hK;have hpt := kidsP_part false dp false ks vs HZ.out HPL.out (by omega) vs.length;rw [List.take_length] at hpt;have hprl : (bs ++ kidsP false dp false ks 0 vs).length <= bs.length + masses vs * 80000 := by rw [List.length_append]; omega
      have hll := lineP_len false dp;have HF2 : Hid (bs ++ (JV.mk 5 is ng d e s ks vs).print false dp = ((((bs ++ kidsP false dp false ks 0 vs) ++ (⟨#[]⟩ : ByteArray).data.toList) ++ lineP false dp) ++ (⟨#[93]⟩ : ByteArray).data.toList)) := by
        rw [Hid, HF.out]; simp only [List.append_assoc]; rfl
      clear hpt HF;generalize bs ++ kidsP false dp false ks 0 vs = pre at *;go_wp2_with fail
      refine (nput_line 74 w0.heap.size wr pre ⟨#[]⟩ 0 dp hK.out (by have : (⟨#[]⟩ : ByteArray).size = 0 := rfl; omega)).mono ?_;rintro e w5 hz;obtain ⟨rfl, K5, S5⟩ := hz.to;have S25 := hZz (hS.out.trans S5.out);have h5l : ((pre ++ (⟨#[]⟩ : ByteArray).data.toList) ++ lineP false dp).length <= pre.length + 500 := by
        have : (⟨#[]⟩ : ByteArray).data.toList = [] := rfl;rw [this, List.append_nil, List.length_append]; omega
      clear hz S5 hS;generalize ((pre ++ (⟨#[]⟩ : ByteArray).data.toList) ++ lineP false dp) = p5 at *;go_wp2_with fail
      refine (ptext_any 74 w0.heap.size w5 p5 ⟨#[93]⟩ K5.out (by have : (⟨#[93]⟩ : ByteArray).size = 1 := rfl; omega)).mono ?_;rintro e w6 hz;obtain ⟨rfl, K6, S6⟩ := hz.to;clear hz;go_wp2_with fail
      go_end0
      exact ⟨rfl, by rw [HF2.out]; exact K6.out, S2.out.trans (S25.out.trans S6.out)⟩
theorem wkids_n6 (w0 : World) (T0 : Utf.Sizes w0) (is ng : Bool) (d : ByteArray) (e : Int) (s : ByteArray) (ks : List ByteArray) (vs : List JV) (hkl : ks.length = vs.length) (hv : ∀ x ∈ ks, Utf.badZ x.data.toList < 0) (hz : ∀ x ∈ ks, x.size <= 6000) (hpl : Prints false vs)
    (IH : ∀ j (h : j < vs.length), Wrn w0 vs[j]) (hvl : vs.length <= 1000000) (ka va : Option Addr) (kc vc : Nat) (f : Nat -> Raw) (ht : IsTexts w0 (fun _ => True) ka ks)
    (hc : vs = [] ∨ ∃ b o, va = some ⟨b, o, none⟩ /\ b < w0.heap.size /\ ∀ i, i < vs.length -> CellsAt w0 b (o + i * 8) (f i)) (hi : ∀ i (h : i < vs.length), IsV w0 (fun _ => True) (f i) vs[i])
    (dp : Nat) (bs : List UInt8) (w : World) (hp : PB 74 w0.heap.size w bs) (hb : Below w0.heap.size w0 w) (hdp : dp + 1 + deepNs vs <= 150) (hbl : bs.length + (1 + masses vs) * 80000 <= 100000000000000) :
    Calls Tryz.prog 67 #[pvn w0.heap.size, (Raw.mk 6 is ng d e s ka ks.length kc va vs.length vc).val, .int .i64 dp, .string ⟨#[123]⟩, .string ⟨#[125]⟩] w (PW 74 w0.heap.size w (bs ++ (JV.mk 6 is ng d e s ks vs).print false dp)) := by
  have hn := hp.lt;have HIH := hZz IH;have HC := hZz hc;have HI := hZz hi;have HPL := hZz hpl;have HZ := hZz hz;have HT0 := hZz T0;have HBB := hZz hb;have HTX : Hid (IsTexts w0 (fun _ => True) ka ks) := ht;obtain ⟨w2, hw2, V2, B2⟩ := own_new w (Raw.mk 6 is ng d e s ka ks.length kc va vs.length vc);have V2 : Hid (w2.heap[w.heap.size]? = some (.cells (Raw.mk 6 is ng d e s ka ks.length kc va vs.length vc).arr 46 (0, 0))) := V2.out;have K2 : Hid (PB 74 w0.heap.size w2 bs) := hp.stays B2.out;have S2 : Hid (Keeps w0.heap.size w0.heap.size w w2) := Keeps.of_below B2.out (by omega);have HKL := hZz hkl;have HV := hZz hv;clear IH hc hi hpl hz T0 hb ht hp hkl hv
  dsimp only at hw2
  unfold Raw.val pvn;obtain ⟨⟨x0, x1, x2, x3, x4, x5, x6, x7⟩, _⟩ := val_cells V2.out;by_cases h0 : vs.length = 0
  · have HF : Hid ((JV.mk 6 is ng d e s ks vs).print false dp = [123, 125]) := by
      rw [Hid, print_mk, if_neg (by decide), if_neg (by decide), if_neg (by decide), if_neg (by decide), if_pos h0]; rfl
    have q0 : ((vs.length : Int) == 0) = true := by rw [beq_iff_eq]; omega
    clear hdp h0;go_enter Tryz.func67, Tryz.ntmps67
    go_wp2_with fail
    refine (ptext_any 74 w0.heap.size w2 bs _ K2.out (by rw [two_size]; omega)).mono ?_;rintro e w3 hz;obtain ⟨rfl, K3, S3⟩ := hz.to;clear hz;go_wp2_with fail
    go_end0
    exact ⟨rfl, by rw [HF.out]; have := K3.out; rw [two_data] at this; exact this, S2.out.trans S3.out⟩
  have q0 : ((vs.length : Int) == 0) = false := by rw [beq_eq_false_iff_ne]; omega
  have HF : Hid ((JV.mk 6 is ng d e s ks vs).print false dp = kidsP false dp true ks 0 vs ++ lineP false dp ++ lastP true) := by
    rw [Hid, print_mk, if_neg (by decide), if_neg (by decide), if_neg (by decide), if_neg (by decide), if_neg h0]; rfl
  have hne : vs ≠ [] := fun e => h0 (by rw [e]; rfl);obtain ⟨g, o, rfl, hg, hcs⟩ := HC.out.resolve_left hne;have HCS := hZz hcs;clear HC hcs hne;go_enter Tryz.func67, Tryz.ntmps67
  go_wp2_with fail
  clear x0 x1 x2 x3 x4 x5 x6 x7 hw2;have hK0 : Hid (PB 74 w0.heap.size w2 (bs ++ kidsP false dp true ks 0 (vs.take 0))) := by rw [List.take_zero, kidsP_nil, List.append_nil]; exact K2.out
  go_loopw [10, 26] (fun p10 p26 wr => ∃ (i : Nat) (ah : ByteArray), p26 = .int .i64 i /\ i <= vs.length /\ p10 = .string ah /\ Hid (ah.data.toList = if i = 0 then firstP true else [44]) /\ Hid (PB 74 w0.heap.size wr (bs ++ kidsP false dp true ks 0 (vs.take i))) /\ Hid (Keeps w0.heap.size w0.heap.size w2 wr)) (fun _ p _ => vs.length - (intOf p).toNat)
  case atStart => exact ⟨0, ⟨#[123]⟩, rfl, Nat.zero_le _, rfl, by rw [Hid]; rfl, hK0.out, Keeps.refl _ _ _⟩
  case round =>
    obtain ⟨i, ah, rfl, hi, rfl, hah, hK, hS⟩ := hrel;have VR := keeps_val hS.out V2 hn;have hnr := hK.out.lt;by_cases hlt : i < vs.length
    · have Bw : Hid (Below w0.heap.size w0 wr) := (HBB.out.trans S2.out.below).trans hS.out.below;have K1 := hZz ((HCS.out i hlt).below hg Bw.out);have I1 := hZz (HI.out i hlt);have htk := kidsP_take false dp true ks vs i hlt;have hpt := kidsP_part false dp true ks vs HZ.out HPL.out (by omega) i;have hmt := masses_take vs i hlt;have hdi := deepNs_at vs i hlt;have hlp := lineP_len false (dp + 1);have hkp := keyP_len false true ks HZ.out i;have hahs : ah.size = 1 := by
        have e1 := congrArg List.length hah.out;have e2 : ah.data.toList.length = ah.size := by simp
        have e3 : (if i = 0 then firstP true else [44]).length = 1 := by split; exact firstP_len _; rfl
        omega
      have hah1 : ah.size <= 1 := by omega
      obtain ⟨pre, hpre⟩ : ∃ pre, bs ++ kidsP false dp true ks 0 (vs.take i) = pre := ⟨_, rfl⟩;have hprl : pre.length <= bs.length + masses (vs.take i) * 80000 := by rw [<-hpre, List.length_append]; omega
      have hprb : pre.length + vs[i].mass * 80000 + 80000 <= 100000000000000 := by omega
      have HTK : Hid (bs ++ kidsP false dp true ks 0 (vs.take (i + 1)) = (((pre ++ ah.data.toList) ++ lineP false (dp + 1)) ++ keyP false true ks i) ++ vs[i].print false (dp + 1)) := by
        rw [Hid, htk, <-hpre, hah.out]; simp only [List.append_assoc]
      rw [hpre] at hK;obtain ⟨w4, hw4, V4, B4⟩ := own_new wr (f i);have hK4 := hZz (hK.out.stays B4.out);have hS4 := hZz (keeps_grew hS.out B4.out (by omega));have VR4 := hst VR B4
      have hal : ah.data.toList.length <= 1 := by have : ah.data.toList.length = ah.size := (by simp); omega
      have hcall := HIH.out i hlt;generalize f i = x at *;have K1c : CellsAt wr g (o + i * 8) x := K1.out;obtain ⟨u0, u1, u2, u3, u4, u5, u6, u7⟩ := K1c.eight;have V4 : Hid (w4.heap[wr.heap.size]? = some (.cells x.arr 46 (0, 0))) := V4.out;have HCL := hZz hcall;have hlw : w.heap.size < wr.heap.size := heap_lt VR.out;clear K1 K1c htk hpt hmt hahs hpre hprl hcall hK VR hS;generalize vs[i] = vi at *;go_wp2_with fail
      clear hw4 u0 u1 u2 u3 u4 u5 u6 u7;refine (nput_line 74 w0.heap.size w4 pre ah 0 (dp + 1) hK4.out (by omega)).mono ?_;rintro e w5 hz;obtain ⟨rfl, K5, S5⟩ := hz.to;have V5 := keeps_val S5.out V4 hnr;have VR5 := keeps_val S5.out VR4 hn;have S25 := hZz (hS4.out.trans S5.out);have h5l : ((pre ++ ah.data.toList) ++ lineP false (dp + 1)).length <= pre.length + 500 := by simp only [List.length_append]; omega
      have hn5 := K5.out.lt;clear hz hK4 hS4 V4 VR4 S5;generalize ((pre ++ ah.data.toList) ++ lineP false (dp + 1)) = p5 at *;obtain ⟨⟨x0, x1, x2, x3, x4, x5, x6, x7⟩, _⟩ := val_cells VR5.out;have hki : i < ks.length := by rw [HKL.out]; exact hlt
      have hkne : ks ≠ [] := fun e => by rw [e] at hki; simp at hki
      obtain ⟨kb, ko, rfl, _, hkb, hkc⟩ := HTX.out.resolve_left hkne;have Bw5 : Hid (Below w0.heap.size w0 w5) := (HBB.out.trans S2.out.below).trans S25.out.below;have g2 : w5.cell? ⟨kb, ko + i, none⟩ = some (.string ks[i]) := (World.cell?_of_block (w := w0) (a := ⟨kb, ko + i, none⟩) (Bw5.out.block kb hkb)).trans (hkc i hki);have hkP : keyP false true ks i = Quote.qprint ks[i].data.toList ++ colonP false := by
        have e2 : ks.getD i ⟨#[]⟩ = ks[i] := by rw [List.getD_eq_getElem?_getD, List.getElem?_eq_getElem hki]; rfl
        unfold keyP; rw [e2]; rfl
      have HKP := hZz hkP;have hkz := HZ.out ks[i] (List.getElem_mem hki);have hkv := HV.out ks[i] (List.getElem_mem hki);have hql := qprint_len ks[i].data.toList;have hkt : ks[i].data.toList.length = ks[i].size := by simp
      rw [hkt] at hql;have hT5 := hZz (HT0.out.stays Bw5.out);have HKV := hZz hkv;have hks : ks.length <= 1000000 := by rw [HKL.out]; exact hvl
      clear hkne hkc hkP hkv hkt;generalize ks[i] = kk at *;go_wp2_with fail
      refine (wtext_n w0.heap.size w5 p5 kk K5.out (by omega) hkz hT5.out HKV.out).mono ?_;rintro e w6 hz;obtain ⟨rfl, K6, S6⟩ := hz.to;have V6 := keeps_val S6.out V5 hnr;have S26 := hZz (S25.out.trans S6.out);have hn6 := K6.out.lt;have h6l : (p5 ++ Quote.qprint kk.data.toList).length <= p5.length + 36002 := by rw [List.length_append]; omega
      clear hz V5 VR5 S25 S6 x0 x1 x2 x3 x4 x5 x6 x7 g2 hT5 HKV;generalize hp6 : p5 ++ Quote.qprint kk.data.toList = p6 at *;have HP6 := hZz hp6;clear hp6;go_wp2_with fail
      refine (nput_any 74 w0.heap.size w6 p6 ⟨#[58]⟩ _ _ K6.out (by have : (⟨#[58]⟩ : ByteArray).size = 1 := rfl; omega)).mono ?_;rintro e w7 hz;obtain ⟨rfl, K7, S7⟩ := hz.to;have V7 := keeps_val S7.out V6 hnr;have S27 := hZz (S26.out.trans S7.out);have hn7 := K7.out.lt;have K7 : Hid (PB 74 w0.heap.size w7 (p5 ++ keyP false true ks i)) := by
        rw [Hid, HKP.out, <-List.append_assoc, HP6.out];exact K7.out
      have hp7 : (p5 ++ keyP false true ks i).length <= p5.length + 36004 := by rw [List.length_append]; omega
      clear hz V6 S26 S7 K6 h6l HP6;generalize p5 ++ keyP false true ks i = p7 at *;have Bw7 : Hid (Below w0.heap.size w0 w7) := (HBB.out.trans S2.out.below).trans S27.out.below;have hcl := HCL.out x (dp + 1) p7 w7 I1.out K7.out Bw7.out (by omega) (by omega);have HCL2 := hZz hcl;unfold Raw.val pvn at HCL2;obtain ⟨⟨y0, y1, y2, y3, y4, y5, y6, y7⟩, _⟩ := val_cells V7.out;clear hcl HCL;go_wp2_with fail
      refine (Calls.mono HCL2.out ?_);rintro e w8 hz;obtain ⟨rfl, K8, S8⟩ := hz.to;have K9 : Hid (PB 74 w0.heap.size w8 (bs ++ kidsP false dp true ks 0 (vs.take (i + 1)))) := by rw [Hid, HTK.out]; exact K8.out
      have S9 := hZz (S27.out.trans S8.out);clear hz;go_wp2_with fail
      go_roundw
      case rel => exact ⟨i + 1, ⟨#[44]⟩, by go_num, by omega, rfl, by rw [Hid, if_neg (by omega)], K9.out, S9.out⟩
      case measure => simp [intOf]; omega
    · obtain rfl : i = vs.length := by omega
      rw [List.take_length] at hK;have hpt := kidsP_part false dp true ks vs HZ.out HPL.out (by omega) vs.length;rw [List.take_length] at hpt;have hprl : (bs ++ kidsP false dp true ks 0 vs).length <= bs.length + masses vs * 80000 := by rw [List.length_append]; omega
      have hll := lineP_len false dp;have HF2 : Hid (bs ++ (JV.mk 6 is ng d e s ks vs).print false dp = ((((bs ++ kidsP false dp true ks 0 vs) ++ (⟨#[]⟩ : ByteArray).data.toList) ++ lineP false dp) ++ (⟨#[125]⟩ : ByteArray).data.toList)) := by
        rw [Hid, HF.out]; simp only [List.append_assoc]; rfl
      clear hpt HF;generalize bs ++ kidsP false dp true ks 0 vs = pre at *;go_wp2_with fail
      refine (nput_line 74 w0.heap.size wr pre ⟨#[]⟩ 0 dp hK.out (by have : (⟨#[]⟩ : ByteArray).size = 0 := rfl; omega)).mono ?_;rintro e w5 hz;obtain ⟨rfl, K5, S5⟩ := hz.to;have S25 := hZz (hS.out.trans S5.out);have h5l : ((pre ++ (⟨#[]⟩ : ByteArray).data.toList) ++ lineP false dp).length <= pre.length + 500 := by
        have : (⟨#[]⟩ : ByteArray).data.toList = [] := rfl;rw [this, List.append_nil, List.length_append]; omega
      clear hz S5 hS;generalize ((pre ++ (⟨#[]⟩ : ByteArray).data.toList) ++ lineP false dp) = p5 at *;go_wp2_with fail
      refine (ptext_any 74 w0.heap.size w5 p5 ⟨#[125]⟩ K5.out (by have : (⟨#[125]⟩ : ByteArray).size = 1 := rfl; omega)).mono ?_;rintro e w6 hz;obtain ⟨rfl, K6, S6⟩ := hz.to;clear hz;go_wp2_with fail
      go_end0
      exact ⟨rfl, by rw [HF2.out]; exact K6.out, S2.out.trans (S25.out.trans S6.out)⟩
end Go.Proofs.YtfdjolfenghmaaaGreatDoor.Jdec
