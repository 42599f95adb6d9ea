/- addr.Print. -/
import Derived.Test.YtfdjolfenghmaaaGreatDoorWJdecE
import Derived.Test.YtfdjolfenghmaaaGreatDoorWAdK
import Derived.Ground.SlgmProg
import Derived.Shelf.SortM.Plain
import Derived.Shelf.SortM.SortNone
import Derived.Laws.StructEq
set_option linter.unusedVariables false
set_option linter.unusedSimpArgs false
set_option maxRecDepth 100000
set_option maxHeartbeats 4000000
namespace Go.Proofs.YtfdjolfenghmaaaGreatDoor.Addr
open Go.RowKit Go.Shelf Utf Strs Lex Quote
open Jdec (IsTexts)
structure TabsA (w : World) : Prop where
  t : Tabs w
  p : Jdec.Pow10 w
theorem TabsA.stays {w w' : World} (T : TabsA w) (h : Below w.heap.size w w') : TabsA w' := ⟨T.t.stays h, T.p.stays h⟩
theorem list_kept (W : World) (n : Nat) (hn : n < W.heap.size) (ks : List ByteArray) (cs : Array Value) (hcs : cs = (ks.map Value.string).toArray) : ∃ w1, W.alloc (.cells cs 9) = w1 /\ Hid (∀ W', Keeps n n w1 W' -> IsTexts W' (fun _ => True) (some ⟨W.heap.size, 0, none⟩) ks) /\ Hid (Keeps n n W w1) := by
  refine ⟨_, rfl, fun W' hk => .inr ⟨W.heap.size, 0, rfl, trivial, ?_, fun i hi => ?_⟩, (Keeps.refl _ _ _).alloc (by omega) _⟩
  · have := hk.below.size;simp at this
    omega
  · have hb := heap_alloc_new W (.cells cs 9 (0, 0));have hw := (hk.block W.heap.size (by simp) (by omega) (fun c fr e => by rw [hb] at e; injection e with e; injection e with _ e _; exact absurd e (by decide))).trans hb;rw [cell_of hw (0 + i), Nat.zero_add, hcs];simp [hi]
theorem bb_stays {n : Nat} {W W' : World} {bs : List UInt8} (h : BB n W bs) (hb : Below W.heap.size W W') : BB n W' bs := by
  obtain ⟨cs, h⟩ := h;exact ⟨cs, h.stays hb⟩
theorem join_new (n : Nat) (bs : List UInt8) (ks : List ByteArray) (k : Nat) (hkl : ks.length = k) (w w1 : World) (hB : BB n w bs) (hn : n < w.heap.size) (hb : Below w.heap.size w w1)
    (ht : ∀ W', Keeps n n w1 W' -> IsTexts W' (fun _ => True) (some ⟨w.heap.size, 0, none⟩) ks) (hk : k <= 3000) (hl : bs.length + (textsL ks).length <= 1000000) (hkk : Keeps n n w w1) :
    Calls Tryz.prog 55 #[.pointer (some ⟨n, 0, none⟩), .slice (some ⟨w.heap.size, 0, none⟩) k k] w1 fun e w' => e = .returned (.tuple #[]) /\ BB n w' (bs ++ textsL ks) /\ Keeps n n w w' := by
  subst hkl;refine (join_any n bs ks _ ks.length w1 (bb_stays hB hb) (by have := hb.size; omega) ht hk hl).mono ?_;rintro e w' ⟨h1, h2, h3⟩;exact ⟨h1, h2, hkk.trans h3⟩
theorem path_take {ks : List ByteArray} {i : Nat} (h : i < ks.length) : pathL (ks.take (i + 1)) = pathL (ks.take i) ++ modL ks[i] := by
  unfold pathL;rw [List.take_add_one, List.getElem?_eq_getElem h, List.flatMap_append];simp
theorem path_le {ks : List ByteArray} {i : Nat} (h : i < ks.length) : (pathL (ks.take i)).length + (modL ks[i]).length <= (pathL ks).length := by
  have h1 := path_take h;have h2 : pathL ks = pathL (ks.take (i + 1)) ++ pathL (ks.drop (i + 1)) := by
    unfold pathL;rw [<-List.flatMap_append, List.take_append_drop]
  rw [h2, h1];simp only [List.length_append]
  omega
theorem texts_mod (k : ByteArray) : textsL [⟨#[109, 111, 100, 117, 108, 101]⟩, ⟨#[46]⟩, k, ⟨#[46]⟩] = modL k := by
  simp [textsL, modL, moduleL]
theorem texts_three (a b c : ByteArray) : textsL [a, b, c] = a.data.toList ++ (b.data.toList ++ c.data.toList) := by simp [textsL]
theorem path_size : ∀ (ks : List ByteArray) (n : Nat), (∀ x ∈ ks, x.size <= n) -> (pathL ks).length <= ks.length * (n + 8) := by
  intro ks n
  induction ks with
  | nil => intro _; simp [pathL]
  | cons k ks ih =>
    intro h
    have h1 := ih (fun x hx => h x (by simp [hx]));have h2 := h k (by simp);have h3 : pathL (k :: ks) = modL k ++ pathL ks := rfl;have h4 : (modL k).length = k.size + 8 := by simp [modL, moduleL]
    rw [h3, List.length_append, h4, List.length_cons, Nat.add_mul];omega
theorem print_any (a : Adr) (pa : Option Addr) (pc : Nat) (A : Nat -> Prop) (w : World) (ht : IsTexts w A pa a.path) (hl : a.path.length <= 3000) (hs : ∀ x ∈ a.path, x.size <= 3000) (h1 : a.type.size <= 3000) (h2 : a.name.size <= 3000) (h3 : a.word.size <= 3000) (h4 : a.place < 18446744073709551616) (T : TabsA w) : Calls Tryz.prog 39 #[wordsA pa pc a] w fun e w' => e = .returned (.string ⟨(printA a).toArray⟩) /\ Below w.heap.size w w' := by
  obtain ⟨w1, hw1, V1, B1⟩ := adr_new w pa pc a;obtain ⟨x0, x1, x2, x3, x4, x5⟩ := adr_cells V1.out;have hl1 := heap_lt V1.out;have hr := right_any a pa pc A w1 (ht.turn (Jdec.Turn.below B1.out)) hl (fun x hx => Nat.le_trans (hs x hx) (by omega)) (by omega) (by omega) (by omega) (T.t.stays B1.out);have HR := hZz hr;have HTX : Hid (IsTexts w A pa a.path) := ht;have HT := hZz T;have HS := hZz hs;obtain ⟨r, hrr⟩ : ∃ r, rightA a = r := ⟨_, rfl⟩;rw [hrr] at HR;have HRR := hZz hrr;unfold wordsA at HR ⊢;clear hr ht T hrr hs;go_enter Tryz.func39, Tryz.ntmps39
  go_wp2_with fail
  refine (Calls.mono HR.out ?_);rintro z w2 ⟨rfl, hb2⟩;have B2 : Hid (Below w.heap.size w w2) := B1.out.trans (hb2.mono (by omega));have V2 : Hid (w2.heap[w.heap.size]? = some (.cells (arrA pa pc a) 35 (0, 0))) := (hb2.block _ hl1).trans V1.out;have hl2 := heap_lt V2.out;clear hb2 x0 x1 x2 x3 x4 x5 hw1 HR;obtain ⟨x0, x1, x2, x3, x4, x5⟩ := adr_cells V2.out;cases r
  · go_wp2_with fail
    go_ret
    exact ⟨by rw [printA, HRR.out]; rfl, B2.out⟩
  have HPR : Hid (printA a = printR a) := by rw [Hid, printA, HRR.out]; rfl
  have P := right_parts HRR.out;have hp20 := P.len;have hpl := path_size a.path 3000 HS.out;have hpl2 : (pathL a.path).length <= 60160 := Nat.le_trans hpl (by have := Nat.mul_le_mul_right (3000 + 8) hp20; omega);have HPL := hZz hpl2;obtain ⟨w3, hw3, K3, B3⟩ := bb_new w2;have HW3 := hZz hw3;obtain ⟨n, hn⟩ : ∃ n, w2.heap.size = n := ⟨_, rfl⟩;have HN := hZz hn;have hbn := B2.out.size;rw [hn] at K3 B3;have V3 : Hid (w3.heap[w.heap.size]? = some (.cells (arrA pa pc a) 35 (0, 0))) := (B3.out.block _ (by omega)).trans V2.out;have B3w : Hid (Below w.heap.size w w3) := B2.out.trans (B3.out.mono (by omega));have hn3 : n < w3.heap.size := by rw [<-hw3, <-hn]; simp
  have HTX3 : Hid (IsTexts w3 A pa a.path) := HTX.out.turn (Jdec.Turn.below (B2.out.trans (B3.out.mono (by omega))));have hlw : w.heap.size < n := by omega
  clear hpl hpl2 P x0 x1 x2 x3 x4 x5;obtain ⟨x0, x1, x2, x3, x4, x5⟩ := adr_cells V3.out;have hw3' : w2.alloc (.cells #[.pointer none, .slice none 0 0] 72) = w3 := hw3;clear hw3;have HTX3' : Hid (∀ w', Below n w3 w' -> IsTexts w' A pa a.path) := fun w' hb => HTX.out.turn (Jdec.Turn.below (B3w.out.trans (hb.mono (by omega))));go_wp2_with fail
  clear hn hw3' x0 x1 x2 x3 x4 x5
  go_loopw [14] (fun p wr => ∃ i : Nat, p = .int .i64 i /\ i <= a.path.length /\ Hid (BB n wr (pathL (a.path.take i))) /\ Hid (Keeps n n w3 wr)) (fun p _ => a.path.length - (intOf p).toNat)
  case atStart => exact ⟨0, rfl, Nat.zero_le _, K3.out, Keeps.refl _ _ _⟩
  case round =>
    obtain ⟨i, rfl, hi, hR, hK⟩ := hrel;have hsz := hK.out.below.size;have Vr : Hid (wr.heap[w.heap.size]? = some (.cells (arrA pa pc a) 35 (0, 0))) := (hK.out.below.block _ hlw).trans V3.out;obtain ⟨x0, x1, x2, x3, x4, x5⟩ := adr_cells Vr.out;by_cases hlt : i < a.path.length
    · obtain ⟨b, o, rfl, _, hb, hc⟩ := (HTX3'.out wr hK.out.below).resolve_left (by intro e; rw [e] at hlt; simp at hlt);have k0 := hc i hlt;have hle := path_le hlt;obtain ⟨wa, hwa, KT, KK⟩ := list_kept wr n (by omega) [⟨#[109, 111, 100, 117, 108, 101]⟩, ⟨#[46]⟩, a.path[i], ⟨#[46]⟩] #[.string ⟨#[109, 111, 100, 117, 108, 101]⟩, .string ⟨#[46]⟩, .string a.path[i], .string ⟨#[46]⟩] rfl;have hcall := join_new n (pathL (a.path.take i)) [⟨#[109, 111, 100, 117, 108, 101]⟩, ⟨#[46]⟩, a.path[i], ⟨#[46]⟩] 4 rfl wr wa hR.out (by omega) (by rw [<-hwa]; exact (Below.refl _ _).alloc (Nat.le_refl _) _) KT.out (by omega) (by rw [texts_mod]; have := HPL.out; omega) KK.out;rw [texts_mod, <-path_take hlt] at hcall;have HCL := hZz hcall;obtain ⟨x, hx⟩ : ∃ x, a.path[i] = x := ⟨_, rfl⟩;rw [hx] at hwa k0;clear hcall hc hx hle;go_wp2_with fail
      refine (Calls.mono HCL.out ?_);rintro z w5 ⟨rfl, hb5, hk5⟩;have K5 : Hid (Keeps n n w3 w5) := hK.out.trans hk5;have R5 := hZz hb5;clear hb5 hk5 k0 HCL hwa KT KK x0 x1 x2 x3 x4 x5;go_wp2_with fail
      go_roundw
      case rel => exact ⟨i + 1, by go_num, by omega, R5.out, K5.out⟩
      case measure => simp [intOf]; omega
    · obtain rfl : i = a.path.length := by omega
      have HR : Hid (BB n wr (pathL a.path)) := by
        have := hR.out;rw [List.take_length] at this;exact this
      have hpn := HPL.out;have hty : a.type.data.toList.length = a.type.size := by simp
      have hnm : a.name.data.toList.length = a.name.size := by simp
      obtain ⟨wa, hwa, KT, KK⟩ := list_kept wr n (by omega) [a.type, ⟨#[46]⟩, a.name] #[.string a.type, .string ⟨#[46]⟩, .string a.name] rfl;have hcall := join_new n (pathL a.path) [a.type, ⟨#[46]⟩, a.name] 3 rfl wr wa HR.out (by omega) (by rw [<-hwa]; exact (Below.refl _ _).alloc (Nat.le_refl _) _) KT.out (by omega) (by rw [texts_three]; simp only [List.length_append, hty, hnm, List.length_cons, List.length_nil]; omega) KK.out;have hhd : pathL a.path ++ textsL [a.type, ⟨#[46]⟩, a.name] = headL a.path a.type.data.toList a.name.data.toList := by rw [texts_three]; rfl
      rw [hhd] at hcall;have HCL := hZz hcall;have hhl : (headL a.path a.type.data.toList a.name.data.toList).length <= 70000 := by
        simp only [headL, List.length_append, List.length_cons, hty, hnm]; omega
      have HPA : Hid (printA a = headL a.path a.type.data.toList a.name.data.toList ++ keyL a) := by rw [Hid, HPR.out]; rfl
      generalize headL a.path a.type.data.toList a.name.data.toList = hd at *;have HHL := hZz hhl;clear hcall hhd hpn hhl hty hnm hR;go_wp2_with fail
      refine (Calls.mono HCL.out ?_);rintro z w5 ⟨rfl, hb5, hk5⟩;have K5 : Hid (Keeps n n w3 w5) := hK.out.trans hk5;have R5 := hZz hb5;have V5 : Hid (w5.heap[w.heap.size]? = some (.cells (arrA pa pc a) 35 (0, 0))) := (K5.out.below.block _ hlw).trans V3.out;have h5 := K5.out.below.size;have B5 : Hid (Below w.heap.size w w5) := B3w.out.trans (K5.out.below.mono (by omega));have T5 : Hid (TabsA w5) := HT.out.stays B5.out;clear hb5 hk5 HCL hwa KT KK x0 x1 x2 x3 x4 x5 hK HR Vr;obtain ⟨x0, x1, x2, x3, x4, x5⟩ := adr_cells V5.out;by_cases q1 : a.key = 1
      · have t0 : (a.key == 1) = true := by rw [beq_iff_eq]; exact q1
        have HKL : Hid (keyL a = 91 :: (Lib.decDigits a.place ++ [93])) := by rw [Hid, keyL, if_pos q1]
        have hfm := formatUint_any a.place h4 w5 T5.out.p;obtain ⟨dg, hdg⟩ : ∃ dg, (⟨(Lib.decDigits a.place).toArray⟩ : ByteArray) = dg := ⟨_, rfl⟩;have hdl : dg.data.toList = Lib.decDigits a.place := by rw [<-hdg]
        have hds : (Lib.decDigits a.place).length <= 20 := by rw [Lib.decDigits_length]; exact Lib.nDigits_le20 _ h4
        rw [hdg] at hfm;have HFM := hZz hfm;have HDL := hZz hdl;have HDS := hZz hds;clear q1 hfm hdg hdl hds;go_wp2_with fail
        refine (Calls.mono HFM.out ?_);rintro z w6 ⟨rfl, hb6⟩;have R6 : Hid (BB n w6 hd) := bb_stays R5.out hb6;have h6 := hb6.size;have B6 := bel B5 hb6;clear hb6 x0 x1 x2 x3 x4 x5;obtain ⟨wb, hwb, KT, KK⟩ := list_kept w6 n (by omega) [⟨#[91]⟩, dg, ⟨#[93]⟩] #[.string ⟨#[91]⟩, .string dg, .string ⟨#[93]⟩] rfl;have hcall := join_new n hd [⟨#[91]⟩, dg, ⟨#[93]⟩] 3 rfl w6 wb R6.out (by omega) (by rw [<-hwb]; exact (Below.refl _ _).alloc (Nat.le_refl _) _) KT.out (by omega) (by rw [texts_three, HDL.out]; simp only [List.length_append, List.length_cons, List.length_nil]; have := HDS.out; have := HHL.out; omega) KK.out;have hkk : hd ++ textsL [⟨#[91]⟩, dg, ⟨#[93]⟩] = printA a := by rw [HPA.out, HKL.out, texts_three, HDL.out]; rfl
        rw [hkk] at hcall;have HCL := hZz hcall;clear hcall hkk;go_wp2_with fail
        refine (Calls.mono HCL.out ?_);rintro z w7 ⟨rfl, hb7, hk7⟩;have R7 := hZz hb7;have B7 : Hid (Below w.heap.size w w7) := B6.out.trans (hk7.below.mono (by omega));have h7 := hk7.below.size;clear hb7 hk7 HCL hwb KT KK;go_wp2_with fail
        refine (bb_string n w7 (printA a) R7.out (by omega)).mono ?_;rintro z w8 ⟨rfl, hb8⟩;have B8 : Hid (Below w.heap.size w w8) := B7.out.trans (hb8.mono (by omega));clear hb8;go_wp2_with fail
        go_ret
        exact ⟨rfl, B8.out⟩
      have t0 : (a.key == 1) = false := by rw [beq_eq_false_iff_ne]; exact q1
      by_cases q2 : a.key = 2
      · have t1 : (a.key == 2) = true := by rw [beq_iff_eq]; exact q2
        have HKL : Hid (keyL a = 91 :: (Quote.qprint a.word.data.toList ++ [93])) := by rw [Hid, keyL, if_neg q1, if_pos q2]
        have hka := (right_parts HRR.out).key;have hbz : badZ a.word.data.toList < 0 := by
          unfold keyA at hka;rw [if_neg (by omega), if_neg q1, if_pos q2, Bool.and_eq_true, decide_eq_true_eq] at hka;exact hka.2
        have hqp := Quote.qprint_any a.word w5 (by omega) T5.out.t.z hbz;obtain ⟨dg, hdg⟩ : ∃ dg, (⟨(Quote.qprint a.word.data.toList).toArray⟩ : ByteArray) = dg := ⟨_, rfl⟩;have hdl : dg.data.toList = Quote.qprint a.word.data.toList := by rw [<-hdg]
        have hds : (Quote.qprint a.word.data.toList).length <= 18002 := by
          have h1 := Quote.qps_len a.word.data.toList;have h2 : a.word.data.toList.length = a.word.size := by simp
          have h3 : Quote.qprint a.word.data.toList = 34 :: (a.word.data.toList.flatMap Quote.qp ++ [34]) := rfl;rw [h3];simp only [List.length_append, List.length_cons, List.length_nil]
          omega
        rw [hdg] at hqp;have HFM := hZz hqp;have HDL := hZz hdl;have HDS := hZz hds;clear q1 q2 hqp hdg hdl hds hbz hka;go_wp2_with fail
        refine (Calls.mono HFM.out ?_);rintro z w6 ⟨rfl, hb6⟩;have R6 : Hid (BB n w6 hd) := bb_stays R5.out hb6;have h6 := hb6.size;have B6 := bel B5 hb6;clear hb6 x0 x1 x2 x3 x4 x5;obtain ⟨wb, hwb, KT, KK⟩ := list_kept w6 n (by omega) [⟨#[91]⟩, dg, ⟨#[93]⟩] #[.string ⟨#[91]⟩, .string dg, .string ⟨#[93]⟩] rfl;have hcall := join_new n hd [⟨#[91]⟩, dg, ⟨#[93]⟩] 3 rfl w6 wb R6.out (by omega) (by rw [<-hwb]; exact (Below.refl _ _).alloc (Nat.le_refl _) _) KT.out (by omega) (by rw [texts_three, HDL.out]; simp only [List.length_append, List.length_cons, List.length_nil]; have := HDS.out; have := HHL.out; omega) KK.out;have hkk : hd ++ textsL [⟨#[91]⟩, dg, ⟨#[93]⟩] = printA a := by rw [HPA.out, HKL.out, texts_three, HDL.out]; rfl
        rw [hkk] at hcall;have HCL := hZz hcall;clear hcall hkk;go_wp2_with fail
        refine (Calls.mono HCL.out ?_);rintro z w7 ⟨rfl, hb7, hk7⟩;have R7 := hZz hb7;have B7 : Hid (Below w.heap.size w w7) := B6.out.trans (hk7.below.mono (by omega));have h7 := hk7.below.size;clear hb7 hk7 HCL hwb KT KK;go_wp2_with fail
        refine (bb_string n w7 (printA a) R7.out (by omega)).mono ?_;rintro z w8 ⟨rfl, hb8⟩;have B8 : Hid (Below w.heap.size w w8) := B7.out.trans (hb8.mono (by omega));clear hb8;go_wp2_with fail
        go_ret
        exact ⟨rfl, B8.out⟩
      · have t1 : (a.key == 2) = false := by rw [beq_eq_false_iff_ne]; exact q2
        have hpe : printA a = hd := by rw [HPA.out, keyL, if_neg q1, if_neg q2, List.append_nil]
        have R6 : Hid (BB n w5 (printA a)) := by rw [hpe]; exact R5.out
        clear q1 q2 hpe;go_wp2_with fail
        refine (bb_string n w5 (printA a) R6.out (by omega)).mono ?_;rintro z w8 ⟨rfl, hb8⟩;have B8 : Hid (Below w.heap.size w w8) := B5.out.trans (hb8.mono (by omega));clear hb8;go_wp2_with fail
        go_ret
        exact ⟨rfl, B8.out⟩
open Go.RowKit Go.Shelf Utf Strs Lex
theorem below_drewN {B : Nat} {w w' : World} (h : Below B w w') (n : Nat) : Below B w (w'.drewN n) := ⟨h.os, h.tape, h.output, h.size, h.block⟩
open Jdec (gb_refl gb_set gb_below IsTexts infoStr)
theorem wpList_append_run {P : Program} {w w' : World} {ops : Array Oper} {rest : List Oper} {o : Oper} {a : Act} {Q : Exit -> Act -> World -> Prop} {v' : Value} (v1 v2 : Value) (t : TypeId) (hr : (Builtin.append_ #[t, t] o.type #[v1, v2]).run P w = .ok v' w') (hgd : o.guard = none) (s x : Operand)
    (ho : o.op = .call { callee := .builtin .append, args := #[s, x], argTypes := #[t, t] }) (hs : a.eval s = v1) (hx : a.eval x = v2) (h : wpList P ops Q rest (a.put o.dst v') w') : wpList P ops Q (o :: rest) a w := by
  refine wpList_plain hgd fun K hK => ?_;unfold Oper.wp;simp [execOp, ho, resolve, invoke, builtin, hs, hx, hr, Result.andThen]
  exact hK _ _ h
def adr0 (ks : List ByteArray) (ty nm : ByteArray) : Adr := ⟨ks, ty, nm, 0, 0, ⟨#[]⟩⟩
def zeroA : Adr := adr0 [] ⟨#[]⟩ ⟨#[]⟩
open Go.RowKit Go.Shelf Utf Strs
theorem atexts_any (ks ls : List ByteArray) (ka la : Option Addr) (kc lc : Nat) (A B : Nat -> Prop) (w : World) (h : IsTexts w A ka ks) (h' : IsTexts w B la ls) (hl : ks.length <= 1048576) (hl' : ls.length <= 1048576) : Calls Tryz.prog 47 #[.slice ka ks.length kc, .slice la ls.length lc] w fun e w' => e = .returned (.bool (decide (ks = ls))) /\ Below w.heap.size w w' := by
  by_cases hne : ks.length = ls.length
  · by_cases h0 : ks = []
    · have h0' : ls = [] := by rw [h0] at hne; exact List.length_eq_zero_iff.1 hne.symm
      subst h0 h0';clear h h' hne;go_enter Tryz.func47, Tryz.ntmps47
      go_wp2_with fail
      go_loop [5] (fun p => p = .int .i64 0) (fun p => 0)
      case atStart => rfl
      case round =>
        obtain rfl := hrel;go_wp2_with fail
        go_ret
        exact ⟨rfl, Below.refl _ _⟩
    · obtain ⟨b, o, rfl, _, _, hc⟩ := h.resolve_left h0;obtain ⟨b', o', rfl, _, _, hc'⟩ := h'.resolve_left (fun e => h0 (by rw [e] at hne; exact List.length_eq_zero_iff.1 hne));have HT := hZz hc; clear hc;have HT' := hZz hc'; clear hc';have hz : ((ks.length : Int) != (ls.length : Int)) = false := by rw [bne_eq_false_iff_eq]; omega
      have HN := hZz hne;clear hne h h';go_enter Tryz.func47, Tryz.ntmps47
      go_wp2_with fail
      go_loopw [5] (fun p wr => ∃ i n : Nat, p = .int .i64 i /\ i <= ks.length /\ Hid (∀ j (h : j < ks.length) (h2 : j < ls.length), j < i -> ks[j] = ls[j]) /\ wr = w.drewN n) (fun p _ => ks.length - (intOf p).toNat)
      case atStart => exact ⟨0, 0, rfl, Nat.zero_le _, fun j _ _ h => by omega, rfl⟩
      case round =>
        obtain ⟨i, n, rfl, hi, hno, rfl⟩ := hrel;by_cases hlt : i < ks.length
        · have hlt' : i < ls.length := by have := HN.out; omega
          have k2 : w.cell? ⟨b, o + i, none⟩ = some (.string ks[i]) := HT.out i hlt;have g2 : w.cell? ⟨b', o' + i, none⟩ = some (.string ls[i]) := HT'.out i hlt';obtain ⟨x2, hx⟩ : ∃ x, ks[i] = x := ⟨_, rfl⟩;obtain ⟨y2, hy⟩ : ∃ y, ls[i] = y := ⟨_, rfl⟩;rw [hx] at k2;rw [hy] at g2;have HX := hZz hx; clear hx;have HY := hZz hy; clear hy;by_cases hq : x2.toList = y2.toList
          · have HE : Hid (ks[i] = ls[i]) := by
              rw [Hid, HX.out, HY.out];rw [Lib.toList_data, Lib.toList_data] at hq;rw [Utf.str_of x2 _ rfl, Utf.str_of y2 _ rfl, hq]
            have q2 : (x2.toList != y2.toList) = false := by rw [bne_eq_false_iff_eq]; exact hq
            have q3 : (x2.toList == y2.toList) = true := by rw [beq_iff_eq]; exact hq
            have HF : Hid (∀ j (h : j < ks.length) (h2 : j < ls.length), j < i + 1 -> ks[j] = ls[j]) := by
              intro j h h2 h3
              by_cases e : j = i
              · subst e; exact HE.out
              · exact hno.out j h h2 (by omega)
            clear hq;go_wp2_with fail
            go_quiet (fail)
            go_wp2_with fail
            go_roundw
            case rel => exact ⟨i + 1, _, by go_num, by omega, HF.out, rfl⟩
            case measure => simp [intOf]; omega
          · have HF : Hid (decide (ks = ls) = false) := by
              rw [Hid, decide_eq_false_iff_not]; intro e;apply hq
              have h2 : ks[i] = ls[i] := by subst e; rfl
              rw [HX.out, HY.out] at h2;rw [h2]
            have q2 : (x2.toList != y2.toList) = true := by rw [bne_iff_ne]; exact hq
            have q3 : (x2.toList == y2.toList) = false := by rw [beq_eq_false_iff_ne]; exact hq
            clear hq;go_wp2_with fail
            go_quiet (fail)
            go_wp2_with fail
            go_ret
            exact ⟨by rw [HF.out]; rfl, below_drewN (below_drewN (Below.refl _ _) _) _⟩
        · have HF : Hid (decide (ks = ls) = true) := by
            rw [Hid, decide_eq_true_eq];exact List.ext_getElem HN.out (fun j h h2 => hno.out j h h2 (by omega))
          go_wp2_with fail
          go_ret
          exact ⟨by rw [HF.out]; rfl, below_drewN (Below.refl _ _) _⟩
  · have HF : Hid (decide (ks = ls) = false) := by
      rw [Hid, decide_eq_false_iff_not]; intro e; exact hne (by rw [e])
    have hz : ((ks.length : Int) != (ls.length : Int)) = true := by rw [bne_iff_ne]; omega
    clear hne h h';go_enter Tryz.func47, Tryz.ntmps47
    go_wp2_with fail
    go_ret
    exact ⟨by rw [HF.out]; rfl, Below.refl _ _⟩
def sameB (a b : Adr) : Bool := (a.type.toList == b.type.toList) && ((a.name.toList == b.name.toList) && ((a.key == b.key) && (((a.place : Int) == (b.place : Int)) && (a.word.toList == b.word.toList))))
def sameA (a b : Adr) : Bool := decide (a.path = b.path) && sameB a b
theorem bytes_same {x y : ByteArray} : (x.toList == y.toList) = true ↔ x = y := by
  rw [beq_iff_eq];constructor
  · intro h
    rw [Lib.toList_data, Lib.toList_data] at h;rw [Utf.str_of x _ rfl, Utf.str_of y _ rfl, h]
  · rintro rfl; rfl
theorem sameA_iff (a b : Adr) : sameA a b = true ↔ a = b := by
  unfold sameA sameB;simp only [Bool.and_eq_true, decide_eq_true_eq, beq_iff_eq]
  constructor
  · rintro ⟨h1, h2, h3, h4, h5, h6⟩;obtain ⟨p, t, n, k, l, v⟩ := a;obtain ⟨p', t', n', k', l', v'⟩ := b;simp only at h1 h2 h3 h4 h5 h6
    have h2 := bytes_same.1 (beq_iff_eq.2 h2);have h3 := bytes_same.1 (beq_iff_eq.2 h3);have h6 := bytes_same.1 (beq_iff_eq.2 h6);subst h1 h2 h3 h4 h6;obtain rfl : l = l' := by omega
    rfl
  · rintro rfl;exact ⟨rfl, rfl, rfl, rfl, rfl, rfl⟩
theorem rsame_any (a b : Adr) (pa pb : Option Addr) (pc pd : Nat) (A B : Nat -> Prop) (w : World) (ha : IsTexts w A pa a.path) (hb : IsTexts w B pb b.path) (hla : a.path.length <= 1048576) (hlb : b.path.length <= 1048576) : Calls Tryz.prog 31 #[wordsA pa pc a, wordsA pb pd b] w fun e w' => e = .returned (.bool (sameA a b)) /\ Below w.heap.size w w' := by
  obtain ⟨w1, hw1, V1, B1⟩ := adr_new w pa pc a;obtain ⟨w2, hw2, V2, B2⟩ := adr_new w1 pb pd b;have hl1 := heap_lt V1.out;have hl2 := heap_lt V2.out;have V12 : Hid (w2.heap[w.heap.size]? = some (.cells (arrA pa pc a) 35 (0, 0))) := (B2.out.block _ hl1).trans V1.out;have B02 : Hid (Below w.heap.size w w2) := B1.out.trans (B2.out.mono (by omega));have hT := atexts_any a.path b.path pa pb pc pd A B w2 (ha.turn (Jdec.Turn.below B02.out)) (hb.turn (Jdec.Turn.below B02.out)) hla hlb;obtain ⟨p, hp⟩ : ∃ p, decide (a.path = b.path) = p := ⟨_, rfl⟩;obtain ⟨t1, h1⟩ : ∃ t, (a.type.toList == b.type.toList) = t := ⟨_, rfl⟩;obtain ⟨t2, h2⟩ : ∃ t, (a.name.toList == b.name.toList) = t := ⟨_, rfl⟩;obtain ⟨t3, h3⟩ : ∃ t, (a.key == b.key) = t := ⟨_, rfl⟩;obtain ⟨t4, h4⟩ : ∃ t, ((a.place : Int) == (b.place : Int)) = t := ⟨_, rfl⟩;obtain ⟨t5, h5⟩ : ∃ t, (a.word.toList == b.word.toList) = t := ⟨_, rfl⟩;have HS : Hid (sameA a b = (p && (t1 && (t2 && (t3 && (t4 && t5)))))) := by rw [Hid, sameA, sameB, hp, h1, h2, h3, h4, h5]
  rw [hp] at hT;have HT := hZz hT;obtain ⟨x0, x1, x2, x3, x4, x5⟩ := adr_cells V12.out;obtain ⟨y0, y1, y2, y3, y4, y5⟩ := adr_cells V2.out;unfold wordsA;clear hp hT ha hb;go_enter Tryz.func31, Tryz.ntmps31
  go_wp2_with fail
  refine (Calls.mono HT.out ?_);rintro z w3 ⟨rfl, hb3⟩;have B03 : Hid (Below w.heap.size w w3) := B02.out.trans (hb3.mono (by have := B02.out.size; omega));have V13 : Hid (w3.heap[w.heap.size]? = some (.cells (arrA pa pc a) 35 (0, 0))) := (hb3.block _ (by omega)).trans V12.out;have V23 : Hid (w3.heap[w1.heap.size]? = some (.cells (arrA pb pd b) 35 (0, 0))) := (hb3.block _ hl2).trans V2.out;clear hb3 x0 x1 x2 x3 x4 x5 y0 y1 y2 y3 y4 y5 HT;obtain ⟨x0, x1, x2, x3, x4, x5⟩ := adr_cells V13.out;obtain ⟨y0, y1, y2, y3, y4, y5⟩ := adr_cells V23.out;cases p
  · go_wp2_with fail
    go_ret
    exact ⟨by rw [HS.out]; rfl, B03.out⟩
  cases t1
  · go_wp2_with fail
    go_ret
    exact ⟨by rw [HS.out]; rfl, B03.out⟩
  cases t2
  · go_wp2_with fail
    go_ret
    exact ⟨by rw [HS.out]; rfl, B03.out⟩
  cases t3
  · go_wp2_with fail
    go_ret
    exact ⟨by rw [HS.out]; rfl, B03.out⟩
  cases t4
  · go_wp2_with fail
    go_ret
    exact ⟨by rw [HS.out]; rfl, B03.out⟩
  cases t5
  · go_wp2_with fail
    go_ret
    exact ⟨by rw [HS.out]; rfl, B03.out⟩
  · go_wp2_with fail
    go_ret
    exact ⟨by rw [HS.out]; rfl, B03.out⟩
end Go.Proofs.YtfdjolfenghmaaaGreatDoor.Addr
