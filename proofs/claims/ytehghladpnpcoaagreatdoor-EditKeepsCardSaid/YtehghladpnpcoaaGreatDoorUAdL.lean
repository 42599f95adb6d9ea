/- addr.join. -/
import Derived.Test.YtehghladpnpcoaaGreatDoorUAdK
import Derived.Lib.AppendIntMem
set_option linter.unusedVariables false
set_option linter.unusedSimpArgs false
set_option maxRecDepth 100000
set_option maxHeartbeats 6400000
namespace Go.Proofs.YtehghladpnpcoaaGreatDoor.Addr
open Go.RowKit Go.Shelf Utf Strs Lex Quote
open Jdec (IsTexts)
theorem bb_write (n : Nat) (W : World) (bs : List UInt8) (s : ByteArray) (h : BB n W bs) (hl : bs.length + s.size <= 140737488355328) (hn : n <= W.heap.size) : Calls Tryz.prog 103 #[.pointer (some ⟨n, 0, none⟩), .string s] W fun e W' => e = .returned (.tuple #[.int .i64 s.size, .nilIface]) /\ BB n W' (bs ++ s.data.toList) /\ Keeps n n W W' := by
 obtain ⟨cs, h⟩ := h;exact (writeString_any n n 0 111 cs bs s W h hl hn).mono fun e W' ⟨h1, cs', h2, _, _, h3⟩ => ⟨h1, ⟨cs', h2⟩, h3⟩
def textsL (ks : List ByteArray) : List UInt8 := ks.flatMap fun k => k.data.toList
theorem texts_take {ks : List ByteArray} {i : Nat} (h : i < ks.length) : textsL (ks.take (i + 1)) = textsL (ks.take i) ++ ks[i].data.toList := by
 unfold textsL;rw [List.take_add_one, List.getElem?_eq_getElem h, List.flatMap_append];simp
theorem texts_le {ks : List ByteArray} {i : Nat} (h : i < ks.length) : (textsL (ks.take i)).length + ks[i].size <= (textsL ks).length := by
 have h1 := texts_take h;have h2 : textsL ks = textsL (ks.take (i + 1)) ++ textsL (ks.drop (i + 1)) := by
  unfold textsL;rw [<-List.flatMap_append, List.take_append_drop]
 have h3 : ks[i].data.toList.length = ks[i].size := by simp
 rw [h2, h1];simp only [List.length_append]
 omega
theorem join_any (n : Nat) (bs : List UInt8) (ks : List ByteArray) (ka : Option Addr) (kc : Nat) (w : World) (hB : BB n w bs) (hn : n <= w.heap.size) (ht : ∀ W', Keeps n n w W' -> IsTexts W' (fun _ => True) ka ks) (hk : ks.length <= 3000) (hl : bs.length + (textsL ks).length <= 1000000) : Calls Tryz.prog 73 #[.pointer (some ⟨n, 0, none⟩), .slice ka ks.length kc] w fun e w' => e = .returned (.tuple #[]) /\ BB n w' (bs ++ textsL ks) /\ Keeps n n w w' := by
 have HB : Hid (BB n w bs) := hB;have HTX := hdQ ht;clear hB ht;go_enter Tryz.func73, Tryz.ntmps73
 go_wp2_with fail
 go_loopw [8] (fun p wr => ∃ i : Nat, p = .int .i64 i /\ i <= ks.length /\ Hid (BB n wr (bs ++ textsL (ks.take i))) /\ Hid (Keeps n n w wr)) (fun p _ => ks.length - (intOf p).toNat)
 case atStart => exact ⟨0, rfl, Nat.zero_le _, by unfold Hid; rw [List.take_zero]; unfold textsL; simpa using HB.out, Keeps.refl _ _ _⟩
 case round =>
  obtain ⟨i, rfl, hi, hR, hK⟩ := hrel;by_cases hlt : i < ks.length
  ·obtain ⟨b, o, rfl, _, hb, hc⟩ := (HTX.out wr hK.out).resolve_left (by intro e; rw [e] at hlt; simp at hlt);have k0 := hc i hlt;have hle := texts_le hlt;have hsz := hK.out.below.size;have hcall := bb_write n wr (bs ++ textsL (ks.take i)) ks[i] hR.out (by rw [List.length_append]; omega) (by omega);rw [List.append_assoc, <-texts_take hlt] at hcall;have HCL := hdQ hcall;obtain ⟨x, hx⟩ : ∃ x, ks[i] = x := ⟨_, rfl⟩;rw [hx] at HCL k0;clear hcall hc hx hle;go_wp2_with fail
   refine (Calls.mono HCL.out ?_);rintro z w2 ⟨rfl, hb2, hk2⟩;have K2 : Hid (Keeps n n w w2) := hK.out.trans hk2;have R2 := hdQ hb2;clear hb2 hk2 k0 HCL;go_wp2_with fail
   go_roundw
   case rel => exact ⟨i + 1, by go_num, by omega, R2.out, K2.out⟩
   case measure => simp [intOf]; omega
  ·obtain rfl : i = ks.length := by omega
   have HR : Hid (BB n wr (bs ++ textsL ks)) := by
    have := hR.out;rw [List.take_length] at this;exact this
   go_wp2_with fail
   go_end0
   exact ⟨rfl, HR.out, hK.out⟩
theorem below_grow (w : World) (n : Nat) (os : Array Obj) : Below w.heap.size w (Sort.grow (w.drewN n) os) :=
 ⟨rfl, rfl, rfl, by simp [Sort.grow], fun k hk => by simp only [Sort.grow]; exact Array.getElem?_append_left hk⟩
theorem formatUint_in (u : Nat) (hu64 : u < 18446744073709551616) (w : World) (htab : Lib.TabIs Tryz.prog w "internal/strconv.uint64pow10" .u64 Lib.pow10Tab) : Calls Tryz.prog 104 #[.int .u64 u, .int .i64 10] w fun e w' => e = .returned (.string ⟨(Lib.decDigits u).toArray⟩) /\ Below w.heap.size w w' := by
 by_cases hs : u < 100
 ·have q1 : decide ((u : Int) < 100) = true := by rw [dtQ]; omega
  have q2 : decide (u < 100) = true := by rw [dtQ]; omega
  go_enter Tryz.func104, Tryz.ntmps104
  go_wp2_with fail
  refine (Tryz.internal_strconv_small u hs w).mono ?_;rintro e w' ⟨rfl, rfl⟩;go_wp2_with fail
  go_ret
  exact ⟨rfl, Below.refl _ _⟩
 ·have q1 : decide ((u : Int) < 100) = false := by rw [dfQ]; omega
  have q2 : decide (u < 100) = false := by rw [dfQ]; omega
  have hu1 : 1 <= u := by omega
  have hnd20 : Lib.nDigits u <= 20 := by have := Lib.numDigits_eq u hu1 hu64; split at this <;> omega
  have hH0 := Lib.holds_zero0 w 187 (Lib.nDigits u) (by omega);have hfmt := Tryz.internal_strconv_formatBase10 w.heap.size 0 24 u (Array.replicate (Lib.nDigits u) 0) (w.alloc (.cells Lib.zeros24 187)) hH0 (by rw [Array.size_replicate]; exact Lib.lt_pow_nDigits u) hu64 (by rw [Array.size_replicate]; omega);rw [Array.size_replicate] at hfmt;have hal : (Tryz.prog).arrayLen 187 = 24 := by kernel_rfl
  have hsl : ∀ W, (Instr.sliceAt 187 (.pointer (some ⟨w.heap.size, 0, none⟩)) none (some (.int .i64 (Lib.nDigits u : Int))) none).run Tryz.prog W = .ok (.slice (some ⟨w.heap.size, 0, none⟩) (Lib.nDigits u) 24) W := fun W => by
   rw [run_sliceAt_array_h W 187 ⟨w.heap.size, 0, none⟩ (by kernel_rfl) .i64 (Lib.nDigits u : Int) (by omega) (by rw [hal]; omega)]
   go_simp
  have HH0 := Lib.hid hH0;have HF := hdQ hfmt;clear hH0 hal hfmt;go_enter Tryz.func104, Tryz.ntmps104
  go_wp2_with fail
  refine (Tryz.internal_strconv_numDigits u hu1 hu64 _ (Lib.tabIs_alloc htab _)).mono ?_;rintro e w' ⟨rfl, rfl⟩;go_wp2_with fail
  refine (Calls.mono HF.out ?_);rintro e w' ⟨rfl, k, v', dk, rfl, hF⟩;have hcv : (convert 109 9 (.slice (some ⟨w.heap.size, 0, none⟩) (Lib.nDigits u) 24)).run Tryz.prog ((Sort.putRow (fun (b : UInt8) => Value.int .u8 (b.toNat : Int)) (w.alloc (.cells Lib.zeros24 187)) w.heap.size 0 dk).drewN k) = .ok (.string ⟨(Lib.decDigits u).toArray⟩) ((Sort.putRow (fun (b : UInt8) => Value.int .u8 (b.toNat : Int)) (w.alloc (.cells Lib.zeros24 187)) w.heap.size 0 dk).drewN k) := by
   have h := run_convert_bytes_back (P := Tryz.prog) ((Sort.putRow (fun (b : UInt8) => Value.int .u8 (b.toNat : Int)) (w.alloc (.cells Lib.zeros24 187)) w.heap.size 0 dk).drewN k) 109 9 5 ⟨w.heap.size, 0, none⟩ 24 (Lib.decDigits u) Tryz.underlying109 Tryz.underlying5 Tryz.underlying9 (fun j hj => by
    rw [Lib.row_is_numeral hF j hj, Lib.add_plain, World.cell?_drewN];exact Sort.cell?_putRow (fun (b : UInt8) => Value.int .u8 (b.toNat : Int)) _ w.heap.size 0 _ dk HH0.out (by rw [hF.size, Array.size_replicate]) j (by rw [hF.size]; rw [Lib.decDigits_length] at hj; exact hj))
   rw [Lib.decDigits_length] at h;exact h
  obtain ⟨os, eo⟩ := Lib.fin_at w (.cells Lib.zeros24 187) dk k 0;have HB : Hid (Below w.heap.size w ((Sort.putRow (fun (b : UInt8) => Value.int .u8 (b.toNat : Int)) (w.alloc (.cells Lib.zeros24 187)) w.heap.size 0 dk).drewN k)) := by
   rw [Hid, eo]; exact below_grow w k os
  clear eo hF HF HH0;go_wp2_with fail
  go_ret
  exact ⟨rfl, HB.out⟩
theorem formatUint_any (u : Nat) (hu64 : u < 18446744073709551616) (w : World) (htab : Lib.TabIs Tryz.prog w "internal/strconv.uint64pow10" .u64 Lib.pow10Tab) : Calls Tryz.prog 74 #[.int .u64 u, .int .i64 10] w fun e w' => e = .returned (.string ⟨(Lib.decDigits u).toArray⟩) /\ Below w.heap.size w w' := by
 have hc := formatUint_in u hu64 w htab;have HC := hdQ hc;clear hc;go_enter Tryz.func74, Tryz.ntmps74
 go_wp2_with fail
 refine (Calls.mono HC.out ?_);rintro e w' ⟨rfl, hb⟩;have HB := hdQ hb;clear hb;go_wp2_with fail
 go_ret
 exact ⟨rfl, HB.out⟩
structure TabsA (w : World) : Prop where
 t : Tabs w
 p : Jdec.Pow10 w
theorem TabsA.stays {w w' : World} (T : TabsA w) (h : Below w.heap.size w w') : TabsA w' := ⟨T.t.stays h, T.p.stays h⟩
theorem list_kept (W : World) (n : Nat) (hn : n < W.heap.size) (ks : List ByteArray) (cs : Array Value) (hcs : cs = (ks.map Value.string).toArray) : ∃ w1, W.alloc (.cells cs 9) = w1 /\ Hid (∀ W', Keeps n n w1 W' -> IsTexts W' (fun _ => True) (some ⟨W.heap.size, 0, none⟩) ks) /\ Hid (Keeps n n W w1) := by
 refine ⟨_, rfl, fun W' hk => .inr ⟨W.heap.size, 0, rfl, trivial, ?_, fun i hi => ?_⟩, (Keeps.refl _ _ _).alloc (by omega) _⟩
 ·have := hk.below.size;simp at this
  omega
 ·have hb := heap_alloc_new W (.cells cs 9 (0, 0));have hw := (hk.block W.heap.size (by simp) (by omega) (fun c fr e => by rw [hb] at e; injection e with e; injection e with _ e _; exact absurd e (by decide))).trans hb;rw [cell_of hw (0 + i), Nat.zero_add, hcs];simp [hi]
theorem bb_stays {n : Nat} {W W' : World} {bs : List UInt8} (h : BB n W bs) (hb : Below W.heap.size W W') : BB n W' bs := by
 obtain ⟨cs, h⟩ := h;exact ⟨cs, h.stays hb⟩
theorem join_new (n : Nat) (bs : List UInt8) (ks : List ByteArray) (k : Nat) (hkl : ks.length = k) (w w1 : World) (hB : BB n w bs) (hn : n < w.heap.size) (hb : Below w.heap.size w w1)
  (ht : ∀ W', Keeps n n w1 W' -> IsTexts W' (fun _ => True) (some ⟨w.heap.size, 0, none⟩) ks) (hk : k <= 3000) (hl : bs.length + (textsL ks).length <= 1000000) (hkk : Keeps n n w w1) :
  Calls Tryz.prog 73 #[.pointer (some ⟨n, 0, none⟩), .slice (some ⟨w.heap.size, 0, none⟩) k k] w1 fun e w' => e = .returned (.tuple #[]) /\ BB n w' (bs ++ textsL ks) /\ Keeps n n w w' := by
 subst hkl;refine (join_any n bs ks _ ks.length w1 (bb_stays hB hb) (by have := hb.size; omega) ht hk hl).mono ?_;rintro e w' ⟨h1, h2, h3⟩;exact ⟨h1, h2, hkk.trans h3⟩
theorem path_take {ks : List ByteArray} {i : Nat} (h : i < ks.length) : pathL (ks.take (i + 1)) = pathL (ks.take i) ++ modL ks[i] := by
 unfold pathL;rw [List.take_add_one, List.getElem?_eq_getElem h, List.flatMap_append];simp
theorem path_le {ks : List ByteArray} {i : Nat} (h : i < ks.length) : (pathL (ks.take i)).length + (modL ks[i]).length <= (pathL ks).length := by
 have h1 := path_take h;have h2 : pathL ks = pathL (ks.take (i + 1)) ++ pathL (ks.drop (i + 1)) := by
  unfold pathL;rw [<-List.flatMap_append, List.take_append_drop]
 rw [h2, h1];simp only [List.length_append]
 omega
theorem texts_mod (k : ByteArray) : textsL [⟨#[109, 111, 100, 117, 108, 101]⟩, ⟨#[46]⟩, k, ⟨#[46]⟩] = modL k := by
 simp [textsL, modL, moduleL]
theorem texts_three (a b c : ByteArray) : textsL [a, b, c] = a.data.toList ++ (b.data.toList ++ c.data.toList) := by simp [textsL]
theorem path_size : ∀ (ks : List ByteArray) (n : Nat), (∀ x ∈ ks, x.size <= n) -> (pathL ks).length <= ks.length * (n + 8) := by
 intro ks n
 induction ks with
 | nil => intro _; simp [pathL]
 | cons k ks ih =>
  intro h
  have h1 := ih (fun x hx => h x (by simp [hx]));have h2 := h k (by simp);have h3 : pathL (k :: ks) = modL k ++ pathL ks := rfl;have h4 : (modL k).length = k.size + 8 := by simp [modL, moduleL]
  rw [h3, List.length_append, h4, List.length_cons, Nat.add_mul];omega
theorem print_any (a : Adr) (pa : Option Addr) (pc : Nat) (A : Nat -> Prop) (w : World) (ht : IsTexts w A pa a.path) (hl : a.path.length <= 3000) (hs : ∀ x ∈ a.path, x.size <= 3000) (h1 : a.type.size <= 3000) (h2 : a.name.size <= 3000) (h3 : a.word.size <= 3000) (h4 : a.place < 18446744073709551616) (T : TabsA w) : Calls Tryz.prog 43 #[wordsA pa pc a] w fun e w' => e = .returned (.string ⟨(printA a).toArray⟩) /\ Below w.heap.size w w' := by
 obtain ⟨w1, hw1, V1, B1⟩ := adr_new w pa pc a;obtain ⟨x0, x1, x2, x3, x4, x5⟩ := adr_cells V1.out;have hl1 := heap_lt V1.out;have hr := right_any a pa pc A w1 (ht.turn (Jdec.Turn.below B1.out)) hl (fun x hx => Nat.le_trans (hs x hx) (by omega)) (by omega) (by omega) (by omega) (T.t.stays B1.out);have HR := hdQ hr;have HTX : Hid (IsTexts w A pa a.path) := ht;have HT := hdQ T;have HS := hdQ hs;obtain ⟨r, hrr⟩ : ∃ r, rightA a = r := ⟨_, rfl⟩;rw [hrr] at HR;have HRR := hdQ hrr;unfold wordsA at HR ⊢;clear hr ht T hrr hs;go_enter Tryz.func43, Tryz.ntmps43
 go_wp2_with fail
 refine (Calls.mono HR.out ?_);rintro z w2 ⟨rfl, hb2⟩;have B2 : Hid (Below w.heap.size w w2) := B1.out.trans (hb2.mono (by omega));have V2 : Hid (w2.heap[w.heap.size]? = some (.cells (arrA pa pc a) 35 (0, 0))) := (hb2.block _ hl1).trans V1.out;have hl2 := heap_lt V2.out;clear hb2 x0 x1 x2 x3 x4 x5 hw1 HR;obtain ⟨x0, x1, x2, x3, x4, x5⟩ := adr_cells V2.out;cases r
 ·go_wp2_with fail
  go_ret
  exact ⟨by rw [printA, HRR.out]; rfl, B2.out⟩
 have HPR : Hid (printA a = printR a) := by rw [Hid, printA, HRR.out]; rfl
 have P := right_parts HRR.out;have hp20 := P.len;have hpl := path_size a.path 3000 HS.out;have hpl2 : (pathL a.path).length <= 60160 := Nat.le_trans hpl (by have := Nat.mul_le_mul_right (3000 + 8) hp20; omega);have HPL := hdQ hpl2;obtain ⟨w3, hw3, K3, B3⟩ := bb_new w2;have HW3 := hdQ hw3;obtain ⟨n, hn⟩ : ∃ n, w2.heap.size = n := ⟨_, rfl⟩;have HN := hdQ hn;have hbn := B2.out.size;rw [hn] at K3 B3;have V3 : Hid (w3.heap[w.heap.size]? = some (.cells (arrA pa pc a) 35 (0, 0))) := (B3.out.block _ (by omega)).trans V2.out;have B3w : Hid (Below w.heap.size w w3) := B2.out.trans (B3.out.mono (by omega));have hn3 : n < w3.heap.size := by rw [<-hw3, <-hn]; simp
 have HTX3 : Hid (IsTexts w3 A pa a.path) := HTX.out.turn (Jdec.Turn.below (B2.out.trans (B3.out.mono (by omega))));have hlw : w.heap.size < n := by omega
 clear hpl hpl2 P x0 x1 x2 x3 x4 x5;obtain ⟨x0, x1, x2, x3, x4, x5⟩ := adr_cells V3.out;have hw3' : w2.alloc (.cells #[.pointer none, .slice none 0 0] 111) = w3 := hw3;clear hw3;have HTX3' : Hid (∀ w', Below n w3 w' -> IsTexts w' A pa a.path) := fun w' hb => HTX.out.turn (Jdec.Turn.below (B3w.out.trans (hb.mono (by omega))));go_wp2_with fail
 clear hn hw3' x0 x1 x2 x3 x4 x5
 go_loopw [14] (fun p wr => ∃ i : Nat, p = .int .i64 i /\ i <= a.path.length /\ Hid (BB n wr (pathL (a.path.take i))) /\ Hid (Keeps n n w3 wr)) (fun p _ => a.path.length - (intOf p).toNat)
 case atStart => exact ⟨0, rfl, Nat.zero_le _, K3.out, Keeps.refl _ _ _⟩
 case round =>
  obtain ⟨i, rfl, hi, hR, hK⟩ := hrel;have hsz := hK.out.below.size;have Vr : Hid (wr.heap[w.heap.size]? = some (.cells (arrA pa pc a) 35 (0, 0))) := (hK.out.below.block _ hlw).trans V3.out;obtain ⟨x0, x1, x2, x3, x4, x5⟩ := adr_cells Vr.out;by_cases hlt : i < a.path.length
  ·obtain ⟨b, o, rfl, _, hb, hc⟩ := (HTX3'.out wr hK.out.below).resolve_left (by intro e; rw [e] at hlt; simp at hlt);have k0 := hc i hlt;have hle := path_le hlt;obtain ⟨wa, hwa, KT, KK⟩ := list_kept wr n (by omega) [⟨#[109, 111, 100, 117, 108, 101]⟩, ⟨#[46]⟩, a.path[i], ⟨#[46]⟩] #[.string ⟨#[109, 111, 100, 117, 108, 101]⟩, .string ⟨#[46]⟩, .string a.path[i], .string ⟨#[46]⟩] rfl;have hcall := join_new n (pathL (a.path.take i)) [⟨#[109, 111, 100, 117, 108, 101]⟩, ⟨#[46]⟩, a.path[i], ⟨#[46]⟩] 4 rfl wr wa hR.out (by omega) (by rw [<-hwa]; exact (Below.refl _ _).alloc (Nat.le_refl _) _) KT.out (by omega) (by rw [texts_mod]; have := HPL.out; omega) KK.out;rw [texts_mod, <-path_take hlt] at hcall;have HCL := hdQ hcall;obtain ⟨x, hx⟩ : ∃ x, a.path[i] = x := ⟨_, rfl⟩;rw [hx] at hwa k0;clear hcall hc hx hle;go_wp2_with fail
   refine (Calls.mono HCL.out ?_);rintro z w5 ⟨rfl, hb5, hk5⟩;have K5 : Hid (Keeps n n w3 w5) := hK.out.trans hk5;have R5 := hdQ hb5;clear hb5 hk5 k0 HCL hwa KT KK x0 x1 x2 x3 x4 x5;go_wp2_with fail
   go_roundw
   case rel => exact ⟨i + 1, by go_num, by omega, R5.out, K5.out⟩
   case measure => simp [intOf]; omega
  ·obtain rfl : i = a.path.length := by omega
   have HR : Hid (BB n wr (pathL a.path)) := by
    have := hR.out;rw [List.take_length] at this;exact this
   have hpn := HPL.out;have hty : a.type.data.toList.length = a.type.size := by simp
   have hnm : a.name.data.toList.length = a.name.size := by simp
   obtain ⟨wa, hwa, KT, KK⟩ := list_kept wr n (by omega) [a.type, ⟨#[46]⟩, a.name] #[.string a.type, .string ⟨#[46]⟩, .string a.name] rfl;have hcall := join_new n (pathL a.path) [a.type, ⟨#[46]⟩, a.name] 3 rfl wr wa HR.out (by omega) (by rw [<-hwa]; exact (Below.refl _ _).alloc (Nat.le_refl _) _) KT.out (by omega) (by rw [texts_three]; simp only [List.length_append, hty, hnm, List.length_cons, List.length_nil]; omega) KK.out;have hhd : pathL a.path ++ textsL [a.type, ⟨#[46]⟩, a.name] = headL a.path a.type.data.toList a.name.data.toList := by rw [texts_three]; rfl
   rw [hhd] at hcall;have HCL := hdQ hcall;have hhl : (headL a.path a.type.data.toList a.name.data.toList).length <= 70000 := by
    simp only [headL, List.length_append, List.length_cons, hty, hnm]; omega
   have HPA : Hid (printA a = headL a.path a.type.data.toList a.name.data.toList ++ keyL a) := by rw [Hid, HPR.out]; rfl
   generalize headL a.path a.type.data.toList a.name.data.toList = hd at *;have HHL := hdQ hhl;clear hcall hhd hpn hhl hty hnm hR;go_wp2_with fail
   refine (Calls.mono HCL.out ?_);rintro z w5 ⟨rfl, hb5, hk5⟩;have K5 : Hid (Keeps n n w3 w5) := hK.out.trans hk5;have R5 := hdQ hb5;have V5 : Hid (w5.heap[w.heap.size]? = some (.cells (arrA pa pc a) 35 (0, 0))) := (K5.out.below.block _ hlw).trans V3.out;have h5 := K5.out.below.size;have B5 : Hid (Below w.heap.size w w5) := B3w.out.trans (K5.out.below.mono (by omega));have T5 : Hid (TabsA w5) := HT.out.stays B5.out;clear hb5 hk5 HCL hwa KT KK x0 x1 x2 x3 x4 x5 hK HR Vr;obtain ⟨x0, x1, x2, x3, x4, x5⟩ := adr_cells V5.out;by_cases q1 : a.key = 1
   ·have t0 : (a.key == 1) = true := by rw [beq_iff_eq]; exact q1
    have HKL : Hid (keyL a = 91 :: (Lib.decDigits a.place ++ [93])) := by rw [Hid, keyL, if_pos q1]
    have hfm := formatUint_any a.place h4 w5 T5.out.p;obtain ⟨dg, hdg⟩ : ∃ dg, (⟨(Lib.decDigits a.place).toArray⟩ : ByteArray) = dg := ⟨_, rfl⟩;have hdl : dg.data.toList = Lib.decDigits a.place := by rw [<-hdg]
    have hds : (Lib.decDigits a.place).length <= 20 := by rw [Lib.decDigits_length]; exact Lib.nDigits_le20 _ h4
    rw [hdg] at hfm;have HFM := hdQ hfm;have HDL := hdQ hdl;have HDS := hdQ hds;clear q1 hfm hdg hdl hds;go_wp2_with fail
    refine (Calls.mono HFM.out ?_);rintro z w6 ⟨rfl, hb6⟩;have R6 : Hid (BB n w6 hd) := bb_stays R5.out hb6;have h6 := hb6.size;have B6 : Hid (Below w.heap.size w w6) := B5.out.trans (hb6.mono B5.out.size);clear hb6 x0 x1 x2 x3 x4 x5;obtain ⟨wb, hwb, KT, KK⟩ := list_kept w6 n (by omega) [⟨#[91]⟩, dg, ⟨#[93]⟩] #[.string ⟨#[91]⟩, .string dg, .string ⟨#[93]⟩] rfl;have hcall := join_new n hd [⟨#[91]⟩, dg, ⟨#[93]⟩] 3 rfl w6 wb R6.out (by omega) (by rw [<-hwb]; exact (Below.refl _ _).alloc (Nat.le_refl _) _) KT.out (by omega) (by rw [texts_three, HDL.out]; simp only [List.length_append, List.length_cons, List.length_nil]; have := HDS.out; have := HHL.out; omega) KK.out;have hkk : hd ++ textsL [⟨#[91]⟩, dg, ⟨#[93]⟩] = printA a := by rw [HPA.out, HKL.out, texts_three, HDL.out]; rfl
    rw [hkk] at hcall;have HCL := hdQ hcall;clear hcall hkk;go_wp2_with fail
    refine (Calls.mono HCL.out ?_);rintro z w7 ⟨rfl, hb7, hk7⟩;have R7 := hdQ hb7;have B7 : Hid (Below w.heap.size w w7) := B6.out.trans (hk7.below.mono (by omega));have h7 := hk7.below.size;clear hb7 hk7 HCL hwb KT KK;go_wp2_with fail
    refine (bb_string n w7 (printA a) R7.out (by omega)).mono ?_;rintro z w8 ⟨rfl, hb8⟩;have B8 : Hid (Below w.heap.size w w8) := B7.out.trans (hb8.mono (by omega));clear hb8;go_wp2_with fail
    go_ret
    exact ⟨rfl, B8.out⟩
   have t0 : (a.key == 1) = false := by rw [bnQ]; exact q1
   by_cases q2 : a.key = 2
   ·have t1 : (a.key == 2) = true := by rw [beq_iff_eq]; exact q2
    have HKL : Hid (keyL a = 91 :: (Quote.qprint a.word.data.toList ++ [93])) := by rw [Hid, keyL, if_neg q1, if_pos q2]
    have hka := (right_parts HRR.out).key;have hbz : badZ a.word.data.toList < 0 := by
     unfold keyA at hka;rw [if_neg (by omega), if_neg q1, if_pos q2, Bool.and_eq_true, dtQ] at hka;exact hka.2
    have hqp := Quote.qprint_any a.word w5 (by omega) T5.out.t.z hbz;obtain ⟨dg, hdg⟩ : ∃ dg, (⟨(Quote.qprint a.word.data.toList).toArray⟩ : ByteArray) = dg := ⟨_, rfl⟩;have hdl : dg.data.toList = Quote.qprint a.word.data.toList := by rw [<-hdg]
    have hds : (Quote.qprint a.word.data.toList).length <= 18002 := by
     have h1 := Quote.qps_len a.word.data.toList;have h2 : a.word.data.toList.length = a.word.size := by simp
     have h3 : Quote.qprint a.word.data.toList = 34 :: (a.word.data.toList.flatMap Quote.qp ++ [34]) := rfl;rw [h3];simp only [List.length_append, List.length_cons, List.length_nil]
     omega
    rw [hdg] at hqp;have HFM := hdQ hqp;have HDL := hdQ hdl;have HDS := hdQ hds;clear q1 q2 hqp hdg hdl hds hbz hka;go_wp2_with fail
    refine (Calls.mono HFM.out ?_);rintro z w6 ⟨rfl, hb6⟩;have R6 : Hid (BB n w6 hd) := bb_stays R5.out hb6;have h6 := hb6.size;have B6 : Hid (Below w.heap.size w w6) := B5.out.trans (hb6.mono B5.out.size);clear hb6 x0 x1 x2 x3 x4 x5;obtain ⟨wb, hwb, KT, KK⟩ := list_kept w6 n (by omega) [⟨#[91]⟩, dg, ⟨#[93]⟩] #[.string ⟨#[91]⟩, .string dg, .string ⟨#[93]⟩] rfl;have hcall := join_new n hd [⟨#[91]⟩, dg, ⟨#[93]⟩] 3 rfl w6 wb R6.out (by omega) (by rw [<-hwb]; exact (Below.refl _ _).alloc (Nat.le_refl _) _) KT.out (by omega) (by rw [texts_three, HDL.out]; simp only [List.length_append, List.length_cons, List.length_nil]; have := HDS.out; have := HHL.out; omega) KK.out;have hkk : hd ++ textsL [⟨#[91]⟩, dg, ⟨#[93]⟩] = printA a := by rw [HPA.out, HKL.out, texts_three, HDL.out]; rfl
    rw [hkk] at hcall;have HCL := hdQ hcall;clear hcall hkk;go_wp2_with fail
    refine (Calls.mono HCL.out ?_);rintro z w7 ⟨rfl, hb7, hk7⟩;have R7 := hdQ hb7;have B7 : Hid (Below w.heap.size w w7) := B6.out.trans (hk7.below.mono (by omega));have h7 := hk7.below.size;clear hb7 hk7 HCL hwb KT KK;go_wp2_with fail
    refine (bb_string n w7 (printA a) R7.out (by omega)).mono ?_;rintro z w8 ⟨rfl, hb8⟩;have B8 : Hid (Below w.heap.size w w8) := B7.out.trans (hb8.mono (by omega));clear hb8;go_wp2_with fail
    go_ret
    exact ⟨rfl, B8.out⟩
   ·have t1 : (a.key == 2) = false := by rw [bnQ]; exact q2
    have hpe : printA a = hd := by rw [HPA.out, keyL, if_neg q1, if_neg q2, List.append_nil]
    have R6 : Hid (BB n w5 (printA a)) := by rw [hpe]; exact R5.out
    clear q1 q2 hpe;go_wp2_with fail
    refine (bb_string n w5 (printA a) R6.out (by omega)).mono ?_;rintro z w8 ⟨rfl, hb8⟩;have B8 : Hid (Below w.heap.size w w8) := B5.out.trans (hb8.mono (by omega));clear hb8;go_wp2_with fail
    go_ret
    exact ⟨rfl, B8.out⟩
end Go.Proofs.YtehghladpnpcoaaGreatDoor.Addr
