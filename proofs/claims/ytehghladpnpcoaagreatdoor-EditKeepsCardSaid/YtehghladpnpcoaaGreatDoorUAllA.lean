/- lex.All: the tokens told one by one. -/
import Derived.Test.YtehghladpnpcoaaGreatDoorULexC
import Derived.RangeFuncNested
import Derived.RangeFuncBound
import Derived.RangeFuncCalls
import Derived.RangeFuncLeaves
import Derived.Shelf.Abstract
import Derived.Shelf.RegionOpen
import Derived.WalkKit
import Derived.OwnWalkIn
import Derived.TacticsInMore
import Derived.LoopNIn
import Derived.LoopIn
set_option linter.unusedVariables false
set_option linter.unusedSimpArgs false
set_option maxRecDepth 100000
set_option maxHeartbeats 4000000
namespace Go.Proofs.YtehghladpnpcoaaGreatDoor.Lex
open Go.RowKit Go.Shelf Utf Strs
attribute [local go_sem] Oper.semAt_some
theorem all_any (s : ByteArray) (w : World) : Calls Tryz.prog 147 #[.string s] w fun e w' => e = .returned (.func (.func 175) #[] #[.pointer (some ⟨w.heap.size, 0, none⟩)]) /\ Below w.heap.size w w' /\ w'.heap[w.heap.size]? = some (.cells #[.string s] 9 (0, 0)) := by
 go_enter Tryz.func147, Tryz.ntmps147
 go_wp2
 go_ret
 exact ⟨rfl, (Below.refl _ _).alloc (Nat.le_refl _) _, heap_alloc_new _ _⟩
def KpL (Bs : Nat) (W W' : World) : Prop := W'.heap[Bs]? = W.heap[Bs]? /\ (Tabs W -> Tabs W')
theorem KpL.t {Bs : Nat} {A B C : World} (h : KpL Bs A B) (k : KpL Bs B C) : KpL Bs A C := ⟨k.1.trans h.1, fun t => k.2 (h.2 t)⟩
theorem walkRound (n l : Nat) (s : ByteArray) (hs : s.size <= 1048576) (hn : 1 <= n) (J Jx : List Tok -> World -> Prop)
  (hJ : ∀ pre W W', J pre W -> Below W.heap.size W W' -> J pre W')
  (hY : ∀ pre (x : Tok) W, J pre W -> pre.length < (toksAt s.data.toList 0).1.length -> YieldAt Fence.wide (n - 1) Tryz.prog l #[.agg #[.int .i64 x.1, .string ⟨x.2.1.toArray⟩, .int .i64 x.2.2]] W fun e W' =>
   (e = .returned (.bool true) /\ J (pre ++ [x]) W' /\ (Tabs W -> Tabs W')) ∨ (e = .returned (.bool false) /\ Jx (pre ++ [x]) W'))
  (W : World) (T : Tabs W) (h0 : J [] W) :
  CallsIn Fence.wide n Tryz.prog 176 #[.string s, .func (.yield l) #[] #[]] W fun e W' => (∃ v, e = .returned v) ∧
   (J (toksAt s.data.toList 0).1 W' ∨ (∃ pre, pre <+: (toksAt s.data.toList 0).1 /\ Jx pre W')) := by
 have hl : s.data.toList.length = s.size := by simp
 have HL := hdQ hl; clear hl;have HJ := hdQ hJ; clear hJ;have HY := hdQ hY; clear hY;refine callsIn_of_wp Tryz.func176 rfl trivial ?_ rfl;simp only [Tryz.ntmps176, List.size_toArray, List.length_cons, List.length_nil, Nat.reduceAdd, Nat.reduceSub, Array.replicate_succ, Array.replicate_zero, List.push_toArray, List.append_toArray, List.nil_append, List.cons_append]
 gi_wp2_with fail
 refine wpIn_wide.2 ?_
 go_step3
 refine (wpIn_wide (n := n)).1 ?_
 gi_wp2_with fail
 apply wpIn_label
 gi_wp2_with fail
 gi_loopw [4, 5, 6] (fun p4 p5 p wr => ∃ (k : Nat) (pre : List Tok), k <= s.size /\ p4 = .int .i64 0 /\ p5 = .int .i64 0 /\ p = .int .i64 k /\ Hid (toksAt s.data.toList 0 = (pre ++ (toksAt s.data.toList k).1, (toksAt s.data.toList k).2)) /\ Hid (J pre wr) /\ Hid (Tabs wr))
  (fun _ _ p _ => s.size - (intOf p).toNat)
 case atStart => exact ⟨0, [], Nat.zero_le _, rfl, rfl, rfl, rfl, h0, T⟩
 case round =>
  obtain ⟨k, pre, hk, rfl, rfl, rfl, hp, hj, ht⟩ := hrel;by_cases hlt : k < s.size
  ·have hlen : k < s.data.toList.length := by rw [HL.out]; exact hlt
   have hget : s.data.toList[k] = s[k] := rfl;cases hbl : blank s[k]
   ·have hix : [32, 9, 13].findIdx? (· == UInt8.ofNat s[k].toNat) = none := by
     rw [UInt8.ofNat_toNat]; unfold blank at hbl; rwa [Option.isSome_eq_false_iff, Option.isNone_iff_eq_none] at hbl
    have HX := hdQ hix; clear hix;obtain ⟨a, m, c, d, hx⟩ : ∃ a m c d, next (s.data.toList.drop k) = (a, m, c, d) := ⟨_, _, _, _, rfl⟩;have hf := next_fits (s.data.toList.drop k) (List.ne_nil_of_length_pos (by rw [List.length_drop]; omega));rw [hx] at hf;have f1 := hf.size;have f2 := hf.bad;have f4 := hf.all;simp only [List.length_drop, HL.out] at f1 f2 f4
    have hnx := next_any (s.extract k s.size) wr (by rw [ByteArray.size_extract]; omega) (by rw [ByteArray.size_extract]; omega) ht.out;unfold NPost at hnx;rw [ext_drop, hx, show val (a, m, c, d) = .tuple #[.int .i64 a, .int .i64 m, .int .i64 c, .int .i64 d] from rfl] at hnx;have hbad : d ≠ 0 -> Hid ((toksAt s.data.toList 0).1 = pre) := by
     intro hd
     rw [Hid, hp.out, toksAt_bad _ _ hlen hbl (by rw [hx]; exact hd)]; simp
    have htok : d = 0 -> Hid (toksAt s.data.toList 0 = ((pre ++ [(a, (s.data.toList.drop k).take m, k)]) ++ (toksAt s.data.toList (k + m)).1, (toksAt s.data.toList (k + m)).2)) := by
     intro hd
     rw [Hid, hp.out, toksAt_tok _ _ hlen hbl (by rw [hx]; exact hd), hx]; simp
    clear hx hf hbl hget;have HN := hdQ hnx; clear hnx
    gi_wp2_with fail
    refine ⟨trivial, ?_⟩;refine (callsIn_wide.2 (indexByte_any ⟨#[32, 9, 13]⟩ s[k].toNat wr (UInt8.toNat_lt _))).mono ?_;rintro e w' ⟨rfl, rfl⟩;rw [show (⟨#[32, 9, 13]⟩ : ByteArray).data.toList = [32, 9, 13] from rfl, HX.out, show zidx none = -1 from rfl]
    gi_wp2_with fail
    refine ⟨trivial, ?_⟩;refine (CallsIn.mono (callsIn_wide.2 HN.out) ?_);rintro e w2 ⟨rfl, hb2⟩;have J2 : Hid (J pre w2) := HJ.out pre wr w2 hj.out hb2;have T2 : Hid (Tabs w2) := ht.out.stays hb2;clear hb2;by_cases hd : d = 0
    ·subst hd;have h1 := f1 rfl;have HF := htok rfl;clear f1 htok hbad;obtain ⟨q, hq⟩ : ∃ q : Nat, k + m = q := ⟨_, rfl⟩;have hqq : (k : Int) + (m : Int) = (q : Int) := by omega
     have hq1 : k <= q := by omega
     have hq2 : q <= s.size := by omega
     have hex : Hid (s.extract k q = ⟨((s.data.toList.drop k).take m).toArray⟩) := by rw [Hid, <-hq]; exact ext_take s k m
     have HQ := hdQ hq; clear hq;obtain ⟨fn, tmps, assign, body, hy, hR⟩ := HY.out pre (a, (s.data.toList.drop k).take m, k) w2 J2.out (by rw [HF.out]; simp)
     dsimp only at hy hR
     rw [<-hex.out] at hy;have HRR := hdQ hR; clear hR
     gi_wp2_with fail
     refine RoundIn.mono HRR.out ?_;rintro e w3 (⟨rfl, hj3, ht3⟩ | ⟨rfl, hjx⟩)
     ·have J3 : Hid (J (pre ++ [(a, (s.data.toList.drop k).take m, k)]) w3) := hj3;have T3 : Hid (Tabs w3) := ht3 T2.out;clear hj3 ht3
      gi_wp2_with fail
      go_roundw
      case rel => exact ⟨q, _, hq2, rfl, rfl, rfl, by rw [<-HQ.out]; exact HF.out, J3.out, T3.out⟩
      case measure => have := HQ.out; simp [intOf]; omega
     ·have J3 : Hid (Jx (pre ++ [(a, (s.data.toList.drop k).take m, k)]) w3) := hjx;clear hjx
      gi_wp2_with fail
      rw [Exit.noGoto_ret]
      go_ret2
      exact ⟨⟨_, rfl⟩, .inr ⟨_, by rw [HF.out]; exact ⟨_, rfl⟩, J3.out⟩⟩
    ·have hq : ((d : Int) != 0) = true := by rw [bne_iff_ne]; omega
     have HF := hbad hd;clear hbad htok f1 hd
     gi_wp2_with fail
     rw [Exit.noGoto_ret]
     go_ret2
     exact ⟨⟨_, rfl⟩, .inl (by rw [HF.out]; exact J2.out)⟩
   ·obtain ⟨i, hi⟩ : ∃ i, [32, 9, 13].findIdx? (· == UInt8.ofNat s[k].toNat) = some i := by
     rw [UInt8.ofNat_toNat]; unfold blank at hbl; exact Option.isSome_iff_exists.1 hbl
    have HX := hdQ hi; clear hi;have hge : decide (0 <= (i : Int)) = true := by simp
    have HF : Hid (toksAt s.data.toList 0 = (pre ++ (toksAt s.data.toList (k + 1)).1, (toksAt s.data.toList (k + 1)).2)) := by
     rw [Hid, hp.out, toksAt_blank _ _ hlen hbl]
    clear hbl hget
    gi_wp2_with fail
    refine ⟨trivial, ?_⟩;refine (callsIn_wide.2 (indexByte_any ⟨#[32, 9, 13]⟩ s[k].toNat wr (UInt8.toNat_lt _))).mono ?_;rintro e w' ⟨rfl, rfl⟩;rw [show (⟨#[32, 9, 13]⟩ : ByteArray).data.toList = [32, 9, 13] from rfl, HX.out, show zidx (some i) = (i : Int) from rfl]
    gi_wp2_with fail
    go_roundw
    case rel => exact ⟨k + 1, pre, by omega, rfl, rfl, by go_num, HF.out, hj.out, ht.out⟩
    case measure => simp [intOf]; omega
  ·obtain rfl : k = s.size := by omega
   have HF : Hid ((toksAt s.data.toList 0).1 = pre) := by
    have h1 := toksAt_end s.data.toList;rw [HL.out] at h1;rw [Hid, hp.out, h1]; simp
   gi_wp2_with fail
   rw [Exit.noGoto_ret]
   go_ret2
   exact ⟨⟨_, rfl⟩, .inl (by rw [HF.out]; exact hj.out)⟩
theorem all1_in (n l Bs : Nat) (s : ByteArray) (hs : s.size <= 1048576) (hn : 1 <= n) (J Jx : List Tok -> World -> Prop)
  (hJ : ∀ pre W W', J pre W -> Below W.heap.size W W' -> J pre W')
  (hY : ∀ pre (x : Tok) W, J pre W -> pre.length < (toksAt s.data.toList 0).1.length -> YieldAt Fence.wide (n - 1) Tryz.prog l #[.agg #[.int .i64 x.1, .string ⟨x.2.1.toArray⟩, .int .i64 x.2.2]] W fun e W' =>
   (e = .returned (.bool true) /\ J (pre ++ [x]) W' /\ KpL Bs W W') ∨ (e = .returned (.bool false) /\ Jx (pre ++ [x]) W'))
  (W : World) (hBs : W.heap[Bs]? = some (.cells #[.string s] 9 (0, 0))) (T : Tabs W) (h0 : J [] W) :
  CallsIn Fence.wide n Tryz.prog 175 #[.func (.yield l) #[] #[], .pointer (some ⟨Bs, 0, none⟩)] W fun e W' => (∃ v, e = .returned v) ∧
   ((∃ ys, ys = (toksAt s.data.toList 0).1 /\ J ys W') ∨ (∃ pre, pre <+: (toksAt s.data.toList 0).1 /\ Jx pre W')) := by
 have hw := walkRound n l s hs hn J Jx hJ (fun pre x W h1 h2 => (hY pre x W h1 h2).mono fun e W' h => h.imp (fun ⟨a, b, c⟩ => ⟨a, b, c.2⟩) id) W T h0;have HW := hdQ hw;have hc : W.cell? ⟨Bs, 0, none⟩ = some (.string s) := cell_of hBs 0;clear hw hY hJ hBs T h0;refine callsIn_of_wp Tryz.func175 rfl trivial ?_ rfl;simp only [Tryz.ntmps175, List.size_toArray, List.length_cons, List.length_nil, Nat.reduceAdd, Nat.reduceSub, Array.replicate_succ, Array.replicate_zero, List.push_toArray, List.append_toArray, List.nil_append, List.cons_append]
 gi_wp2_with fail
 refine ⟨trivial, ?_⟩;refine (CallsIn.mono (callsIn_wide.2 (callsIn_wide.1 HW.out)) ?_);rintro e W3 ⟨⟨v, rfl⟩, h⟩;have H3 := hdQ h; clear h
 gi_wp2_with fail
 go_end0
 exact ⟨⟨_, rfl⟩, H3.out.imp (fun h => ⟨_, rfl, h⟩) id⟩
theorem toks_stops (n Bs : Nat) (s : ByteArray) (hs : s.size <= 1048576) (hn : 1 <= n) (w : World) (hBs : w.heap[Bs]? = some (.cells #[.string s] 9 (0, 0))) (T : Tabs w) :
  SeqStopsK Fence.wide n Tryz.prog 175 #[.pointer (some ⟨Bs, 0, none⟩)] (fun x : Tok => #[Value.agg #[.int .i64 x.1, .string ⟨x.2.1.toArray⟩, .int .i64 x.2.2]]) (KpL Bs) (fun ys => ys = (toksAt s.data.toList 0).1) (fun pre => pre <+: (toksAt s.data.toList 0).1) (toksAt s.data.toList 0).1.length w := fun l J Jx W hW hJ _ hY h0 =>
 all1_in n l Bs s hs hn J Jx (fun pre A B h hb => hJ pre A B none h ⟨hb.os, hb.tape, hb.output, hb.size, fun k hk _ => hb.block k hk⟩ (fun r h => by cases h)) hY W ((hW.block _ (heap_lt hBs)).trans hBs) (T.stays hW) h0
end Go.Proofs.YtehghladpnpcoaaGreatDoor.Lex
