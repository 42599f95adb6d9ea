/- utf.All and its iterator. -/
import Derived.Test.YtbfkgddhpabioaaDoorUtfP
import Derived.RangeFuncNested
import Derived.RangeFuncBound
import Derived.RangeFuncCalls
import Derived.RangeFuncLeaves
import Derived.Shelf.Abstract
import Derived.Shelf.RegionOpen
import Derived.WalkKit
import Derived.OwnWalkIn
import Derived.TacticsInMore
import Derived.LoopNIn
import Derived.LoopIn
namespace Go.Proofs.YtbfkgddhpabioaaDoor.Utf
open Go.RowKit Go.Shelf
set_option linter.unusedVariables false
set_option linter.unusedSimpArgs false
attribute [local go_sem] Oper.semAt_some

/-- The scalars of a text up to where it ends to be one, each with its place. -/
def scal : (fuel : Nat) → List UInt8 → Nat → List (Nat × Nat)
  | 0, _, _ => []
  | n + 1, l, p => if l = [] then [] else if (one l).2 = 0 then [] else (p, (one l).1) :: scal n (l.drop (one l).2) (p + (one l).2)
theorem scal_mono : ∀ (n m : Nat) (l : List UInt8) (p : Nat), l.length < n → l.length < m → scal n l p = scal m l p
  | 0, _, _, _, h, _ => by omega
  | _ + 1, 0, _, _, _, h => by omega
  | n + 1, m + 1, l, p, h, h' => by
    unfold scal
    by_cases hl : l = []
    · rw [if_pos hl, if_pos hl]
    · rw [if_neg hl, if_neg hl]
      by_cases hz : (one l).2 = 0
      · rw [if_pos hz, if_pos hz]
      · rw [if_neg hz, if_neg hz]
        have h1 := (one_size_le l).1
        rw [scal_mono n m _ _ (by rw [List.length_drop]; omega) (by rw [List.length_drop]; omega)]
/-- .. of the rest from a place on. -/
def scalAt (l : List UInt8) (k : Nat) : List (Nat × Nat) := scal (l.length - k + 1) (l.drop k) k
theorem scalAt_step (l : List UInt8) (k : Nat) (hk : k ≤ l.length) :
    scalAt l k = if k = l.length then [] else if (one (l.drop k)).2 = 0 then [] else (k, (one (l.drop k)).1) :: scalAt l (k + (one (l.drop k)).2) := by
  unfold scalAt
  conv => lhs; unfold scal
  by_cases h : k = l.length
  · subst h; simp
  · have hne : ¬ l.drop k = [] := by intro e; have := congrArg List.length e; simp at this; omega
    rw [if_neg hne, if_neg h]
    by_cases hz : (one (l.drop k)).2 = 0
    · rw [if_pos hz, if_pos hz]
    · rw [if_neg hz, if_neg hz, List.drop_drop]
      have h1 := (one_size_le (l.drop k)).1
      rw [List.length_drop] at h1
      congr 1
      exact scal_mono _ _ _ _ (by rw [List.length_drop]; omega) (by rw [List.length_drop]; omega)

theorem all_any (s : ByteArray) (w : World) :
    Calls Tryd.prog 117 #[.string s] w fun e w' => e = .returned (.func (.func 131) #[] #[.pointer (some ⟨w.heap.size, 0, none⟩)]) ∧ Below w.heap.size w w' ∧ w'.heap[w.heap.size]? = some (.cells #[.string s] 9 (0, 0)) := by
  go_enter Tryd.func117, Tryd.ntmps117
  go_wp2
  go_ret
  exact ⟨rfl, (Below.refl _ _).alloc (Nat.le_refl _) _, heap_alloc_new _ _⟩

/-- What a round keeps: the text's box, and the table. -/
def KpA (Bs : Nat) (W W' : World) : Prop := W'.heap[Bs]? = W.heap[Bs]? ∧ (Sizes W → Sizes W')
theorem KpA.t {Bs : Nat} {A B C : World} (h : KpA Bs A B) (k : KpA Bs B C) : KpA Bs A C := ⟨k.1.trans h.1, fun t => k.2 (h.2 t)⟩
theorem Sizes.kept {w w' : World} (T : Sizes w) (h : w'.heap[3]? = w.heap[3]?) : Sizes w' :=
  ⟨fun n hn => (World.cell?_of_block h).trans (T.cell n hn)⟩

theorem Sizes.lt {w : World} (T : Sizes w) : 3 < w.heap.size := by
  have h := T.cell 0 (by omega)
  unfold World.cell? at h
  split at h
  · rename_i h1; exact heap_lt h1
  · cases h
theorem Sizes.stays {w w' : World} (T : Sizes w) (h : Below w.heap.size w w') : Sizes w' := T.kept (h.block _ T.lt)

set_option maxRecDepth 100000 in
set_option maxHeartbeats 2000000 in
theorem all1_in (n l Bs : Nat) (s : ByteArray) (hs : s.size ≤ 4611686018427387904) (hn : 1 ≤ n) (J Jx : List (Nat × Nat) → World → Prop)
    (hY : ∀ pre (x : Nat × Nat) W, J pre W → pre.length < (scalAt s.data.toList 0).length → YieldAt Fence.wide (n - 1) Tryd.prog l #[.int .i64 x.1, .int .i64 x.2] W fun e W' =>
      (e = .returned (.bool true) ∧ J (pre ++ [x]) W' ∧ KpA Bs W W') ∨ (e = .returned (.bool false) ∧ Jx (pre ++ [x]) W'))
    (W : World) (hBs : W.heap[Bs]? = some (.cells #[.string s] 9 (0, 0))) (T : Sizes W) (h0 : J [] W) :
    CallsIn Fence.wide n Tryd.prog 131 #[.func (.yield l) #[] #[], .pointer (some ⟨Bs, 0, none⟩)] W fun e W' => (∃ v, e = .returned v) ∧
      ((∃ ys, ys = scalAt s.data.toList 0 ∧ J ys W') ∨ (∃ pre, pre <+: scalAt s.data.toList 0 ∧ Jx pre W')) := by
  refine callsIn_of_wp Tryd.func131 rfl trivial ?_ rfl
  simp only [Tryd.ntmps131, List.size_toArray, List.length_cons, List.length_nil, Nat.reduceAdd, Nat.reduceSub, Array.replicate_succ, Array.replicate_zero, List.push_toArray, List.append_toArray, List.nil_append, List.cons_append]
  gi_wp2_with fail
  gi_loopw [3] (fun p wr => ∃ (k : Nat) (pre : List (Nat × Nat)), k ≤ s.size ∧ p = .int .i64 k ∧ Hid (scalAt s.data.toList 0 = pre ++ scalAt s.data.toList k) ∧ Hid (J pre wr) ∧ Hid (wr.heap[Bs]? = some (.cells #[.string s] 9 (0, 0))) ∧ Hid (Sizes wr))
    (fun p _ => s.size - (intOf p).toNat)
  case atStart => exact ⟨0, [], Nat.zero_le _, rfl, rfl, h0, hBs, T⟩
  case round =>
    obtain ⟨k, pre, hk, rfl, hp, hJ, hb, ht⟩ := hrel
    have hl : s.data.toList.length = s.size := by simp
    have hc : wr.cell? ⟨Bs, 0, none⟩ = some (.string s) := cell_of hb.out 0
    by_cases hlt : k < s.size
    · have h1 := one_size_le (s.data.toList.drop k)
      rw [List.length_drop, hl] at h1
      have hst := scalAt_step s.data.toList k (by rw [hl]; omega)
      rw [hl, if_neg (by omega)] at hst
      have HS := Hid.out (p := Hid _) hst; clear hst
      have HL := Hid.out (p := Hid _) hl; clear hl
      gi_wp2_with fail
      refine ⟨trivial, ?_⟩
      refine (callsIn_wide.2 (first_any s k wr (by omega) hs ht.out)).mono ?_
      rintro e w' ⟨rfl, rfl⟩
      generalize one (s.data.toList.drop k) = o at *
      obtain ⟨c, z⟩ := o
      simp only at h1 HS
      by_cases hz : z = 0
      · subst hz
        gi_wp2_with fail
        refine ⟨fun _ h => (by cases h), ?_⟩
        gi_wp2_with fail
        refine bodyPost_ret (results_none rfl _ _ _) rfl ?_
        refine ⟨⟨_, rfl⟩, .inl ⟨pre, ?_, hJ.out⟩⟩
        rw [hp.out, HS.out]; simp
      · have hzb : ((z : Int) == 0) = false := by simp; omega
        obtain ⟨fn, tmps, assign, body, hy, hR⟩ := hY pre (k, c) wr hJ.out (by rw [hp.out, HS.out, if_neg hz]; simp)
        dsimp only at hy
        gi_wp2_with fail
        refine hR.mono ?_
        rintro e W3 (⟨rfl, hJ3, hk3⟩ | ⟨rfl, hJx3⟩)
        · have J3 : Hid (J (pre ++ [(k, c)]) W3) := hJ3
          have B3 : Hid (W3.heap[Bs]? = some (.cells #[.string s] 9 (0, 0))) := hk3.1.trans hb.out
          have T3 : Hid (Sizes W3) := hk3.2 ht.out
          clear hJ3 hk3
          gi_wp2_with fail
          go_roundw
          case rel => exact ⟨k + z, pre ++ [(k, c)], by omega, by go_num, by rw [Hid, hp.out, HS.out, if_neg hz]; simp, J3.out, B3.out, T3.out⟩
          case measure => simp [intOf]; omega
        · have J3 : Hid (Jx (pre ++ [(k, c)]) W3) := hJx3
          clear hJx3
          gi_wp2_with fail
          refine bodyPost_ret (results_none rfl _ _ _) rfl ?_
          exact ⟨⟨_, rfl⟩, .inr ⟨pre ++ [(k, c)], by rw [hp.out, HS.out, if_neg hz]; exact ⟨scalAt s.data.toList (k + z), by simp⟩, J3.out⟩⟩
    · obtain rfl : k = s.size := by omega
      gi_wp2_with fail
      go_end0
      refine ⟨⟨_, rfl⟩, .inl ⟨pre, ?_, hJ.out⟩⟩
      rw [hp.out, scalAt_step _ _ (by simp)]; simp

theorem scal_stops (n Bs : Nat) (s : ByteArray) (hs : s.size ≤ 4611686018427387904) (hn : 1 ≤ n) (w : World) (hBs : w.heap[Bs]? = some (.cells #[.string s] 9 (0, 0))) (T : Sizes w) :
    SeqStopsK Fence.wide n Tryd.prog 131 #[.pointer (some ⟨Bs, 0, none⟩)] (fun x : Nat × Nat => #[Value.int .i64 x.1, Value.int .i64 x.2]) (KpA Bs) (fun ys => ys = scalAt s.data.toList 0) (fun pre => pre <+: scalAt s.data.toList 0) (scalAt s.data.toList 0).length w := fun l J Jx W hW _ _ hY h0 =>
  all1_in n l Bs s hs hn J Jx hY W ((hW.block _ (heap_lt hBs)).trans hBs) (T.stays hW) h0
end Go.Proofs.YtbfkgddhpabioaaDoor.Utf
