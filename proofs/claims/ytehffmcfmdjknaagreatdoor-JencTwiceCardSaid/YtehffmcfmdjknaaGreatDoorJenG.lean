/- tree.areKeys of keys that are right. -/
import Derived.Test.YtehffmcfmdjknaaGreatDoorJenC
import Derived.Test.YtehffmcfmdjknaaGreatDoorJenE
namespace Go.Proofs.YtehffmcfmdjknaaGreatDoor.Jdec
open Go.RowKit Go.Proofs.YtehffmcfmdjknaaGreatDoor.Strs
set_option linter.unusedVariables false
set_option linter.unusedSimpArgs false
set_option maxRecDepth 100000

theorem makeMap_hint (n : Int) : ∀ w, Sem.run Tryz.prog (Instr.makeMap 108 (some (.int .i64 n))) w = .ok (.map (some w.heap.size)) (w.alloc (.map #[] 0)) := fun w => by
  simp [Instr.makeMap, run_underlying Tryz.underlying108, asInt, asIntOf, Result.andThen]
theorem valid_yes (s : ByteArray) (w : World) (hs : s.size ≤ 4611686018427387904) (T : Utf.Sizes w) (h : Utf.validB s.data.toList = true) : Calls Tryz.prog 82 #[.string s] w fun e w' => e = .returned (.bool true) ∧ w = w' := by
  have := Quote.valid_any s w hs T
  rw [Utf.badZ_neg, h] at this
  exact this

set_option maxHeartbeats 4000000 in
theorem areKeys_any (ks : List ByteArray) (ka : Option Addr) (kc : Nat) (A : Nat → Prop) (w : World) (ht : IsTexts w A ka ks) (hl : ks.length ≤ 3000) (hs : ∀ x ∈ ks, x.size ≤ 2000) (hv : ∀ x ∈ ks, Utf.validB x.data.toList = true) (hn : ks.Nodup) (T : Utf.Sizes w) :
    Calls Tryz.prog 83 #[.slice ka ks.length kc] w fun e w' => e = .returned (.bool true) ∧ Below w.heap.size w w' := by
  have HT : Hid (IsTexts w A ka ks) := ht
  have HS := Hid.out (p := Hid _) hs
  have HV := Hid.out (p := Hid _) hv
  have HN := Hid.out (p := Hid _) hn
  have HZ := Hid.out (p := Hid _) T
  obtain ⟨w1, hw1⟩ : ∃ w1, w.alloc (.map #[] 0) = w1 := ⟨_, rfl⟩
  have S1 : Hid (Seen w1 w.heap.size 0 []) := by rw [← hw1]; exact Seen.made w
  have B1 : Hid (Below w.heap.size w w1) := by rw [← hw1]; exact (Below.refl _ _).alloc (Nat.le_refl _) _
  clear ht hs hv hn T
  have hmm := makeMap_hint ks.length
  go_enter Tryz.func83, Tryz.ntmps83
  go_wp2_with fail
  clear hw1
  go_loopw [11] (fun p wr => ∃ i : Nat, p = .int .i64 i ∧ i ≤ ks.length ∧ Hid (Seen wr w.heap.size i (ks.take i)) ∧ Hid (Below w.heap.size w wr)) (fun p _ => ks.length - (intOf p).toNat)
  case atStart => exact ⟨0, rfl, Nat.zero_le _, S1.out, B1.out⟩
  case round =>
    obtain ⟨i, rfl, hi, hS, hB⟩ := hrel
    by_cases hlt : i < ks.length
    · have hne : ks ≠ [] := fun e => by rw [e] at hlt; simp at hlt
      have HT5 : Hid (IsTexts wr A ka ks) := IsTexts.turn HT.out (Turn.below hB.out)
      obtain ⟨b, o, rfl, _, _, hc⟩ := HT5.out.resolve_left hne
      have g2 := hc i hlt
      have hx2 := HS.out ks[i] (List.getElem_mem hlt)
      have hxv := HV.out ks[i] (List.getElem_mem hlt)
      have hno : (ks.take i).any (fun x => decide (x = ks[i])) = false := by
        rw [List.any_eq_false]
        intro x hx
        obtain ⟨j, hj, rfl⟩ := List.getElem_of_mem hx
        rw [List.length_take] at hj
        rw [List.getElem_take, decide_eq_true_eq]
        intro e
        exact absurd ((List.getElem_inj HN.out).1 e) (by omega)
      have htk : ks.take (i + 1) = ks.take i ++ [ks[i]] := by rw [List.take_add_one, List.getElem?_eq_getElem hlt]; rfl
      generalize ks[i] = x at *
      have hlook := hS.out.look x (by unfold maxLen; omega)
      rw [hno] at hlook
      have hva := valid_yes x wr (by omega) (HZ.out.stays hB.out) hxv
      have hkey := key_of x (by unfold maxLen; omega)
      have HVA := Hid.out (p := Hid _) hva
      have HTK := Hid.out (p := Hid _) htk
      obtain ⟨D, hD1, hD2⟩ := hS.out
      have HD1 : Hid (wr.ownsMap Tryz.prog 9 (plainElem Tryz.prog 4) w.heap.size i D) := hD1
      have HD2 := Hid.out (p := Hid _) hD2
      clear hc hva hno hxv htk hD1 hD2 HT5
      go_wp2_with fail
      refine (Calls.mono HVA.out ?_)
      rintro e w' ⟨rfl, rfl⟩
      go_wp2_with (at_mapUpdate; refine wpList_mapUpdate_own _ rfl _ _ _ 108 rfl 9 4 keyLaw Tryz.underlying108 _ w.heap.size i D rfl HD1.out (by unfold maxLen; omega) _ _ _ rfl rfl hkey _ [] (plainElem_bool Tryz.underlying4 true) ?_)
      intro w4 hown4 hgrow4
      have S4 : Hid (Seen w4 w.heap.size (i + 1) (ks.take (i + 1))) := by rw [Hid, HTK.out]; exact Seen.put HD1.out HD2.out hown4
      have B4 : Hid (Below w.heap.size w w4) := hB.out.grown hgrow4 hB.out.size (fun k e => by cases e; exact Nat.le_refl _)
      clear hown4 hgrow4 hlook g2
      go_wp2_with fail
      go_roundw
      case rel => exact ⟨i + 1, by go_num, by omega, S4.out, B4.out⟩
      case measure => simp [intOf]; omega
    · go_wp2_with fail
      go_ret
      exact ⟨rfl, hB.out⟩
end Go.Proofs.YtehffmcfmdjknaaGreatDoor.Jdec
