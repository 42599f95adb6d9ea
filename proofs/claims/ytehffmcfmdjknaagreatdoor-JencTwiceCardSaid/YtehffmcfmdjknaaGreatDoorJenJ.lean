/- tree.right, tree.Right of whatever is right. -/
import Derived.Test.YtehffmcfmdjknaaGreatDoorJenI
import Derived.Test.YtehffmcfmdjknaaGreatDoorJenD
namespace Go.Proofs.YtehffmcfmdjknaaGreatDoor.Jdec
open Go.RowKit Go.Proofs.YtehffmcfmdjknaaGreatDoor.Strs
set_option linter.unusedVariables false
set_option linter.unusedSimpArgs false
set_option maxRecDepth 100000

/-- What tree.right tells of what is right. -/
def TRight (t : JV) : Prop := ∀ (ra : Raw) (A : Nat → Prop) (w : World) (dp : Nat), t.deepN ≤ dp → dp ≤ 1000 → Utf.Sizes w → IsV w A ra t → Calls Tryz.prog 33 #[ra.val, .int .i64 dp] w fun e w' => e = .returned (.bool true) ∧ Below w.heap.size w w'

set_option maxHeartbeats 4000000 in
theorem tright_step (k : Int) (is ng : Bool) (d : ByteArray) (e : Int) (s : ByteArray) (ks : List ByteArray) (vs : List JV) (O : OwnQ k is ng d e s ks vs.length) (hs : s.size ≤ 2000) (hks : ks.length ≤ 3000) (hv : vs.length ≤ 3000) (hz : ∀ x ∈ ks, x.size ≤ 2000) (IH : ∀ j (h : j < vs.length), TRight vs[j]) : TRight (.mk k is ng d e s ks vs) := by
  intro ra A w dp hdp hdl T h
  have hkk : vs ≠ [] → k = 5 ∨ k = 6 := fun hne => by
    have h1 := O.kids
    have h6 := O.k6
    have := List.length_pos_iff.2 hne
    omega
  rw [deepN_mk] at hdp
  obtain ⟨ka, kc, va, vc, rfl, ht, f, hc, hi⟩ := h.parts
  have HIH := Hid.out (p := Hid _) IH
  have HC := Hid.out (p := Hid _) hc
  have HI := Hid.out (p := Hid _) hi
  have HKK := Hid.out (p := Hid _) hkk
  have HDP := Hid.out (p := Hid _) hdp
  have HT := Hid.out (p := Hid _) T
  have hd1 : 1 ≤ dp := by omega
  obtain ⟨w2, hw2, V2, B2⟩ := own_new w (Raw.mk k is ng d e s ka ks.length kc va vs.length vc)
  have V2 : Hid (w2.heap[w.heap.size]? = some (.cells (Raw.mk k is ng d e s ka ks.length kc va vs.length vc).arr 29 (0, 0))) := V2.out
  have hp := plain_any k is ng d e s ks vs.length O hs hks hz ka va kc vc A w2 (T.stays B2.out) (ht.turn (Turn.below B2.out))
  have HP := Hid.out (p := Hid _) hp
  have q1 : decide ((dp : Int) < 1) = false := by rw [decide_eq_false_iff_not]; omega
  have q2 : decide (dp < 1) = false := by rw [decide_eq_false_iff_not]; omega
  clear h ht hc hi IH hp O hz hkk hdp T
  dsimp only at hw2
  unfold Raw.val at HP ⊢
  obtain ⟨⟨x0, x1, x2, x3, x4, x5, x6, x7⟩, _⟩ := val_cells V2.out
  go_enter Tryz.func33, Tryz.ntmps33
  go_wp2_with fail
  refine (Calls.mono HP.out ?_)
  rintro z w3 ⟨rfl, hb3⟩
  have V3 := Hid.out (p := Hid _) ((hb3.block w.heap.size (heap_lt V2.out)).trans V2.out)
  have B3 := Hid.out (p := Hid _) (B2.out.trans (hb3.mono B2.out.size))
  clear hb3 x0 x1 x2 x3 x4 x5 x6 x7 V2 B2 hw2 HP
  have x7 : w3.cell? ⟨w.heap.size, 7, none⟩ = some (.slice va vs.length vc) := cell_of V3.out 7
  go_wp2_with fail
  clear x7
  go_loopw [17] (fun p wr => ∃ i : Nat, p = .int .i64 i ∧ i ≤ vs.length ∧ Hid (Below w3.heap.size w3 wr)) (fun p _ => vs.length - (intOf p).toNat)
  case atStart => exact ⟨0, rfl, Nat.zero_le _, Below.refl _ _⟩
  case round =>
    obtain ⟨i, rfl, hi, hB⟩ := hrel
    by_cases hlt : i < vs.length
    · have hne : vs ≠ [] := fun e => by rw [e] at hlt; simp at hlt
      obtain ⟨g, o, rfl, hg, hcs⟩ := HC.out.resolve_left hne
      have Bw : Hid (Below w.heap.size w wr) := B3.out.trans (hB.out.mono B3.out.size)
      have K1 := Hid.out (p := Hid _) ((hcs i hlt).below hg Bw.out)
      have I1 := Hid.out (p := Hid _) ((HI.out i hlt).behind Bw.out)
      have hdd : vs[i].deepN ≤ dp - 1 := by
        have h1 := HDP.out
        rw [if_pos (HKK.out hne)] at h1
        have := deepNs_mem vs i hlt
        omega
      obtain ⟨w4, hw4, V4, B4⟩ := own_new wr (f i)
      have hcall := HIH.out i hlt (f i) A w4 (dp - 1) hdd (by omega) ((HT.out.stays Bw.out).stays B4.out) (I1.out.behind B4.out)
      have hdi : (dp : Int) - 1 = ((dp - 1 : Nat) : Int) := by omega
      clear hcs hdd
      generalize f i = x at *
      have HCL := Hid.out (p := Hid _) hcall
      unfold Raw.val at HCL
      have K1c : CellsAt wr g (o + i * 8) x := K1.out
      obtain ⟨u0, u1, u2, u3, u4, u5, u6, u7⟩ := K1c.eight
      have V4 : Hid (w4.heap[wr.heap.size]? = some (.cells x.arr 29 (0, 0))) := V4.out
      obtain ⟨⟨y0, y1, y2, y3, y4, y5, y6, y7⟩, _⟩ := val_cells V4.out
      clear K1 K1c hcall I1
      go_wp2_with fail
      refine (Calls.mono HCL.out ?_)
      rintro z w5 ⟨rfl, hb5⟩
      have B5 : Hid (Below w3.heap.size w3 w5) := (hB.out.trans (B4.out.mono hB.out.size)).trans (hb5.mono (Nat.le_trans hB.out.size B4.out.size))
      clear hb5
      go_wp2_with fail
      go_roundw
      case rel => exact ⟨i + 1, by go_num, by omega, B5.out⟩
      case measure => simp [intOf]; omega
    · go_wp2_with fail
      go_ret
      exact ⟨rfl, B3.out.trans (hB.out.mono B3.out.size)⟩
end Go.Proofs.YtehffmcfmdjknaaGreatDoor.Jdec
