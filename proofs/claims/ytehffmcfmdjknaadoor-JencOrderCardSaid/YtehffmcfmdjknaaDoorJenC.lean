/- tabulariumref08.whole, Right of any value. -/
import Derived.Test.YtehffmcfmdjknaaDoorJenB
namespace Go.Proofs.YtehffmcfmdjknaaDoor.Jdec
open Go.RowKit Go.Proofs.YtehffmcfmdjknaaDoor.Strs
set_option linter.unusedVariables false
set_option linter.unusedSimpArgs false
set_option maxRecDepth 100000

/-- Right, all of it. -/
inductive GoodQ : JV → Prop where
  | mk (k : Int) (i n : Bool) (d : ByteArray) (e : Int) (s : ByteArray) (ks : List ByteArray) (vs : List JV) : OwnQ k i n d e s ks vs.length → (∀ j (h : j < vs.length), GoodQ vs[j]) → GoodQ (.mk k i n d e s ks vs)
/-- What tabulariumref08.whole tells. -/
def WholeQ (t : JV) : Prop := ∀ (ra : Raw) (A : Nat → Prop) (w : World), IsV w A ra t → Calls Tryd.prog 14 #[ra.val] w (BPost (GoodQ t) w)
theorem BPost.to {P : Prop} {w : World} {x : Ending} {w' : World} (h : BPost P w x w') : ∃ b, x = .returned (.bool b) ∧ (b = true → P) ∧ Below w.heap.size w w' := h

set_option maxHeartbeats 4000000 in
theorem wholeq_step (N : Nat) (hN : N ≤ 281474976710656) (k : Int) (is ng : Bool) (d : ByteArray) (e : Int) (s : ByteArray) (ks : List ByteArray) (vs : List JV) (hd : d.size ≤ N) (hs : s.size ≤ N) (hk : ks.length ≤ N) (hv : vs.length ≤ N) (hx : ∀ x ∈ ks, x.size ≤ N) (IH : ∀ j (h : j < vs.length), WholeQ vs[j]) : WholeQ (.mk k is ng d e s ks vs) := by
  intro ra A w h
  obtain ⟨ka, kc, va, vc, rfl, ht, f, hc, hi⟩ := h.parts
  have HIH := Hid.out (p := Hid _) IH
  have HC := Hid.out (p := Hid _) hc
  have HI := Hid.out (p := Hid _) hi
  obtain ⟨w2, hw2, V2, B2⟩ := own_new w (Raw.mk k is ng d e s ka ks.length kc va vs.length vc)
  have V2 : Hid (w2.heap[w.heap.size]? = some (.cells (Raw.mk k is ng d e s ka ks.length kc va vs.length vc).arr 27 (0, 0))) := V2.out
  have hown := ownq_any N hN k is ng d e s ks vs.length hd hs hk hx ka va kc vc A w2 (ht.turn (Turn.below B2.out))
  have HOWN := Hid.out (p := Hid _) hown
  clear h ht hc hi IH hown hx
  dsimp only at hw2
  unfold Raw.val at HOWN ⊢
  obtain ⟨⟨x0, x1, x2, x3, x4, x5, x6, x7⟩, _⟩ := val_cells V2.out
  go_enter Tryd.func14, Tryd.ntmps14
  go_wp2_with fail
  refine (Calls.mono HOWN.out ?_)
  rintro z w3 hz
  obtain ⟨b, rfl, hb, hb3⟩ := hz.to
  have HBO := Hid.out (p := Hid _) hb
  have V3 := Hid.out (p := Hid _) ((hb3.block w.heap.size (heap_lt V2.out)).trans V2.out)
  have B3 := Hid.out (p := Hid _) (B2.out.trans (hb3.mono B2.out.size))
  clear hz hb hb3 x0 x1 x2 x3 x4 x5 x6 x7 V2 B2 hw2 HOWN
  cases b
  case false =>
    go_wp2_with fail
    go_ret
    exact BPost.mk false rfl (fun h => by cases h) B3.out
  case true =>
  have HO := Hid.out (p := Hid _) (HBO.out rfl)
  clear HBO
  go_wp2_with fail
  go_loopw [3] (fun p wr => ∃ i : Nat, p = .int .i64 i ∧ i ≤ vs.length ∧ Hid (Below w3.heap.size w3 wr) ∧ Hid (∀ j (h : j < vs.length), j < i → GoodQ vs[j])) (fun p _ => vs.length - (intOf p).toNat)
  case atStart => exact ⟨0, rfl, Nat.zero_le _, Below.refl _ _, fun j h hj => absurd hj (Nat.not_lt_zero _)⟩
  case round =>
    obtain ⟨i, rfl, hi, hB, hG⟩ := hrel
    have V4 := Hid.out (p := Hid _) ((hB.out.block w.heap.size (heap_lt V3.out)).trans V3.out)
    have d7 : wr.cell? ⟨w.heap.size, 7, none⟩ = some (.slice va vs.length vc) := cell_of V4.out 7
    by_cases hlt : i < vs.length
    · have hne : vs ≠ [] := fun e => by rw [e] at hlt; simp at hlt
      obtain ⟨g, o, rfl, hg, hcs⟩ := HC.out.resolve_left hne
      have Bw : Hid (Below w.heap.size w wr) := B3.out.trans (hB.out.mono B3.out.size)
      have K1 := Hid.out (p := Hid _) ((hcs i hlt).below hg Bw.out)
      have I1 := Hid.out (p := Hid _) ((HI.out i hlt).behind Bw.out)
      have hcall := HIH.out i hlt (f i) A wr I1.out
      clear hcs
      generalize f i = x at *
      have HCL := Hid.out (p := Hid _) hcall
      have K1c : CellsAt wr g (o + i * 8) x := K1.out
      obtain ⟨u0, u1, u2, u3, u4, u5, u6, u7⟩ := K1c.eight
      clear K1 K1c hcall I1 V4
      go_wp2_with fail
      refine (Calls.mono HCL.out ?_)
      rintro z w5 hz
      obtain ⟨b, rfl, hb, hb5⟩ := hz.to
      have HBO := Hid.out (p := Hid _) hb
      have B5 : Hid (Below w3.heap.size w3 w5) := hB.out.trans (hb5.mono hB.out.size)
      clear hb5 hz hb
      cases b
      case false =>
        go_wp2_with fail
        go_ret
        exact BPost.mk false rfl (fun h => by cases h) (B3.out.trans (B5.out.mono B3.out.size))
      case true =>
      have HGN : Hid (∀ j (h : j < vs.length), j < i + 1 → GoodQ vs[j]) := by
        intro j h hj
        by_cases hji : j = i
        · subst hji; exact HBO.out rfl
        · exact hG.out j h (by omega)
      go_wp2_with fail
      go_roundw
      case rel => exact ⟨i + 1, by go_num, by omega, B5.out, HGN.out⟩
      case measure => simp [intOf]; omega
    · have HQ : Hid (GoodQ (.mk k is ng d e s ks vs)) := .mk k is ng d e s ks vs HO.out (fun j h => hG.out j h (by omega))
      go_wp2_with fail
      go_ret
      exact BPost.mk true rfl (fun _ => HQ.out) (B3.out.trans (hB.out.mono B3.out.size))
theorem wholeq_any (N : Nat) (hN : N ≤ 281474976710656) (t : JV) (h : Held N t) : WholeQ t := by
  induction h with
  | mk k i n d e s ks vs h1 h2 h3 h4 h5 h6 ih => exact wholeq_step N hN k i n d e s ks vs h1 h2 h3 h4 h5 ih
theorem held_small {N : Nat} {t : JV} (h : Held N t) : Small N t := by
  induction h with
  | mk k i n d e s ks vs h1 h2 h3 h4 h5 h6 ih => exact .mk k i n d e s ks vs h3 h4 ih

set_option maxHeartbeats 1000000 in
theorem rightq_any (N : Nat) (hN : N ≤ 281474976710656) (t : JV) (h : Held N t) (hd : t.deepN ≤ 1000) (ra : Raw) (A : Nat → Prop) (w : World) (hi : IsV w A ra t) :
    Calls Tryd.prog 7 #[ra.val] w (BPost (GoodQ t ∧ t.deepN ≤ 64) w) := by
  obtain ⟨w2, hw2, V2, B2⟩ := own_new w ra
  have V2 : Hid (w2.heap[w.heap.size]? = some (.cells ra.arr 27 (0, 0))) := V2.out
  have I2 := Hid.out (p := Hid _) (hi.behind B2.out)
  have hdc := deep_any N (by omega) t (held_small h) hd ra A w2 I2.out
  have HDC := Hid.out (p := Hid _) hdc
  have hwc := wholeq_any N hN t h
  have HWC := Hid.out (p := Hid _) hwc
  generalize t.deepN = dn at *
  clear hi hdc hwc h
  unfold Raw.val at HDC ⊢
  obtain ⟨⟨x0, x1, x2, x3, x4, x5, x6, x7⟩, _⟩ := val_cells V2.out
  go_enter Tryd.func7, Tryd.ntmps7
  go_wp2_with fail
  refine (Calls.mono HDC.out ?_)
  rintro z w3 ⟨rfl, hb3⟩
  have V3 := Hid.out (p := Hid _) ((hb3.block w.heap.size (heap_lt V2.out)).trans V2.out)
  have B3 := Hid.out (p := Hid _) (B2.out.trans (hb3.mono B2.out.size))
  have hcall := HWC.out ra A w3 (I2.out.behind hb3)
  have HCL := Hid.out (p := Hid _) hcall
  unfold Raw.val at HCL
  clear hb3 x0 x1 x2 x3 x4 x5 x6 x7 V2 B2 hw2 HDC hcall
  by_cases h64 : dn ≤ 64
  · have t1 : decide ((dn : Int) ≤ 64) = true := by rw [decide_eq_true_eq]; omega
    have t2 : decide (dn ≤ 64) = true := by rw [decide_eq_true_eq]; omega
    have H64 := Hid.out (p := Hid _) h64
    obtain ⟨⟨x0, x1, x2, x3, x4, x5, x6, x7⟩, _⟩ := val_cells V3.out
    clear h64 hd
    go_wp2_with fail
    refine (Calls.mono HCL.out ?_)
    rintro z w4 hz
    obtain ⟨b, rfl, hb, hb4⟩ := hz.to
    have HBO := Hid.out (p := Hid _) hb
    have B4 := Hid.out (p := Hid _) (B3.out.trans (hb4.mono B3.out.size))
    clear hb4 hz hb
    go_wp2_with fail
    go_ret
    exact BPost.mk b rfl (fun h => ⟨HBO.out h, H64.out⟩) B4.out
  · have t1 : decide ((dn : Int) ≤ 64) = false := by rw [decide_eq_false_iff_not]; omega
    have t2 : decide (dn ≤ 64) = false := by rw [decide_eq_false_iff_not]; omega
    clear h64 hd
    go_wp2_with fail
    go_ret
    exact BPost.mk false rfl (fun h => by cases h) B3.out
end Go.Proofs.YtehffmcfmdjknaaDoor.Jdec
