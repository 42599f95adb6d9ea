/- tree.sortAll, Sort; jenc.Canon, of whatever is right. -/
import Derived.Test.YtehffmcfmdjknaaDoorSorD
import Derived.Test.YtehffmcfmdjknaaDoorJenV
namespace Go.Proofs.YtehffmcfmdjknaaDoor.Jdec
open Go.RowKit Go.Proofs.YtehffmcfmdjknaaDoor.Strs Go.Proofs
set_option linter.unusedVariables false
set_option linter.unusedSimpArgs false
set_option maxRecDepth 100000

theorem sortAll_any (t : JV) (hg : GoodQ t) : t.mass ≤ 3000 → SortC t := by
  induction hg with
  | mk k i n d e s ks vs O hk ih =>
    intro hm
    rw [mass_mk] at hm
    have hl := masses_len vs
    have IH : ∀ j (h : j < vs.length), SortC vs[j] := fun j hj => ih j hj (by have := masses_mem vs j hj; omega)
    by_cases h6 : k = 6
    · subst h6
      exact sortAll_six i n d e s ks vs (by omega) (O.both rfl) O.apart IH
    · exact sortAll_other k h6 i n d e s ks vs (by omega) IH
theorem cellsAt_own {w : World} {b : Nat} {r : Raw} {T : TypeId} (h : w.heap[b]? = some (.cells r.arr T (0, 0))) : CellsAt w b 0 r := fun j u hu => by
  rw [Nat.zero_add, cell_of h j]
  rw [← hu]
  simp [Raw.arr, Raw.cells]
set_option maxHeartbeats 4000000 in
theorem sort_any (t : JV) (hg : GoodQ t) (hf : Fine t) (hm : t.mass ≤ 3000) (hd : t.deepN ≤ 64) (ra : Raw) (A : Nat → Prop) (w : World) (T : Utf.Sizes w) (hi : IsV w A ra t) :
    Calls Tryd.prog 16 #[ra.val] w (CopyP t.sort w) := by
  obtain ⟨w2, hw2, V2, B2⟩ := own_new w ra
  obtain ⟨w3, hw3, V3, B3⟩ := own_new w2 Raw.zero
  have V2 : Hid (w2.heap[w.heap.size]? = some (.cells ra.arr 27 (0, 0))) := V2.out
  have hl2 := heap_lt V2.out
  have hl3 := heap_lt V3.out
  have V23 : Hid (w3.heap[w.heap.size]? = some (.cells ra.arr 27 (0, 0))) := (B3.out.block _ (by omega)).trans V2.out
  have B13 : Hid (Below w.heap.size w w3) := B2.out.trans (B3.out.mono (by omega))
  have hc := copy_any t hg hm ra A w3 (hi.turn (Turn.below B13.out))
  have HC := Hid.out (p := Hid _) hc
  have HT := Hid.out (p := Hid _) T
  have HR : Hid (∀ (r : Raw) (A : Nat → Prop) (w' : World), Below w.heap.size w w' → IsV w' A r t → Calls Tryd.prog 15 #[r.val] w' fun e w'' => e = .returned (.bool true) ∧ Below w'.heap.size w' w'') := fun r A w' hb hi => tree_right t hg hf hm hd r A w' (T.stays hb) hi
  have hs := sortAll_any t hg hm
  have HS := Hid.out (p := Hid _) hs
  clear hc hs hi T hg hf
  dsimp only [Raw.zero] at hw3
  unfold Raw.val at HC ⊢
  obtain ⟨⟨x0, x1, x2, x3, x4, x5, x6, x7⟩, _⟩ := val_cells V23.out
  go_enter Tryd.func16, Tryd.ntmps16
  go_wp2_with fail
  refine (Calls.mono HC.out ?_)
  rintro z w4 hz
  obtain ⟨r, rfl, ho, B4⟩ := hz.to
  have h4 := B4.out.size
  obtain ⟨w5, hw5, V5, B5⟩ := own_new w4 r
  have V5 : Hid (w5.heap[w4.heap.size]? = some (.cells r.arr 27 (0, 0))) := V5.out
  have h5 := heap_lt V5.out
  have ho5 : Hid (OwnV w5 (fun b => w3.heap.size ≤ b ∧ b < w4.heap.size) r t) := ho.out.keep fun b hb hl => B5.out.block b hl
  have B15 : Hid (Below w.heap.size w w5) := (B13.out.trans (B4.out.mono (by omega))).trans (B5.out.mono (by omega))
  have hrc := HR.out r (fun _ => True) w5 B15.out (ho5.out.isV _ (fun _ _ => trivial))
  have HRC := Hid.out (p := Hid _) hrc
  have V35 : Hid (w5.heap[w2.heap.size]? = some (.cells Raw.zero.arr 27 (0, 0))) := (B5.out.block _ (by omega)).trans ((B4.out.block _ (by omega)).trans V3.out)
  clear hz hrc HC HR x0 x1 x2 x3 x4 x5 x6 x7
  unfold Raw.val at HRC ⊢
  obtain ⟨⟨y0, y1, y2, y3, y4, y5, y6, y7⟩, _⟩ := val_cells V5.out
  go_wp2_with fail
  refine (Calls.mono HRC.out ?_)
  rintro z w6 ⟨rfl, hb6⟩
  have h6 := hb6.size
  have V6 : Hid (w6.heap[w4.heap.size]? = some (.cells r.arr 27 (0, 0))) := (hb6.block _ h5).trans V5.out
  have V36 : Hid (w6.heap[w2.heap.size]? = some (.cells Raw.zero.arr 27 (0, 0))) := (hb6.block _ (by omega)).trans V35.out
  have ho6 : Hid (OwnV w6 (fun b => w3.heap.size ≤ b ∧ b < w4.heap.size) r t) := ho5.out.keep fun b hb hl => hb6.block b hl
  have B16 : Hid (Below w.heap.size w w6) := B15.out.trans (hb6.mono (by omega))
  have hsc := HS.out r (fun b => w3.heap.size ≤ b ∧ b < w4.heap.size) w6 w4.heap.size 0 (cellsAt_own V6.out) (by omega) (by omega) (fun b hb => by have := hb.2; omega) ho6.out
  have HSC := Hid.out (p := Hid _) hsc
  clear hb6 hsc HS HRC y0 y1 y2 y3 y4 y5 y6 y7 hw5
  go_wp2_with fail
  refine (Calls.mono HSC.out ?_)
  rintro z w7 hz
  obtain ⟨rfl, ho7, hO7⟩ := hz.to
  have h7 := hO7.out.size
  have V7 : Hid (w7.heap[w4.heap.size]? = some (.cells r.arr 27 (0, 0))) := (hO7.out.block _ (by omega) (by omega)).trans V6.out
  have V37 : Hid (w7.heap[w2.heap.size]? = some (.cells Raw.zero.arr 27 (0, 0))) := (hO7.out.block _ (by omega) (by omega)).trans V36.out
  have B17 : Hid (Below w.heap.size w w7) := B16.out.trans ⟨hO7.out.os, hO7.out.tape, hO7.out.output, hO7.out.size, fun b hb => hO7.out.block b (by omega) (by omega)⟩
  clear hz HSC
  obtain ⟨⟨z0, z1, z2, z3, z4, z5, z6, z7⟩, _⟩ := val_cells V7.out
  obtain ⟨⟨r0, r1, r2, r3, r4, r5, r6, r7⟩, g0, g1, g2, g3, g4, g5, g6, g7⟩ := val_cells V37.out
  go_wp2_with fail
  exact copy_fin rfl V37 rfl B17 (by omega) r _ _ ho7 (fun x hx => ⟨by have := hx.1; omega, by have := hx.2; omega, by have := hx.1; omega⟩)
/-- A canon is told. -/
theorem canon_any (t : JV) (hg : GoodQ t) (hf : Fine t) (hm : t.mass ≤ 3000) (hd : t.deepN ≤ 64) (ra : Raw) (A : Nat → Prop) (w : World) (T : Utf.Sizes w) (P0 : Pow10 w) (hi : IsV w A ra t) :
    Calls Tryd.prog 8 #[ra.val] w (PrP false t.sort w) := by
  obtain ⟨kg, km, kd, kf⟩ := sort_keeps t hg
  obtain ⟨w2, hw2, V2, B2⟩ := own_new w ra
  have V2 : Hid (w2.heap[w.heap.size]? = some (.cells ra.arr 27 (0, 0))) := V2.out
  have hl2 := heap_lt V2.out
  have hr := tree_right t hg hf hm hd ra A w2 (T.stays B2.out) (hi.behind B2.out)
  have HR := Hid.out (p := Hid _) hr
  have HS : Hid (∀ w', Below w.heap.size w w' → Calls Tryd.prog 16 #[ra.val] w' (CopyP t.sort w')) := fun w' hb => sort_any t hg hf hm hd ra A w' (T.stays hb) (hi.behind hb)
  have HP : Hid (∀ (r : Raw) (A : Nat → Prop) w', Below w.heap.size w w' → IsV w' A r t.sort → Calls Tryd.prog 11 #[r.val] w' (PrP false t.sort w')) := fun r A w' hb hi => print_any t.sort kg (kf hf) (by omega) (by omega) r A w' (T.stays hb) (P0.stays hb) hi
  clear hr hi T P0 hg hf kg km kd kf
  generalize t.sort = ts at *
  unfold Raw.val at HR HS ⊢
  obtain ⟨⟨x0, x1, x2, x3, x4, x5, x6, x7⟩, _⟩ := val_cells V2.out
  go_enter Tryd.func8, Tryd.ntmps8
  go_wp2_with fail
  refine (Calls.mono HR.out ?_)
  rintro z w3 ⟨rfl, hb3⟩
  have V3 : Hid (w3.heap[w.heap.size]? = some (.cells ra.arr 27 (0, 0))) := (hb3.block _ hl2).trans V2.out
  have B3 : Hid (Below w.heap.size w w3) := B2.out.trans (hb3.mono (by omega))
  have hs := HS.out w3 B3.out
  have HS3 := Hid.out (p := Hid _) hs
  have h3 := hb3.size
  clear hs hb3 x0 x1 x2 x3 x4 x5 x6 x7 hw2 HS HR
  obtain ⟨⟨x0, x1, x2, x3, x4, x5, x6, x7⟩, _⟩ := val_cells V3.out
  go_wp2_with fail
  refine (Calls.mono HS3.out ?_)
  rintro z w4 hz
  obtain ⟨r, rfl, ho, B4⟩ := hz.to
  have B14 : Hid (Below w.heap.size w w4) := B3.out.trans (B4.out.mono (by omega))
  have hp := HP.out r (fun _ => True) w4 B14.out (ho.out.isV _ (fun _ _ => trivial))
  have HPP := Hid.out (p := Hid _) hp
  have h4 := B4.out.size
  clear hz hp HP HS3
  unfold Raw.val at HPP ⊢
  go_wp2_with fail
  refine (Calls.mono HPP.out ?_)
  rintro z w5 hz
  obtain ⟨s, rfl, hs, B5⟩ := hz.to
  clear hz
  go_wp2_with fail
  go_ret2
  exact PrP.mk s rfl hs.out (B14.out.trans (B5.out.mono (by omega)))
end Go.Proofs.YtehffmcfmdjknaaDoor.Jdec
