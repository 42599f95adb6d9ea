/- tree.sortAll, Sort; jenc.Canon, of whatever is right. -/
import Derived.Test.YtehffmcfmdjknaaGreatDoorSorD
import Derived.Test.YtehffmcfmdjknaaGreatDoorJenV
namespace Go.Proofs.YtehffmcfmdjknaaGreatDoor.Jdec
open Go.RowKit Go.Proofs.YtehffmcfmdjknaaGreatDoor.Strs Go.Proofs
set_option linter.unusedVariables false
set_option linter.unusedSimpArgs false
set_option maxRecDepth 100000

theorem sortAll_any (t : JV) (hg : GoodQ t) : t.mass ≤ 3000 → SortC t := by
  induction hg with
  | mk k i n d e s ks vs O hk ih =>
    intro hm
    rw [mass_mk] at hm
    have hl := masses_len vs
    have IH : ∀ j (h : j < vs.length), SortC vs[j] := fun j hj => ih j hj (by have := masses_mem vs j hj; omega)
    by_cases h6 : k = 6
    · subst h6
      exact sortAll_six i n d e s ks vs (by omega) (O.both rfl) O.apart IH
    · exact sortAll_other k h6 i n d e s ks vs (by omega) IH
theorem cellsAt_own {w : World} {b : Nat} {r : Raw} {T : TypeId} (h : w.heap[b]? = some (.cells r.arr T (0, 0))) : CellsAt w b 0 r := fun j u hu => by
  rw [Nat.zero_add, cell_of h j]
  rw [← hu]
  simp [Raw.arr, Raw.cells]
set_option maxHeartbeats 4000000 in
theorem sort_any (t : JV) (hg : GoodQ t) (hf : Fine t) (hm : t.mass ≤ 3000) (hd : t.deepN ≤ 64) (ra : Raw) (A : Nat → Prop) (w : World) (T : Utf.Sizes w) (hi : IsV w A ra t) :
    Calls Tryz.prog 20 #[ra.val] w (CopyP t.sort w) := by
  obtain ⟨w2, hw2, V2, B2⟩ := own_new w ra
  obtain ⟨w3, hw3, V3, B3⟩ := own_new w2 Raw.zero
  have V2 : Hid (w2.heap[w.heap.size]? = some (.cells ra.arr 29 (0, 0))) := V2.out
  have hl2 := heap_lt V2.out
  have hl3 := heap_lt V3.out
  have V23 : Hid (w3.heap[w.heap.size]? = some (.cells ra.arr 29 (0, 0))) := (B3.out.block _ (by omega)).trans V2.out
  have B13 : Hid (Below w.heap.size w w3) := B2.out.trans (B3.out.mono (by omega))
  have hc := copy_any t hg hm ra A w3 (hi.turn (Turn.below B13.out))
  have HC := Hid.out (p := Hid _) hc
  have HT := Hid.out (p := Hid _) T
  have HR : Hid (∀ (r : Raw) (A : Nat → Prop) (w' : World), Below w.heap.size w w' → IsV w' A r t → Calls Tryz.prog 19 #[r.val] w' fun e w'' => e = .returned (.bool true) ∧ Below w'.heap.size w' w'') := fun r A w' hb hi => tree_right t hg hf hm hd r A w' (T.stays hb) hi
  have hs := sortAll_any t hg hm
  have HS := Hid.out (p := Hid _) hs
  clear hc hs hi T hg hf
  dsimp only [Raw.zero] at hw3
  unfold Raw.val at HC ⊢
  obtain ⟨⟨x0, x1, x2, x3, x4, x5, x6, x7⟩, _⟩ := val_cells V23.out
  go_enter Tryz.func20, Tryz.ntmps20
  go_wp2_with fail
  refine (Calls.mono HC.out ?_)
  rintro z w4 hz
  obtain ⟨r, rfl, ho, B4⟩ := hz.to
  have h4 := B4.out.size
  obtain ⟨w5, hw5, V5, B5⟩ := own_new w4 r
  have V5 : Hid (w5.heap[w4.heap.size]? = some (.cells r.arr 29 (0, 0))) := V5.out
  have h5 := heap_lt V5.out
  have ho5 : Hid (OwnV w5 (fun b => w3.heap.size ≤ b ∧ b < w4.heap.size) r t) := ho.out.keep fun b hb hl => B5.out.block b hl
  have B15 : Hid (Below w.heap.size w w5) := (B13.out.trans (B4.out.mono (by omega))).trans (B5.out.mono (by omega))
  have hrc := HR.out r (fun _ => True) w5 B15.out (ho5.out.isV _ (fun _ _ => trivial))
  have HRC := Hid.out (p := Hid _) hrc
  have V35 : Hid (w5.heap[w2.heap.size]? = some (.cells Raw.zero.arr 29 (0, 0))) := (B5.out.block _ (by omega)).trans ((B4.out.block _ (by omega)).trans V3.out)
  clear hz hrc HC HR x0 x1 x2 x3 x4 x5 x6 x7
  unfold Raw.val at HRC ⊢
  obtain ⟨⟨y0, y1, y2, y3, y4, y5, y6, y7⟩, _⟩ := val_cells V5.out
  go_wp2_with fail
  refine (Calls.mono HRC.out ?_)
  rintro z w6 ⟨rfl, hb6⟩
  have h6 := hb6.size
  have V6 : Hid (w6.heap[w4.heap.size]? = some (.cells r.arr 29 (0, 0))) := (hb6.block _ h5).trans V5.out
  have V36 : Hid (w6.heap[w2.heap.size]? = some (.cells Raw.zero.arr 29 (0, 0))) := (hb6.block _ (by omega)).trans V35.out
  have ho6 : Hid (OwnV w6 (fun b => w3.heap.size ≤ b ∧ b < w4.heap.size) r t) := ho5.out.keep fun b hb hl => hb6.block b hl
  have B16 : Hid (Below w.heap.size w w6) := B15.out.trans (hb6.mono (by omega))
  have hsc := HS.out r (fun b => w3.heap.size ≤ b ∧ b < w4.heap.size) w6 w4.heap.size 0 (cellsAt_own V6.out) (by omega) (by omega) (fun b hb => by have := hb.2; omega) ho6.out
  have HSC := Hid.out (p := Hid _) hsc
  clear hb6 hsc HS HRC y0 y1 y2 y3 y4 y5 y6 y7 hw5
  go_wp2_with fail
  refine (Calls.mono HSC.out ?_)
  rintro z w7 hz
  obtain ⟨rfl, ho7, hO7⟩ := hz.to
  have h7 := hO7.out.size
  have V7 : Hid (w7.heap[w4.heap.size]? = some (.cells r.arr 29 (0, 0))) := (hO7.out.block _ (by omega) (by omega)).trans V6.out
  have V37 : Hid (w7.heap[w2.heap.size]? = some (.cells Raw.zero.arr 29 (0, 0))) := (hO7.out.block _ (by omega) (by omega)).trans V36.out
  have B17 : Hid (Below w.heap.size w w7) := B16.out.trans ⟨hO7.out.os, hO7.out.tape, hO7.out.output, hO7.out.size, fun b hb => hO7.out.block b (by omega) (by omega)⟩
  clear hz HSC
  obtain ⟨⟨z0, z1, z2, z3, z4, z5, z6, z7⟩, _⟩ := val_cells V7.out
  obtain ⟨⟨r0, r1, r2, r3, r4, r5, r6, r7⟩, g0, g1, g2, g3, g4, g5, g6, g7⟩ := val_cells V37.out
  go_wp2_with fail
  exact copy_fin rfl V37 rfl B17 (by omega) r _ _ ho7 (fun x hx => ⟨by have := hx.1; omega, by have := hx.2; omega, by have := hx.1; omega⟩)
/-- A canon is told. -/
theorem canon_any (t : JV) (hg : GoodQ t) (hf : Fine t) (hm : t.mass ≤ 3000) (hd : t.deepN ≤ 64) (ra : Raw) (A : Nat → Prop) (w : World) (T : Utf.Sizes w) (P0 : Pow10 w) (hi : IsV w A ra t) :
    Calls Tryz.prog 11 #[ra.val] w (PrP false t.sort w) := by
  obtain ⟨kg, km, kd, kf⟩ := sort_keeps t hg
  obtain ⟨w2, hw2, V2, B2⟩ := own_new w ra
  have V2 : Hid (w2.heap[w.heap.size]? = some (.cells ra.arr 29 (0, 0))) := V2.out
  have hl2 := heap_lt V2.out
  have hr := tree_right t hg hf hm hd ra A w2 (T.stays B2.out) (hi.behind B2.out)
  have HR := Hid.out (p := Hid _) hr
  have HS : Hid (∀ w', Below w.heap.size w w' → Calls Tryz.prog 20 #[ra.val] w' (CopyP t.sort w')) := fun w' hb => sort_any t hg hf hm hd ra A w' (T.stays hb) (hi.behind hb)
  have HP : Hid (∀ (r : Raw) (A : Nat → Prop) w', Below w.heap.size w w' → IsV w' A r t.sort → Calls Tryz.prog 10 #[r.val] w' (PrP false t.sort w')) := fun r A w' hb hi => print_any t.sort kg (kf hf) (by omega) (by omega) r A w' (T.stays hb) (P0.stays hb) hi
  clear hr hi T P0 hg hf kg km kd kf
  generalize t.sort = ts at *
  unfold Raw.val at HR HS ⊢
  obtain ⟨⟨x0, x1, x2, x3, x4, x5, x6, x7⟩, _⟩ := val_cells V2.out
  go_enter Tryz.func11, Tryz.ntmps11
  go_wp2_with fail
  refine (Calls.mono HR.out ?_)
  rintro z w3 ⟨rfl, hb3⟩
  have V3 : Hid (w3.heap[w.heap.size]? = some (.cells ra.arr 29 (0, 0))) := (hb3.block _ hl2).trans V2.out
  have B3 : Hid (Below w.heap.size w w3) := B2.out.trans (hb3.mono (by omega))
  have hs := HS.out w3 B3.out
  have HS3 := Hid.out (p := Hid _) hs
  have h3 := hb3.size
  clear hs hb3 x0 x1 x2 x3 x4 x5 x6 x7 hw2 HS HR
  obtain ⟨⟨x0, x1, x2, x3, x4, x5, x6, x7⟩, _⟩ := val_cells V3.out
  go_wp2_with fail
  refine (Calls.mono HS3.out ?_)
  rintro z w4 hz
  obtain ⟨r, rfl, ho, B4⟩ := hz.to
  have B14 : Hid (Below w.heap.size w w4) := B3.out.trans (B4.out.mono (by omega))
  have hp := HP.out r (fun _ => True) w4 B14.out (ho.out.isV _ (fun _ _ => trivial))
  have HPP := Hid.out (p := Hid _) hp
  have h4 := B4.out.size
  clear hz hp HP HS3
  unfold Raw.val at HPP ⊢
  go_wp2_with fail
  refine (Calls.mono HPP.out ?_)
  rintro z w5 hz
  obtain ⟨s, rfl, hs, B5⟩ := hz.to
  clear hz
  go_wp2_with fail
  go_ret2
  exact PrP.mk s rfl hs.out (B14.out.trans (B5.out.mono (by omega)))
end Go.Proofs.YtehffmcfmdjknaaGreatDoor.Jdec
/- tabulariumlaw10.wakes. -/
namespace Go.Proofs.YtehffmcfmdjknaaGreatDoor.Jdec
open Go.RowKit Go.Proofs.YtehffmcfmdjknaaGreatDoor.Strs Go.Proofs
set_option linter.unusedVariables false
set_option linter.unusedSimpArgs false
set_option maxRecDepth 100000

def w1v : JV := .mk 3 false false ⟨#[49]⟩ 0 ⟨#[]⟩ [] []
def w2v : JV := .mk 5 false false ⟨#[]⟩ 0 ⟨#[]⟩ [] []
/-- The example. -/
def wv : JV := .mk 6 false false ⟨#[]⟩ 0 ⟨#[]⟩ [⟨#[98]⟩, ⟨#[97]⟩] [w1v, w2v]
theorem wv_good : GoodQ wv := by
  refine .mk 6 false false ⟨#[]⟩ 0 ⟨#[]⟩ [⟨#[98]⟩, ⟨#[97]⟩] [w1v, w2v] ⟨by decide, by decide, by decide, by decide, by decide, by decide, by decide, by decide, by decide, by decide, by decide, by decide⟩ (goodq_mem.2 fun v hv => ?_)
  simp only [List.mem_cons, List.not_mem_nil, or_false] at hv
  rcases hv with rfl | rfl
  · exact .mk 3 false false ⟨#[49]⟩ 0 ⟨#[]⟩ [] [] ⟨by decide, by decide, by decide, by decide, by decide, by decide, by decide, by decide, by decide, by decide, by decide, by decide⟩ (fun j hj => absurd hj (Nat.not_lt_zero _))
  · exact .mk 5 false false ⟨#[]⟩ 0 ⟨#[]⟩ [] [] ⟨by decide, by decide, by decide, by decide, by decide, by decide, by decide, by decide, by decide, by decide, by decide, by decide⟩ (fun j hj => absurd hj (Nat.not_lt_zero _))
theorem wv_fine : Fine wv := by
  refine .mk 6 false false ⟨#[]⟩ 0 ⟨#[]⟩ [⟨#[98]⟩, ⟨#[97]⟩] [w1v, w2v] (by decide) (by decide) (by decide) (fine_mem.2 fun v hv => ?_)
  simp only [List.mem_cons, List.not_mem_nil, or_false] at hv
  rcases hv with rfl | rfl
  · exact .mk _ _ _ _ _ _ _ _ (by decide) (by decide) (fun x hx => by cases hx) (fun j hj => absurd hj (Nat.not_lt_zero _))
  · exact .mk _ _ _ _ _ _ _ _ (by decide) (by decide) (fun x hx => by cases hx) (fun j hj => absurd hj (Nat.not_lt_zero _))
theorem wv_mass : wv.mass ≤ 3000 := by unfold wv w1v w2v; rw [mass_mk, masses_cons, masses_cons, masses_nil, mass_mk, mass_mk, masses_nil]; decide
theorem wv_deep : wv.deepN ≤ 64 := by unfold wv w1v w2v; rw [deepN_mk, deepNs_cons, deepNs_cons, deepNs_nil, deepN_mk, deepN_mk, deepNs_nil]; decide
theorem w1_print (dp : Nat) : w1v.print false dp = [49] := by unfold w1v; rw [print_mk, if_neg (by decide), if_neg (by decide), if_pos rfl]; decide
theorem w2_print (dp : Nat) : w2v.print false dp = [91, 93] := by unfold w2v; rw [print_mk, if_neg (by decide), if_neg (by decide), if_neg (by decide), if_neg (by decide), if_pos (show ([] : List JV).length = 0 from rfl)]; rfl
theorem wv_print : wv.print false 0 = [123, 34, 98, 34, 58, 49, 44, 34, 97, 34, 58, 91, 93, 125] := by
  unfold wv
  rw [print_mk, kidsP_cons, kidsP_cons, kidsP_nil, w1_print, w2_print]
  decide
theorem w1_sort : w1v.sort = w1v := sort_other _ _ _ _ _ _ _ _ (by decide)
theorem w2_sort : w2v.sort = w2v := sort_other _ _ _ _ _ _ _ _ (by decide)
theorem wv_sort : wv.sort = .mk 6 false false ⟨#[]⟩ 0 ⟨#[]⟩ [⟨#[97]⟩, ⟨#[98]⟩] [w2v, w1v] := by
  have h : [(⟨#[97]⟩, w2v), (⟨#[98]⟩, w1v)] = flds [⟨#[98]⟩, ⟨#[97]⟩] [w1v, w2v] := flds_one rfl (by decide) _ (List.Perm.swap _ _ _) (by
    refine List.Pairwise.cons (fun y hy => ?_) (List.Pairwise.cons (fun y hy => by cases hy) List.Pairwise.nil)
    obtain rfl := List.mem_singleton.1 hy
    unfold fle
    decide)
  unfold wv
  rw [sort_six, List.map_cons, List.map_cons, List.map_nil, w1_sort, w2_sort, ← h]
  rfl
theorem wc_print : wv.sort.print false 0 = [123, 34, 97, 34, 58, 91, 93, 44, 34, 98, 34, 58, 49, 125] := by
  rw [wv_sort, print_mk, kidsP_cons, kidsP_cons, kidsP_nil, w1_print, w2_print]
  decide
theorem bytes_is {s : ByteArray} {l : List UInt8} (h : s.data.toList = l) : s = ⟨l.toArray⟩ := by
  cases s
  simp only at h
  rw [← h]
/-- The example's words. -/
def wvR (a b : Nat) : Raw := ⟨6, false, false, ⟨#[]⟩, 0, ⟨#[]⟩, some ⟨a, 0, none⟩, 2, 2, some ⟨b, 0, none⟩, 2, 2⟩
def w1R : Raw := ⟨3, false, false, ⟨#[49]⟩, 0, ⟨#[]⟩, none, 0, 0, none, 0, 0⟩
def w2R : Raw := ⟨5, false, false, ⟨#[]⟩, 0, ⟨#[]⟩, none, 0, 0, none, 0, 0⟩
theorem wv_is {w : World} {a b : Nat} {T T' : TypeId} (h1 : w.heap[a]? = some (.cells #[.string ⟨#[98]⟩, .string ⟨#[97]⟩] T (0, 0))) (h2 : w.heap[b]? = some (.cells (w1R.cells ++ w2R.cells).toArray T' (0, 0))) : IsV w (fun _ => True) (wvR a b) wv := by
  refine .mk (wvR a b) [⟨#[98]⟩, ⟨#[97]⟩] [w1v, w2v] (fun j => if j = 0 then w1R else w2R) rfl rfl (.inr ⟨a, 0, rfl, trivial, heap_lt h1, fun j hj => ?_⟩) (.inr ⟨b, 0, rfl, trivial, heap_lt h2, fun j hj p u hu => ?_⟩) fun j hj => ?_
  · rw [Nat.zero_add, cell_of h1 j]
    have hj : j < 2 := hj
    rcases (show j = 0 ∨ j = 1 by omega) with rfl | rfl <;> rfl
  · rw [Nat.zero_add, cell_of h2]
    have hj : j < 2 := hj
    have hp : p < 8 := by
      have hh := (List.getElem?_eq_some_iff.1 hu).1
      split at hh <;> exact hh
    rcases (show j = 0 ∨ j = 1 by omega) with rfl | rfl
    · have hu : w1R.cells[p]? = some u := hu
      rw [← hu, Nat.zero_mul, Nat.zero_add]
      show (w1R.cells ++ w2R.cells).toArray[p]? = _
      rw [List.getElem?_toArray, List.getElem?_append_left hp]
    · have hu : w2R.cells[p]? = some u := hu
      rw [← hu]
      show (w1R.cells ++ w2R.cells).toArray[1 * 8 + p]? = _
      rw [List.getElem?_toArray, List.getElem?_append_right (by have : w1R.cells.length = 8 := rfl; omega)]
      have : w1R.cells.length = 8 := rfl
      rw [this, show 1 * 8 + p - 8 = p by omega]
  · have hj : j < 2 := hj
    rcases (show j = 0 ∨ j = 1 by omega) with rfl | rfl
    · exact IsV.bare w _ 3 false false ⟨#[49]⟩ 0 ⟨#[]⟩ none none 0 0
    · exact IsV.bare w _ 5 false false ⟨#[]⟩ 0 ⟨#[]⟩ none none 0 0
set_option maxHeartbeats 4000000 in
theorem wakes10 (w : World) (T : Utf.Sizes w) (P0 : Pow10 w) :
    Calls Tryz.prog 5 #[] w fun e w' => e = .returned (.bool true) ∧ Below w.heap.size w w' := by
  obtain ⟨w2, hw2⟩ : ∃ w2, w.alloc (.cells #[.string ⟨#[98]⟩, .string ⟨#[97]⟩] 9) = w2 := ⟨_, rfl⟩
  have V2 : Hid (w2.heap[w.heap.size]? = some (.cells #[.string ⟨#[98]⟩, .string ⟨#[97]⟩] 9 (0, 0))) := by rw [← hw2]; exact heap_alloc_new _ _
  have B2 : Hid (Below w.heap.size w w2) := by rw [← hw2]; exact (Below.refl _ _).alloc (Nat.le_refl _) _
  obtain ⟨w3, hw3⟩ : ∃ w3, w2.alloc (.cells #[.int .i64 3, .bool false, .bool false, .string ⟨#[49]⟩, .int .i64 0, .string ⟨#[]⟩, .slice none 0 0, .slice none 0 0, .int .i64 5, .bool false, .bool false, .string ⟨#[]⟩, .int .i64 0, .string ⟨#[]⟩, .slice none 0 0, .slice none 0 0] 29) = w3 := ⟨_, rfl⟩
  have V3 : Hid (w3.heap[w2.heap.size]? = some (.cells (w1R.cells ++ w2R.cells).toArray 29 (0, 0))) := by rw [← hw3]; exact heap_alloc_new _ _
  have B3 : Hid (Below w2.heap.size w2 w3) := by rw [← hw3]; exact (Below.refl _ _).alloc (Nat.le_refl _) _
  have hl2 := heap_lt V2.out
  have hl3 := heap_lt V3.out
  obtain ⟨w4, hw4, V4, B4⟩ := own_new w3 (wvR w.heap.size w2.heap.size)
  have V4 : Hid (w4.heap[w3.heap.size]? = some (.cells (wvR w.heap.size w2.heap.size).arr 29 (0, 0))) := V4.out
  have hl4 := heap_lt V4.out
  have B14 : Hid (Below w.heap.size w w4) := (B2.out.trans (B3.out.mono (by omega))).trans (B4.out.mono (by omega))
  have hi : IsV w4 (fun _ => True) (wvR w.heap.size w2.heap.size) wv := wv_is ((B4.out.block _ (by omega)).trans ((B3.out.block _ (by omega)).trans V2.out)) ((B4.out.block _ (by omega)).trans V3.out)
  have HI := Hid.out (p := Hid _) hi
  have hp := print_any wv wv_good wv_fine wv_mass wv_deep _ _ w4 (T.stays B14.out) (P0.stays B14.out) hi
  have HP := Hid.out (p := Hid _) hp
  have HC : Hid (∀ w', Below w4.heap.size w4 w' → Calls Tryz.prog 11 #[(wvR w.heap.size w2.heap.size).val] w' (PrP false wv.sort w')) := fun w' hb => canon_any wv wv_good wv_fine wv_mass wv_deep _ _ w' ((T.stays B14.out).stays hb) ((P0.stays B14.out).stays hb) (hi.behind hb)
  clear hp hi T P0
  dsimp only [wvR] at hw4
  dsimp only [wvR, Raw.val] at HP HC
  dsimp only [wvR] at V4
  obtain ⟨⟨x0, x1, x2, x3, x4, x5, x6, x7⟩, _⟩ := val_cells V4.out
  dsimp only at x0 x1 x2 x3 x4 x5 x6 x7
  go_enter Tryz.func5, Tryz.ntmps5
  go_wp2_with fail
  refine (Calls.mono HP.out ?_)
  rintro z w5 hz
  obtain ⟨s, rfl, hs, B5⟩ := hz.to
  obtain rfl : s = ⟨#[123, 34, 98, 34, 58, 49, 44, 34, 97, 34, 58, 91, 93, 125]⟩ := bytes_is (hs.out.trans wv_print)
  have V5 := (B5.out.block _ hl4).trans V4.out
  have hc := HC.out w5 B5.out
  have HCC := Hid.out (p := Hid _) hc
  have B15 : Hid (Below w.heap.size w w5) := B14.out.trans (B5.out.mono (by omega))
  have h5 := B5.out.size
  have HV5 := Hid.out (p := Hid _) V5
  clear hz hs hc HP x0 x1 x2 x3 x4 x5 x6 x7 V5
  obtain ⟨⟨x0, x1, x2, x3, x4, x5, x6, x7⟩, _⟩ := val_cells HV5.out
  dsimp only at x0 x1 x2 x3 x4 x5 x6 x7
  go_wp2_with fail
  refine (Calls.mono HCC.out ?_)
  rintro z w6 hz
  obtain ⟨s, rfl, hs, B6⟩ := hz.to
  obtain rfl : s = ⟨#[123, 34, 97, 34, 58, 91, 93, 44, 34, 98, 34, 58, 49, 125]⟩ := bytes_is (hs.out.trans wc_print)
  have B16 : Hid (Below w.heap.size w w6) := B15.out.trans (B6.out.mono (by omega))
  clear hz hs
  go_wp2_with fail
  go_ret
  exact ⟨rfl, B16.out⟩
end Go.Proofs.YtehffmcfmdjknaaGreatDoor.Jdec
