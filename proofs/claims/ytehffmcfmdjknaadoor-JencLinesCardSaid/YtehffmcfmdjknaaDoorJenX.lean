/- tabulariumref08.Walk: how many things each value in a value has. -/
import Derived.Test.YtehffmcfmdjknaaDoorJenM
import Derived.Test.YtehffmcfmdjknaaDoorJenL
namespace Go.Proofs.YtehffmcfmdjknaaDoor.Jdec
open Go.RowKit Go.Proofs.YtehffmcfmdjknaaDoor.Strs
set_option linter.unusedVariables false
set_option linter.unusedSimpArgs false
set_option maxRecDepth 100000

mutual
/-- How many things a value has, and each one in it. -/
def JV.counts : JV → List Nat
  | .mk _ _ _ _ _ _ _ vs => vs.length :: countss vs
def countss : List JV → List Nat
  | [] => []
  | v :: t => v.counts ++ countss t
end
theorem counts_mk (k : Int) (i n : Bool) (d : ByteArray) (e : Int) (s : ByteArray) (ks : List ByteArray) (vs : List JV) : (JV.mk k i n d e s ks vs).counts = vs.length :: countss vs := by rw [JV.counts]
theorem countss_nil : countss [] = [] := by rw [countss]
theorem countss_cons (v : JV) (t : List JV) : countss (v :: t) = v.counts ++ countss t := by rw [countss]
theorem countss_flat (vs : List JV) : countss vs = vs.flatMap JV.counts := by
  induction vs with
  | nil => rw [countss_nil]; rfl
  | cons v t ih => rw [countss_cons, ih]; rfl
def oneMore (n : Nat) : Nat := if n = 0 then 0 else n + 1
mutual
theorem counts_lines (t : JV) : (t.counts.map oneMore).sum = t.lines := by
  cases t with
  | mk k i n d e s ks vs => rw [counts_mk, lines_mk, List.map_cons, List.sum_cons, countss_lines vs]; rfl
theorem countss_lines (vs : List JV) : ((countss vs).map oneMore).sum = liness vs := by
  cases vs with
  | nil => rw [countss_nil, liness_nil]; rfl
  | cons v t => rw [countss_cons, liness_cons, List.map_append, List.sum_append, counts_lines v, countss_lines t]
end
mutual
theorem counts_len (t : JV) : t.counts.length ≤ t.mass := by
  cases t with
  | mk k i n d e s ks vs => have := countss_len vs; rw [counts_mk, mass_mk, List.length_cons]; omega
theorem countss_len (vs : List JV) : (countss vs).length ≤ masses vs := by
  cases vs with
  | nil => rw [countss_nil]; simp
  | cons v t => have := counts_len v; have := countss_len t; rw [countss_cons, masses_cons, List.length_append]; omega
end
theorem countss_take (vs : List JV) (i : Nat) (h : i < vs.length) : countss (vs.take (i + 1)) = countss (vs.take i) ++ vs[i].counts := by
  rw [List.take_add_one, List.getElem?_eq_getElem h, countss_flat, countss_flat, List.flatMap_append]; simp
/-- A spot's cells. -/
def spotC (x : Int × Raw) : List Value := .int .i64 x.1 :: x.2.cells
def spotV (x : Int × Raw) : Value := .agg #[.int .i64 x.1, .int .i64 x.2.kind, .bool x.2.is, .bool x.2.neg, .string x.2.dig, .int .i64 x.2.exp, .string x.2.str, .slice x.2.ka x.2.kn x.2.kc, .slice x.2.va x.2.vn x.2.vc]
theorem spots_len (l : List (Int × Raw)) : (l.flatMap spotC).length = l.length * 9 := by
  induction l with
  | nil => rfl
  | cons x t ih => rw [List.flatMap_cons, List.length_append, ih, List.length_cons]; simp [spotC, Raw.cells]; omega
theorem spots_one (l : List (Int × Raw)) : ∀ u ∈ l.flatMap spotC, u.oneCell' = true := by
  intro u hu
  obtain ⟨x, _, hx⟩ := List.mem_flatMap.1 hu
  simp only [spotC, Raw.cells, List.mem_cons, List.not_mem_nil, or_false] at hx
  rcases hx with rfl | rfl | rfl | rfl | rfl | rfl | rfl | rfl | rfl <;> rfl
theorem infoSpot : (Tryd.prog.info? 37).map (fun i => (i.zero, i.size, i.bytes)) = some (some (.agg #[.int .i64 0, .int .i64 0, .bool false, .bool false, .string ⟨#[]⟩, .int .i64 0, .string ⟨#[]⟩, .slice none 0 0, .slice none 0 0]), 9, 120) := by kernel_rfl
/-- What tabulariumref08.Walk tells. -/
def SpotsP (B : Nat) (cs : List Nat) (w : World) (v : Value) : Prop := ∃ (l : List (Int × Raw)) (a : Option Addr) (c : Nat), v = .slice a l.length c ∧ w.ownsRow B 37 9 (.slice a l.length c) l.length (l.flatMap spotC) ∧ l.map (fun x => x.2.vn) = cs
def WalkP (t : JV) (w : World) (e : Ending) (w' : World) : Prop := ∃ v, e = .returned v ∧ SpotsP w.heap.size t.counts w' v ∧ Below w.heap.size w w'
theorem WalkP.to {t : JV} {w w' : World} {e : Ending} (h : WalkP t w e w') : ∃ v, e = .returned v ∧ Hid (SpotsP w.heap.size t.counts w' v) ∧ Hid (Below w.heap.size w w') := h
def WalkC (t : JV) : Prop := ∀ (ra : Raw) (A : Nat → Prop) (w : World) (dp : Nat), dp + t.deepN ≤ 200 → IsV w A ra t → Calls Tryd.prog 9 #[ra.val, .int .i64 dp] w (WalkP t w)
/-- What is told of a kid, behind what was told. -/
theorem spots_more (w wc : World) (B B' : Nat) (cs ds : List Nat) (v v2 : Value) (h : SpotsP B cs w v) (h2 : SpotsP B' ds w v2) (hB : B ≤ w.heap.size) (hd : 0 < ds.length) (hl : cs.length + ds.length ≤ 3000000) :
    ∃ v' w', (Builtin.append_ #[34, 34] 34 #[v, v2]).run Tryd.prog w = .ok v' w' ∧ Hid (SpotsP B (cs ++ ds) w' v') ∧ Hid (w.grownBy w' v.ownBlock) ∧ ∀ k, v.ownBlock = some k → B ≤ k := by
  obtain ⟨l, a, c, rfl, ho, hc⟩ := h
  obtain ⟨l2, a2, c2, rfl, ho2, hc2⟩ := h2
  obtain ⟨i0, hi, hz0, hz1, hz2⟩ := info_parts infoSpot
  have hl1 : l.length = cs.length := by rw [← hc, List.length_map]
  have hl2 : l2.length = ds.length := by rw [← hc2, List.length_map]
  rcases row_form ho2 with ⟨h0, _⟩ | ⟨g, rfl, _, hg, _⟩
  · omega
  · have hnews : ∀ j u, (l2.flatMap spotC)[j]? = some u → w.cell? ((⟨g, 0, none⟩ : Addr).add j) = some u := fun j u hu => ho2.cells (g := g) rfl j u hu
    obtain ⟨v', w', hr, h1, h2, _⟩ := run_append_own (P := Tryd.prog) w B 34 34 37 i0 _ 9 120 Tryd.underlying34 hi hz0 hz1 hz2 rfl (by decide) (.slice a l.length c) l.length (l.flatMap spotC) ho ⟨g, 0, none⟩ l2.length c2 (l2.flatMap spotC) (spots_len l2) hnews (spots_one l2) (by unfold maxLen; omega) (by omega) hB
    rw [← List.flatMap_append, ← List.length_append] at h1
    obtain ⟨a', c', rfl⟩ : ∃ a c, v' = .slice a (l ++ l2).length c := by
      rcases h1.2 with ⟨rfl, e0⟩ | ⟨g, cap, cur, rfl, _⟩
      · exact ⟨none, 0, by rw [e0]⟩
      · exact ⟨_, _, rfl⟩
    exact ⟨_, w', hr, ⟨l ++ l2, a', c', rfl, h1, by rw [List.map_append, hc, hc2]⟩, h2, fun k hk => (ho.lt k hk).1⟩
theorem spots_first (w : World) (dp : Int) (x : Raw) : ∃ w1, w.alloc (.cells #[.int .i64 dp, .int .i64 x.kind, .bool x.is, .bool x.neg, .string x.dig, .int .i64 x.exp, .string x.str, .slice x.ka x.kn x.kc, .slice x.va x.vn x.vc] 37) = w1 ∧ Hid (SpotsP w.heap.size [x.vn] w1 (.slice (some ⟨w.heap.size, 0, none⟩) 1 1)) ∧ Hid (Below w.heap.size w w1) :=
  ⟨_, rfl, ⟨[(dp, x)], some ⟨w.heap.size, 0, none⟩, 1, rfl, World.ownsRow_lit w #[.int .i64 dp, .int .i64 x.kind, .bool x.is, .bool x.neg, .string x.dig, .int .i64 x.exp, .string x.str, .slice x.ka x.kn x.kc, .slice x.va x.vn x.vc] 1 (Nat.le_refl _) (by decide) rfl, rfl⟩, (Below.refl _ _).alloc (Nat.le_refl _) _⟩
theorem spots_stay {w w' : World} {B : Nat} {cs : List Nat} {v : Value} (h : SpotsP B cs w v) (g : Below w.heap.size w w') : SpotsP B cs w' v := by
  obtain ⟨l, a, c, rfl, ho, hc⟩ := h
  exact ⟨l, a, c, rfl, row_kept ho fun b _ hb => g.block b hb, hc⟩

set_option maxHeartbeats 4000000 in
theorem walk_step (k : Int) (is ng : Bool) (d : ByteArray) (e : Int) (s : ByteArray) (ks : List ByteArray) (vs : List JV) (hk : vs ≠ [] → k = 5 ∨ k = 6) (hm : masses vs ≤ 3000) (IH : ∀ j (h : j < vs.length), WalkC vs[j]) : WalkC (.mk k is ng d e s ks vs) := by
  intro ra A w dp hdp hi
  obtain ⟨ka, kc, va, vc, rfl, ht, f, hc, hi2⟩ := hi.parts
  obtain ⟨w2, hw2, V2, B2⟩ := own_new w (Raw.mk k is ng d e s ka ks.length kc va vs.length vc)
  have V2 : Hid (w2.heap[w.heap.size]? = some (.cells (Raw.mk k is ng d e s ka ks.length kc va vs.length vc).arr 27 (0, 0))) := V2.out
  obtain ⟨w3, hw3, P3, B3⟩ := spots_first w2 dp (Raw.mk k is ng d e s ka ks.length kc va vs.length vc)
  have hl2 := heap_lt V2.out
  have V3 : Hid (w3.heap[w.heap.size]? = some (.cells (Raw.mk k is ng d e s ka ks.length kc va vs.length vc).arr 27 (0, 0))) := (B3.out.block _ (by omega)).trans V2.out
  have B13 : Hid (Below w.heap.size w w3) := B2.out.trans (B3.out.mono (by omega))
  have hl3 := B3.out.size
  have hvl := masses_len vs
  have HIH := Hid.out (p := Hid _) IH
  have HC := Hid.out (p := Hid _) hc
  have HI := Hid.out (p := Hid _) hi2
  have HK := Hid.out (p := Hid _) hk
  have HDP : Hid (dp + (JV.mk k is ng d e s ks vs).deepN ≤ 200) := hdp
  have hdp2 : dp ≤ 200 := by omega
  clear ht hi hc hi2 IH hk hdp
  dsimp only at hw2 hw3
  unfold Raw.val
  obtain ⟨⟨x0, x1, x2, x3, x4, x5, x6, x7⟩, _⟩ := val_cells V2.out
  go_enter Tryd.func9, Tryd.ntmps9
  go_wp2_with fail
  clear x0 x1 x2 x3 x4 x5 x6 x7 hw2 hw3
  go_loopw [5, 6] (fun p5 p6 wr => ∃ (i : Nat) (v : Value), p6 = .int .i64 i ∧ i ≤ vs.length ∧ v = p5 ∧ Hid (SpotsP w2.heap.size (vs.length :: countss (vs.take i)) wr v) ∧ Hid (wr.heap[w.heap.size]? = some (.cells (Raw.mk k is ng d e s ka ks.length kc va vs.length vc).arr 27 (0, 0))) ∧ Hid (Below w.heap.size w wr) ∧ w2.heap.size ≤ wr.heap.size) (fun _ p _ => vs.length - (intOf p).toNat)
  case atStart => exact ⟨0, _, rfl, Nat.zero_le _, rfl, by rw [List.take_zero, countss_nil]; exact P3.out, V3.out, B13.out, hl3⟩
  case round =>
    obtain ⟨i, p5, rfl, hi, rfl, hP, hV, hB, hs⟩ := hrel
    obtain ⟨⟨x0, x1, x2, x3, x4, x5, x6, x7⟩, _⟩ := val_cells hV.out
    by_cases hlt : i < vs.length
    · have hne : vs ≠ [] := fun e => by rw [e] at hlt; simp at hlt
      obtain ⟨g, o, rfl, hg, hcs⟩ := HC.out.resolve_left hne
      have K1 := Hid.out (p := Hid _) ((hcs i hlt).below hg hB.out)
      have I1 := Hid.out (p := Hid _) ((HI.out i hlt).behind hB.out)
      have hdd : dp + 1 + vs[i].deepN ≤ 200 := by
        have h1 := HDP.out
        rw [deepN_mk, if_pos (HK.out hne)] at h1
        have := deepNs_at vs i hlt
        omega
      have hcall := HIH.out i hlt (f i) A wr (dp + 1) hdd I1.out
      have hct := countss_take vs i hlt
      have hcl := counts_len vs[i]
      have hcm := masses_take vs i hlt
      have hc2 := countss_len (vs.take i)
      have hc0 : 0 < vs[i].counts.length := by
        cases vs[i] with
        | mk k i n d e s ks vs => rw [counts_mk]; simp
      have HCT : Hid (vs.length :: countss (vs.take (i + 1)) = (vs.length :: countss (vs.take i)) ++ vs[i].counts) := by rw [Hid, hct]; rfl
      have hll : (vs.length :: countss (vs.take i)).length + vs[i].counts.length ≤ 3000000 := by rw [List.length_cons]; omega
      have HLL := Hid.out (p := Hid _) hll
      clear hcs hdd hct hcl hcm hc2 hne hll
      generalize f i = x at *
      have HCL := Hid.out (p := Hid _) hcall
      unfold Raw.val at HCL
      have K1c : CellsAt wr g (o + i * 8) x := K1.out
      obtain ⟨u0, u1, u2, u3, u4, u5, u6, u7⟩ := K1c.eight
      clear K1 K1c hcall I1
      go_wp2_with fail
      refine (Calls.mono HCL.out ?_)
      rintro z w5 hz
      obtain ⟨v2, rfl, hP2, hB5⟩ := hz.to
      have hP5 := Hid.out (p := Hid _) (spots_stay hP.out hB5.out)
      have hs5 := hB5.out.size
      obtain ⟨v6, w6, hr, hP6, hg6, hk6⟩ := spots_more w5 w5 _ _ _ _ _ _ hP5.out hP2.out (by omega) hc0 HLL.out
      have HR := Hid.out (p := Hid _) hr
      have V6 : Hid (w6.heap[w.heap.size]? = some (.cells (Raw.mk k is ng d e s ka ks.length kc (some ⟨g, o, none⟩) vs.length vc).arr 27 (0, 0))) := (hg6.out.block _ (by omega) (fun e => by have := hk6 _ e.symm; omega)).trans ((hB5.out.block _ (by omega)).trans hV.out)
      have B6 : Hid (Below w.heap.size w w6) := (hB.out.trans (hB5.out.mono (by omega))).grown hg6.out (by omega) (fun k hk => by have := hk6 k hk; omega)
      have P6 : Hid (SpotsP w2.heap.size (vs.length :: countss (vs.take (i + 1))) w6 v6) := by rw [Hid, HCT.out]; exact hP6.out
      have hs6 := hg6.out.size
      clear hz hr hk6
      go_wp2_with (at_builtin; refine wpList_append_run p5 v2 34 HR.out rfl _ _ rfl rfl rfl ?_)
      go_roundw
      case rel => exact ⟨i + 1, _, by go_num, by omega, rfl, P6.out, V6.out, B6.out, by omega⟩
      case measure => simp [intOf]; omega
    · obtain rfl : i = vs.length := by omega
      have HP : Hid (SpotsP w.heap.size (JV.mk k is ng d e s ks vs).counts wr p5) := by
        obtain ⟨l, a, c, h1, h2, h3⟩ := hP.out
        rw [List.take_length] at h3
        refine ⟨l, a, c, h1, ⟨h2.1, ?_⟩, by rw [counts_mk]; exact h3⟩
        rcases h2.2 with h | ⟨g, cap, cur, h4, h5, h6⟩
        · exact .inl h
        · exact .inr ⟨g, cap, cur, h4, by omega, h6⟩
      clear hP
      go_wp2_with fail
      go_ret
      exact ⟨_, rfl, HP.out, hB.out⟩
theorem walk_any (t : JV) (hg : GoodQ t) : t.mass ≤ 3000 → WalkC t := by
  induction hg with
  | mk k i n d e s ks vs O hk ih =>
    intro hm
    rw [mass_mk] at hm
    exact walk_step k i n d e s ks vs (fun hne => by
      have h1 := O.kids
      have h6 := O.k6
      have := List.length_pos_iff.2 hne
      omega) (by omega) (fun j hj => ih j hj (by have := masses_mem vs j hj; omega))
end Go.Proofs.YtehffmcfmdjknaaDoor.Jdec
