/- jenc.write, all over either printer. (Written by gen/jenr.py.) -/
import Derived.Test.YtfdjolfenghmaaaGreatDoorWJenQ
set_option linter.unusedVariables false
set_option linter.unusedSimpArgs false
set_option maxHeartbeats 4000000
namespace Go.Proofs.YtfdjolfenghmaaaGreatDoor.Jdec
open Go.RowKit Strs
set_option maxRecDepth 400000
theorem bad_of_valid {l : List UInt8} (h : Utf.validB l = true) : Utf.badZ l < 0 := by
  have := Utf.badZ_neg l;rw [h, decide_eq_true_eq] at this;exact this
theorem NPost.to {n : Bool} {d : List UInt8} {x : Int} {w w' : World} {e : Ending} (h : NPost n d x w e w') : ∃ s : ByteArray, e = .returned (.string s) /\ Hid (s.data.toList = nprint n d x) /\ s.size = (nprint n d x).length /\ Below w.heap.size w w' := by
  obtain ⟨s, h1, h2, h3⟩ := h;exact ⟨s, h1, h2, by have := congrArg List.length h2; simpa using this, h3⟩
theorem wr_n1 (w0 : World) (T0 : Utf.Sizes w0) : Wrn w0 (JV.mk 1 false false ⟨#[]⟩ 0 ⟨#[]⟩ [] []) := by
  intro ra dp bs w hi hp hb hdp hbl
  obtain ⟨ka, kc, va, vc, rfl, ht, f, hc, hi⟩ := hi.parts;have hn := hp.lt;have HBB := hZz hb;obtain ⟨w2, hw2, V2, B2⟩ := own_new w (Raw.mk 1 false false ⟨#[]⟩ 0 ⟨#[]⟩ ka 0 kc va 0 vc);have V2 : Hid (w2.heap[w.heap.size]? = some (.cells (Raw.mk 1 false false ⟨#[]⟩ 0 ⟨#[]⟩ ka 0 kc va 0 vc).arr 46 (0, 0))) := V2.out;have K2 : Hid (PB 74 w0.heap.size w2 bs) := hp.stays B2.out;have S2 : Hid (Keeps w0.heap.size w0.heap.size w w2) := Keeps.of_below B2.out (by omega);clear hc hi ht hb hdp hp
  dsimp only at hw2
  unfold Raw.val pvn;obtain ⟨⟨x0, x1, x2, x3, x4, x5, x6, x7⟩, _⟩ := val_cells V2.out;have HF : Hid ((JV.mk 1 false false ⟨#[]⟩ 0 ⟨#[]⟩ [] []).print false dp = [110, 117, 108, 108]) := by rw [Hid, print_mk]; rfl
  have hbl2 : bs.length <= 100000000000000 := by omega
  clear hbl;go_enter Tryz.func46, Tryz.ntmps46
  go_wp2_with fail
  refine (ptext_any 74 w0.heap.size w2 bs ⟨#[110, 117, 108, 108]⟩ K2.out (by have : (⟨#[110, 117, 108, 108]⟩ : ByteArray).size = 4 := rfl; omega)).mono ?_;rintro e w3 hz;obtain ⟨rfl, K3, S3⟩ := hz.to;clear hz;go_wp2_with fail
  go_end0
  exact ⟨rfl, by rw [HF.out]; exact K3.out, S2.out.trans S3.out⟩
theorem wr_n2f (w0 : World) (T0 : Utf.Sizes w0) : Wrn w0 (JV.mk 2 false false ⟨#[]⟩ 0 ⟨#[]⟩ [] []) := by
  intro ra dp bs w hi hp hb hdp hbl
  obtain ⟨ka, kc, va, vc, rfl, ht, f, hc, hi⟩ := hi.parts;have hn := hp.lt;have HBB := hZz hb;obtain ⟨w2, hw2, V2, B2⟩ := own_new w (Raw.mk 2 false false ⟨#[]⟩ 0 ⟨#[]⟩ ka 0 kc va 0 vc);have V2 : Hid (w2.heap[w.heap.size]? = some (.cells (Raw.mk 2 false false ⟨#[]⟩ 0 ⟨#[]⟩ ka 0 kc va 0 vc).arr 46 (0, 0))) := V2.out;have K2 : Hid (PB 74 w0.heap.size w2 bs) := hp.stays B2.out;have S2 : Hid (Keeps w0.heap.size w0.heap.size w w2) := Keeps.of_below B2.out (by omega);clear hc hi ht hb hdp hp
  dsimp only at hw2
  unfold Raw.val pvn;obtain ⟨⟨x0, x1, x2, x3, x4, x5, x6, x7⟩, _⟩ := val_cells V2.out;have HF : Hid ((JV.mk 2 false false ⟨#[]⟩ 0 ⟨#[]⟩ [] []).print false dp = [102, 97, 108, 115, 101]) := by rw [Hid, print_mk]; rfl
  have hbl2 : bs.length <= 100000000000000 := by omega
  clear hbl;go_enter Tryz.func46, Tryz.ntmps46
  go_wp2_with fail
  refine (ptext_any 74 w0.heap.size w2 bs ⟨#[102, 97, 108, 115, 101]⟩ K2.out (by have : (⟨#[102, 97, 108, 115, 101]⟩ : ByteArray).size = 5 := rfl; omega)).mono ?_;rintro e w3 hz;obtain ⟨rfl, K3, S3⟩ := hz.to;clear hz;go_wp2_with fail
  go_end0
  exact ⟨rfl, by rw [HF.out]; exact K3.out, S2.out.trans S3.out⟩
theorem wr_n2t (w0 : World) (T0 : Utf.Sizes w0) : Wrn w0 (JV.mk 2 true false ⟨#[]⟩ 0 ⟨#[]⟩ [] []) := by
  intro ra dp bs w hi hp hb hdp hbl
  obtain ⟨ka, kc, va, vc, rfl, ht, f, hc, hi⟩ := hi.parts;have hn := hp.lt;have HBB := hZz hb;obtain ⟨w2, hw2, V2, B2⟩ := own_new w (Raw.mk 2 true false ⟨#[]⟩ 0 ⟨#[]⟩ ka 0 kc va 0 vc);have V2 : Hid (w2.heap[w.heap.size]? = some (.cells (Raw.mk 2 true false ⟨#[]⟩ 0 ⟨#[]⟩ ka 0 kc va 0 vc).arr 46 (0, 0))) := V2.out;have K2 : Hid (PB 74 w0.heap.size w2 bs) := hp.stays B2.out;have S2 : Hid (Keeps w0.heap.size w0.heap.size w w2) := Keeps.of_below B2.out (by omega);clear hc hi ht hb hdp hp
  dsimp only at hw2
  unfold Raw.val pvn;obtain ⟨⟨x0, x1, x2, x3, x4, x5, x6, x7⟩, _⟩ := val_cells V2.out;have HF : Hid ((JV.mk 2 true false ⟨#[]⟩ 0 ⟨#[]⟩ [] []).print false dp = [116, 114, 117, 101]) := by rw [Hid, print_mk]; rfl
  have hbl2 : bs.length <= 100000000000000 := by omega
  clear hbl;go_enter Tryz.func46, Tryz.ntmps46
  go_wp2_with fail
  refine (ptext_any 74 w0.heap.size w2 bs ⟨#[116, 114, 117, 101]⟩ K2.out (by have : (⟨#[116, 114, 117, 101]⟩ : ByteArray).size = 4 := rfl; omega)).mono ?_;rintro e w3 hz;obtain ⟨rfl, K3, S3⟩ := hz.to;clear hz;go_wp2_with fail
  go_end0
  exact ⟨rfl, by rw [HF.out]; exact K3.out, S2.out.trans S3.out⟩
theorem wr_n3 (w0 : World) (T0 : Utf.Sizes w0) (P0 : Pow10 w0) (ng : Bool) (d : ByteArray) (e : Int) (hr : Num.right ng d.data.toList e = true) : Wrn w0 (JV.mk 3 false ng d e ⟨#[]⟩ [] []) := by
  intro ra dp bs w hi hp hb hdp hbl
  obtain ⟨ka, kc, va, vc, rfl, ht, f, hc, hi⟩ := hi.parts;have hn := hp.lt;have HBB := hZz hb;obtain ⟨w2, hw2, V2, B2⟩ := own_new w (Raw.mk 3 false ng d e ⟨#[]⟩ ka 0 kc va 0 vc);have V2 : Hid (w2.heap[w.heap.size]? = some (.cells (Raw.mk 3 false ng d e ⟨#[]⟩ ka 0 kc va 0 vc).arr 46 (0, 0))) := V2.out;have K2 : Hid (PB 74 w0.heap.size w2 bs) := hp.stays B2.out;have S2 : Hid (Keeps w0.heap.size w0.heap.size w w2) := Keeps.of_below B2.out (by omega);clear hc hi ht hb hdp hp;have hbl2 : bs.length <= 100000000000000 := by omega
  obtain ⟨_, r1, r2, _⟩ := right_bounds hr;have hnl := nprint_len ng d.data.toList e r1 r2;have hdl : d.data.toList.length <= 1000 := (right_bounds hr).1;have hnl2 : (nprint ng d.data.toList e).length <= 1100 := by omega
  have HP0 : Hid (Pow10 w0) := P0;have HNP : Hid (∀ w', Below w0.heap.size w0 w' -> Calls Tryz.prog 65 #[.agg #[.bool ng, .string d, .int .i64 e]] w' (NPost ng d.data.toList e w')) := fun w' hb => nprint_any ng d e hr w' (P0.stays hb);clear hr hnl hdl P0
  dsimp only at hw2
  unfold Raw.val pvn;obtain ⟨⟨x0, x1, x2, x3, x4, x5, x6, x7⟩, _⟩ := val_cells V2.out;have HF : Hid ((JV.mk 3 false ng d e ⟨#[]⟩ [] []).print false dp = nprint ng d.data.toList e) := by rw [Hid, print_mk]; rfl
  clear hbl;go_enter Tryz.func46, Tryz.ntmps46
  go_wp2_with fail
  go_region_law (first
    | (go_simp; go_at_call 196; refine (ptext_any 74 w0.heap.size _ bs r hK4.out hrl).mono ?_; rintro z w5 hz; obtain ⟨rfl, K5, S5⟩ := hz.to; clear hz)
    | (go_simp; go_at_call 65; refine (HNP.out w2.drew ((HBB.out.trans S2.out.below).drew)).mono ?_; rintro z w4 hz; obtain ⟨r, rfl, hr, hrs, b4⟩ := hz.to; have hrl : bs.length + r.size <= 140737488355328 := (by omega); have B4 : Hid (Below w2.heap.size w2 w4) := ((Below.refl _ w2).drew).trans b4; have hK4 := hZz (K2.out.stays B4.out); have V4 := hst V2 B4; clear hz hrs b4; obtain ⟨⟨y0, y1, y2, y3, y4, y5, y6, y7⟩, _⟩ := val_cells V4.out))
  all_goals
    go_wp2_with fail
    go_end0
    exact ⟨rfl, by rw [HF.out, <-hr.out]; exact K5.out, (keeps_grew S2.out B4.out (by have := B2.out.size; omega)).trans S5.out⟩
theorem wr_n4 (w0 : World) (T0 : Utf.Sizes w0) (s : ByteArray) (hv : Utf.badZ s.data.toList < 0) (hs : s.size <= 6000) : Wrn w0 (JV.mk 4 false false ⟨#[]⟩ 0 s [] []) := by
  intro ra dp bs w hi hp hb hdp hbl
  obtain ⟨ka, kc, va, vc, rfl, ht, f, hc, hi⟩ := hi.parts;have hn := hp.lt;have HBB := hZz hb;obtain ⟨w2, hw2, V2, B2⟩ := own_new w (Raw.mk 4 false false ⟨#[]⟩ 0 s ka 0 kc va 0 vc);have V2 : Hid (w2.heap[w.heap.size]? = some (.cells (Raw.mk 4 false false ⟨#[]⟩ 0 s ka 0 kc va 0 vc).arr 46 (0, 0))) := V2.out;have K2 : Hid (PB 74 w0.heap.size w2 bs) := hp.stays B2.out;have S2 : Hid (Keeps w0.heap.size w0.heap.size w w2) := Keeps.of_below B2.out (by omega);clear hc hi ht hb hdp hp;have hbl2 : bs.length <= 100000000000000 := by omega
  have HT2 : Hid (Utf.Sizes w2) := T0.stays (HBB.out.trans S2.out.below);have HV := hZz hv;clear hv
  dsimp only at hw2
  unfold Raw.val pvn;obtain ⟨⟨x0, x1, x2, x3, x4, x5, x6, x7⟩, _⟩ := val_cells V2.out;have HF : Hid ((JV.mk 4 false false ⟨#[]⟩ 0 s [] []).print false dp = Quote.qprint s.data.toList) := by rw [Hid, print_mk]; rfl
  clear hbl;go_enter Tryz.func46, Tryz.ntmps46
  go_wp2_with fail
  refine (wtext_n w0.heap.size w2 bs s K2.out (by omega) hs HT2.out HV.out).mono ?_;rintro e w3 hz;obtain ⟨rfl, K3, S3⟩ := hz.to;clear hz;go_wp2_with fail
  go_end0
  exact ⟨rfl, by rw [HF.out]; exact K3.out, S2.out.trans S3.out⟩
theorem wr_n5 (w0 : World) (T0 : Utf.Sizes w0) (ks : List ByteArray) (vs : List JV) (hz : ∀ x ∈ ks, x.size <= 6000) (hpl : Prints false vs) (IH : ∀ j (h : j < vs.length), Wrn w0 vs[j]) (hvl : vs.length <= 1000000) : Wrn w0 (JV.mk 5 false false ⟨#[]⟩ 0 ⟨#[]⟩ ks vs) := by
  intro ra dp bs w hi hp hb hdp hbl
  obtain ⟨ka, kc, va, vc, rfl, ht, f, hc, hi⟩ := hi.parts;have hn := hp.lt;have HBB := hZz hb;obtain ⟨w2, hw2, V2, B2⟩ := own_new w (Raw.mk 5 false false ⟨#[]⟩ 0 ⟨#[]⟩ ka ks.length kc va vs.length vc);have V2 : Hid (w2.heap[w.heap.size]? = some (.cells (Raw.mk 5 false false ⟨#[]⟩ 0 ⟨#[]⟩ ka ks.length kc va vs.length vc).arr 46 (0, 0))) := V2.out;have K2 : Hid (PB 74 w0.heap.size w2 bs) := hp.stays B2.out;have S2 : Hid (Keeps w0.heap.size w0.heap.size w w2) := Keeps.of_below B2.out (by omega)
  dsimp only at hw2
  have hmm : bs.length + (1 + masses vs) * 80000 <= 100000000000000 := by rw [mass_mk] at hbl; omega
  have hdd : dp + 1 + deepNs vs <= 150 := by rw [deepN_mk, if_pos (by decide)] at hdp; omega
  have hcl := wkids_n5 w0 T0 false false ⟨#[]⟩ 0 ⟨#[]⟩ ks vs hz hpl IH hvl ka va kc vc f ht hc hi dp bs w2 K2.out (hb.trans S2.out.below) hdd hmm;have HCL := hZz hcl;clear hc hi ht hb hdp hp hbl hmm hdd hcl hz hpl IH T0;unfold Raw.val pvn at HCL;unfold Raw.val pvn;obtain ⟨⟨x0, x1, x2, x3, x4, x5, x6, x7⟩, _⟩ := val_cells V2.out;go_enter Tryz.func46, Tryz.ntmps46
  go_wp2_with fail
  refine (Calls.mono HCL.out ?_);rintro e w3 hz;obtain ⟨rfl, K3, S3⟩ := hz.to;clear hz;go_wp2_with fail
  go_end0
  exact ⟨rfl, K3.out, S2.out.trans S3.out⟩
theorem wr_n6 (w0 : World) (T0 : Utf.Sizes w0) (ks : List ByteArray) (vs : List JV) (hkl : ks.length = vs.length) (hv : ∀ x ∈ ks, Utf.badZ x.data.toList < 0) (hz : ∀ x ∈ ks, x.size <= 6000) (hpl : Prints false vs) (IH : ∀ j (h : j < vs.length), Wrn w0 vs[j]) (hvl : vs.length <= 1000000) : Wrn w0 (JV.mk 6 false false ⟨#[]⟩ 0 ⟨#[]⟩ ks vs) := by
  intro ra dp bs w hi hp hb hdp hbl
  obtain ⟨ka, kc, va, vc, rfl, ht, f, hc, hi⟩ := hi.parts;have hn := hp.lt;have HBB := hZz hb;obtain ⟨w2, hw2, V2, B2⟩ := own_new w (Raw.mk 6 false false ⟨#[]⟩ 0 ⟨#[]⟩ ka ks.length kc va vs.length vc);have V2 : Hid (w2.heap[w.heap.size]? = some (.cells (Raw.mk 6 false false ⟨#[]⟩ 0 ⟨#[]⟩ ka ks.length kc va vs.length vc).arr 46 (0, 0))) := V2.out;have K2 : Hid (PB 74 w0.heap.size w2 bs) := hp.stays B2.out;have S2 : Hid (Keeps w0.heap.size w0.heap.size w w2) := Keeps.of_below B2.out (by omega)
  dsimp only at hw2
  have hmm : bs.length + (1 + masses vs) * 80000 <= 100000000000000 := by rw [mass_mk] at hbl; omega
  have hdd : dp + 1 + deepNs vs <= 150 := by rw [deepN_mk, if_pos (by decide)] at hdp; omega
  have hcl := wkids_n6 w0 T0 false false ⟨#[]⟩ 0 ⟨#[]⟩ ks vs hkl hv hz hpl IH hvl ka va kc vc f ht hc hi dp bs w2 K2.out (hb.trans S2.out.below) hdd hmm;have HCL := hZz hcl;clear hc hi ht hb hdp hp hbl hmm hdd hcl hkl hv hz hpl IH T0;unfold Raw.val pvn at HCL;unfold Raw.val pvn;obtain ⟨⟨x0, x1, x2, x3, x4, x5, x6, x7⟩, _⟩ := val_cells V2.out;go_enter Tryz.func46, Tryz.ntmps46
  go_wp2_with fail
  refine (Calls.mono HCL.out ?_);rintro e w3 hz;obtain ⟨rfl, K3, S3⟩ := hz.to;clear hz;go_wp2_with fail
  go_end0
  exact ⟨rfl, K3.out, S2.out.trans S3.out⟩
theorem wr_n (w0 : World) (T0 : Utf.Sizes w0) (P0 : Pow10 w0) (t : JV) (hg : GoodQ t) : Fine t -> t.mass <= 9000 -> Wrn w0 t := by
  induction hg with
  | mk k i n d e s ks vs O hk ih =>
    intro hf hm
    rw [mass_mk] at hm;have hml := masses_len vs;have hkq := goodq_mem.1 hk
    cases hf with
    | mk _ _ _ _ _ _ _ _ f1 f2 f3 f4 =>
      have hfm := fine_mem.1 f4;have IH : ∀ j (h : j < vs.length), Wrn w0 vs[j] := fun j hj => ih j hj (f4 j hj) (by have := masses_mem vs j hj; omega);have hpl : Prints false vs := fun v hv dp hd => print_len v (hkq v hv) false (hfm v hv) dp hd;obtain ⟨k1, k6, hi, hnum, htx, hkids, hnk, hr, hv, hb, hw, hap⟩ := O;rcases (show k = 1 ∨ k = 2 ∨ k = 3 ∨ k = 4 ∨ k = 5 ∨ k = 6 by omega) with rfl | rfl | rfl | rfl | rfl | rfl
      · obtain ⟨rfl, rfl, rfl⟩ := hnum (by decide);obtain rfl := hi (by decide);obtain rfl := htx (by decide);obtain rfl := List.length_eq_zero_iff.1 (hkids (by decide));obtain rfl := hnk (by decide);exact wr_n1 w0 T0
      · obtain ⟨rfl, rfl, rfl⟩ := hnum (by decide);obtain rfl := htx (by decide);obtain rfl := List.length_eq_zero_iff.1 (hkids (by decide));obtain rfl := hnk (by decide);cases i
        · exact wr_n2f w0 T0
        · exact wr_n2t w0 T0
      · obtain rfl := hi (by decide);obtain rfl := htx (by decide);obtain rfl := List.length_eq_zero_iff.1 (hkids (by decide));obtain rfl := hnk (by decide);exact wr_n3 w0 T0 P0 n d e hr
      · obtain ⟨rfl, rfl, rfl⟩ := hnum (by decide);obtain rfl := hi (by decide);obtain rfl := List.length_eq_zero_iff.1 (hkids (by decide));obtain rfl := hnk (by decide);exact wr_n4 w0 T0 s (bad_of_valid hv) f2
      · obtain ⟨rfl, rfl, rfl⟩ := hnum (by decide);obtain rfl := hi (by decide);obtain rfl := htx (by decide);exact wr_n5 w0 T0 ks vs f3 hpl IH (by omega)
      · obtain ⟨rfl, rfl, rfl⟩ := hnum (by decide);obtain rfl := hi (by decide);obtain rfl := htx (by decide);exact wr_n6 w0 T0 ks vs (hb rfl) (fun x hx => bad_of_valid (hw x hx)) f3 hpl IH (by omega)
def Alln (t : JV) (w0 w : World) (e : Ending) (w' : World) : Prop := ∃ s : ByteArray, e = .returned (.tuple #[.string s, .int .i64 0]) /\ s.data.toList = t.print false 0 /\ Below w0.heap.size w w'
theorem Alln.mk {t : JV} {w0 w w' : World} {e : Ending} (s : ByteArray) (h1 : e = .returned (.tuple #[.string s, .int .i64 0])) (h2 : s.data.toList = t.print false 0) (h3 : Below w0.heap.size w w') : Alln t w0 w e w' := ⟨s, h1, h2, h3⟩
theorem all_n (w0 : World) (T0 : Utf.Sizes w0) (P0 : Pow10 w0) (t : JV) (hg : GoodQ t) (hf : Fine t) (hm : t.mass <= 9000) (hd : t.deepN <= 64) (ra : Raw) (w : World) (hi : IsV w0 (fun _ => True) ra t) (hp : PB 74 w0.heap.size w []) (hb : Below w0.heap.size w0 w) : Calls Tryz.prog 30 #[pvn w0.heap.size, ra.val] w (Alln t w0 w) := by
  have hn := hp.lt;have hwr := wr_n w0 T0 P0 t hg hf hm;obtain ⟨w2, hw2, V2, B2⟩ := own_new w ra;have V2 : Hid (w2.heap[w.heap.size]? = some (.cells ra.arr 46 (0, 0))) := V2.out;have hb2 : Below w0.heap.size w0 w2 := hb.trans (B2.out.mono (by omega));have ht := tree_right t hg hf hm hd ra (fun _ => True) w2 (T0.stays hb2) (hi.behind hb2);have HT := hZz ht;have HWR := hZz hwr;have HBB := hZz hb2;have HI := hZz hi;have K2 : Hid (PB 74 w0.heap.size w2 []) := hp.stays B2.out;clear ht hwr hb2 hi hp hb T0 P0 hg hf;unfold Raw.val at HT ⊢;unfold pvn;obtain ⟨⟨x0, x1, x2, x3, x4, x5, x6, x7⟩, _⟩ := val_cells V2.out;go_enter Tryz.func30, Tryz.ntmps30
  go_wp2_with fail
  refine (Calls.mono HT.out ?_);rintro z w3 ⟨rfl, hb3⟩;have V3 := hst V2 hb3;have K3 : Hid (PB 74 w0.heap.size w3 []) := K2.out.stays hb3;have hs2 := B2.out.size;have B3 : Hid (Below w0.heap.size w2 w3) := hb3.mono (by omega);have hw := HWR.out ra 0 [] w3 HI.out K3.out (HBB.out.trans B3.out) (by omega) (by simp only [List.length_nil]; omega);have HW := hZz hw;clear hw hb3 x0 x1 x2 x3 x4 x5 x6 x7 hw2 HT HWR hs2;unfold Raw.val pvn at HW;obtain ⟨⟨x0, x1, x2, x3, x4, x5, x6, x7⟩, _⟩ := val_cells V3.out;go_wp2_with fail
  refine (Calls.mono HW.out ?_);rintro z w4 hz;obtain ⟨rfl, K4, S4⟩ := hz.to;clear hz HW;go_wp2_with fail
  refine (pb_string 74 w0.heap.size w4 _ K4.out).mono ?_;rintro z w5 ⟨rfl, hb5⟩;have B5 := hZz hb5;clear hb5;go_wp2_with fail
  go_ret2
  exact Alln.mk _ rfl (by simp) (((B2.out.mono (by omega)).trans B3.out).trans (S4.out.below.trans B5.out))
end Go.Proofs.YtfdjolfenghmaaaGreatDoor.Jdec
