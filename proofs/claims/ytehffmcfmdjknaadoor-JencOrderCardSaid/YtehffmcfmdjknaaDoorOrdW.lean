/- tabulariumlaw10.JencOrder: the walk. (Under way: not clean.) -/
import Derived.Test.YtehffmcfmdjknaaDoorSorF
import Derived.Test.YtehffmcfmdjknaaDoorOpnV
import Derived.Test.YtehffmcfmdjknaaDoorTurW
namespace Go.Proofs.YtehffmcfmdjknaaDoor.Jdec
open Go.RowKit Go.Proofs.YtehffmcfmdjknaaDoor.Strs
set_option linter.unusedVariables false
set_option linter.unusedSimpArgs false
set_option maxRecDepth 100000

/-- The variable that is filled, with so many turned. -/
def TurnR (w0 : World) (bw : Nat) (lk : List ByteArray) (lv : List Raw) (wr : World) : Prop :=
  ∃ ka kc va vc, Mid w0 bw (.cells (Raw.mk 6 false false ⟨#[]⟩ 0 ⟨#[]⟩ ka lk.length kc va lv.length vc).arr 27 (0, 0)) ⟨#[]⟩ Raw.zero none none (.slice ka lk.length kc) lk (.slice va lv.length vc) lv wr
theorem TurnR.start {w0 : World} {bw : Nat} (h : w0.heap[bw]? = some (.cells (Raw.mk 6 false false ⟨#[]⟩ 0 ⟨#[]⟩ none 0 0 none 0 0).arr 27 (0, 0))) : TurnR w0 bw [] [] w0 :=
  ⟨none, 0, none, 0, World.ownsRow_nil _ _ _ _, World.ownsRow_nil _ _ _ _, h, Below.refl _ _, fun p hp => (by cases hp), fun p hp => (by cases hp)⟩
theorem TurnR.next {w0 : World} {bw : Nat} {key : ByteArray} {x : Raw} {ka va ka' va' : Option Addr} {kc vc kn vn kc' vc' : Nat} {lk : List ByteArray} {lv : List Raw} {w : World}
    (h : Mid w0 bw (.cells (Raw.mk 6 false false ⟨#[]⟩ 0 ⟨#[]⟩ ka kn kc va vn vc).arr 27 (0, 0)) key x none none (.slice ka' lk.length kc') lk (.slice va' lv.length vc') lv w) :
    TurnR w0 bw lk lv ((w.setCell ⟨bw, 6, none⟩ (.slice ka' lk.length kc')).setCell ⟨bw, 7, none⟩ (.slice va' lv.length vc')) := by
  have g : w.grownBy ((w.setCell ⟨bw, 6, none⟩ (.slice ka' lk.length kc')).setCell ⟨bw, 7, none⟩ (.slice va' lv.length vc')) (some bw) :=
    ⟨rfl, rfl, rfl, by simp [World.setCell], fun k hk hr => by
      have hne : k ≠ bw := fun e => hr (by rw [e])
      rw [Below.heap_setCell _ _ _ _ hne, Below.heap_setCell _ _ _ _ hne]⟩
  have far : ∀ {v : Value} {B e m n xs}, w.ownsRow B e m v n xs → bw < B → v.ownBlock = none ∨ v.ownBlock ≠ some bw := fun {v B e m n xs} hr hB => by
    by_cases hn : v.ownBlock = some bw
    · have := (hr.lt bw hn).1; omega
    · exact .inr hn
  exact ⟨ka', kc', va', vc', h.keys.kept g (far h.keys (by omega)), h.kids.kept g (far h.kids (by omega)), set7 (set6 h.own), h.below.grown g (Nat.le_of_lt h.lt) (fun k hk => by injection hk with hk; omega), fun p hp => (by cases hp), fun p hp => (by cases hp)⟩
theorem bytes_ext {a b : ByteArray} (h : a.data.toList = b.data.toList) : a = b := ByteArray.ext (Array.toList_inj.1 h)
theorem print_six (ks : List ByteArray) (vs : List JV) (i n : Bool) (d : ByteArray) (e : Int) (s : ByteArray) : (JV.mk 6 i n d e s ks vs).print false 0 ≠ [] := by
  intro h
  rw [print_mk, if_neg (by omega), if_neg (by omega), if_neg (by omega), if_neg (by omega)] at h
  split at h
  · simp [lastP] at h
  · simp [lastP] at h
/-- With its keys turned a value is as right, as great, and as deep; sorted it is the same. -/
theorem turned (k : Int) (is ng : Bool) (d : ByteArray) (e : Int) (s : ByteArray) (ks : List ByteArray) (vs : List JV) (bn : Nat) (hg : GoodQ (.mk k is ng d e s ks vs)) (h0 : ¬ ks.length = 0) (hf : Fine (.mk k is ng d e s ks vs)) (hm : (JV.mk k is ng d e s ks vs).mass ≤ 400) (hd : (JV.mk k is ng d e s ks vs).deepN ≤ 64) :
    ∃ t : JV, t = .mk 6 false false ⟨#[]⟩ 0 ⟨#[]⟩ (turn ks ⟨#[]⟩ bn ks.length) (turn vs JV.zero bn vs.length) ∧ GoodQ t ∧ Fine t ∧ t.mass ≤ 3000 ∧ t.deepN ≤ 64 ∧ t.sort = (JV.mk k is ng d e s ks vs).sort ∧ (JV.mk k is ng d e s ks vs).sort.print false 0 ≠ [] := by
  refine ⟨_, rfl, ?_⟩
  cases hg with
  | mk k is ng d e s ks vs O hv =>
  have h6 : k = 6 := by
    by_cases h6 : k = 6
    · exact h6
    · exact absurd (by rw [O.noKeys h6]; rfl) h0
  have hl := O.both h6
  have i1 := O.is (by omega)
  obtain ⟨i2, i3, i4⟩ := O.num (by omega)
  have i5 := O.text (by omega)
  subst h6 i1 i2 i3 i4 i5
  have pk := turn_perm ks ⟨#[]⟩ bn (by omega)
  have pv := turn_perm vs JV.zero bn (by omega)
  have pz := turn_zip ks vs ⟨#[]⟩ JV.zero bn hl (by omega)
  have hs := sort_turn (ks' := turn ks ⟨#[]⟩ bn ks.length) (vs' := turn vs JV.zero bn vs.length) false false ⟨#[]⟩ 0 ⟨#[]⟩ hl (by rw [turn_len, turn_len]; exact hl) O.apart pz
  refine ⟨.mk _ _ _ _ _ _ _ _ ⟨by omega, by omega, fun _ => rfl, fun _ => ⟨rfl, rfl, rfl⟩, fun _ => rfl, fun h => by omega, fun h => absurd rfl h, O.right, O.valid, fun _ => by rw [turn_len, turn_len]; exact hl, fun x hx => O.words x (pk.subset hx), pk.nodup_iff.2 O.apart⟩ ?_, ?_, ?_, ?_, hs, ?_⟩
  · exact goodq_mem.2 fun v h => goodq_mem.1 hv v (pv.subset h)
  · cases hf with
    | mk _ _ _ _ _ _ _ _ f1 f2 f3 f4 => exact .mk _ _ _ _ _ _ _ _ f1 f2 (fun x hx => f3 x (pk.subset hx)) (fine_mem.2 fun v h => fine_mem.1 f4 v (pv.subset h))
  · rw [mass_mk] at hm ⊢
    rw [masses_perm pv, turn_len]; omega
  · rw [deepN_mk] at hd ⊢
    rw [deepNs_perm pv]; exact hd
  · rw [sort_six]; exact print_six _ _ _ _ _ _ _
/-- What has been turned is a value. -/
theorem Mid.isV {w0 wr : World} {bw : Nat} {ka va : Option Addr} {kc vc : Nat} {lk : List ByteArray} {lv : List Raw} {blk : Obj} {key : ByteArray} {x : Raw} (h : Mid w0 bw blk key x none none (.slice ka lk.length kc) lk (.slice va lv.length vc) lv wr) (ts : List JV) (hl : lv.length = ts.length) (hv : ∀ j (h : j < ts.length), IsV wr (fun _ => True) (lv.getD j Raw.zero) ts[j]) :
    IsV wr (fun _ => True) (Raw.mk 6 false false ⟨#[]⟩ 0 ⟨#[]⟩ ka lk.length kc va lv.length vc) (.mk 6 false false ⟨#[]⟩ 0 ⟨#[]⟩ lk ts) := by
  refine .mk (Raw.mk 6 false false ⟨#[]⟩ 0 ⟨#[]⟩ ka lk.length kc va lv.length vc) lk ts (fun j => lv.getD j Raw.zero) rfl hl ?_ ?_ hv
  · rcases row_form h.keys with ⟨h0, _⟩ | ⟨g, rfl, _, hg, _⟩
    · exact .inl (List.length_eq_zero_iff.1 h0)
    · refine .inr ⟨g, 0, rfl, trivial, hg, fun j hj => ?_⟩
      rw [Nat.zero_add, h.keys.cellAt j (by simpa using hj)]
      simp [hj]
  · rcases row_form h.kids with ⟨h0, _⟩ | ⟨g, rfl, _, hg, _⟩
    · exact .inl (List.length_eq_zero_iff.1 (by rw [← hl]; exact h0))
    · refine .inr ⟨g, 0, rfl, trivial, hg, fun j hj p u hu => ?_⟩
      have hj' : j < lv.length := by omega
      have e1 : lv.getD j Raw.zero = lv[j] := by simp [List.getD, hj']
      rw [e1] at hu
      have hp : p < 8 := (List.getElem?_eq_some_iff.1 hu).1
      rw [Nat.zero_add, h.kids.cellAt (j * 8 + p) (by omega)]
      exact flat_cells_at lv j hj' p u hu
/-- What the statement loads. -/
structure OrdS (v0 bw kb ko n kc vb vo m vc : Nat) (ka1 : Option Addr) (kc1 : Nat) (va1 : Option Addr) (vc1 i q : Nat) (key : ByteArray) (x : Raw) (w : World) : Prop where
  k : w.cell? ⟨v0, 6, none⟩ = some (.slice (some ⟨kb, ko, none⟩) n kc)
  v : w.cell? ⟨v0, 7, none⟩ = some (.slice (some ⟨vb, vo, none⟩) m vc)
  k1 : w.cell? ⟨bw, 6, none⟩ = some (.slice ka1 i kc1)
  v1 : w.cell? ⟨bw, 7, none⟩ = some (.slice va1 i vc1)
  key : w.cell? ⟨kb, ko + q, none⟩ = some (.string key)
  x0 : w.cell? ⟨vb, vo + q * 8, none⟩ = some (.int .i64 x.kind)
  x1 : w.cell? ⟨vb, vo + q * 8 + 1, none⟩ = some (.bool x.is)
  x2 : w.cell? ⟨vb, vo + q * 8 + 2, none⟩ = some (.bool x.neg)
  x3 : w.cell? ⟨vb, vo + q * 8 + 3, none⟩ = some (.string x.dig)
  x4 : w.cell? ⟨vb, vo + q * 8 + 4, none⟩ = some (.int .i64 x.exp)
  x5 : w.cell? ⟨vb, vo + q * 8 + 5, none⟩ = some (.string x.str)
  x6 : w.cell? ⟨vb, vo + q * 8 + 6, none⟩ = some (.slice x.ka x.kn x.kc)
  x7 : w.cell? ⟨vb, vo + q * 8 + 7, none⟩ = some (.slice x.va x.vn x.vc)
theorem ordS {w w6 w' : World} {bw kb ko n kc vb vo m vc : Nat} {ka1 : Option Addr} {kc1 : Nat} {va1 : Option Addr} {vc1 i q : Nat} {key : ByteArray} {x : Raw} {TA TB : Option Nat} {vk vv : Value} {lk : List ByteArray} {lv : List Raw} {k : Int} {is ng : Bool} {d : ByteArray} {e : Int} {s : ByteArray}
    (h : Mid w6 bw (.cells (Raw.mk 6 false false ⟨#[]⟩ 0 ⟨#[]⟩ ka1 i kc1 va1 i vc1).arr 27 (0, 0)) key x TA TB vk lk vv lv w')
    (V : Hid (w6.heap[w.heap.size]? = some (.cells (Raw.mk k is ng d e s (some ⟨kb, ko, none⟩) n kc (some ⟨vb, vo, none⟩) m vc).arr 27 (0, 0)))) (B : Hid (Below w.heap.size w w6)) (hb : w.heap.size < bw) (hkb : kb < w.heap.size) (hvb : vb < w.heap.size)
    (K : Hid (w.cell? ⟨kb, ko + q, none⟩ = some (.string key))) (X : Hid (CellsAt w vb (vo + q * 8) x)) : OrdS w.heap.size bw kb ko n kc vb vo m vc ka1 kc1 va1 vc1 i q key x w' := by
  have hV := (h.below.block w.heap.size hb).trans V.out
  have hB := B.out.trans (h.below.mono (Nat.le_of_lt hb))
  have hX : CellsAt w' vb (vo + q * 8) x := fun j u hu => (World.cell?_of_block (w := w) (hB.block vb hvb)).trans (X.out j u hu)
  obtain ⟨u0, u1, u2, u3, u4, u5, u6, u7⟩ := hX.eight
  exact ⟨cell_of hV 6, cell_of hV 7, cell_of h.own 6, cell_of h.own 7, (World.cell?_of_block (w := w) (hB.block kb hkb)).trans K.out, u0, u1, u2, u3, u4, u5, u6, u7⟩
theorem build_key (w : World) (key : ByteArray) : (Instr.buildSlice 24 1 #[(0, .string key)]).run Tryd.prog w = .ok (.slice (some ⟨w.heap.size, 0, none⟩) 1 1) (w.alloc (.cells #[.string key] 9)) := by kernel_rfl
theorem build_kid (w : World) (x : Raw) : (Instr.buildSlice 25 1 #[(0, x.val)]).run Tryd.prog w = .ok (.slice (some ⟨w.heap.size, 0, none⟩) 1 1) (w.alloc (.cells x.arr 27)) := by kernel_rfl
set_option maxHeartbeats 8000000 in
theorem jencOrder_any (ra : Raw) (t : JV) (by_ : Int) (hby : (Lit.int .u8 by_).wf = true) (w : World) (T : Utf.Sizes w) (P0 : Pow10 w) (hi : IsV w (fun _ => True) ra t) (hh : Held rb t) :
    Calls Tryd.prog 3 #[ra.val, .int .u8 by_] w fun e w' => e = .returned (.bool true) ∧ Below w.heap.size w w' := by
  obtain ⟨w2, hw2, V2, B2⟩ := own_new w ra
  have V2 : Hid (w2.heap[w.heap.size]? = some (.cells ra.arr 27 (0, 0))) := V2.out
  have hl2 := heap_lt V2.out
  have hwk := wakes10 w2 (T.stays B2.out) (P0.stays B2.out)
  have HWK := Hid.out (p := Hid _) hwk
  have HG : Hid (∀ w', Below w.heap.size w w' → Calls Tryd.prog 6 #[ra.val] w' fun e w'' => e = .returned (.bool (decide (t.room 1 400 < 0))) ∧ Below w'.heap.size w' w'') := fun w' hb => great_any rb (by decide) t hh ra _ w' (hi.behind hb)
  have HI := Hid.out (p := Hid _) hi
  have HH := Hid.out (p := Hid _) hh
  have HT : Hid (Utf.Sizes w) := T
  have HP0 : Hid (Pow10 w) := P0
  obtain ⟨G, hG⟩ : ∃ G, decide (t.room 1 400 < 0) = G := ⟨_, rfl⟩
  rw [hG] at HG
  have HGG := Hid.out (p := Hid _) hG
  clear hwk hi hh T P0 hG
  unfold Raw.val at HG ⊢
  obtain ⟨⟨x0, x1, x2, x3, x4, x5, x6, x7⟩, _⟩ := val_cells V2.out
  go_enter Tryd.func3, Tryd.ntmps3
  go_wp2_with fail
  refine (Calls.mono HWK.out ?_)
  rintro z w3 ⟨rfl, hb3⟩
  have V3 : Hid (w3.heap[w.heap.size]? = some (.cells ra.arr 27 (0, 0))) := (hb3.block _ hl2).trans V2.out
  have B3 : Hid (Below w.heap.size w w3) := B2.out.trans (hb3.mono (by omega))
  have h3 := hb3.size
  have hg := HG.out w3 B3.out
  have HG3 := Hid.out (p := Hid _) hg
  clear hb3 hg HG HWK x0 x1 x2 x3 x4 x5 x6 x7 hw2
  obtain ⟨⟨x0, x1, x2, x3, x4, x5, x6, x7⟩, _⟩ := val_cells V3.out
  go_wp2_with fail
  refine (Calls.mono HG3.out ?_)
  rintro z w4 ⟨rfl, hb4⟩
  have V4 : Hid (w4.heap[w.heap.size]? = some (.cells ra.arr 27 (0, 0))) := (hb4.block _ (by omega)).trans V3.out
  have B4 : Hid (Below w.heap.size w w4) := B3.out.trans (hb4.mono (by omega))
  have h4 := hb4.size
  clear hb4 HG3 x0 x1 x2 x3 x4 x5 x6 x7
  cases G
  case true =>
    go_wp2_with fail
    go_ret
    exact ⟨rfl, B4.out⟩
  case false =>
  obtain ⟨hfine, hmass, hdeep⟩ := great_no t (of_decide_eq_false HGG.out)
  have hr := rightq_any rb (by decide) t HH.out (by omega) ra _ w4 (HI.out.behind B4.out)
  have HR := Hid.out (p := Hid _) hr
  have HFN := Hid.out (p := Hid _) hfine
  clear hr hfine
  unfold Raw.val at HR
  obtain ⟨⟨x0, x1, x2, x3, x4, x5, x6, x7⟩, _⟩ := val_cells V4.out
  go_wp2_with fail
  refine (Calls.mono HR.out ?_)
  rintro z w5 hz
  obtain ⟨b, rfl, hb, hb5⟩ := hz.to
  have V5 : Hid (w5.heap[w.heap.size]? = some (.cells ra.arr 27 (0, 0))) := (hb5.block _ (by omega)).trans V4.out
  have B5 : Hid (Below w.heap.size w w5) := B4.out.trans (hb5.mono (by omega))
  have h5 := hb5.size
  have HB := Hid.out (p := Hid _) hb
  clear hz hb hb5 HR x0 x1 x2 x3 x4 x5 x6 x7
  cases b
  case false =>
    go_wp2_with fail
    go_ret
    exact ⟨rfl, B5.out⟩
  case true =>
  obtain ⟨hgd, hdp⟩ := HB.out rfl
  cases t with
  | mk k is ng d e s ks vs =>
  obtain ⟨ka, kc, va, vc, rfl, ht, f, hc, hi2⟩ := HI.out.parts
  by_cases h0 : ks.length = 0
  · have q0 : ((ks.length : Int) == 0) = true := by rw [beq_iff_eq]; omega
    obtain ⟨⟨x0, x1, x2, x3, x4, x5, x6, x7⟩, _⟩ := val_cells V5.out
    clear h0 hgd hc hi2 ht
    go_wp2_with fail
    go_ret
    exact ⟨rfl, B5.out⟩
  have q0 : ((ks.length : Int) == 0) = false := by rw [beq_eq_false_iff_ne]; omega
  have hlen : ks.length = vs.length := by
    cases hgd with
    | mk k i n d e s ks vs O hv => exact O.both (by by_cases h6 : k = 6; exact h6; exact absurd (by rw [O.noKeys h6]; rfl) h0)
  have hn400 : ks.length ≤ 400 := by
    rw [mass_mk] at hmass
    omega
  obtain ⟨bn, rfl, hbn⟩ : ∃ bn : Nat, by_ = (bn : Int) ∧ bn < 256 := by
    simp [Lit.wf, IntKind.min, IntKind.max, IntKind.signed, IntKind.bits] at hby
    exact ⟨by_.toNat, by omega, by omega⟩
  obtain ⟨rs, hrs, HRF⟩ : ∃ rs : List Raw, rs.length = vs.length ∧ Hid (∀ i, i < vs.length → rs.getD i Raw.zero = f i) := ⟨(List.range vs.length).map f, by simp, fun i hi => by simp [List.getD, hi]⟩
  have h06 : w.heap.size < w5.heap.size := by omega
  have HGD := Hid.out (p := Hid _) hgd
  obtain ⟨kb, ko, rfl, _, hkb, hkc⟩ := ht.resolve_left (by intro e; rw [e] at h0; exact h0 rfl)
  obtain ⟨vb, vo, rfl, hvb, hvc⟩ := hc.resolve_left (by intro e; rw [e] at hlen; exact h0 hlen)
  have HKC := Hid.out (p := Hid _) hkc
  have HVC := Hid.out (p := Hid _) hvc
  have HI2 := Hid.out (p := Hid _) hi2
  have HLEN := Hid.out (p := Hid _) hlen
  clear hgd hc hi2 ht hby hlen hkc hvc
  obtain ⟨⟨x0, x1, x2, x3, x4, x5, x6, x7⟩, _⟩ := val_cells V5.out
  go_wp2_with fail
  obtain ⟨w6, hw6, V6, B6⟩ := own_new w5 (Raw.mk 6 false false ⟨#[]⟩ 0 ⟨#[]⟩ none 0 0 none 0 0)
  have hw6' : w5.alloc (.cells #[.int .i64 6, .bool false, .bool false, .string ⟨#[]⟩, .int .i64 0, .string ⟨#[]⟩, .slice none 0 0, .slice none 0 0] 27) = w6 := hw6
  rw [hw6']
  have V06 : Hid (w6.heap[w.heap.size]? = some (.cells (Raw.mk k is ng d e s (some ⟨kb, ko, none⟩) ks.length kc (some ⟨vb, vo, none⟩) vs.length vc).arr 27 (0, 0))) := (B6.out.block _ (by omega)).trans V5.out
  have B16 : Hid (Below w.heap.size w w6) := B5.out.trans (B6.out.mono (by omega))
  have HT0 : Hid (TurnR w6 w5.heap.size (turn ks ⟨#[]⟩ bn 0) (turn rs Raw.zero bn 0) w6) := TurnR.start V6.out
  have hl6 := heap_lt V6.out
  clear x0 x1 x2 x3 x4 x5 x6 x7 hw6 hw6'
  go_loopw [31] (fun p wr => ∃ i : Nat, p = .int .i64 i ∧ i ≤ ks.length ∧ Hid (TurnR w6 w5.heap.size (turn ks ⟨#[]⟩ bn i) (turn rs Raw.zero bn i) wr)) (fun p _ => ks.length - (intOf p).toNat)
  case atStart => exact ⟨0, rfl, Nat.zero_le _, HT0.out⟩
  case round =>
    obtain ⟨i, rfl, hi, hR⟩ := hrel
    by_cases hlt : i < ks.length
    · obtain ⟨ka1, kc1, va1, vc1, hM⟩ := hR.out
      rw [turn_len, turn_len] at hM
      have Vr : Hid (wr.heap[w.heap.size]? = some (.cells (Raw.mk k is ng d e s (some ⟨kb, ko, none⟩) ks.length kc (some ⟨vb, vo, none⟩) vs.length vc).arr 27 (0, 0))) := (hM.below.block _ (by omega)).trans V06.out
      have HM := Hid.out (p := Hid _) hM
      clear hM
      obtain ⟨⟨u0, u1, u2, u3, u4, u5, u6, u7⟩, _⟩ := val_cells Vr.out
      go_wp2_with fail
      obtain ⟨q, hq, hqi⟩ : ∃ q : Nat, (i + bn) % ks.length = q ∧ ((i : Int) + (bn : Int)) % (ks.length : Int) = (q : Int) := ⟨_, rfl, by simp⟩
      have hqk : q < ks.length := by rw [← hq]; exact Nat.mod_lt _ (by omega)
      have hqv : q < vs.length := by rw [← HLEN.out]; exact hqk
      have hqz : (q : Int) < (ks.length : Int) := by omega
      have hqy : (q : Int) < (vs.length : Int) := by omega
      rw [hqi]
      obtain ⟨key, hkey⟩ : ∃ key, ks[q] = key := ⟨_, rfl⟩
      obtain ⟨x, hx⟩ : ∃ x, f q = x := ⟨_, rfl⟩
      have HM0 := Hid.out (p := Hid _) ((HM.out.again key x).drew)
      have K0 : Hid (w.cell? ⟨kb, ko + q, none⟩ = some (.string key)) := by rw [← hkey]; exact HKC.out q hqk
      have X0 : Hid (CellsAt w vb (vo + q * 8) x) := by rw [← hx]; exact HVC.out q hqv
      have HKY : Hid (ks.getD ((i + bn) % ks.length) ⟨#[]⟩ = key) := by rw [Hid, hq, ← hkey]; simp [List.getD, hqk]
      have HXY : Hid (rs.getD ((i + bn) % rs.length) Raw.zero = x) := by rw [Hid, hrs, ← HLEN.out, hq, ← hx]; exact HRF.out q hqv
      have SM : ∀ TA TB vk lk vv lv w', Mid w6 w5.heap.size (.cells (Raw.mk 6 false false ⟨#[]⟩ 0 ⟨#[]⟩ ka1 i kc1 va1 i vc1).arr 27 (0, 0)) key x TA TB vk lk vv lv w' → OrdS w.heap.size w5.heap.size kb ko ks.length kc vb vo vs.length vc ka1 kc1 va1 vc1 i q key x w' := fun TA TB vk lk vv lv w' h => ordS h V06 B16 h06 hkb hvb K0 X0
      clear hq hqi hkey hx HM
      have HS := SM _ _ _ _ _ _ _ HM0.out
      refine wp_region_g (OrdS w.heap.size w5.heap.size kb ko ks.length kc vb vo vs.length vc ka1 kc1 va1 vc1 i q key x) [19, 21] (by kernel_rfl) ?_
      -- REGION BEGIN
      refine wpAnyG_take [19, 21] (i := 0) (v := ?v1) rfl (by kernel_rfl) (by kernel_rfl) (by kernel_rfl) (by kernel_rfl) (fun _ _ _ h => h) (Or.inl ⟨by rfl, ?hy1⟩) HS ?rest1
      case hy1 => (intro w hSw; obtain ⟨s0, s1, s2, s3, s4, y0, y1, y2, y3, y4, y5, y6, y7⟩ := hSw; go_simp; with_reducible rfl)
      simp only [List.getElem_toArray, List.getElem_cons_succ, List.getElem_cons_zero, Act.put, List.setIfInBounds_toArray, List.set_cons_zero, List.set_cons_succ]
      refine wpAnyG_take [19, 21] (i := 1) (v := ?v2) rfl (by kernel_rfl) (by kernel_rfl) (by kernel_rfl) (by kernel_rfl) (fun _ _ _ h => h) (Or.inl ⟨by rfl, ?hy2⟩) HS ?rest2
      case hy2 => (intro w hSw; obtain ⟨s0, s1, s2, s3, s4, y0, y1, y2, y3, y4, y5, y6, y7⟩ := hSw; go_simp; with_reducible rfl)
      simp only [List.getElem_toArray, List.getElem_cons_succ, List.getElem_cons_zero, Act.put, List.setIfInBounds_toArray, List.set_cons_zero, List.set_cons_succ]
      refine wpAnyG_take [19, 21] (i := 2) (v := ?v3) rfl (by kernel_rfl) (by kernel_rfl) (by kernel_rfl) (by kernel_rfl) (fun _ _ _ h => h) (Or.inl ⟨by rfl, ?hy3⟩) HS ?rest3
      case hy3 => (intro w hSw; obtain ⟨s0, s1, s2, s3, s4, y0, y1, y2, y3, y4, y5, y6, y7⟩ := hSw; go_simp; with_reducible rfl)
      simp only [List.getElem_toArray, List.getElem_cons_succ, List.getElem_cons_zero, Act.put, List.setIfInBounds_toArray, List.set_cons_zero, List.set_cons_succ]
      refine wpAnyG_take [19, 21] (i := 3) (v := ?v4) rfl (by kernel_rfl) (by kernel_rfl) (by kernel_rfl) (by kernel_rfl) (fun _ _ _ h => h) (Or.inl ⟨by rfl, ?hy4⟩) HS ?rest4
      case hy4 => (intro w hSw; obtain ⟨s0, s1, s2, s3, s4, y0, y1, y2, y3, y4, y5, y6, y7⟩ := hSw; go_simp; with_reducible rfl)
      simp only [List.getElem_toArray, List.getElem_cons_succ, List.getElem_cons_zero, Act.put, List.setIfInBounds_toArray, List.set_cons_zero, List.set_cons_succ]
      refine wpAnyG_take [19, 21] (i := 4) (v := ?v5) rfl (by kernel_rfl) (by kernel_rfl) (by kernel_rfl) (by kernel_rfl) (fun _ _ _ h => h) (Or.inl ⟨by rfl, ?hy5⟩) HS ?rest5
      case hy5 => (intro w hSw; obtain ⟨s0, s1, s2, s3, s4, y0, y1, y2, y3, y4, y5, y6, y7⟩ := hSw; go_simp; with_reducible rfl)
      simp only [List.getElem_toArray, List.getElem_cons_succ, List.getElem_cons_zero, Act.put, List.setIfInBounds_toArray, List.set_cons_zero, List.set_cons_succ]
      refine wpAnyG_take [19, 21] (i := 5) (v := ?v6) rfl (by kernel_rfl) (by kernel_rfl) (by kernel_rfl) (by kernel_rfl) (fun _ _ _ h => h) (Or.inl ⟨by rfl, ?hy6⟩) HS ?rest6
      case hy6 => (intro w hSw; obtain ⟨s0, s1, s2, s3, s4, y0, y1, y2, y3, y4, y5, y6, y7⟩ := hSw; go_simp; with_reducible rfl)
      simp only [List.getElem_toArray, List.getElem_cons_succ, List.getElem_cons_zero, Act.put, List.setIfInBounds_toArray, List.set_cons_zero, List.set_cons_succ]
      refine wpAnyG_take [19, 21] (i := 6) (v := ?v7) rfl (by kernel_rfl) (by kernel_rfl) (by kernel_rfl) (by kernel_rfl) (fun _ _ _ h => h) (Or.inl ⟨by rfl, ?hy7⟩) HS ?rest7
      case hy7 => (intro w hSw; obtain ⟨s0, s1, s2, s3, s4, y0, y1, y2, y3, y4, y5, y6, y7⟩ := hSw; go_simp; with_reducible rfl)
      simp only [List.getElem_toArray, List.getElem_cons_succ, List.getElem_cons_zero, Act.put, List.setIfInBounds_toArray, List.set_cons_zero, List.set_cons_succ]
      refine wpAnyG_take [19, 21] (i := 9) (v := ?v8) rfl (by kernel_rfl) (by kernel_rfl) (by kernel_rfl) (by kernel_rfl) (fun _ _ _ h => h) (Or.inl ⟨by rfl, ?hy8⟩) HS ?rest8
      case hy8 => (intro w hSw; obtain ⟨s0, s1, s2, s3, s4, y0, y1, y2, y3, y4, y5, y6, y7⟩ := hSw; go_simp; with_reducible rfl)
      simp only [List.getElem_toArray, List.getElem_cons_succ, List.getElem_cons_zero, Act.put, List.setIfInBounds_toArray, List.set_cons_zero, List.set_cons_succ]
      refine wpAnyG_take [19, 21] (i := 10) (v := ?v9) rfl (by kernel_rfl) (by kernel_rfl) (by kernel_rfl) (by kernel_rfl) (fun _ _ _ h => h) (Or.inl ⟨by rfl, ?hy9⟩) HS ?rest9
      case hy9 => (intro w hSw; obtain ⟨s0, s1, s2, s3, s4, y0, y1, y2, y3, y4, y5, y6, y7⟩ := hSw; go_simp; with_reducible rfl)
      simp only [List.getElem_toArray, List.getElem_cons_succ, List.getElem_cons_zero, Act.put, List.setIfInBounds_toArray, List.set_cons_zero, List.set_cons_succ]
      refine wpAnyG_take [12, 14, 15, 16, 17, 19, 21] (i := 11) (v := ?v10) rfl (by kernel_rfl) (by kernel_rfl) (by kernel_rfl) (by kernel_rfl) (fun _ _ _ h => h) (Or.inl ⟨by rfl, ?hy10⟩) HS ?rest10
      case hy10 => (intro w hSw; obtain ⟨s0, s1, s2, s3, s4, y0, y1, y2, y3, y4, y5, y6, y7⟩ := hSw; go_simp; with_reducible rfl)
      simp only [List.getElem_toArray, List.getElem_cons_succ, List.getElem_cons_zero, Act.put, List.setIfInBounds_toArray, List.set_cons_zero, List.set_cons_succ]
      refine wpAnyG_take [14, 15, 16, 17, 19, 21] (i := 12) (v := ?v11) rfl (by kernel_rfl) (by kernel_rfl) (by kernel_rfl) (by kernel_rfl) (fun _ _ _ h => h) (Or.inl ⟨by rfl, ?hy11⟩) HS ?rest11
      case hy11 => (intro w hSw; obtain ⟨s0, s1, s2, s3, s4, y0, y1, y2, y3, y4, y5, y6, y7⟩ := hSw; go_simp; with_reducible rfl)
      simp only [List.getElem_toArray, List.getElem_cons_succ, List.getElem_cons_zero, Act.put, List.setIfInBounds_toArray, List.set_cons_zero, List.set_cons_succ]
      refine wpAnyG_take [14, 15, 16, 17, 19, 21] (i := 13) (v := ?v12) rfl (by kernel_rfl) (by kernel_rfl) (by kernel_rfl) (by kernel_rfl) (fun _ _ _ h => h) (Or.inl ⟨by rfl, ?hy12⟩) HS ?rest12
      case hy12 => (intro w hSw; obtain ⟨s0, s1, s2, s3, s4, y0, y1, y2, y3, y4, y5, y6, y7⟩ := hSw; go_simp; with_reducible rfl)
      simp only [List.getElem_toArray, List.getElem_cons_succ, List.getElem_cons_zero, Act.put, List.setIfInBounds_toArray, List.set_cons_zero, List.set_cons_succ]
      refine wpAnyG_take [15, 16, 17, 19, 21] (i := 14) (v := ?v13) rfl (by kernel_rfl) (by kernel_rfl) (by kernel_rfl) (by kernel_rfl) (fun _ _ _ h => h) (Or.inl ⟨by rfl, ?hy13⟩) HS ?rest13
      case hy13 => (intro w hSw; obtain ⟨s0, s1, s2, s3, s4, y0, y1, y2, y3, y4, y5, y6, y7⟩ := hSw; go_simp; with_reducible rfl)
      simp only [List.getElem_toArray, List.getElem_cons_succ, List.getElem_cons_zero, Act.put, List.setIfInBounds_toArray, List.set_cons_zero, List.set_cons_succ]
      refine wpAnyG_take [16, 17, 19, 21] (i := 15) (v := ?v14) rfl (by kernel_rfl) (by kernel_rfl) (by kernel_rfl) (by kernel_rfl) (fun _ _ _ h => h) (Or.inl ⟨by rfl, ?hy14⟩) HS ?rest14
      case hy14 => (intro w hSw; obtain ⟨s0, s1, s2, s3, s4, y0, y1, y2, y3, y4, y5, y6, y7⟩ := hSw; go_simp; with_reducible rfl)
      simp only [List.getElem_toArray, List.getElem_cons_succ, List.getElem_cons_zero, Act.put, List.setIfInBounds_toArray, List.set_cons_zero, List.set_cons_succ]
      refine wpAnyG_ready (rs := [7, 16]) (by kernel_rfl) (by simp) ?_
      refine AllReadyG.cons rfl (fun K hK => ?_) (AllReadyG.cons rfl (fun K hK => ?_) AllReadyG.nil)
      · -- the key is laid first
        simp only [List.getElem_toArray, List.getElem_cons_succ, List.getElem_cons_zero]
        refine step_build_one 24 9 #[.string key] (.string key) (build_key _ key) (by rfl) _ (by rfl) (by rfl) ?_
        have HM1 := Hid.out (p := Hid _) (HM0.out.allocA)
        refine hK.out _ _ (fun _ => SM _ _ _ _ _ _ _ HM1.out) ?_
        clear hK K
        simp only [List.getElem_toArray, List.getElem_cons_succ, List.getElem_cons_zero, Act.put, List.setIfInBounds_toArray, List.set_cons_zero, List.set_cons_succ]
        refine wpAnyG_ready (rs := [8, 16]) (by kernel_rfl) (by simp) ?_
        refine AllReadyG.cons rfl (fun K hK => ?_) (AllReadyG.cons rfl (fun K hK => ?_) AllReadyG.nil)
        · -- the key is appended
          simp only [List.getElem_toArray, List.getElem_cons_succ, List.getElem_cons_zero]
          obtain ⟨ka2, kc2, w2, hr2, hM2⟩ := HM1.out.appA rfl (by rw [turn_len]; omega)
          refine step_append_run _ _ 24 hr2 (by rfl) _ _ (by rfl) (by rfl) (by rfl) ?_
          have HM2 := Hid.out (p := Hid _) hM2
          refine hK.out _ _ (fun _ => SM _ _ _ _ _ _ _ hM2) ?_
          clear hK K hr2 hM2
          simp only [List.getElem_toArray, List.getElem_cons_succ, List.getElem_cons_zero, Act.put, List.setIfInBounds_toArray, List.set_cons_zero, List.set_cons_succ]
          refine wpAnyG_take [19, 21] (i := 18) (v := ?v15) rfl (by kernel_rfl) (by kernel_rfl) (by kernel_rfl) (by kernel_rfl) (fun _ _ _ h => h) (Or.inl ⟨by rfl, ?hy15⟩) (SM _ _ _ _ _ _ _ HM2.out) ?rest15
          case hy15 => (intro w hSw; obtain ⟨s0, s1, s2, s3, s4, y0, y1, y2, y3, y4, y5, y6, y7⟩ := hSw; go_simp; with_reducible rfl)
          simp only [List.getElem_toArray, List.getElem_cons_succ, List.getElem_cons_zero, Act.put, List.setIfInBounds_toArray, List.set_cons_zero, List.set_cons_succ]
          refine wpAnyG_ready (rs := [16]) (by kernel_rfl) (by simp) ?_
          refine AllReadyG.cons rfl (fun K hK => ?_) AllReadyG.nil
          simp only [List.getElem_toArray, List.getElem_cons_succ, List.getElem_cons_zero]
          refine step_build_one 25 27 x.arr x.val (build_kid _ x) (by rfl) _ (by rfl) (by rfl) ?_
          have HM3 := Hid.out (p := Hid _) (HM2.out.allocB)
          refine hK.out _ _ (fun _ => SM _ _ _ _ _ _ _ HM3.out) ?_
          clear hK K
          simp only [List.getElem_toArray, List.getElem_cons_succ, List.getElem_cons_zero, Act.put, List.setIfInBounds_toArray, List.set_cons_zero, List.set_cons_succ]
          refine wpAnyG_ready (rs := [17]) (by kernel_rfl) (by simp) ?_
          refine AllReadyG.cons rfl (fun K hK => ?_) AllReadyG.nil
          simp only [List.getElem_toArray, List.getElem_cons_succ, List.getElem_cons_zero]
          obtain ⟨va4, vc4, w4, hr4, hM4⟩ := HM3.out.appB (by rw [turn_len]; omega)
          refine step_append_run _ _ 25 hr4 (by rfl) _ _ (by rfl) (by rfl) (by rfl) ?_
          have HM4 := Hid.out (p := Hid _) hM4
          refine hK.out _ _ (fun _ => SM _ _ _ _ _ _ _ hM4) ?_
          clear hK K hr4 hM4
          simp only [List.getElem_toArray, List.getElem_cons_succ, List.getElem_cons_zero, Act.put, List.setIfInBounds_toArray, List.set_cons_zero, List.set_cons_succ]
          obtain ⟨⟨z0, z1, z2, z3, z4, z5, z6, z7⟩, g0, g1, g2, g3, g4, g5, g6, g7⟩ := val_cells (Hid.out (p := Hid _) HM4.out.own)
          refine wpAnyG_ready (rs := [19]) (by kernel_rfl) (by simp) ?_
          refine AllReadyG.cons rfl (fun K hK => ?_) AllReadyG.nil
          simp only [List.getElem_toArray, List.getElem_cons_succ, List.getElem_cons_zero]
          go_simp
          refine hK.out _ _ (fun h => absurd h (by decide)) ?_
          clear hK K
          try simp only [List.getElem_toArray, List.getElem_cons_succ, List.getElem_cons_zero, Act.put, List.setIfInBounds_toArray, List.set_cons_zero, List.set_cons_succ]
          refine wpAnyG_ready (rs := [20]) (by kernel_rfl) (by simp) ?_
          refine AllReadyG.cons rfl (fun K hK => ?_) AllReadyG.nil
          simp only [List.getElem_toArray, List.getElem_cons_succ, List.getElem_cons_zero]
          go_simp
          refine hK.out _ _ (fun h => absurd h (by decide)) ?_
          clear hK K
          try simp only [List.getElem_toArray, List.getElem_cons_succ, List.getElem_cons_zero, Act.put, List.setIfInBounds_toArray, List.set_cons_zero, List.set_cons_succ]
          refine wpAnyG_ready (rs := [21]) (by kernel_rfl) (by simp) ?_
          refine AllReadyG.cons rfl (fun K hK => ?_) AllReadyG.nil
          simp only [List.getElem_toArray, List.getElem_cons_succ, List.getElem_cons_zero]
          go_simp
          refine hK.out _ _ (fun h => absurd h (by decide)) ?_
          clear hK K
          try simp only [List.getElem_toArray, List.getElem_cons_succ, List.getElem_cons_zero, Act.put, List.setIfInBounds_toArray, List.set_cons_zero, List.set_cons_succ]
          refine wpAnyG_done (by kernel_rfl) ?_ _
          have hn : TurnR w6 w5.heap.size (turn ks ⟨#[]⟩ bn i ++ [key]) (turn rs Raw.zero bn i ++ [x]) _ := TurnR.next HM4.out
          have e1 : turn ks ⟨#[]⟩ bn (i + 1) = turn ks ⟨#[]⟩ bn i ++ [key] := by rw [turn_succ, HKY.out]
          have e2 : turn rs Raw.zero bn (i + 1) = turn rs Raw.zero bn i ++ [x] := by rw [turn_succ, HXY.out]
          rw [← e1, ← e2] at hn
          simp only [turn_len] at hn ⊢
          have HN := Hid.out (p := Hid _) hn
          clear hn e1 e2
          go_wp2_with fail
          go_roundw
          case rel => exact ⟨i + 1, by go_num, by omega, HN.out⟩
          case measure => simp [intOf]; omega
        · -- the kid is laid
          simp only [List.getElem_toArray, List.getElem_cons_succ, List.getElem_cons_zero]
          refine step_build_one 25 27 x.arr x.val (build_kid _ x) (by rfl) _ (by rfl) (by rfl) ?_
          have HM2 := Hid.out (p := Hid _) (HM1.out.allocB)
          refine hK.out _ _ (fun _ => SM _ _ _ _ _ _ _ HM2.out) ?_
          clear hK K
          simp only [List.getElem_toArray, List.getElem_cons_succ, List.getElem_cons_zero, Act.put, List.setIfInBounds_toArray, List.set_cons_zero, List.set_cons_succ]
          refine wpAnyG_ready (rs := [8]) (by kernel_rfl) (by simp) ?_
          refine AllReadyG.cons rfl (fun K hK => ?_) AllReadyG.nil
          simp only [List.getElem_toArray, List.getElem_cons_succ, List.getElem_cons_zero]
          obtain ⟨ka3, kc3, w3, hr3, hM3⟩ := HM2.out.appA rfl (by rw [turn_len]; omega)
          refine step_append_run _ _ 24 hr3 (by rfl) _ _ (by rfl) (by rfl) (by rfl) ?_
          have HM3 := Hid.out (p := Hid _) hM3
          refine hK.out _ _ (fun _ => SM _ _ _ _ _ _ _ hM3) ?_
          clear hK K hr3 hM3
          simp only [List.getElem_toArray, List.getElem_cons_succ, List.getElem_cons_zero, Act.put, List.setIfInBounds_toArray, List.set_cons_zero, List.set_cons_succ]
          refine wpAnyG_take [19, 21] (i := 18) (v := ?v16) rfl (by kernel_rfl) (by kernel_rfl) (by kernel_rfl) (by kernel_rfl) (fun _ _ _ h => h) (Or.inl ⟨by rfl, ?hy16⟩) (SM _ _ _ _ _ _ _ HM3.out) ?rest16
          case hy16 => (intro w hSw; obtain ⟨s0, s1, s2, s3, s4, y0, y1, y2, y3, y4, y5, y6, y7⟩ := hSw; go_simp; with_reducible rfl)
          simp only [List.getElem_toArray, List.getElem_cons_succ, List.getElem_cons_zero, Act.put, List.setIfInBounds_toArray, List.set_cons_zero, List.set_cons_succ]
          refine wpAnyG_ready (rs := [17]) (by kernel_rfl) (by simp) ?_
          refine AllReadyG.cons rfl (fun K hK => ?_) AllReadyG.nil
          simp only [List.getElem_toArray, List.getElem_cons_succ, List.getElem_cons_zero]
          obtain ⟨va4, vc4, w4, hr4, hM4⟩ := HM3.out.appB (by rw [turn_len]; omega)
          refine step_append_run _ _ 25 hr4 (by rfl) _ _ (by rfl) (by rfl) (by rfl) ?_
          have HM4 := Hid.out (p := Hid _) hM4
          refine hK.out _ _ (fun _ => SM _ _ _ _ _ _ _ hM4) ?_
          clear hK K hr4 hM4
          simp only [List.getElem_toArray, List.getElem_cons_succ, List.getElem_cons_zero, Act.put, List.setIfInBounds_toArray, List.set_cons_zero, List.set_cons_succ]
          obtain ⟨⟨z0, z1, z2, z3, z4, z5, z6, z7⟩, g0, g1, g2, g3, g4, g5, g6, g7⟩ := val_cells (Hid.out (p := Hid _) HM4.out.own)
          refine wpAnyG_ready (rs := [19]) (by kernel_rfl) (by simp) ?_
          refine AllReadyG.cons rfl (fun K hK => ?_) AllReadyG.nil
          simp only [List.getElem_toArray, List.getElem_cons_succ, List.getElem_cons_zero]
          go_simp
          refine hK.out _ _ (fun h => absurd h (by decide)) ?_
          clear hK K
          try simp only [List.getElem_toArray, List.getElem_cons_succ, List.getElem_cons_zero, Act.put, List.setIfInBounds_toArray, List.set_cons_zero, List.set_cons_succ]
          refine wpAnyG_ready (rs := [20]) (by kernel_rfl) (by simp) ?_
          refine AllReadyG.cons rfl (fun K hK => ?_) AllReadyG.nil
          simp only [List.getElem_toArray, List.getElem_cons_succ, List.getElem_cons_zero]
          go_simp
          refine hK.out _ _ (fun h => absurd h (by decide)) ?_
          clear hK K
          try simp only [List.getElem_toArray, List.getElem_cons_succ, List.getElem_cons_zero, Act.put, List.setIfInBounds_toArray, List.set_cons_zero, List.set_cons_succ]
          refine wpAnyG_ready (rs := [21]) (by kernel_rfl) (by simp) ?_
          refine AllReadyG.cons rfl (fun K hK => ?_) AllReadyG.nil
          simp only [List.getElem_toArray, List.getElem_cons_succ, List.getElem_cons_zero]
          go_simp
          refine hK.out _ _ (fun h => absurd h (by decide)) ?_
          clear hK K
          try simp only [List.getElem_toArray, List.getElem_cons_succ, List.getElem_cons_zero, Act.put, List.setIfInBounds_toArray, List.set_cons_zero, List.set_cons_succ]
          refine wpAnyG_done (by kernel_rfl) ?_ _
          have hn : TurnR w6 w5.heap.size (turn ks ⟨#[]⟩ bn i ++ [key]) (turn rs Raw.zero bn i ++ [x]) _ := TurnR.next HM4.out
          have e1 : turn ks ⟨#[]⟩ bn (i + 1) = turn ks ⟨#[]⟩ bn i ++ [key] := by rw [turn_succ, HKY.out]
          have e2 : turn rs Raw.zero bn (i + 1) = turn rs Raw.zero bn i ++ [x] := by rw [turn_succ, HXY.out]
          rw [← e1, ← e2] at hn
          simp only [turn_len] at hn ⊢
          have HN := Hid.out (p := Hid _) hn
          clear hn e1 e2
          go_wp2_with fail
          go_roundw
          case rel => exact ⟨i + 1, by go_num, by omega, HN.out⟩
          case measure => simp [intOf]; omega
      · -- the kid is laid first
        simp only [List.getElem_toArray, List.getElem_cons_succ, List.getElem_cons_zero]
        refine step_build_one 25 27 x.arr x.val (build_kid _ x) (by rfl) _ (by rfl) (by rfl) ?_
        have HM1 := Hid.out (p := Hid _) (HM0.out.allocB)
        refine hK.out _ _ (fun _ => SM _ _ _ _ _ _ _ HM1.out) ?_
        clear hK K
        simp only [List.getElem_toArray, List.getElem_cons_succ, List.getElem_cons_zero, Act.put, List.setIfInBounds_toArray, List.set_cons_zero, List.set_cons_succ]
        refine wpAnyG_ready (rs := [7]) (by kernel_rfl) (by simp) ?_
        refine AllReadyG.cons rfl (fun K hK => ?_) AllReadyG.nil
        simp only [List.getElem_toArray, List.getElem_cons_succ, List.getElem_cons_zero]
        refine step_build_one 24 9 #[.string key] (.string key) (build_key _ key) (by rfl) _ (by rfl) (by rfl) ?_
        have HM2 := Hid.out (p := Hid _) (HM1.out.allocA)
        refine hK.out _ _ (fun _ => SM _ _ _ _ _ _ _ HM2.out) ?_
        clear hK K
        simp only [List.getElem_toArray, List.getElem_cons_succ, List.getElem_cons_zero, Act.put, List.setIfInBounds_toArray, List.set_cons_zero, List.set_cons_succ]
        refine wpAnyG_ready (rs := [8]) (by kernel_rfl) (by simp) ?_
        refine AllReadyG.cons rfl (fun K hK => ?_) AllReadyG.nil
        simp only [List.getElem_toArray, List.getElem_cons_succ, List.getElem_cons_zero]
        obtain ⟨ka3, kc3, w3, hr3, hM3⟩ := HM2.out.appA rfl (by rw [turn_len]; omega)
        refine step_append_run _ _ 24 hr3 (by rfl) _ _ (by rfl) (by rfl) (by rfl) ?_
        have HM3 := Hid.out (p := Hid _) hM3
        refine hK.out _ _ (fun _ => SM _ _ _ _ _ _ _ hM3) ?_
        clear hK K hr3 hM3
        simp only [List.getElem_toArray, List.getElem_cons_succ, List.getElem_cons_zero, Act.put, List.setIfInBounds_toArray, List.set_cons_zero, List.set_cons_succ]
        refine wpAnyG_take [19, 21] (i := 18) (v := ?v17) rfl (by kernel_rfl) (by kernel_rfl) (by kernel_rfl) (by kernel_rfl) (fun _ _ _ h => h) (Or.inl ⟨by rfl, ?hy17⟩) (SM _ _ _ _ _ _ _ HM3.out) ?rest17
        case hy17 => (intro w hSw; obtain ⟨s0, s1, s2, s3, s4, y0, y1, y2, y3, y4, y5, y6, y7⟩ := hSw; go_simp; with_reducible rfl)
        simp only [List.getElem_toArray, List.getElem_cons_succ, List.getElem_cons_zero, Act.put, List.setIfInBounds_toArray, List.set_cons_zero, List.set_cons_succ]
        refine wpAnyG_ready (rs := [17]) (by kernel_rfl) (by simp) ?_
        refine AllReadyG.cons rfl (fun K hK => ?_) AllReadyG.nil
        simp only [List.getElem_toArray, List.getElem_cons_succ, List.getElem_cons_zero]
        obtain ⟨va4, vc4, w4, hr4, hM4⟩ := HM3.out.appB (by rw [turn_len]; omega)
        refine step_append_run _ _ 25 hr4 (by rfl) _ _ (by rfl) (by rfl) (by rfl) ?_
        have HM4 := Hid.out (p := Hid _) hM4
        refine hK.out _ _ (fun _ => SM _ _ _ _ _ _ _ hM4) ?_
        clear hK K hr4 hM4
        simp only [List.getElem_toArray, List.getElem_cons_succ, List.getElem_cons_zero, Act.put, List.setIfInBounds_toArray, List.set_cons_zero, List.set_cons_succ]
        obtain ⟨⟨z0, z1, z2, z3, z4, z5, z6, z7⟩, g0, g1, g2, g3, g4, g5, g6, g7⟩ := val_cells (Hid.out (p := Hid _) HM4.out.own)
        refine wpAnyG_ready (rs := [19]) (by kernel_rfl) (by simp) ?_
        refine AllReadyG.cons rfl (fun K hK => ?_) AllReadyG.nil
        simp only [List.getElem_toArray, List.getElem_cons_succ, List.getElem_cons_zero]
        go_simp
        refine hK.out _ _ (fun h => absurd h (by decide)) ?_
        clear hK K
        try simp only [List.getElem_toArray, List.getElem_cons_succ, List.getElem_cons_zero, Act.put, List.setIfInBounds_toArray, List.set_cons_zero, List.set_cons_succ]
        refine wpAnyG_ready (rs := [20]) (by kernel_rfl) (by simp) ?_
        refine AllReadyG.cons rfl (fun K hK => ?_) AllReadyG.nil
        simp only [List.getElem_toArray, List.getElem_cons_succ, List.getElem_cons_zero]
        go_simp
        refine hK.out _ _ (fun h => absurd h (by decide)) ?_
        clear hK K
        try simp only [List.getElem_toArray, List.getElem_cons_succ, List.getElem_cons_zero, Act.put, List.setIfInBounds_toArray, List.set_cons_zero, List.set_cons_succ]
        refine wpAnyG_ready (rs := [21]) (by kernel_rfl) (by simp) ?_
        refine AllReadyG.cons rfl (fun K hK => ?_) AllReadyG.nil
        simp only [List.getElem_toArray, List.getElem_cons_succ, List.getElem_cons_zero]
        go_simp
        refine hK.out _ _ (fun h => absurd h (by decide)) ?_
        clear hK K
        try simp only [List.getElem_toArray, List.getElem_cons_succ, List.getElem_cons_zero, Act.put, List.setIfInBounds_toArray, List.set_cons_zero, List.set_cons_succ]
        refine wpAnyG_done (by kernel_rfl) ?_ _
        have hn : TurnR w6 w5.heap.size (turn ks ⟨#[]⟩ bn i ++ [key]) (turn rs Raw.zero bn i ++ [x]) _ := TurnR.next HM4.out
        have e1 : turn ks ⟨#[]⟩ bn (i + 1) = turn ks ⟨#[]⟩ bn i ++ [key] := by rw [turn_succ, HKY.out]
        have e2 : turn rs Raw.zero bn (i + 1) = turn rs Raw.zero bn i ++ [x] := by rw [turn_succ, HXY.out]
        rw [← e1, ← e2] at hn
        simp only [turn_len] at hn ⊢
        have HN := Hid.out (p := Hid _) hn
        clear hn e1 e2
        go_wp2_with fail
        go_roundw
        case rel => exact ⟨i + 1, by go_num, by omega, HN.out⟩
        case measure => simp [intOf]; omega
      -- REGION END
    · obtain rfl : i = ks.length := by omega
      obtain ⟨ka1, kc1, va1, vc1, hM⟩ := hR.out
      obtain ⟨t1, ht1, g1, f1, m1, d1, s1, n1⟩ := turned k is ng d e s ks vs bn HGD.out h0 HFN.out hmass hdp
      have hB := B16.out.trans (hM.below.mono (Nat.le_of_lt h06))
      have hrl : (turn rs Raw.zero bn ks.length).length = (turn vs JV.zero bn vs.length).length := by rw [turn_len, turn_len]; exact HLEN.out
      have hv1 := hM.isV (turn vs JV.zero bn vs.length) hrl (fun j hj => by
        have hj' : j < vs.length := by rw [turn_len] at hj; exact hj
        have hm : (j + bn) % vs.length < vs.length := Nat.mod_lt _ (by omega)
        have hm2 : (j + bn) % rs.length < rs.length := by rw [hrs]; exact hm
        have e1 : (turn rs Raw.zero bn ks.length).getD j Raw.zero = rs.getD ((j + bn) % rs.length) Raw.zero := by
          have : j < (turn rs Raw.zero bn ks.length).length := by rw [turn_len, HLEN.out]; exact hj'
          rw [show (turn rs Raw.zero bn ks.length).getD j Raw.zero = (turn rs Raw.zero bn ks.length)[j] by simp [List.getD, this], turn_get rs _ bn _ j this hm2]; simp [List.getD, hm2]
        rw [e1, turn_get vs _ bn _ j hj hm, hrs, HRF.out _ hm]
        exact (HI2.out _ hm).behind hB)
      rw [← ht1] at hv1
      rw [turn_len, turn_len] at hM hv1
      have HV1 := Hid.out (p := Hid _) hv1
      have V1 : Hid (wr.heap[w5.heap.size]? = some (.cells (Raw.mk 6 false false ⟨#[]⟩ 0 ⟨#[]⟩ ka1 ks.length kc1 va1 ks.length vc1).arr 27 (0, 0))) := hM.own
      have V0 : Hid (wr.heap[w.heap.size]? = some (.cells (Raw.mk k is ng d e s (some ⟨kb, ko, none⟩) ks.length kc (some ⟨vb, vo, none⟩) vs.length vc).arr 27 (0, 0))) := (hM.below.block _ (by omega)).trans V06.out
      have hsz := heap_lt V1.out
      have hc0 := canon_any (.mk k is ng d e s ks vs) HGD.out HFN.out (by omega) hdp _ _ wr (HT.out.stays hB) (HP0.out.stays hB) (HI.out.behind hB)
      have HC0 := Hid.out (p := Hid _) hc0
      have HC1 : Hid (∀ w', Below wr.heap.size wr w' → Calls Tryd.prog 8 #[(Raw.mk 6 false false ⟨#[]⟩ 0 ⟨#[]⟩ ka1 ks.length kc1 va1 ks.length vc1).val] w' (PrP false t1.sort w')) := fun w' hb => canon_any t1 g1 f1 m1 d1 _ _ w' ((HT.out.stays hB).stays hb) ((HP0.out.stays hB).stays hb) (HV1.out.behind hb)
      have HS1 := Hid.out (p := Hid _) s1
      have HN1 := Hid.out (p := Hid _) n1
      have HB := Hid.out (p := Hid _) hB
      clear ht1 g1 f1 m1 d1 s1 n1 hB hrl hv1 hM hc0 HV1 hR
      unfold Raw.val at HC0 HC1
      obtain ⟨⟨u0, u1, u2, u3, u4, u5, u6, u7⟩, _⟩ := val_cells V0.out
      go_wp2_with fail
      refine (Calls.mono HC0.out ?_)
      rintro z w8 hz
      obtain ⟨a, rfl, ha, B8⟩ := hz.to
      have V18 : Hid (w8.heap[w5.heap.size]? = some (.cells (Raw.mk 6 false false ⟨#[]⟩ 0 ⟨#[]⟩ ka1 ks.length kc1 va1 ks.length vc1).arr 27 (0, 0))) := (B8.out.block _ hsz).trans V1.out
      have hc1 := HC1.out w8 B8.out
      have HC18 := Hid.out (p := Hid _) hc1
      clear hz hc1 HC0 HC1 u0 u1 u2 u3 u4 u5 u6 u7
      obtain ⟨⟨u0, u1, u2, u3, u4, u5, u6, u7⟩, _⟩ := val_cells V18.out
      go_wp2_with fail
      refine (Calls.mono HC18.out ?_)
      rintro z w9 hz
      obtain ⟨b, rfl, hb, B9⟩ := hz.to
      obtain rfl : a = b := bytes_ext (by rw [ha.out, hb.out, HS1.out])
      have q2 : a.toList.isEmpty = false := toList_nil (by
        intro e
        apply HN1.out
        rw [← ha.out, e])
      have B29 : Hid (Below w.heap.size w w9) := HB.out.trans ((B8.out.mono (by omega)).trans (B9.out.mono (by have := B8.out.size; omega)))
      clear hz HC18 u0 u1 u2 u3 u4 u5 u6 u7
      go_wp2_with fail
      go_ret
      exact ⟨rfl, B29.out⟩
theorem jencOrder_arg (w : World) (u0 : Value) (x0 : JV) (w0 : ∃ ra : Raw, u0 = ra.val ∧ IsV w (fun _ => True) ra x0 ∧ Held rb x0) (a1 : Int) (w1 : (Lit.int .u8 a1).wf = true) (T : Utf.Sizes w ∧ Pow10 w) :
    Calls Tryd.prog 3 #[u0, .int .u8 a1] w fun e w' => e = .returned (.bool true) ∧ Below w.heap.size w w' := by
  obtain ⟨ra, rfl, h1, h2⟩ := w0
  exact jencOrder_any ra x0 a1 w1 w T.1 T.2 h1 h2
end Go.Proofs.YtehffmcfmdjknaaDoor.Jdec
