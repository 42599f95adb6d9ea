/- tabulariumref08.Deep of a value in memory. -/
import Derived.Test.YtehffmcfmdjknaaDoorRigB
import Derived.Test.YtehffmcfmdjknaaDoorRigD
import Derived.Test.YtehffmcfmdjknaaDoorJdecEq
import Derived.Test.YtehffmcfmdjknaaDoorRefOB
import Derived.Test.YtehffmcfmdjknaaDoorRefD
namespace Go.Proofs.YtehffmcfmdjknaaDoor.Jdec
open Go.RowKit Go.Proofs.YtehffmcfmdjknaaDoor.Strs
set_option linter.unusedVariables false
set_option linter.unusedSimpArgs false
set_option maxRecDepth 100000

theorem deepNs_snoc (v : JV) : ∀ l : List JV, deepNs (l ++ [v]) = max (deepNs l) v.deepN
  | [] => by rw [List.nil_append, deepNs_cons, deepNs_nil]; omega
  | u :: l => by rw [List.cons_append, deepNs_cons, deepNs_snoc v l, deepNs_cons]; omega
theorem take_next {vs : List JV} {i : Nat} (h : i < vs.length) : vs.take (i + 1) = vs.take i ++ [vs[i]] := by
  rw [List.take_add_one, List.getElem?_eq_getElem h]; rfl
theorem deepNs_take (vs : List JV) : ∀ i, deepNs (vs.take i) ≤ deepNs vs := by
  induction vs with
  | nil => intro i; simp
  | cons v t ih =>
    intro i
    cases i with
    | zero => rw [List.take_zero, deepNs_nil]; omega
    | succ i => rw [List.take_succ_cons, deepNs_cons, deepNs_cons]; have := ih i; omega
theorem deepNs_mem (vs : List JV) (j : Nat) (h : j < vs.length) : vs[j].deepN ≤ deepNs vs := by
  have := deepNs_take vs (j + 1)
  rw [take_next h, deepNs_snoc] at this
  omega
/-- A value in a variable of the call's own. -/
theorem own_new (w : World) (r : Raw) : ∃ w1, w.alloc (.cells #[.int .i64 r.kind, .bool r.is, .bool r.neg, .string r.dig, .int .i64 r.exp, .string r.str, .slice r.ka r.kn r.kc, .slice r.va r.vn r.vc] 27) = w1 ∧
    Hid (w1.heap[w.heap.size]? = some (.cells #[.int .i64 r.kind, .bool r.is, .bool r.neg, .string r.dig, .int .i64 r.exp, .string r.str, .slice r.ka r.kn r.kc, .slice r.va r.vn r.vc] 27 (0, 0))) ∧ Hid (Below w.heap.size w w1) :=
  ⟨_, rfl, heap_alloc_new _ _, (Below.refl _ _).alloc (Nat.le_refl _) _⟩
/-- What tabulariumref08.Deep tells. -/
def DeepC (t : JV) : Prop := ∀ (ra : Raw) (A : Nat → Prop) (w : World), IsV w A ra t → Calls Tryd.prog 13 #[ra.val] w fun e w' => e = .returned (.int .i64 (t.deepN : Nat)) ∧ Below w.heap.size w w'

set_option maxHeartbeats 4000000 in
theorem deep_step (N : Nat) (hN : N ≤ 4611686018427387904) (k : Int) (is ng : Bool) (d : ByteArray) (e : Int) (s : ByteArray) (ks : List ByteArray) (vs : List JV) (hv : vs.length ≤ N) (hd : (JV.mk k is ng d e s ks vs).deepN ≤ 1000) (IH : ∀ j (h : j < vs.length), vs[j].deepN ≤ 1000 → DeepC vs[j]) : DeepC (.mk k is ng d e s ks vs) := by
  intro ra A w h
  obtain ⟨ka, kc, va, vc, rfl, ht, f, hc, hi⟩ := h.parts
  have HIH := Hid.out (p := Hid _) IH
  have HC := Hid.out (p := Hid _) hc
  have HI := Hid.out (p := Hid _) hi
  obtain ⟨T, hT⟩ : ∃ T, decide (k = 5 ∨ k = 6) = T := ⟨_, rfl⟩
  have HT := Hid.out (p := Hid _) hT
  have HD : Hid ((JV.mk k is ng d e s ks vs).deepN = (if k = 5 ∨ k = 6 then deepNs vs else 0) + 1) := by rw [Hid, JV.deepN]
  rw [HD.out] at hd
  have HDD := Hid.out (p := Hid _) hd
  clear h ht hc hi IH hT hd
  obtain ⟨w2, hw2, V2, B2⟩ := own_new w (Raw.mk k is ng d e s ka ks.length kc va vs.length vc)
  dsimp only at hw2 V2
  dsimp only [Raw.val]
  have c0 : w2.cell? ⟨w.heap.size, 0, none⟩ = some (.int .i64 k) := cell_of V2.out 0
  go_enter Tryd.func13, Tryd.ntmps13
  go_upto_region 2 with (fail)
  go_cut [13] from 6 (fun p13 wx => w2 = wx ∧ p13 = .bool T)
  case first =>
    by_cases h5 : k = 5
    · obtain rfl : true = T := by rw [← HT.out, h5]; rfl
      have e5 : (k == 5) = true := by rw [h5]; rfl
      clear h5
      go_wp2_with fail
      go_meet
      exact ⟨rfl, rfl⟩
    · have e5 : (k == 5) = false := by rw [beq_eq_false_iff_ne]; exact h5
      by_cases h6 : k = 6
      · obtain rfl : true = T := by rw [← HT.out, h6]; rfl
        have e6 : (k == 6) = true := by rw [h6]; rfl
        clear h5 h6
        go_wp2_with fail
        go_meet
        exact ⟨rfl, rfl⟩
      · obtain rfl : false = T := by rw [← HT.out]; simp [h5, h6]
        have e6 : (k == 6) = false := by rw [beq_eq_false_iff_ne]; exact h6
        clear h5 h6
        go_wp2_with fail
        go_meet
        exact ⟨rfl, rfl⟩
  case rest =>
  obtain ⟨rfl, rfl⟩ := hcut
  cases T
  case false =>
    have HF : Hid ((JV.mk k is ng d e s ks vs).deepN = 1) := by rw [Hid, HD.out, if_neg (of_decide_eq_false HT.out)]
    go_wp2_with fail
    go_ret
    exact ⟨by rw [HF.out]; rfl, B2.out⟩
  case true =>
    have hk := of_decide_eq_true HT.out
    have HF : Hid ((JV.mk k is ng d e s ks vs).deepN = deepNs vs + 1) := by rw [Hid, HD.out, if_pos hk]
    have h64 : deepNs vs + 1 ≤ 1000 := by have := HDD.out; rw [if_pos hk] at this; exact this
    have H64 := Hid.out (p := Hid _) h64
    clear hk hw2 c0
    go_wp2_with fail
    go_loopw [3, 4] (fun p3 p4 wr => ∃ i : Nat, p4 = .int .i64 i ∧ i ≤ vs.length ∧ p3 = .int .i64 (deepNs (vs.take i) : Nat) ∧ Hid (Below w2.heap.size w2 wr)) (fun _ p4 _ => vs.length - (intOf p4).toNat)
    case atStart => exact ⟨0, rfl, Nat.zero_le _, by rw [List.take_zero, deepNs_nil]; rfl, Below.refl _ _⟩
    case round =>
      obtain ⟨i, rfl, hi, rfl, hB⟩ := hrel
      have V4 := Hid.out (p := Hid _) ((hB.out.block w.heap.size (heap_lt V2.out)).trans V2.out)
      have d7 : wr.cell? ⟨w.heap.size, 7, none⟩ = some (.slice va vs.length vc) := cell_of V4.out 7
      by_cases hlt : i < vs.length
      · have hne : vs ≠ [] := fun e => by rw [e] at hlt; simp at hlt
        obtain ⟨g, o, rfl, hg, hcs⟩ := HC.out.resolve_left hne
        have Bw : Hid (Below w.heap.size w wr) := B2.out.trans (hB.out.mono B2.out.size)
        have K1 := Hid.out (p := Hid _) ((hcs i hlt).below hg Bw.out)
        have I1 := Hid.out (p := Hid _) ((HI.out i hlt).behind Bw.out)
        have hm := deepNs_mem vs i hlt
        have hcall := HIH.out i hlt (by have := H64.out; omega) (f i) A wr I1.out
        have hnx : deepNs (vs.take (i + 1)) = max (deepNs (vs.take i)) vs[i].deepN := by rw [take_next hlt, deepNs_snoc]
        have htk := deepNs_take vs i
        generalize vs[i].deepN = dv at *
        obtain ⟨n, hn⟩ : ∃ n, deepNs (vs.take i) = n := ⟨_, rfl⟩
        rw [hn] at hnx htk
        rw [hn]
        have HNX := Hid.out (p := Hid _) hnx
        have hn64 : n ≤ 1000 := by omega
        have hd64 : dv ≤ 1000 := by omega
        clear hcs hn hnx hm htk h64
        generalize f i = x at *
        have HCL := Hid.out (p := Hid _) hcall
        have K1c : CellsAt wr g (o + i * 8) x := K1.out
        obtain ⟨u0, u1, u2, u3, u4, u5, u6, u7⟩ := K1c.eight
        clear K1 K1c hcall I1 V4
        go_wp2_with fail
        refine (Calls.mono HCL.out ?_)
        rintro z w5 ⟨rfl, hb5⟩
        have B5 : Hid (Below w2.heap.size w2 w5) := hB.out.trans (hb5.mono hB.out.size)
        clear hb5
        by_cases hgt : n < dv
        · have t1 : decide ((n : Int) < (dv : Int)) = true := by rw [decide_eq_true_eq]; omega
          have t2 : decide (n < dv) = true := by rw [decide_eq_true_eq]; omega
          have HNN : Hid (deepNs (vs.take (i + 1)) = dv) := by rw [Hid, HNX.out]; omega
          clear hgt
          go_wp2_with fail
          go_roundw
          case rel => exact ⟨i + 1, by go_num, by omega, by rw [HNN.out], B5.out⟩
          case measure => simp [intOf]; omega
        · have t1 : decide ((n : Int) < (dv : Int)) = false := by rw [decide_eq_false_iff_not]; omega
          have t2 : decide (n < dv) = false := by rw [decide_eq_false_iff_not]; omega
          have HNN : Hid (deepNs (vs.take (i + 1)) = n) := by rw [Hid, HNX.out]; omega
          clear hgt
          go_wp2_with fail
          go_roundw
          case rel => exact ⟨i + 1, by go_num, by omega, by rw [HNN.out], B5.out⟩
          case measure => simp [intOf]; omega
      · obtain rfl : i = vs.length := by omega
        rw [List.take_length]
        have h64' := H64.out
        obtain ⟨n, hn⟩ : ∃ n, deepNs vs = n := ⟨_, rfl⟩
        rw [hn] at HF h64' ⊢
        clear hn h64
        go_wp2_with fail
        go_ret
        exact ⟨by rw [HF.out]; go_num, B2.out.trans (hB.out.mono B2.out.size)⟩
theorem deep_any (N : Nat) (hN : N ≤ 4611686018427387904) (t : JV) (h : Small N t) : t.deepN ≤ 1000 → DeepC t := by
  induction h with
  | mk k i n d e s ks vs h1 h2 h3 ih => exact fun hd => deep_step N hN k i n d e s ks vs h2 hd ih
end Go.Proofs.YtehffmcfmdjknaaDoor.Jdec
/- tabulariumref08.own of a value that is right. (Written by gen/rigg.py.) -/
namespace Go.Proofs.YtehffmcfmdjknaaDoor.Jdec
open Go.RowKit Go.Proofs.YtehffmcfmdjknaaDoor.Strs
set_option linter.unusedVariables false
set_option linter.unusedSimpArgs false
set_option maxRecDepth 100000

theorem same_num : ∀ w, Sem.run Tryd.prog (binOp BinOp.neq 23 (.agg #[.bool false, .string ⟨#[]⟩, .int .i64 0]) (.agg #[.bool false, .string ⟨#[]⟩, .int .i64 0])) w = .ok (.bool false) w := fun _ => by kernel_rfl
theorem text_ne {x d : ByteArray} (h : x ≠ d) : (x.toList == d.toList) = false := by
  rw [beq_eq_false_iff_ne]; intro e; apply h
  rw [ByteArray.toList_eq, ByteArray.toList_eq] at e
  cases x; cases d
  simp only [ByteArray.mk.injEq]
  exact Array.toList_inj.1 e
theorem right_size {n : Bool} {l : List UInt8} {x : Int} (h : Num.right n l x = true) : l.length ≤ 1000 := by
  unfold Num.right at h
  by_cases h0 : l = []
  · rw [h0]; exact Nat.zero_le _
  · rw [if_neg h0] at h
    by_cases h1 : 1000 < l.length ∨ x < -10000 ∨ 10000 < x
    · rw [if_pos h1] at h; cases h
    · omega
theorem txt_valid {l : List UInt8} (h : Utf.Txt l) : Utf.validB l = true := by
  unfold Utf.validB
  rw [h.good]; rfl
theorem right_call (n : Bool) (d : ByteArray) (x : Int) (h : Num.right n d.data.toList x = true) (w : World) : Calls Tryd.prog 23 #[.agg #[.bool n, .string d, .int .i64 x]] w fun e w' => e = .returned (.bool true) ∧ Below w.heap.size w w' := by
  have hd : d.size ≤ 1000 := by have := right_size h; simpa using this
  have := Num.rright_any n d x w (by omega)
  rw [h] at this
  exact this
theorem valid_call (s : ByteArray) (h : Utf.Txt s.data.toList) (hs : s.size ≤ 4611686018427387904) (w : World) : Calls Tryd.prog 24 #[.string s] w fun e w' => e = .returned (.bool true) ∧ Below w.heap.size w w' := by
  have := Utf.rvalid_any s w hs
  rw [txt_valid h] at this
  exact this

set_option maxHeartbeats 4000000 in
theorem own_k1 (ka va : Option Addr) (kc vc : Nat) (A : Nat → Prop) (w : World) :
    Calls Tryd.prog 18 #[(Raw.mk 1 false false ⟨#[]⟩ 0 ⟨#[]⟩ ka 0 kc va 0 vc).val] w fun e w' => e = .returned (.bool true) ∧ Below w.heap.size w w' := by
  obtain ⟨w2, hw2, V2, B2⟩ := own_new w (Raw.mk 1 false false ⟨#[]⟩ 0 ⟨#[]⟩ ka 0 kc va 0 vc)
  have V2 : Hid (w2.heap[w.heap.size]? = some (.cells (Raw.mk 1 false false ⟨#[]⟩ 0 ⟨#[]⟩ ka 0 kc va 0 vc).arr 27 (0, 0))) := V2.out
  dsimp only at hw2
  dsimp only [Raw.val]
  have hsn := same_num
  have hrc := right_call false ⟨#[]⟩ 0 rfl
  have hvc := valid_call ⟨#[]⟩ .nil (Nat.zero_le _)
  have HRC := Hid.out (p := Hid _) hrc
  have HVC := Hid.out (p := Hid _) hvc
  obtain ⟨⟨x0, x1, x2, x3, x4, x5, x6, x7⟩, _⟩ := val_cells V2.out
  clear hrc hvc
  go_enter Tryd.func18, Tryd.ntmps18
  go_wp2_with fail
  refine (Calls.mono (HRC.out w2) ?_)
  rintro z w3 ⟨rfl, hb3⟩
  have V3 := Hid.out (p := Hid _) ((hb3.block w.heap.size (heap_lt V2.out)).trans V2.out)
  have B3 := Hid.out (p := Hid _) (B2.out.trans (hb3.mono B2.out.size))
  clear hb3 x0 x1 x2 x3 x4 x5 x6 x7 V2 B2 hw2
  obtain ⟨⟨x0, x1, x2, x3, x4, x5, x6, x7⟩, _⟩ := val_cells V3.out
  go_wp2_with fail
  refine (Calls.mono (HVC.out w3) ?_)
  rintro z w4 ⟨rfl, hb4⟩
  have V4 := Hid.out (p := Hid _) ((hb4.block w.heap.size (heap_lt V3.out)).trans V3.out)
  have B4 := Hid.out (p := Hid _) (B3.out.trans (hb4.mono B3.out.size))
  clear hb4 x0 x1 x2 x3 x4 x5 x6 x7 V3 B3 HRC HVC
  obtain ⟨⟨x0, x1, x2, x3, x4, x5, x6, x7⟩, _⟩ := val_cells V4.out
  go_wp2_with fail
  go_loopw [3] (fun p wr => p = .int .i64 0 ∧ Hid (w4 = wr)) (fun p _ => 0)
  case atStart => exact ⟨rfl, rfl⟩
  case round =>
    obtain ⟨rfl, hww⟩ := hrel
    obtain rfl := hww.out
    go_wp2_with fail
    go_ret
    exact ⟨rfl, B4.out⟩

set_option maxHeartbeats 4000000 in
theorem own_k2 (ka va : Option Addr) (kc vc : Nat) (A : Nat → Prop) (w : World) (is : Bool) :
    Calls Tryd.prog 18 #[(Raw.mk 2 is false ⟨#[]⟩ 0 ⟨#[]⟩ ka 0 kc va 0 vc).val] w fun e w' => e = .returned (.bool true) ∧ Below w.heap.size w w' := by
  obtain ⟨w2, hw2, V2, B2⟩ := own_new w (Raw.mk 2 is false ⟨#[]⟩ 0 ⟨#[]⟩ ka 0 kc va 0 vc)
  have V2 : Hid (w2.heap[w.heap.size]? = some (.cells (Raw.mk 2 is false ⟨#[]⟩ 0 ⟨#[]⟩ ka 0 kc va 0 vc).arr 27 (0, 0))) := V2.out
  dsimp only at hw2
  dsimp only [Raw.val]
  have hsn := same_num
  have hrc := right_call false ⟨#[]⟩ 0 rfl
  have hvc := valid_call ⟨#[]⟩ .nil (Nat.zero_le _)
  have HRC := Hid.out (p := Hid _) hrc
  have HVC := Hid.out (p := Hid _) hvc
  obtain ⟨⟨x0, x1, x2, x3, x4, x5, x6, x7⟩, _⟩ := val_cells V2.out
  clear hrc hvc
  go_enter Tryd.func18, Tryd.ntmps18
  go_wp2_with fail
  refine (Calls.mono (HRC.out w2) ?_)
  rintro z w3 ⟨rfl, hb3⟩
  have V3 := Hid.out (p := Hid _) ((hb3.block w.heap.size (heap_lt V2.out)).trans V2.out)
  have B3 := Hid.out (p := Hid _) (B2.out.trans (hb3.mono B2.out.size))
  clear hb3 x0 x1 x2 x3 x4 x5 x6 x7 V2 B2 hw2
  obtain ⟨⟨x0, x1, x2, x3, x4, x5, x6, x7⟩, _⟩ := val_cells V3.out
  go_wp2_with fail
  refine (Calls.mono (HVC.out w3) ?_)
  rintro z w4 ⟨rfl, hb4⟩
  have V4 := Hid.out (p := Hid _) ((hb4.block w.heap.size (heap_lt V3.out)).trans V3.out)
  have B4 := Hid.out (p := Hid _) (B3.out.trans (hb4.mono B3.out.size))
  clear hb4 x0 x1 x2 x3 x4 x5 x6 x7 V3 B3 HRC HVC
  obtain ⟨⟨x0, x1, x2, x3, x4, x5, x6, x7⟩, _⟩ := val_cells V4.out
  go_wp2_with fail
  go_loopw [3] (fun p wr => p = .int .i64 0 ∧ Hid (w4 = wr)) (fun p _ => 0)
  case atStart => exact ⟨rfl, rfl⟩
  case round =>
    obtain ⟨rfl, hww⟩ := hrel
    obtain rfl := hww.out
    go_wp2_with fail
    go_ret
    exact ⟨rfl, B4.out⟩

set_option maxHeartbeats 4000000 in
theorem own_k3 (ka va : Option Addr) (kc vc : Nat) (A : Nat → Prop) (w : World) (ng : Bool) (d : ByteArray) (e : Int) (hr : Num.right ng d.data.toList e = true) :
    Calls Tryd.prog 18 #[(Raw.mk 3 false ng d e ⟨#[]⟩ ka 0 kc va 0 vc).val] w fun e w' => e = .returned (.bool true) ∧ Below w.heap.size w w' := by
  obtain ⟨w2, hw2, V2, B2⟩ := own_new w (Raw.mk 3 false ng d e ⟨#[]⟩ ka 0 kc va 0 vc)
  have V2 : Hid (w2.heap[w.heap.size]? = some (.cells (Raw.mk 3 false ng d e ⟨#[]⟩ ka 0 kc va 0 vc).arr 27 (0, 0))) := V2.out
  dsimp only at hw2
  dsimp only [Raw.val]
  have hsn := same_num
  have hrc := right_call ng d e hr
  have hvc := valid_call ⟨#[]⟩ .nil (Nat.zero_le _)
  have HRC := Hid.out (p := Hid _) hrc
  have HVC := Hid.out (p := Hid _) hvc
  obtain ⟨⟨x0, x1, x2, x3, x4, x5, x6, x7⟩, _⟩ := val_cells V2.out
  clear hrc hvc
  go_enter Tryd.func18, Tryd.ntmps18
  go_wp2_with fail
  refine (Calls.mono (HRC.out w2) ?_)
  rintro z w3 ⟨rfl, hb3⟩
  have V3 := Hid.out (p := Hid _) ((hb3.block w.heap.size (heap_lt V2.out)).trans V2.out)
  have B3 := Hid.out (p := Hid _) (B2.out.trans (hb3.mono B2.out.size))
  clear hb3 x0 x1 x2 x3 x4 x5 x6 x7 V2 B2 hw2
  obtain ⟨⟨x0, x1, x2, x3, x4, x5, x6, x7⟩, _⟩ := val_cells V3.out
  go_wp2_with fail
  refine (Calls.mono (HVC.out w3) ?_)
  rintro z w4 ⟨rfl, hb4⟩
  have V4 := Hid.out (p := Hid _) ((hb4.block w.heap.size (heap_lt V3.out)).trans V3.out)
  have B4 := Hid.out (p := Hid _) (B3.out.trans (hb4.mono B3.out.size))
  clear hb4 x0 x1 x2 x3 x4 x5 x6 x7 V3 B3 HRC HVC
  obtain ⟨⟨x0, x1, x2, x3, x4, x5, x6, x7⟩, _⟩ := val_cells V4.out
  go_wp2_with fail
  go_loopw [3] (fun p wr => p = .int .i64 0 ∧ Hid (w4 = wr)) (fun p _ => 0)
  case atStart => exact ⟨rfl, rfl⟩
  case round =>
    obtain ⟨rfl, hww⟩ := hrel
    obtain rfl := hww.out
    go_wp2_with fail
    go_ret
    exact ⟨rfl, B4.out⟩

set_option maxHeartbeats 4000000 in
theorem own_k4 (ka va : Option Addr) (kc vc : Nat) (A : Nat → Prop) (w : World) (s : ByteArray) (hv : Utf.Txt s.data.toList) (hs : s.size ≤ 4611686018427387904) :
    Calls Tryd.prog 18 #[(Raw.mk 4 false false ⟨#[]⟩ 0 s ka 0 kc va 0 vc).val] w fun e w' => e = .returned (.bool true) ∧ Below w.heap.size w w' := by
  obtain ⟨w2, hw2, V2, B2⟩ := own_new w (Raw.mk 4 false false ⟨#[]⟩ 0 s ka 0 kc va 0 vc)
  have V2 : Hid (w2.heap[w.heap.size]? = some (.cells (Raw.mk 4 false false ⟨#[]⟩ 0 s ka 0 kc va 0 vc).arr 27 (0, 0))) := V2.out
  dsimp only at hw2
  dsimp only [Raw.val]
  have hsn := same_num
  have hrc := right_call false ⟨#[]⟩ 0 rfl
  have hvc := valid_call s hv hs
  have HRC := Hid.out (p := Hid _) hrc
  have HVC := Hid.out (p := Hid _) hvc
  obtain ⟨⟨x0, x1, x2, x3, x4, x5, x6, x7⟩, _⟩ := val_cells V2.out
  clear hrc hvc
  go_enter Tryd.func18, Tryd.ntmps18
  go_wp2_with fail
  refine (Calls.mono (HRC.out w2) ?_)
  rintro z w3 ⟨rfl, hb3⟩
  have V3 := Hid.out (p := Hid _) ((hb3.block w.heap.size (heap_lt V2.out)).trans V2.out)
  have B3 := Hid.out (p := Hid _) (B2.out.trans (hb3.mono B2.out.size))
  clear hb3 x0 x1 x2 x3 x4 x5 x6 x7 V2 B2 hw2
  obtain ⟨⟨x0, x1, x2, x3, x4, x5, x6, x7⟩, _⟩ := val_cells V3.out
  go_wp2_with fail
  refine (Calls.mono (HVC.out w3) ?_)
  rintro z w4 ⟨rfl, hb4⟩
  have V4 := Hid.out (p := Hid _) ((hb4.block w.heap.size (heap_lt V3.out)).trans V3.out)
  have B4 := Hid.out (p := Hid _) (B3.out.trans (hb4.mono B3.out.size))
  clear hb4 x0 x1 x2 x3 x4 x5 x6 x7 V3 B3 HRC HVC
  obtain ⟨⟨x0, x1, x2, x3, x4, x5, x6, x7⟩, _⟩ := val_cells V4.out
  go_wp2_with fail
  go_loopw [3] (fun p wr => p = .int .i64 0 ∧ Hid (w4 = wr)) (fun p _ => 0)
  case atStart => exact ⟨rfl, rfl⟩
  case round =>
    obtain ⟨rfl, hww⟩ := hrel
    obtain rfl := hww.out
    go_wp2_with fail
    go_ret
    exact ⟨rfl, B4.out⟩

set_option maxHeartbeats 4000000 in
theorem own_k5 (ka va : Option Addr) (kc vc : Nat) (A : Nat → Prop) (w : World) (n : Nat) :
    Calls Tryd.prog 18 #[(Raw.mk 5 false false ⟨#[]⟩ 0 ⟨#[]⟩ ka 0 kc va n vc).val] w fun e w' => e = .returned (.bool true) ∧ Below w.heap.size w w' := by
  obtain ⟨w2, hw2, V2, B2⟩ := own_new w (Raw.mk 5 false false ⟨#[]⟩ 0 ⟨#[]⟩ ka 0 kc va n vc)
  have V2 : Hid (w2.heap[w.heap.size]? = some (.cells (Raw.mk 5 false false ⟨#[]⟩ 0 ⟨#[]⟩ ka 0 kc va n vc).arr 27 (0, 0))) := V2.out
  dsimp only at hw2
  dsimp only [Raw.val]
  have hsn := same_num
  have hrc := right_call false ⟨#[]⟩ 0 rfl
  have hvc := valid_call ⟨#[]⟩ .nil (Nat.zero_le _)
  have HRC := Hid.out (p := Hid _) hrc
  have HVC := Hid.out (p := Hid _) hvc
  obtain ⟨⟨x0, x1, x2, x3, x4, x5, x6, x7⟩, _⟩ := val_cells V2.out
  clear hrc hvc
  go_enter Tryd.func18, Tryd.ntmps18
  go_wp2_with fail
  refine (Calls.mono (HRC.out w2) ?_)
  rintro z w3 ⟨rfl, hb3⟩
  have V3 := Hid.out (p := Hid _) ((hb3.block w.heap.size (heap_lt V2.out)).trans V2.out)
  have B3 := Hid.out (p := Hid _) (B2.out.trans (hb3.mono B2.out.size))
  clear hb3 x0 x1 x2 x3 x4 x5 x6 x7 V2 B2 hw2
  obtain ⟨⟨x0, x1, x2, x3, x4, x5, x6, x7⟩, _⟩ := val_cells V3.out
  go_wp2_with fail
  refine (Calls.mono (HVC.out w3) ?_)
  rintro z w4 ⟨rfl, hb4⟩
  have V4 := Hid.out (p := Hid _) ((hb4.block w.heap.size (heap_lt V3.out)).trans V3.out)
  have B4 := Hid.out (p := Hid _) (B3.out.trans (hb4.mono B3.out.size))
  clear hb4 x0 x1 x2 x3 x4 x5 x6 x7 V3 B3 HRC HVC
  obtain ⟨⟨x0, x1, x2, x3, x4, x5, x6, x7⟩, _⟩ := val_cells V4.out
  go_wp2_with fail
  go_loopw [3] (fun p wr => p = .int .i64 0 ∧ Hid (w4 = wr)) (fun p _ => 0)
  case atStart => exact ⟨rfl, rfl⟩
  case round =>
    obtain ⟨rfl, hww⟩ := hrel
    obtain rfl := hww.out
    go_wp2_with fail
    go_ret
    exact ⟨rfl, B4.out⟩

set_option maxHeartbeats 4000000 in
theorem own_k6 (ka va : Option Addr) (kc vc : Nat) (A : Nat → Prop) (w : World) (ks : List ByteArray) (ht : IsTexts w A ka ks) (hl : ks.length ≤ 4611686018427387904) (hk : ∀ x ∈ ks, Utf.Txt x.data.toList ∧ x.size ≤ 4611686018427387904) (hn : ks.Nodup) :
    Calls Tryd.prog 18 #[(Raw.mk 6 false false ⟨#[]⟩ 0 ⟨#[]⟩ ka ks.length kc va ks.length vc).val] w fun e w' => e = .returned (.bool true) ∧ Below w.heap.size w w' := by
  obtain ⟨w2, hw2, V2, B2⟩ := own_new w (Raw.mk 6 false false ⟨#[]⟩ 0 ⟨#[]⟩ ka ks.length kc va ks.length vc)
  have V2 : Hid (w2.heap[w.heap.size]? = some (.cells (Raw.mk 6 false false ⟨#[]⟩ 0 ⟨#[]⟩ ka ks.length kc va ks.length vc).arr 27 (0, 0))) := V2.out
  dsimp only at hw2
  dsimp only [Raw.val]
  have hsn := same_num
  have hrc := right_call false ⟨#[]⟩ 0 rfl
  have hvc := valid_call ⟨#[]⟩ .nil (Nat.zero_le _)
  have HRC := Hid.out (p := Hid _) hrc
  have HVC := Hid.out (p := Hid _) hvc
  obtain ⟨⟨x0, x1, x2, x3, x4, x5, x6, x7⟩, _⟩ := val_cells V2.out
  clear hrc hvc
  have HT : Hid (IsTexts w2 A ka ks) := ht.turn (Turn.below B2.out)
  have HK := Hid.out (p := Hid _) hk
  have HN := Hid.out (p := Hid _) hn
  clear ht hk hn
  go_enter Tryd.func18, Tryd.ntmps18
  go_wp2_with fail
  refine (Calls.mono (HRC.out w2) ?_)
  rintro z w3 ⟨rfl, hb3⟩
  have V3 := Hid.out (p := Hid _) ((hb3.block w.heap.size (heap_lt V2.out)).trans V2.out)
  have B3 := Hid.out (p := Hid _) (B2.out.trans (hb3.mono B2.out.size))
  have HT3 : Hid (IsTexts w3 A ka ks) := IsTexts.turn HT.out (Turn.below hb3)
  clear HT
  clear hb3 x0 x1 x2 x3 x4 x5 x6 x7 V2 B2 hw2
  obtain ⟨⟨x0, x1, x2, x3, x4, x5, x6, x7⟩, _⟩ := val_cells V3.out
  go_wp2_with fail
  refine (Calls.mono (HVC.out w3) ?_)
  rintro z w4 ⟨rfl, hb4⟩
  have V4 := Hid.out (p := Hid _) ((hb4.block w.heap.size (heap_lt V3.out)).trans V3.out)
  have B4 := Hid.out (p := Hid _) (B3.out.trans (hb4.mono B3.out.size))
  have HT4 : Hid (IsTexts w4 A ka ks) := IsTexts.turn HT3.out (Turn.below hb4)
  clear HT3
  clear hb4 x0 x1 x2 x3 x4 x5 x6 x7 V3 B3 HRC HVC
  obtain ⟨⟨x0, x1, x2, x3, x4, x5, x6, x7⟩, _⟩ := val_cells V4.out
  go_wp2_with fail
  clear x0 x1 x2 x3 x4 x5 x6 x7
  go_loopw [3] (fun p wr => ∃ i : Nat, p = .int .i64 i ∧ i ≤ ks.length ∧ Hid (Below w4.heap.size w4 wr)) (fun p _ => ks.length - (intOf p).toNat)
  case atStart => exact ⟨0, rfl, Nat.zero_le _, Below.refl _ _⟩
  case round =>
    obtain ⟨i, rfl, hi, hB⟩ := hrel
    have V5 := Hid.out (p := Hid _) ((hB.out.block w.heap.size (heap_lt V4.out)).trans V4.out)
    have d6 : wr.cell? ⟨w.heap.size, 6, none⟩ = some (.slice ka ks.length kc) := cell_of V5.out 6
    by_cases hlt : i < ks.length
    · have hne : ks ≠ [] := fun e => by rw [e] at hlt; simp at hlt
      have HT5 : Hid (IsTexts wr A ka ks) := IsTexts.turn HT4.out (Turn.below hB.out)
      obtain ⟨b, o, rfl, _, _, hc⟩ := HT5.out.resolve_left hne
      have g2 := hc i hlt
      obtain ⟨y, hy⟩ : ∃ y, ks[i] = y := ⟨_, rfl⟩
      rw [hy] at g2
      have hky := HK.out ks[i] (List.getElem_mem hlt)
      rw [hy] at hky
      have hvc := valid_call y hky.1 hky.2
      have HVC := Hid.out (p := Hid _) hvc
      have HY := Hid.out (p := Hid _) hy
      clear hc hvc hky hy
      go_wp2_with fail
      refine (Calls.mono (HVC.out wr) ?_)
      rintro z w6 ⟨rfl, hb6⟩
      have V6 := Hid.out (p := Hid _) ((hb6.block w.heap.size (heap_lt V5.out)).trans V5.out)
      have B6 : Hid (Below w4.heap.size w4 w6) := hB.out.trans (hb6.mono hB.out.size)
      have HT6 : Hid (IsTexts w6 A (some ⟨b, o, none⟩) ks) := IsTexts.turn HT5.out (Turn.below hb6)
      clear hb6 hB V5 HT5 d6 g2 HVC
      go_wp2_with fail
      go_loopw [4] (fun p wr => ∃ j : Nat, p = .int .i64 j ∧ j ≤ i ∧ Hid (Below w6.heap.size w6 wr)) (fun p _ => i - (intOf p).toNat)
      case atStart => exact ⟨0, rfl, Nat.zero_le _, Below.refl _ _⟩
      case round =>
        obtain ⟨j, rfl, hj, hB⟩ := hrel
        have V7 := Hid.out (p := Hid _) ((hB.out.block w.heap.size (heap_lt V6.out)).trans V6.out)
        have d6 : wr.cell? ⟨w.heap.size, 6, none⟩ = some (.slice (some ⟨b, o, none⟩) ks.length kc) := cell_of V7.out 6
        have B7 : Hid (Below w4.heap.size w4 wr) := B6.out.trans (hB.out.mono B6.out.size)
        by_cases hji : j < i
        · have HT7 : Hid (IsTexts wr A (some ⟨b, o, none⟩) ks) := IsTexts.turn HT6.out (Turn.below hB.out)
          obtain ⟨b', o', he, _, _, hc⟩ := HT7.out.resolve_left hne
          injection he with he
          injection he with he1 he2
          subst he1 he2
          have g1 := hc j (by omega)
          have g2 := hc i hlt
          have hxy : (ks[j]'(by omega)) ≠ y := by
            rw [← HY.out]
            intro e
            exact absurd ((List.getElem_inj HN.out).1 e) (by omega)
          rw [HY.out] at g2
          obtain ⟨x, hx⟩ : ∃ x, (ks[j]'(by omega)) = x := ⟨_, rfl⟩
          rw [hx] at g1 hxy
          have q2 := text_ne hxy
          clear hc hx hxy
          go_wp2_with fail
          go_quiet (fail)
          go_wp2_with fail
          go_roundw
          case rel => exact ⟨j + 1, by go_num, by omega, hB.out.trans (below_drewN _ _ _)⟩
          case measure => simp [intOf]; omega
        · go_wp2_with fail
          go_roundw
          case rel => exact ⟨i + 1, by go_num, by omega, B7.out⟩
          case measure => simp [intOf]; omega
    · go_wp2_with fail
      go_ret
      exact ⟨rfl, B4.out.trans (hB.out.mono B4.out.size)⟩

/-- tabulariumref08.own of what is right. -/
theorem own_any (N : Nat) (hN : N ≤ 4611686018427387904) (k : Int) (is ng : Bool) (d : ByteArray) (e : Int) (s : ByteArray) (ks : List ByteArray) (n : Nat) (O : OwnP N k is ng d e s ks n) (hks : ks.length ≤ N) (ka va : Option Addr) (kc vc : Nat) (A : Nat → Prop) (w : World) (ht : IsTexts w A ka ks) :
    Calls Tryd.prog 18 #[(Raw.mk k is ng d e s ka ks.length kc va n vc).val] w fun e w' => e = .returned (.bool true) ∧ Below w.heap.size w w' := by
  obtain ⟨k1, k6, hi, hnum, htx, hkids, hnk, hr, hv, hs, hb, hw, hap⟩ := O
  rcases (show k = 1 ∨ k = 2 ∨ k = 3 ∨ k = 4 ∨ k = 5 ∨ k = 6 by omega) with rfl | rfl | rfl | rfl | rfl | rfl
  · obtain ⟨rfl, rfl, rfl⟩ := hnum (by decide)
    obtain rfl := hi (by decide)
    obtain rfl := htx (by decide)
    obtain rfl := hkids (by decide)
    obtain rfl := hnk (by decide)
    exact own_k1 ka va kc vc A w
  · obtain ⟨rfl, rfl, rfl⟩ := hnum (by decide)
    obtain rfl := htx (by decide)
    obtain rfl := hkids (by decide)
    obtain rfl := hnk (by decide)
    exact own_k2 ka va kc vc A w is
  · obtain rfl := hi (by decide)
    obtain rfl := htx (by decide)
    obtain rfl := hkids (by decide)
    obtain rfl := hnk (by decide)
    exact own_k3 ka va kc vc A w ng d e hr
  · obtain ⟨rfl, rfl, rfl⟩ := hnum (by decide)
    obtain rfl := hi (by decide)
    obtain rfl := hkids (by decide)
    obtain rfl := hnk (by decide)
    exact own_k4 ka va kc vc A w s hv (by omega)
  · obtain ⟨rfl, rfl, rfl⟩ := hnum (by decide)
    obtain rfl := hi (by decide)
    obtain rfl := htx (by decide)
    obtain rfl := hnk (by decide)
    exact own_k5 ka va kc vc A w n
  · obtain ⟨rfl, rfl, rfl⟩ := hnum (by decide)
    obtain rfl := hi (by decide)
    obtain rfl := htx (by decide)
    obtain rfl := hb rfl
    exact own_k6 ka va kc vc A w ks ht (by omega) (fun x hx => ⟨(hw x hx).1, by have := (hw x hx).2; omega⟩) hap
end Go.Proofs.YtehffmcfmdjknaaDoor.Jdec
