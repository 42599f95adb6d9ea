/- tabulariumref08.whole, Right of a value that is right; tabulariumlaw09.JdecRights. -/
import Derived.Test.YtbfkgddhpabioaaDoorRigG
import Derived.Test.YtbfkgddhpabioaaDoorRigD
import Derived.Test.YtbfkgddhpabioaaDoorTabs
namespace Go.Proofs.YtbfkgddhpabioaaDoor.Jdec
open Go.RowKit Go.Proofs.YtbfkgddhpabioaaDoor.Strs
set_option linter.unusedVariables false
set_option linter.unusedSimpArgs false
set_option maxRecDepth 100000

/-- What tabulariumref08.whole tells. -/
def WholeC (t : JV) : Prop := ∀ (ra : Raw) (A : Nat → Prop) (w : World), IsV w A ra t → Calls Tryd.prog 34 #[ra.val] w fun e w' => e = .returned (.bool true) ∧ Below w.heap.size w w'

set_option maxHeartbeats 4000000 in
theorem whole_step (N : Nat) (hN : N ≤ 4611686018427387904) (k : Int) (is ng : Bool) (d : ByteArray) (e : Int) (s : ByteArray) (ks : List ByteArray) (vs : List JV) (hk : ks.length ≤ N) (hv : vs.length ≤ N) (O : OwnP N k is ng d e s ks vs.length) (IH : ∀ j (h : j < vs.length), WholeC vs[j]) : WholeC (.mk k is ng d e s ks vs) := by
  intro ra A w h
  obtain ⟨ka, kc, va, vc, rfl, ht, f, hc, hi⟩ := h.parts
  have HIH := Hid.out (p := Hid _) IH
  have HC := Hid.out (p := Hid _) hc
  have HI := Hid.out (p := Hid _) hi
  obtain ⟨w2, hw2, V2, B2⟩ := own_new w (Raw.mk k is ng d e s ka ks.length kc va vs.length vc)
  have V2 : Hid (w2.heap[w.heap.size]? = some (.cells (Raw.mk k is ng d e s ka ks.length kc va vs.length vc).arr 29 (0, 0))) := V2.out
  have hown := own_any N hN k is ng d e s ks vs.length O hk ka va kc vc A w2 (ht.turn (Turn.below B2.out))
  have HOWN := Hid.out (p := Hid _) hown
  clear h ht hc hi IH O hown
  dsimp only at hw2
  unfold Raw.val at HOWN ⊢
  obtain ⟨⟨x0, x1, x2, x3, x4, x5, x6, x7⟩, _⟩ := val_cells V2.out
  go_enter Tryd.func34, Tryd.ntmps34
  go_wp2_with fail
  refine (Calls.mono HOWN.out ?_)
  rintro z w3 ⟨rfl, hb3⟩
  have V3 := Hid.out (p := Hid _) ((hb3.block w.heap.size (heap_lt V2.out)).trans V2.out)
  have B3 := Hid.out (p := Hid _) (B2.out.trans (hb3.mono B2.out.size))
  clear hb3 x0 x1 x2 x3 x4 x5 x6 x7 V2 B2 hw2 HOWN
  go_wp2_with fail
  go_loopw [3] (fun p wr => ∃ i : Nat, p = .int .i64 i ∧ i ≤ vs.length ∧ Hid (Below w3.heap.size w3 wr)) (fun p _ => vs.length - (intOf p).toNat)
  case atStart => exact ⟨0, rfl, Nat.zero_le _, Below.refl _ _⟩
  case round =>
    obtain ⟨i, rfl, hi, hB⟩ := hrel
    have V4 := Hid.out (p := Hid _) ((hB.out.block w.heap.size (heap_lt V3.out)).trans V3.out)
    have d7 : wr.cell? ⟨w.heap.size, 7, none⟩ = some (.slice va vs.length vc) := cell_of V4.out 7
    by_cases hlt : i < vs.length
    · have hne : vs ≠ [] := fun e => by rw [e] at hlt; simp at hlt
      obtain ⟨g, o, rfl, hg, hcs⟩ := HC.out.resolve_left hne
      have Bw : Hid (Below w.heap.size w wr) := B3.out.trans (hB.out.mono B3.out.size)
      have K1 := Hid.out (p := Hid _) ((hcs i hlt).below hg Bw.out)
      have I1 := Hid.out (p := Hid _) ((HI.out i hlt).behind Bw.out)
      have hcall := HIH.out i hlt (f i) A wr I1.out
      clear hcs
      generalize f i = x at *
      have HCL := Hid.out (p := Hid _) hcall
      have K1c : CellsAt wr g (o + i * 8) x := K1.out
      obtain ⟨u0, u1, u2, u3, u4, u5, u6, u7⟩ := K1c.eight
      clear K1 K1c hcall I1 V4
      go_wp2_with fail
      refine (Calls.mono HCL.out ?_)
      rintro z w5 ⟨rfl, hb5⟩
      have B5 : Hid (Below w3.heap.size w3 w5) := hB.out.trans (hb5.mono hB.out.size)
      clear hb5
      go_wp2_with fail
      go_roundw
      case rel => exact ⟨i + 1, by go_num, by omega, B5.out⟩
      case measure => simp [intOf]; omega
    · go_wp2_with fail
      go_ret
      exact ⟨rfl, B3.out.trans (hB.out.mono B3.out.size)⟩
theorem whole_all (N : Nat) (hN : N ≤ 4611686018427387904) (t : JV) (h : Small N t) : Good N t → WholeC t := by
  induction h with
  | mk k i n d e s ks vs h1 h2 h3 ih =>
    intro hg
    generalize hz : JV.mk k i n d e s ks vs = z at hg
    cases hg with
    | mk _ _ _ _ _ _ _ _ O hk =>
      injection hz with e1 e2 e3 e4 e5 e6 e7 e8
      subst e1 e2 e3 e4 e5 e6 e7 e8
      exact whole_step N hN k i n d e s ks vs h1 h2 O (fun j hj => ih j hj (hk j hj))

set_option maxHeartbeats 1000000 in
theorem right_any (N : Nat) (hN : N ≤ 4611686018427387904) (t : JV) (hs : Small N t) (hg : Good N t) (hd : t.deepN ≤ 64) (ra : Raw) (A : Nat → Prop) (w : World) (h : IsV w A ra t) :
    Calls Tryd.prog 17 #[ra.val] w fun e w' => e = .returned (.bool true) ∧ Below w.heap.size w w' := by
  obtain ⟨w2, hw2, V2, B2⟩ := own_new w ra
  have V2 : Hid (w2.heap[w.heap.size]? = some (.cells ra.arr 29 (0, 0))) := V2.out
  have I2 := Hid.out (p := Hid _) (h.behind B2.out)
  have hdc := deep_any N hN t hs hd ra A w2 I2.out
  have HDC := Hid.out (p := Hid _) hdc
  have hwc := whole_all N hN t hs hg
  have HWC := Hid.out (p := Hid _) hwc
  generalize t.deepN = dn at *
  have t1 : decide ((dn : Int) ≤ 64) = true := by rw [decide_eq_true_eq]; omega
  have t2 : decide (dn ≤ 64) = true := by rw [decide_eq_true_eq]; omega
  clear h hdc hwc hd hs hg
  unfold Raw.val at HDC ⊢
  obtain ⟨⟨x0, x1, x2, x3, x4, x5, x6, x7⟩, _⟩ := val_cells V2.out
  go_enter Tryd.func17, Tryd.ntmps17
  go_wp2_with fail
  refine (Calls.mono HDC.out ?_)
  rintro z w3 ⟨rfl, hb3⟩
  have V3 := Hid.out (p := Hid _) ((hb3.block w.heap.size (heap_lt V2.out)).trans V2.out)
  have B3 := Hid.out (p := Hid _) (B2.out.trans (hb3.mono B2.out.size))
  have hcall := HWC.out ra A w3 (I2.out.behind hb3)
  have HCL := Hid.out (p := Hid _) hcall
  unfold Raw.val at HCL
  clear hb3 x0 x1 x2 x3 x4 x5 x6 x7 V2 B2 hw2 HDC hcall
  obtain ⟨⟨x0, x1, x2, x3, x4, x5, x6, x7⟩, _⟩ := val_cells V3.out
  go_wp2_with fail
  refine (Calls.mono HCL.out ?_)
  rintro z w4 ⟨rfl, hb4⟩
  have B4 := Hid.out (p := Hid _) (B3.out.trans (hb4.mono B3.out.size))
  clear hb4
  go_wp2_with fail
  go_ret
  exact ⟨rfl, B4.out⟩

theorem parse_atr (s : ByteArray) (w : World) (t : JV) (at_ : Int) (e : Nat) (hm : s.size ≤ 9223372036854775807) (T : JTabs w) (h : parse s.data.toList = (t, at_, e)) :
    Calls Tryd.prog 11 #[.string s] w fun x w' => ∃ a : Raw, x = .returned (.tuple #[a.val, .int .i64 at_, .int .i64 e]) ∧ IsV w' (fun _ => True) a t ∧ Below w.heap.size w w' :=
  (parse_any s w hm T).mono fun x w' ⟨a, h1, h2, h3⟩ => ⟨a, by rw [h1, h], by rw [h] at h2; exact h2.turn (Turn.mono _ (fun _ _ _ => trivial)), h3⟩
theorem parse_cases (l : List UInt8) (hl : l.length ≤ 1500) (t : JV) (at_ : Int) (e : Nat) (h : parse l = (t, at_, e)) : (e ≠ 0 → t = .zero) ∧ (e = 0 → ∃ q, value l 64 (skip l 0) = .ok (t, q) ∧ ¬ skip l q < l.length) := by
  have hf := value_fits l 64 (skip l 0) (skip_le l 0 (Nat.zero_le _))
  unfold parse at h
  rw [if_neg (by omega)] at h
  cases hv : value l 64 (skip l 0) with
  | error y =>
    obtain ⟨b, e'⟩ := y
    rw [hv] at h
    have := (hf.err _ hv).2
    injection h with h1 h; injection h with h2 h3
    exact ⟨fun _ => h1.symm, fun h => absurd h (by rw [← h3]; exact this)⟩
  | ok z =>
    obtain ⟨v, q⟩ := z
    rw [hv] at h
    simp only at h
    by_cases hq : skip l q < l.length
    · rw [if_pos hq] at h
      injection h with h1 h; injection h with h2 h3
      exact ⟨fun _ => h1.symm, fun h => by omega⟩
    · rw [if_neg hq] at h
      injection h with h1 h; injection h with h2 h3
      subst h1
      exact ⟨fun h => absurd h3.symm h, fun _ => ⟨q, rfl, hq⟩⟩

theorem rights_big (s : ByteArray) (w : World) (T : JTabs w) (hs : s.size ≤ 9223372036854775807) (h : 1500 < s.size) :
    Calls Tryd.prog 5 #[.string s] w fun e w' => e = .returned (.bool true) ∧ Below w.heap.size w w' := by
  have hw := wakes_any w T
  clear T
  go_enter Tryd.func5, Tryd.ntmps5
  go_wp2_with fail
  refine hw.mono ?_
  rintro e w1 ⟨rfl, hb1⟩
  have B1 : Hid (Below w.heap.size w w1) := hb1
  clear hb1 hw
  go_wp2_with fail
  go_ret
  exact ⟨rfl, B1.out⟩

set_option maxHeartbeats 4000000 in
theorem rights_main (s : ByteArray) (w : World) (T : JTabs w) (hs : s.size ≤ 1500) :
    Calls Tryd.prog 5 #[.string s] w fun e w' => e = .returned (.bool true) ∧ Below w.heap.size w w' := by
  have hw := wakes_any w T
  have HT : Hid (JTabs w) := T
  clear T
  have hl : s.data.toList.length = s.size := by simp
  obtain ⟨t, at_, e, hp⟩ : ∃ t at_ e, parse s.data.toList = (t, at_, e) := ⟨_, _, _, rfl⟩
  have hcs := parse_cases s.data.toList (by omega) t at_ e hp
  have hsm := parse_small_tree s.data.toList
  rw [hp] at hsm
  have HCS := Hid.out (p := Hid _) hcs
  have HSM := Hid.out (p := Hid _) hsm
  have HP := Hid.out (p := Hid _) hp
  have HL := Hid.out (p := Hid _) hl
  have hd1 := fun w => deepest_any s w (by omega)
  have hd2 := fun w => rdeepest_any s w (by omega)
  obtain ⟨n, hn⟩ : ∃ n, deep s.data.toList false 0 0 = n := ⟨_, rfl⟩
  rw [hn] at hd1 hd2
  have HN := Hid.out (p := Hid _) hn
  have HD1 := Hid.out (p := Hid _) hd1
  have HD2 := Hid.out (p := Hid _) hd2
  clear hcs hsm hp hl hd1 hd2 hn
  go_enter Tryd.func5, Tryd.ntmps5
  go_wp2_with fail
  refine hw.mono ?_
  rintro z w1 ⟨rfl, hb1⟩
  have B1 : Hid (Below w.heap.size w w1) := hb1
  have T1 : Hid (JTabs w1) := JTabs.stays ⟨HT.out.z, HT.out.m⟩ hb1
  clear hb1 hw
  go_wp2_with fail
  refine (parse_atr s w1 t at_ e (by omega) ⟨T1.out.z, T1.out.m⟩ HP.out).mono ?_
  rintro z w3 ⟨a, rfl, hv, b3⟩
  have B3 := Hid.out (p := Hid _) (B1.out.trans (b3.mono B1.out.size))
  obtain ⟨w4, hw4, V4, B34⟩ := own_new w3 a
  have V4 : Hid (w4.heap[w3.heap.size]? = some (.cells a.arr 29 (0, 0))) := V4.out
  have I4 := Hid.out (p := Hid _) (hv.behind B34.out)
  have B4 := Hid.out (p := Hid _) (B3.out.trans (B34.out.mono B3.out.size))
  obtain ⟨b3s, hb3s⟩ : ∃ b, w3.heap.size = b := ⟨_, rfl⟩
  clear hv b3 B1 T1 B34
  dsimp only [Raw.val]
  go_wp2_with fail
  refine (Calls.mono (HD1.out w4) ?_)
  rintro z w5 ⟨rfl, rfl⟩
  go_wp2_with fail
  refine (Calls.mono (HD2.out w4) ?_)
  rintro z w5 ⟨rfl, rfl⟩
  rw [hb3s] at V4
  clear hw4 hb3s B3
  by_cases he : e = 0
  case neg =>
    have hez : ((e : Int) != 0) = true := by rw [bne_iff_ne]; omega
    have htz := HCS.out.1 he
    have I4' := I4.out
    rw [htz] at I4'
    obtain ⟨ka, va, kc, vc, rfl⟩ := zero_words I4'
    clear I4' htz he
    obtain ⟨⟨x0, x1, x2, x3, x4, x5, x6, x7⟩, _⟩ := val_cells V4.out
    go_wp2_with fail
    refine (same_nil ka va none none kc vc 0 0 _).mono ?_
    rintro z w6 ⟨rfl, b6⟩
    have B6 := Hid.out (p := Hid _) (B4.out.trans (b6.mono B4.out.size))
    clear b6
    go_wp2_with fail
    go_ret
    exact ⟨rfl, B6.out⟩
  case pos =>
    subst he
    obtain ⟨q, hval, hq⟩ := HCS.out.2 rfl
    have hdeep := parse_deep s.data.toList t q hval hq
    rw [HN.out] at hdeep
    have hgood := value_good s.data.toList 64 _ t q (skip_le s.data.toList 0 (Nat.zero_le _)) hval
    have hdc := deep_any s.data.toList.length (by rw [HL.out]; omega) t HSM.out hdeep.1 a (fun _ => True) w4 I4.out
    have hrc := right_any s.data.toList.length (by rw [HL.out]; omega) t HSM.out hgood hdeep.1 a (fun _ => True)
    have HDC := Hid.out (p := Hid _) hdc
    have HRC := Hid.out (p := Hid _) hrc
    clear hdc hrc hgood hval hq HCS HSM HP
    generalize t.deepN = dn at *
    unfold Raw.val at HDC
    obtain ⟨⟨x0, x1, x2, x3, x4, x5, x6, x7⟩, _⟩ := val_cells V4.out
    go_wp2_with fail
    refine (Calls.mono HDC.out ?_)
    rintro z w6 ⟨rfl, b6⟩
    have B6 := Hid.out (p := Hid _) (B4.out.trans (b6.mono B4.out.size))
    have V6 := Hid.out (p := Hid _) ((b6.block b3s (heap_lt V4.out)).trans V4.out)
    have hcall := HRC.out w6 (I4.out.behind b6)
    have HCL := Hid.out (p := Hid _) hcall
    unfold Raw.val at HCL
    clear b6 x0 x1 x2 x3 x4 x5 x6 x7 V4 B4 HDC hcall HRC I4
    obtain ⟨⟨x0, x1, x2, x3, x4, x5, x6, x7⟩, _⟩ := val_cells V6.out
    go_wp2_with fail
    refine (Calls.mono HCL.out ?_)
    rintro z w7 ⟨rfl, b7⟩
    have B7 := Hid.out (p := Hid _) (B6.out.trans (b7.mono B6.out.size))
    clear b7
    obtain ⟨h64, hor⟩ := hdeep
    by_cases heq : dn = n
    · subst heq
      clear hor
      go_wp2_with fail
      go_ret
      exact ⟨rfl, B7.out⟩
    · have hdn : dn = n + 1 := by omega
      have e1 : ((dn : Int) == (n : Int)) = false := by rw [beq_eq_false_iff_ne]; omega
      have e2 : ((dn : Int) == (n : Int) + 1) = true := by rw [beq_iff_eq]; omega
      have hn64 : n ≤ 64 := by omega
      clear hor heq hdn
      go_wp2_with fail
      go_ret
      exact ⟨rfl, B7.out⟩
theorem jdecRights_any (s : ByteArray) (hs : s.size ≤ maxLen) (w : World) (T : JTabs w) :
    Calls Tryd.prog 5 #[.string s] w fun e w' => e = .returned (.bool true) ∧ Below w.heap.size w w' := by
  unfold maxLen at hs
  by_cases h : 1500 < s.size
  · exact rights_big s w T (by omega) h
  · exact rights_main s w T (by omega)
end Go.Proofs.YtbfkgddhpabioaaDoor.Jdec
/- From a row's condition to jdec's tables: JdecRights. -/
namespace Go.Proofs.YtbfkgddhpabioaaDoor
open Go.RowKit Go.ChangeShapes
set_option linter.unusedVariables false
set_option maxRecDepth 100000

theorem jdecRightsTabs {w : World} (h : laidMetH Tryd.prog Rows.jdecRightsRow.laid w) : Jdec.JTabs w := by
  obtain ⟨ps, hv, _⟩ := (show laidMet Tryd.prog Rows.jdecRightsRow.laid w from h)
  exact ⟨sizes_of (laid_at hv _ _ (.tail _ (.head _))), steps_of (laid_at hv _ _ (.tail _ (.tail _ (.head _))))⟩
end Go.Proofs.YtbfkgddhpabioaaDoor
