/- tabulariumlaw11.told: the tokens, as far as so many. -/
import Derived.Test.YtbfkgddhpabioaaGreatDoorAllA
namespace Go.Proofs.YtbfkgddhpabioaaGreatDoor.Lex
open Go.RowKit Go.Shelf Go.Proofs.YtbfkgddhpabioaaGreatDoor.Utf Go.Proofs.YtbfkgddhpabioaaGreatDoor.Strs
set_option linter.unusedVariables false
set_option linter.unusedSimpArgs false
set_option maxRecDepth 100000
attribute [local go_sem] Oper.semAt_some

theorem Tabs.keptB {w W W' : World} (T : Tabs w) (t : Tabs W) (h : ∀ k, k < w.heap.size → W'.heap[k]? = W.heap[k]?) : Tabs W' :=
  ⟨t.z.kept (h _ T.z.lt), t.s.kept (h _ T.s.lt), t.m.kept (h _ T.m.lt), t.d.kept (h _ T.d.lt)⟩
theorem blk_grown {w w' : World} {k : Nat} {cs : Array Value} {T : TypeId} {fr : Nat × Nat} {row : Option Nat} (h : w.heap[k]? = some (.cells cs T fr)) (hg : w.grownBy w' row) (hr : ∀ r, row = some r → ∃ o : Obj, w.heap[r]? = some o ∧ o.isCells = false) : w'.heap[k]? = some (.cells cs T fr) :=
  (hg.block k (heap_lt h) (fun e => by obtain ⟨o, h1, h2⟩ := hr k e.symm; rw [h] at h1; cases h1; cases h2)).trans h
theorem Lst.grown {w w' : World} {B b : Nat} {l : List Tok} {row : Option Nat} (h : Lst w B b l) (hg : w.grownBy w' row) (hr : ∀ r, row = some r → ∃ o : Obj, w.heap[r]? = some o ∧ o.isCells = false) : Lst w' B b l := by
  obtain ⟨v, hv, ho⟩ := h.it
  refine ⟨h.hB, v, blk_grown hv hg hr, ho.kept hg ?_⟩
  cases hvo : v.ownBlock with
  | none => exact Or.inl rfl
  | some g =>
    refine Or.inr (fun e => ?_)
    obtain ⟨c, fz, hc⟩ := Lib.ownsRow_kind ho g hvo
    obtain ⟨o, h1, h2⟩ := hr g e.symm
    rw [hc] at h1; cases h1; cases h2

theorem seq_some (b : Nat) : ∀ w, Sem.run Tryz.prog (binOp BinOp.neq 63 (.func (.func 47) #[] #[.pointer (some ⟨b, 0, none⟩)]) .nilFunc) w = .ok (.bool true) w := fun _ => by kernel_rfl
/-- The result is read. -/
theorem told_ret (w W : World) (D b m : Nat) (s : ByteArray) (tm : Array Value) (v : Value) (l : List Tok) (hv : W.heap[b]? = some (.cells #[v] 38 (0, 0))) (ho : Row W w.heap.size v l) (hl : l = (toksAt s.data.toList 0).1.take m) (hB : Below w.heap.size w W) (hD : w.heap.size ≤ D) (hK : W.heap[D]? = some (.deferred (some [])))
    (h2 : tm[4]? = some v) :
    bodyPostM Fence.wide 10 Tryz.prog Tryz.f12 (fun e w' => ∃ v, e = .returned v ∧ Row w' w.heap.size v ((toksAt s.data.toList 0).1.take m) ∧ Below w.heap.size w w') Exit.ret
      { tmps := tm, defers := [{ target := .collected D, args := #[] }] } W := by
  have hg := grownBy_putObj' W D (.deferred none)
  have hr : ∀ r, some D = some r → ∃ o : Obj, W.heap[r]? = some o ∧ o.isCells = false := fun r e => by cases e; exact ⟨_, hK, rfl⟩
  have h' := (Lst.grown (B := w.heap.size) (b := D) (l := l) (w := W) (w' := W.putObj D (.deferred none)) (row := some D))
  refine ⟨by simp, .inl ⟨_, _, rfl, run_takeDeferred hK, ?_⟩⟩
  refine ⟨v, ?_, v, rfl, ?_, hB.grown hg hB.size (fun k e => by cases e; exact hD)⟩
  · simp [results, Tryz.results12, go_sem, h2]
  · rw [← hl]
    refine World.ownsRow.kept ho hg ?_
    cases hvo : v.ownBlock with
    | none => exact Or.inl rfl
    | some g =>
      refine Or.inr (fun e => ?_)
      obtain ⟨c, fz, hc⟩ := Lib.ownsRow_kind ho g hvo
      obtain ⟨o, h1, h2⟩ := hr g e.symm
      rw [hc] at h1; cases h1; cases h2

/-- What the loop's variable holds. -/
def TokAx (w : World) (b0 : Nat) (x : Tok) (a : Act) (W : World) : Prop :=
  ∃ (b : Nat) (u0 u1 u2 u4 u6 u8 u9 u10 u11 u12 u13 u14 u15 u16 u17 u18 u19 u20 u21 u22 : Value), a = { tmps := #[u0, u1, u2, .pointer (some ⟨w.heap.size, 0, none⟩), u4, .pointer (some ⟨w.heap.size + 1, 0, none⟩), u6, .pointer (some ⟨b, 0, none⟩), u8, u9, u10, u11, u12, u13, u14, u15, u16, u17, u18, u19, u20, u21, u22], defers := [] } ∧
    b0 ≤ b ∧ W.heap[b]? = some (.cells #[.int .i64 x.1, .string ⟨x.2.1.toArray⟩, .int .i64 x.2.2] 59 (0, 0))
theorem told_new (w : World) (m : Int) : ∃ w1, (w.alloc (.cells #[.int .i64 m] 3)).alloc (.cells #[.slice none 0 0] 38) = w1 ∧ Hid (w1.heap[w.heap.size]? = some (.cells #[.int .i64 m] 3 (0, 0))) ∧ Hid (Lst w1 w.heap.size (w.heap.size + 1) []) ∧ Hid (Below w.heap.size w w1) ∧ Hid (w1.heap.size = w.heap.size + 2) := by
  refine ⟨_, rfl, heap_alloc_old (heap_alloc_new _ _), ⟨by omega, .slice none 0 0, ?_, World.ownsRow_nil _ _ _ _⟩, ((Below.refl _ _).alloc (Nat.le_refl _) _).alloc (by simp) _, by simp [Hid]⟩
  have := heap_alloc_new (w.alloc (.cells #[.int .i64 m] 3)) (.cells #[.slice none 0 0] 38 (0, 0))
  simpa using this

set_option maxHeartbeats 4000000 in
theorem told_any (s : ByteArray) (m : Nat) (w : World) (hs : s.size ≤ 1500) (hm : m ≤ 9999) (T : Tabs w) :
    Calls Tryz.prog 12 #[.string s, .int .i64 m] w fun e w' => ∃ v, e = .returned v ∧ Row w' w.heap.size v ((toksAt s.data.toList 0).1.take m) ∧ Below w.heap.size w w' := by
  obtain ⟨i0, hi, hz0, hz1, hz2⟩ := info_parts infoTok
  have HI := Hid.out (p := Hid _) hi; clear hi
  have HZ := Hid.out (p := Hid _) hz0; clear hz0
  have HT := Hid.out (p := Hid _) T; clear T
  obtain ⟨w1, hw1, M1, L1, B1, S1⟩ := told_new w m
  have T1 : Hid (Tabs w1) := HT.out.stays B1.out
  obtain ⟨bs, hbs⟩ : ∃ bs, w1.heap.size = bs := ⟨_, rfl⟩
  have hal := all_any s w1
  rw [hbs] at hal
  have HAL := Hid.out (p := Hid _) hal
  have HBS : Hid (bs = w.heap.size + 2) := by rw [← hbs]; exact S1.out
  have HBW : Hid (w1.heap.size = bs) := hbs
  clear hal hbs
  rw [← callsIn_wide (n := 10)]
  refine callsIn_of_wp_marks Tryz.func12 rfl trivial ?_ rfl
  simp only [Tryz.ntmps12, List.size_toArray, List.length_cons, List.length_nil, Nat.reduceAdd, Nat.reduceSub, Array.replicate_succ, Array.replicate_zero, List.push_toArray, List.append_toArray, List.nil_append, List.cons_append]
  refine wpIn_wide.2 ?_
  go_wp2_with fail
  refine (Calls.mono HAL.out ?_)
  rintro e w2 ⟨rfl, hb2x, hbox⟩
  have hb2 : Below w1.heap.size w1 w2 := by rw [HBW.out]; exact hb2x
  clear hb2x
  have X2 : Hid (w2.heap[bs]? = some (.cells #[.string s] 9 (0, 0))) := hbox
  have M2 : Hid (w2.heap[w.heap.size]? = some (.cells #[.int .i64 m] 3 (0, 0))) := (hb2.block _ (heap_lt M1.out)).trans M1.out
  have L2 : Hid (Lst w2 w.heap.size (w.heap.size + 1) []) := L1.out.stays hb2
  have T2 : Hid (Tabs w2) := T1.out.stays hb2
  have B2 : Hid (Below w.heap.size w w2) := B1.out.trans (hb2.mono B1.out.size)
  clear hb2 hbox hw1 M1 L1 B1 S1 T1 HAL
  have hbl2 := heap_lt X2.out
  have hsq := seq_some bs
  go_wp2_with fail
  refine (wpIn_wide (n := 10)).1 ?_
  refine wpIn_rangeFunc_ownH (α := Tok) (w := w2) rfl (by decide) (gf := 47) (lb := #[.pointer (some ⟨bs, 0, none⟩)]) rfl trivial (enters_of Tryz.func47 (by kernel_rfl) rfl)
    (toks_stops 9 bs s (by omega) (by decide) w2 X2.out T2.out) (fun h k => KpL.t h k)
    (fun W l o o' hl ho hc _ => ⟨World.putObj_heap_other (fun e => by omega), fun t => Tabs.keptB T2.out t (fun k hk => World.putObj_heap_other (fun e => by omega))⟩) (Below.refl _ _) (fun _ => rfl)
    (fun pre W => pre.length ≤ m ∧ Hid (W.heap[w.heap.size]? = some (.cells #[.int .i64 m] 3 (0, 0))) ∧ Hid (Lst W w.heap.size (w.heap.size + 1) pre) ∧ Hid (Below w.heap.size w W) ∧ Hid (w2.heap.size ≤ W.heap.size) ∧ Hid (W.heap[bs]? = some (.cells #[.string s] 9 (0, 0))))
    (fun c pre W => c = .exit 0 ∧ ∃ (p : List Tok) (x : Tok), pre = p ++ [x] ∧ p.length = m ∧ Hid (Lst W w.heap.size (w.heap.size + 1) p) ∧ Hid (Below w.heap.size w W))
    (fun s A B row hs hg hr => ⟨hs.1, blk_grown hs.2.1.out hg (fun r e => (hr r e).2), hs.2.2.1.out.grown hg (fun r e => (hr r e).2), hs.2.2.2.1.out.grown hg hs.2.2.2.1.out.size (fun r e => by have := (hr r e).1; have := B2.out.size; omega), Nat.le_trans hs.2.2.2.2.1.out hg.size, blk_grown hs.2.2.2.2.2.out hg (fun r e => (hr r e).2)⟩)
    (fun c s A B row hs hg hr => ⟨hs.1, by obtain ⟨_, p, x, h1, h2, h3, h4⟩ := hs; exact ⟨p, x, h1, h2, h3.out.grown hg (fun r e => (hr r e).2), h4.out.grown hg h4.out.size (fun r e => by have := (hr r e).1; have := B2.out.size; omega)⟩⟩)
    ⟨Nat.zero_le _, M2.out, L2.out, B2.out, Nat.le_refl _, X2.out⟩
    (TokAx w w2.heap.size)
    (fun x a' s A B row hs hg hr => by
      obtain ⟨b, u0, u1, u2, u4, u6, u8, u9, u10, u11, u12, u13, u14, u15, u16, u17, u18, u19, u20, u21, u22, h1, h2, h3⟩ := hs
      exact ⟨b, u0, u1, u2, u4, u6, u8, u9, u10, u11, u12, u13, u14, u15, u16, u17, u18, u19, u20, u21, u22, h1, h2, blk_grown h3 hg (fun r e => (hr r e).2)⟩)
    ?assign ?body ?done ?stop
  case assign =>
    rintro l pre x W K ⟨h1, h2, h3, h4, h5, h6⟩ hK
    have HK := Hid.out (p := Hid _) hK; clear hK
    gi_wp2_with fail
    have HO : ∀ k, k < W.heap.size → (W.alloc (.cells #[.int .i64 x.1, .string ⟨x.2.1.toArray⟩, .int .i64 x.2.2] 59)).heap[k]? = W.heap[k]? := fun k hk => ((Below.refl W.heap.size W).alloc (Nat.le_refl _) _).block k hk
    refine HK.out _ _ ((KeepsOthers.alloc W _).from _) ⟨HO _ (by have := h5.out; omega), fun t => Tabs.keptB T2.out t (fun k hk => HO k (by have := h5.out; omega))⟩ ⟨h1, heap_alloc_old h2.out, h3.out.stays ((Below.refl _ _).alloc (Nat.le_refl _) _), h4.out.alloc h4.out.size _, by have := h5.out; simp [Hid]; omega, heap_alloc_old h6.out⟩ ?_
    exact ⟨W.heap.size, _, _, _, _, _, _, _, _, _, _, _, _, _, _, _, _, _, _, _, _, rfl, h5.out, heap_alloc_new _ _⟩
  case body =>
    rintro l pre x a' W hwl hrec ⟨h1, h2, h3, h4, h5, h6⟩ ⟨b, u0, u1, u2, u4, u6, u8, u9, u10, u11, u12, u13, u14, u15, u16, u17, u18, u19, u20, u21, u22, rfl, hb0, hb⟩ hlen
    have cm := cell_of h2.out 0
    obtain ⟨v, hv, ho⟩ := h3.out.it
    have ho' : Row W w.heap.size v pre := ho
    obtain ⟨va, vc, rfl⟩ := ho'.form
    have co := cell_of hv 0
    have cb0 := cell_of hb 0
    have cb1 := cell_of hb 1
    have cb2 := cell_of hb 2
    clear hrec hlen ho'
    by_cases hfull : m ≤ pre.length
    · have d1 : decide ((m : Int) ≤ (pre.length : Int)) = true := by rw [decide_eq_true_eq]; omega
      have d2 : decide (m ≤ pre.length) = true := by rw [decide_eq_true_eq]; omega
      have hpm : pre.length = m := by omega
      have HP := Hid.out (p := Hid _) hpm
      clear hfull hpm hv ho
      gi_wp2_with fail
      exact ⟨KeepsFrom.refl _ _, rfl, pre, x, rfl, HP.out, h3, h4⟩
    · have d1 : decide ((m : Int) ≤ (pre.length : Int)) = false := by rw [decide_eq_false_iff_not]; omega
      have d2 : decide (m ≤ pre.length) = false := by rw [decide_eq_false_iff_not]; omega
      have HV : Hid (Boxed W (w.heap.size + 1) 38 (.slice va pre.length vc)) := hv
      have HO : Hid (W.ownsRow w.heap.size 59 3 (.slice va pre.length vc) pre.length (toksCells pre)) := ho
      have hBW := h4.out.size
      have hfl : pre.length + 1 ≤ m := by omega
      clear hfull hv ho
      gi_wp2_with (gi_at_builtin; go_loud (refine wpListIn_append_own _ rfl _ _ 38 rfl w.heap.size 59 i0 (.agg #[.int .i64 0, .string ⟨#[]⟩, .int .i64 0]) 3 32 Tryz.underlying38 HI.out HZ.out hz1 hz2 rfl (by decide) _ _ _ rfl (HO.out.alloc _) ⟨W.heap.size, 0, none⟩ 1 1 (tokCells x) rfl rfl ?c1 ?c2 ?c3 ?c4 ?c5 ?_))
      case c1 =>
        intro j u hj
        match j, hj with
        | 0, hj => simp [tokCells] at hj; subst hj; simp [Addr.add]
        | 1, hj => simp [tokCells] at hj; subst hj; simp [Addr.add]
        | 2, hj => simp [tokCells] at hj; subst hj; simp [Addr.add]
      case c2 => intro u hu; simp [tokCells] at hu; rcases hu with rfl | rfl | rfl <;> rfl
      case c3 => unfold maxLen; omega
      case c4 => omega
      case c5 => simp; omega
      intro v' w3 hown' hgrow _
      obtain ⟨q1, q2, q3, q4, q5⟩ := Boxed.appended HV.out (by decide) HO.out hBW (by omega) hown' hgrow
      obtain ⟨g, cap, rfl⟩ : ∃ g cap, v' = .slice (some ⟨g, 0, none⟩) (pre.length + 1) cap := by
        rcases hown'.2 with ⟨_, h0⟩ | ⟨g, cap, cur, hv, _⟩
        · omega
        · exact ⟨g, cap, hv⟩
      have e0 := cell_of q1 0
      have e1 := frozen_of q1 0
      have Q2 := Hid.out (p := Hid _) q2
      have Q3 := Hid.out (p := Hid _) q3
      have Q4 := Hid.out (p := Hid _) q4
      have Q5 := Hid.out (p := Hid _) q5
      have hM3 : Hid ((w3.setCell ⟨w.heap.size + 1, 0, none⟩ (.slice (some ⟨g, 0, none⟩) (pre.length + 1) cap)).heap[w.heap.size]? = some (.cells #[.int .i64 m] 3 (0, 0))) := by
        refine heap_set_other ?_ (by omega) _
        refine (hgrow.block _ (by simp; omega) ?_).trans (heap_alloc_old h2.out)
        intro e
        exact own_ne HO.out h2.out (by decide) e.symm
      have hX3 : Hid ((w3.setCell ⟨w.heap.size + 1, 0, none⟩ (.slice (some ⟨g, 0, none⟩) (pre.length + 1) cap)).heap[bs]? = some (.cells #[.string s] 9 (0, 0))) := by
        refine heap_set_other ?_ (by have := HBS.out; omega) _
        refine (hgrow.block _ (by have := heap_lt h6.out; simp; omega) ?_).trans (heap_alloc_old h6.out)
        intro e
        exact own_ne HO.out h6.out (by decide) e.symm
      have hT := toksCells_snoc pre x
      clear q1 q2 q3 q4 q5 co cm hown' hgrow cb0 cb1 cb2
      gi_wp2_with fail
      refine ⟨Q4.out.from _, ⟨hX3.out.trans h6.out.symm, fun t => Tabs.keptB HT.out t Q5.out.block⟩, by simp; omega, hM3.out, ⟨by omega, _, Q2.out, ?_⟩, h4.out.trans Q5.out, Nat.le_trans h5.out Q5.out.size, hX3.out⟩
      rw [hT, show (pre ++ [x]).length = pre.length + 1 by simp]
      exact Q3.out
  case done =>
    rintro D xs W hD rfl ⟨h1, h2, h3, h4, h5, h6⟩ hKD
    obtain ⟨v, hv, ho⟩ := h3.out.it
    have ho' : Row W w.heap.size v (toksAt s.data.toList 0).1 := ho
    obtain ⟨va, vc, rfl⟩ := ho'.form
    have co := cell_of hv 0
    have HR := Hid.out (p := Hid _) ho'
    have HV := Hid.out (p := Hid _) hv
    have HK := Hid.out (p := Hid _) hKD
    clear ho ho' hv hKD
    go_wp2_with fail
    exact told_ret w W D (w.heap.size + 1) m s _ _ _ HV.out HR.out (List.take_of_length_le h1).symm h4.out (by have := B2.out.size; omega) HK.out rfl
  case stop =>
    rintro D c pre W hD hpre ⟨rfl, p, x, rfl, hp, h3, h4⟩ hKD
    obtain ⟨v, hv, ho⟩ := h3.out.it
    have ho' : Row W w.heap.size v p := ho
    obtain ⟨va, vc, rfl⟩ := ho'.form
    have co := cell_of hv 0
    have HR := Hid.out (p := Hid _) ho'
    have HV := Hid.out (p := Hid _) hv
    have HK := Hid.out (p := Hid _) hKD
    have hpt : p = (toksAt s.data.toList 0).1.take m := by
      obtain ⟨t, ht⟩ := hpre
      rw [← ht, List.append_assoc, List.take_append_of_le_length (by omega), List.take_of_length_le (by omega)]
    have HPT := Hid.out (p := Hid _) hpt
    clear ho ho' hv hKD hpre hpt hp
    refine wpIn_wide.2 ?_
    go_wp2_with fail
    exact told_ret w W D (w.heap.size + 1) m s _ _ _ HV.out HR.out HPT.out h4.out (by have := B2.out.size; omega) HK.out rfl
end Go.Proofs.YtbfkgddhpabioaaGreatDoor.Lex
