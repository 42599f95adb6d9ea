/- jdec's parser: values that have no parts: text, yes, no, null. -/
import Derived.Test.YtbfkgddhpabioaaDoorJdecE
namespace Go.Proofs.YtbfkgddhpabioaaDoor.Jdec
open Go.RowKit Go.Proofs.YtbfkgddhpabioaaDoor.Strs
set_option linter.unusedVariables false
set_option linter.unusedSimpArgs false
set_option maxRecDepth 100000

/-- Where the parser stands behind a value. -/
def VAt (P : Nat) (s : ByteArray) (V : Value) (w' : World) (t : JV) : Except Er (JV × Nat) → Prop
  | .ok (t', q) => t = t' ∧ Psr w' P s q V 0 0
  | .error y => ∃ q, q ≤ s.size ∧ Psr w' P s q V y.1 y.2
/-- What a way to read values leaves. -/
def VPost (P : Nat) (s : ByteArray) (V : Value) (r : Except Er (JV × Nat)) (w : World) (x : Ending) (w' : World) : Prop :=
  ∃ (a : Raw) (t : JV), x = .returned a.val ∧ IsV w' (fun j => w.heap.size ≤ j) a t ∧ w.grownBy w' (some P) ∧ VAt P s V w' t r
theorem infoVal : (Tryd.prog.info? 29).map (·.size) = some 8 := by kernel_rfl
def Raw.arr (a : Raw) : Array Value := #[.int .i64 a.kind, .bool a.is, .bool a.neg, .string a.dig, .int .i64 a.exp, .string a.str, .slice a.ka a.kn a.kc, .slice a.va a.vn a.vc]
theorem val_ret {F : Func} {p : Tmp} (hr : F.results = #[.cell p 29]) {tm : Array Value} {a : Raw} {R : Ending → World → Prop} {w' : World} {b : Nat}
    (hb : w'.heap[b]? = some (.cells a.arr 29 (0, 0))) (hp : tm.getD p undef = .pointer (some ⟨b, 0, none⟩)) (hR : R (.returned a.val) w') :
    bodyPost Tryd.prog F R Exit.ret { tmps := tm, defers := [] } w' :=
  bodyPost_ret (results_cell_row hr tm w' b _ _ _ _ hp hb Tryd.underlying29 rfl infoVal) rfl hR
/-- A value's block, written over. -/
theorem set8 {w : World} {b : Nat} {a : Raw} {T : TypeId} (h : w.heap[b]? = some (.cells a.arr T (0, 0))) (c : Raw) :
    ((((((((w.setCell ⟨b, 0, none⟩ (.int .i64 c.kind)).setCell ⟨b, 1, none⟩ (.bool c.is)).setCell ⟨b, 2, none⟩ (.bool c.neg)).setCell ⟨b, 3, none⟩ (.string c.dig)).setCell ⟨b, 4, none⟩ (.int .i64 c.exp)).setCell ⟨b, 5, none⟩ (.string c.str)).setCell ⟨b, 6, none⟩ (.slice c.ka c.kn c.kc)).setCell ⟨b, 7, none⟩ (.slice c.va c.vn c.vc)).heap[b]? = some (.cells c.arr T (0, 0)) := by
  have h0 := heap_set_same h (i := 0) (.int .i64 c.kind)
  have h1 := heap_set_same h0 (i := 1) (.bool c.is)
  have h2 := heap_set_same h1 (i := 2) (.bool c.neg)
  have h3 := heap_set_same h2 (i := 3) (.string c.dig)
  have h4 := heap_set_same h3 (i := 4) (.int .i64 c.exp)
  have h5 := heap_set_same h4 (i := 5) (.string c.str)
  have h6 := heap_set_same h5 (i := 6) (.slice c.ka c.kn c.kc)
  have h7 := heap_set_same h6 (i := 7) (.slice c.va c.vn c.vc)
  rw [h7]
  simp [Raw.arr]
theorem gb8 (w : World) (b : Nat) (x0 x1 x2 x3 x4 x5 x6 x7 : Value) :
    w.grownBy ((((((((w.setCell ⟨b, 0, none⟩ x0).setCell ⟨b, 1, none⟩ x1).setCell ⟨b, 2, none⟩ x2).setCell ⟨b, 3, none⟩ x3).setCell ⟨b, 4, none⟩ x4).setCell ⟨b, 5, none⟩ x5).setCell ⟨b, 6, none⟩ x6).setCell ⟨b, 7, none⟩ x7) (some b) :=
  ((((((((gb_set _ _ _ _).trans (gb_set _ _ _ _)).trans (gb_set _ _ _ _)).trans (gb_set _ _ _ _)).trans (gb_set _ _ _ _)).trans (gb_set _ _ _ _)).trans (gb_set _ _ _ _)).trans (gb_set _ _ _ _))
/-- What turned is the parser, and what is new. -/
theorem gb_new {w w1 w2 : World} {P b : Nat} (h : w.grownBy w1 (some P)) (h2 : w1.grownBy w2 (some b)) (hb : w.heap.size ≤ b) : w.grownBy w2 (some P) :=
  ⟨h2.os.trans h.os, h2.tape.trans h.tape, h2.output.trans h.output, Nat.le_trans h.size h2.size, fun k hk hp => (h2.block k (Nat.lt_of_lt_of_le hk h.size) (fun e => by injection e with e; omega)).trans (h.block k hk hp)⟩

theorem val_cells {w : World} {b : Nat} {a : Raw} {T : TypeId} (h : w.heap[b]? = some (.cells a.arr T (0, 0))) :
    (w.cell? ⟨b, 0, none⟩ = some (.int .i64 a.kind) ∧ w.cell? ⟨b, 1, none⟩ = some (.bool a.is) ∧ w.cell? ⟨b, 2, none⟩ = some (.bool a.neg) ∧ w.cell? ⟨b, 3, none⟩ = some (.string a.dig) ∧ w.cell? ⟨b, 4, none⟩ = some (.int .i64 a.exp) ∧ w.cell? ⟨b, 5, none⟩ = some (.string a.str) ∧ w.cell? ⟨b, 6, none⟩ = some (.slice a.ka a.kn a.kc) ∧ w.cell? ⟨b, 7, none⟩ = some (.slice a.va a.vn a.vc)) ∧
    (w.frozen? ⟨b, 0, none⟩ = false ∧ w.frozen? ⟨b, 1, none⟩ = false ∧ w.frozen? ⟨b, 2, none⟩ = false ∧ w.frozen? ⟨b, 3, none⟩ = false ∧ w.frozen? ⟨b, 4, none⟩ = false ∧ w.frozen? ⟨b, 5, none⟩ = false ∧ w.frozen? ⟨b, 6, none⟩ = false ∧ w.frozen? ⟨b, 7, none⟩ = false) :=
  ⟨⟨cell_of h 0, cell_of h 1, cell_of h 2, cell_of h 3, cell_of h 4, cell_of h 5, cell_of h 6, cell_of h 7⟩, frozen_of h 0, frozen_of h 1, frozen_of h 2, frozen_of h 3, frozen_of h 4, frozen_of h 5, frozen_of h 6, frozen_of h 7⟩
theorem VAt.kept {P b : Nat} {s : ByteArray} {V : Value} {w w' : World} {t : JV} {r : Except Er (JV × Nat)} (h : VAt P s V w t r) (hg : w.grownBy w' (some b)) (hb : P ≠ b) : VAt P s V w' t r := by
  cases r with
  | ok x =>
    obtain ⟨t', q⟩ := x
    exact ⟨h.1, h.2.kept hg (by simpa using hb)⟩
  | error y =>
    obtain ⟨q, h1, h2⟩ := h
    exact ⟨q, h1, h2.kept hg (by simpa using hb)⟩
/-- A value without parts is told. -/
theorem bare_fin {F : Func} {p : Tmp} (hr : F.results = #[.cell p 29]) {tm : Array Value} {a : Raw} {P : Nat} {s : ByteArray} {V : Value} {w w2 : World}
    (hb : w2.heap[w.heap.size]? = some (.cells a.arr 29 (0, 0))) (hp : tm.getD p undef = .pointer (some ⟨w.heap.size, 0, none⟩)) (g : w.grownBy w2 (some P)) (hP : P < w.heap.size)
    (kind : Int) (is neg : Bool) (dig : ByteArray) (exp : Int) (str : ByteArray) (r : Except Er (JV × Nat)) (hv : VAt P s V w2 (.mk kind is neg dig exp str [] []) r) :
    bodyPost Tryd.prog F (VPost P s V r w) Exit.ret { tmps := tm, defers := [] }
    ((((((((w2.setCell ⟨w.heap.size, 0, none⟩ (.int .i64 kind)).setCell ⟨w.heap.size, 1, none⟩ (.bool is)).setCell ⟨w.heap.size, 2, none⟩ (.bool neg)).setCell ⟨w.heap.size, 3, none⟩ (.string dig)).setCell ⟨w.heap.size, 4, none⟩ (.int .i64 exp)).setCell ⟨w.heap.size, 5, none⟩ (.string str)).setCell ⟨w.heap.size, 6, none⟩ (.slice none 0 0)).setCell ⟨w.heap.size, 7, none⟩ (.slice none 0 0)) := by
  have h8 := set8 hb ⟨kind, is, neg, dig, exp, str, none, 0, 0, none, 0, 0⟩
  have G8 := gb8 w2 w.heap.size (.int .i64 kind) (.bool is) (.bool neg) (.string dig) (.int .i64 exp) (.string str) (.slice none 0 0) (.slice none 0 0)
  refine val_ret (a := ⟨kind, is, neg, dig, exp, str, none, 0, 0, none, 0, 0⟩) hr h8 hp ?_
  exact ⟨_, _, rfl, IsV.bare _ _ kind is neg dig exp str none none 0 0, gb_new g G8 (Nat.le_refl _), hv.kept G8 (by omega)⟩
/-- The result's block, made first. -/
theorem res_new (w : World) (P : Nat) (s : ByteArray) (k : Nat) (V : Value) (b e : Nat) (h : Psr w P s k V b e) :
    ∃ w1, w.alloc (.cells #[.int .i64 0, .bool false, .bool false, .string ⟨#[]⟩, .int .i64 0, .string ⟨#[]⟩, .slice none 0 0, .slice none 0 0] 29) = w1 ∧ Hid (Psr w1 P s k V b e) ∧ Hid (w.grownBy w1 (some P)) ∧
      Hid (w1.heap[w.heap.size]? = some (.cells Raw.zero.arr 29 (0, 0))) ∧ Hid (Below w.heap.size w w1) ∧ Hid (w1.heap.size = w.heap.size + 1) :=
  ⟨_, rfl, h.kept (World.grownBy_alloc _ _ none) (by simp), World.grownBy_alloc _ _ _, heap_alloc_new _ _, (Below.refl _ _).alloc (Nat.le_refl _) _, by simp [Hid]⟩
theorem res_kept {w w1 w2 : World} {P : Nat} {a : Raw} (h : w1.heap[w.heap.size]? = some (.cells a.arr 29 (0, 0))) (g : w1.grownBy w2 (some P)) (hP : P < w.heap.size) :
    w2.heap[w.heap.size]? = some (.cells a.arr 29 (0, 0)) := by
  rw [g.block _ (heap_lt h) (by simp; omega)]; exact h

theorem text_any (P : Nat) (s : ByteArray) (k : Nat) (V : Value) (dp : Int) (w : World) (hs : s.size ≤ 1099511627776) (hk : k ≤ s.size) (h : Psr w P s k V 0 0) (T : Utf.Sizes w) :
    Calls Tryd.prog 38 #[.pointer (some ⟨P, 0, none⟩), .int .i64 dp] w (VPost P s V (text s.data.toList k) w) := by
  have HP : Hid (P < w.heap.size) := h.lt
  obtain ⟨w1, hw1, P1, G1, Z1, B1, _⟩ := res_new w P s k V 0 0 h
  have T1 : Hid (Utf.Sizes w1) := T.stays B1.out
  clear T h
  go_enter Tryd.func38, Tryd.ntmps38
  go_wp2_with fail
  refine (quoted_any P s k V w1 hs hk P1.out T1.out).mono ?_
  rintro x w2 ⟨d, rfl, g2, h2⟩
  have G2 := Hid.out (p := Hid _) (G1.out.trans g2)
  have Z2 := res_kept Z1.out g2 HP.out
  obtain ⟨⟨z0, z1, z2, z3, z4, z5, z6, z7⟩, y0, y1, y2, y3, y4, y5, y6, y7⟩ := val_cells Z2
  have H2 := Hid.out (p := Hid _) h2
  have ZZ := Hid.out (p := Hid _) Z2
  clear g2 h2 Z2 hw1
  go_wp2_with fail
  refine bare_fin rfl ZZ.out rfl G2.out HP.out 4 false false ⟨#[]⟩ 0 d _ ?_
  have h2 := H2.out
  unfold text
  cases hq : quoted s.data.toList k with
  | error y => rw [hq] at h2; exact h2.2
  | ok r =>
    obtain ⟨d', q⟩ := r
    rw [hq] at h2
    exact ⟨by rw [h2.1], h2.2⟩
theorem yes_any (P : Nat) (s : ByteArray) (k : Nat) (V : Value) (dp : Int) (w : World) (hs : s.size ≤ 1099511627776) (hk : k ≤ s.size) (h : Psr w P s k V 0 0) :
    Calls Tryd.prog 42 #[.pointer (some ⟨P, 0, none⟩), .int .i64 dp] w (VPost P s V (wordV s.data.toList [116, 114, 117, 101] (plain 2 true) k) w) := by
  have HP : Hid (P < w.heap.size) := h.lt
  obtain ⟨w1, hw1, P1, G1, Z1, B1, _⟩ := res_new w P s k V 0 0 h
  clear h
  go_enter Tryd.func42, Tryd.ntmps42
  go_wp2_with fail
  refine (word_any P s k V ⟨#[116, 114, 117, 101]⟩ w1 hs hk (by decide) P1.out).mono ?_
  rintro x w2 ⟨rfl, g2, h2⟩
  have G2 := Hid.out (p := Hid _) (G1.out.trans g2)
  have Z2 := res_kept Z1.out g2 HP.out
  obtain ⟨⟨z0, z1, z2, z3, z4, z5, z6, z7⟩, y0, y1, y2, y3, y4, y5, y6, y7⟩ := val_cells Z2
  have H2 : Hid (WordAt P s V w2 (word s.data.toList [116, 114, 117, 101] k)) := h2
  have ZZ := Hid.out (p := Hid _) Z2
  clear g2 h2 Z2 hw1
  go_wp2_with fail
  refine bare_fin rfl ZZ.out rfl G2.out HP.out 2 true false ⟨#[]⟩ 0 ⟨#[]⟩ _ ?_
  have h2 := H2.out
  unfold wordV
  cases hq : word s.data.toList [116, 114, 117, 101] k with
  | error y => rw [hq] at h2; exact h2
  | ok q => rw [hq] at h2; exact ⟨rfl, h2⟩
theorem no_any (P : Nat) (s : ByteArray) (k : Nat) (V : Value) (dp : Int) (w : World) (hs : s.size ≤ 1099511627776) (hk : k ≤ s.size) (h : Psr w P s k V 0 0) :
    Calls Tryd.prog 43 #[.pointer (some ⟨P, 0, none⟩), .int .i64 dp] w (VPost P s V (wordV s.data.toList [102, 97, 108, 115, 101] (plain 2 false) k) w) := by
  have HP : Hid (P < w.heap.size) := h.lt
  obtain ⟨w1, hw1, P1, G1, Z1, B1, _⟩ := res_new w P s k V 0 0 h
  clear h
  go_enter Tryd.func43, Tryd.ntmps43
  go_wp2_with fail
  refine (word_any P s k V ⟨#[102, 97, 108, 115, 101]⟩ w1 hs hk (by decide) P1.out).mono ?_
  rintro x w2 ⟨rfl, g2, h2⟩
  have G2 := Hid.out (p := Hid _) (G1.out.trans g2)
  have Z2 := res_kept Z1.out g2 HP.out
  obtain ⟨⟨z0, z1, z2, z3, z4, z5, z6, z7⟩, y0, y1, y2, y3, y4, y5, y6, y7⟩ := val_cells Z2
  have H2 : Hid (WordAt P s V w2 (word s.data.toList [102, 97, 108, 115, 101] k)) := h2
  have ZZ := Hid.out (p := Hid _) Z2
  clear g2 h2 Z2 hw1
  go_wp2_with fail
  refine bare_fin rfl ZZ.out rfl G2.out HP.out 2 false false ⟨#[]⟩ 0 ⟨#[]⟩ _ ?_
  have h2 := H2.out
  unfold wordV
  cases hq : word s.data.toList [102, 97, 108, 115, 101] k with
  | error y => rw [hq] at h2; exact h2
  | ok q => rw [hq] at h2; exact ⟨rfl, h2⟩
theorem null_any (P : Nat) (s : ByteArray) (k : Nat) (V : Value) (dp : Int) (w : World) (hs : s.size ≤ 1099511627776) (hk : k ≤ s.size) (h : Psr w P s k V 0 0) :
    Calls Tryd.prog 44 #[.pointer (some ⟨P, 0, none⟩), .int .i64 dp] w (VPost P s V (wordV s.data.toList [110, 117, 108, 108] (plain 1 false) k) w) := by
  have HP : Hid (P < w.heap.size) := h.lt
  obtain ⟨w1, hw1, P1, G1, Z1, B1, _⟩ := res_new w P s k V 0 0 h
  clear h
  go_enter Tryd.func44, Tryd.ntmps44
  go_wp2_with fail
  refine (word_any P s k V ⟨#[110, 117, 108, 108]⟩ w1 hs hk (by decide) P1.out).mono ?_
  rintro x w2 ⟨rfl, g2, h2⟩
  have G2 := Hid.out (p := Hid _) (G1.out.trans g2)
  have Z2 := res_kept Z1.out g2 HP.out
  obtain ⟨⟨z0, z1, z2, z3, z4, z5, z6, z7⟩, y0, y1, y2, y3, y4, y5, y6, y7⟩ := val_cells Z2
  have H2 : Hid (WordAt P s V w2 (word s.data.toList [110, 117, 108, 108] k)) := h2
  have ZZ := Hid.out (p := Hid _) Z2
  clear g2 h2 Z2 hw1
  go_wp2_with fail
  refine bare_fin rfl ZZ.out rfl G2.out HP.out 1 false false ⟨#[]⟩ 0 ⟨#[]⟩ _ ?_
  have h2 := H2.out
  unfold wordV
  cases hq : word s.data.toList [110, 117, 108, 108] k with
  | error y => rw [hq] at h2; exact h2
  | ok q => rw [hq] at h2; exact ⟨rfl, h2⟩
end Go.Proofs.YtbfkgddhpabioaaDoor.Jdec
/- jdec's parser: numbers. -/
namespace Go.Proofs.YtbfkgddhpabioaaDoor.Jdec
open Go.RowKit Go.Proofs.YtbfkgddhpabioaaDoor.Strs
set_option linter.unusedVariables false
set_option linter.unusedSimpArgs false
set_option maxRecDepth 100000

theorem number_none (P : Nat) (s : ByteArray) (k : Nat) (V : Value) (dp : Int) (w : World) (hs : s.size ≤ 2147483648) (hk : k < s.size) (h : Psr w P s k V 0 0) (T : Num.Steps w) (h0 : Num.scan (s.data.toList.drop k) = 0) :
    Calls Tryd.prog 39 #[.pointer (some ⟨P, 0, none⟩), .int .i64 dp] w (VPost P s V (number s.data.toList k) w) := by
  have HP : Hid (P < w.heap.size) := h.lt
  obtain ⟨w1, hw1, P1, G1, Z1, B1, _⟩ := res_new w P s k V 0 0 h
  have T1 : Hid (Num.Steps w1) := T.stays B1.out
  clear T h
  have hl : s.data.toList.length = s.size := by simp
  obtain ⟨D, hD⟩ : ∃ D, s.extract k s.size = D := ⟨_, rfl⟩
  have hDl : D.data.toList = s.data.toList.drop k := by rw [← hD]; simp [ByteArray.data_extract]; rw [List.take_of_length_le (by simp)]
  have hDs : D.size ≤ s.size := by rw [← hD, ByteArray.size_extract]; omega
  have hcall : ∀ n, Calls Tryd.prog 58 #[.string D] (w1.drewN n) fun e w'' => e = .returned (.int .i64 (0 : Nat)) ∧ ∃ m, w'' = w1.drewN m := fun n =>
    Calls.quiet_of ((Num.scan_any D (w1.drewN n) (by omega) (T1.out.stays (below_drewN _ _ _))).mono fun e w' h => ⟨by rw [h.1, hDl, h0], h.2⟩)
  have HN : Hid (number s.data.toList k = .error (k, if k + 1 = s.size then 2 else 3)) := by rw [Hid, number, if_pos h0, hl]
  have c0 := P1.out.c0
  have c1 := P1.out.c1
  clear hDl h0
  by_cases h1 : k + 1 = s.size
  · have q1 : ((k : Int) + 1 == (s.size : Int)) = true := by rw [beq_iff_eq]; omega
    rw [if_pos h1] at HN
    clear h1 hl
    go_enter Tryd.func39, Tryd.ntmps39
    go_wp2_with fail
    go_quiet ((go_at_call 58; exact hcall _))
    have P2 : Hid (Psr (w1.drewN nq) P s k V 0 0) := P1.out.kept (gb_drew _ _ none) (by simp)
    have G2 : Hid (w1.grownBy (w1.drewN nq) (some P)) := gb_drew _ _ _
    clear c0 c1 hcall hw1
    generalize w1.drewN nq = w2 at *
    have c0 := P2.out.c0
    have c1 := P2.out.c1
    go_wp2_with fail
    go_quiet (fail)
    have P3 : Hid (Psr (w2.drewN nq) P s k V 0 0) := P2.out.kept (gb_drew _ _ none) (by simp)
    have G3 : Hid (w1.grownBy (w2.drewN nq) (some P)) := G2.out.trans (gb_drew _ _ _)
    clear c0 c1
    generalize w2.drewN nq = w3 at *
    have c1 := P3.out.c1
    go_wp2_with fail
    refine (fail_any P s k V 0 0 k 2 w3 P3.out).mono ?_
    rintro x w4 ⟨rfl, h4, g4⟩
    have H4 : Hid (Psr w4 P s k V k 2) := h4
    have G4 := Hid.out (p := Hid _) (G3.out.trans g4)
    have Z4 := res_kept Z1.out G4.out HP.out
    have ZZ := Hid.out (p := Hid _) Z4
    obtain ⟨⟨z0, z1, z2, z3, z4, z5, z6, z7⟩, y0, y1, y2, y3, y4, y5, y6, y7⟩ := val_cells Z4
    clear g4 h4 Z4
    go_wp2_with fail
    refine bare_fin rfl ZZ.out rfl (G1.out.trans G4.out) HP.out 0 false false ⟨#[]⟩ 0 ⟨#[]⟩ _ ?_
    rw [HN.out]
    exact ⟨k, by omega, H4.out⟩
  · have q1 : ((k : Int) + 1 == (s.size : Int)) = false := by rw [beq_eq_false_iff_ne]; omega
    rw [if_neg h1] at HN
    clear h1 hl
    go_enter Tryd.func39, Tryd.ntmps39
    go_wp2_with fail
    go_quiet ((go_at_call 58; exact hcall _))
    have P2 : Hid (Psr (w1.drewN nq) P s k V 0 0) := P1.out.kept (gb_drew _ _ none) (by simp)
    have G2 : Hid (w1.grownBy (w1.drewN nq) (some P)) := gb_drew _ _ _
    clear c0 c1 hcall hw1
    generalize w1.drewN nq = w2 at *
    have c0 := P2.out.c0
    have c1 := P2.out.c1
    go_wp2_with fail
    go_quiet (fail)
    have P3 : Hid (Psr (w2.drewN nq) P s k V 0 0) := P2.out.kept (gb_drew _ _ none) (by simp)
    have G3 : Hid (w1.grownBy (w2.drewN nq) (some P)) := G2.out.trans (gb_drew _ _ _)
    clear c0 c1
    generalize w2.drewN nq = w3 at *
    have c1 := P3.out.c1
    go_wp2_with fail
    refine (fail_any P s k V 0 0 k 3 w3 P3.out).mono ?_
    rintro x w4 ⟨rfl, h4, g4⟩
    have H4 : Hid (Psr w4 P s k V k 3) := h4
    have G4 := Hid.out (p := Hid _) (G3.out.trans g4)
    have Z4 := res_kept Z1.out G4.out HP.out
    have ZZ := Hid.out (p := Hid _) Z4
    obtain ⟨⟨z0, z1, z2, z3, z4, z5, z6, z7⟩, y0, y1, y2, y3, y4, y5, y6, y7⟩ := val_cells Z4
    clear g4 h4 Z4
    go_wp2_with fail
    refine bare_fin rfl ZZ.out rfl (G1.out.trans G4.out) HP.out 0 false false ⟨#[]⟩ 0 ⟨#[]⟩ _ ?_
    rw [HN.out]
    exact ⟨k, by omega, H4.out⟩
end Go.Proofs.YtbfkgddhpabioaaDoor.Jdec
/- jdec's parser: numbers that are there. -/
namespace Go.Proofs.YtbfkgddhpabioaaDoor.Jdec
open Go.RowKit Go.Proofs.YtbfkgddhpabioaaDoor.Strs
set_option linter.unusedVariables false
set_option linter.unusedSimpArgs false
set_option maxRecDepth 100000

theorem num_new {w w' : World} (hb : Below (w.drew.alloc (.cells #[.bool false, .string ⟨#[]⟩, .int .i64 0] 25)).heap.size (w.drew.alloc (.cells #[.bool false, .string ⟨#[]⟩, .int .i64 0] 25)) w') :
    w'.heap[w.heap.size]? = some (.cells #[.bool false, .string ⟨#[]⟩, .int .i64 0] 25 (0, 0)) :=
  (hb.block _ (by simp)).trans (heap_alloc_new w.drew _)
set_option maxHeartbeats 2000000 in
theorem number_some (P : Nat) (s : ByteArray) (k : Nat) (V : Value) (dp : Int) (w : World) (hs : s.size ≤ 2147483648) (hk : k < s.size) (h : Psr w P s k V 0 0) (T : Num.Steps w) (h0 : Num.scan (s.data.toList.drop k) ≠ 0) :
    Calls Tryd.prog 39 #[.pointer (some ⟨P, 0, none⟩), .int .i64 dp] w (VPost P s V (number s.data.toList k) w) := by
  have HP : Hid (P < w.heap.size) := h.lt
  obtain ⟨w1, hw1, P1, G1, Z1, B1, _⟩ := res_new w P s k V 0 0 h
  have T1 : Hid (Num.Steps w1) := T.stays B1.out
  clear T h
  have hl : s.data.toList.length = s.size := by simp
  obtain ⟨D, hD⟩ : ∃ D, s.extract k s.size = D := ⟨_, rfl⟩
  have hDl : D.data.toList = s.data.toList.drop k := by rw [← hD]; simp [ByteArray.data_extract]; rw [List.take_of_length_le (by simp)]
  have hDs : D.size ≤ s.size := by rw [← hD, ByteArray.size_extract]; omega
  obtain ⟨n, hn⟩ : ∃ n, Num.scan (s.data.toList.drop k) = n := ⟨_, rfl⟩
  have hsl := Num.scan_le (s.data.toList.drop k)
  rw [List.length_drop, hl, hn] at hsl
  have hcall : ∀ m, Calls Tryd.prog 58 #[.string D] (w1.drewN m) fun e w'' => e = .returned (.int .i64 n) ∧ ∃ m, w'' = w1.drewN m := fun m =>
    Calls.quiet_of ((Num.scan_any D (w1.drewN m) (by omega) (T1.out.stays (below_drewN _ _ _))).mono fun e w' h => ⟨by rw [h.1, hDl, hn], h.2⟩)
  have HN : Hid (number s.data.toList k = match Num.parse ((s.data.toList.drop k).take n) with
    | .error e => .error (k, e)
    | .ok (n', d, x) => .ok (.mk 3 false n' ⟨d.toArray⟩ x ⟨#[]⟩ [] [], k + n)) := by rw [Hid, number, if_neg h0, hn]; rfl
  obtain ⟨q, hq⟩ : ∃ q, k + n = q := ⟨_, rfl⟩
  obtain ⟨D2, hD2⟩ : ∃ D2, s.extract k q = D2 := ⟨_, rfl⟩
  have hD2l : D2.data.toList = (s.data.toList.drop k).take n := by
    rw [← hD2, ← hq]; simp [ByteArray.data_extract]
  have hD2s : D2.size ≤ s.size := by rw [← hD2, ByteArray.size_extract]; omega
  have qn : ((n : Int) == 0) = false := by rw [beq_eq_false_iff_ne]; omega
  have hqs : q ≤ s.size := by omega
  have hkq : k ≤ q := by omega
  have hqq : (k : Int) + (n : Int) = (q : Int) := by omega
  have hqw : IntKind.i64.wrap (q : Int) = (q : Int) := IntWalk.i64_in _ (by omega)
  have c0 := P1.out.c0
  have c1 := P1.out.c1
  have HQ := Hid.out (p := Hid _) hq
  have HD2 := Hid.out (p := Hid _) hD2l
  clear hDl h0 hn hq hD2l
  obtain ⟨nb, dd, xx, e0, hv, hcase⟩ : ∃ (nb : Bool) (dd : ByteArray) (xx : Int) (e0 : Nat), Num.parseV D2.data.toList = .tuple #[.agg #[.bool nb, .string dd, .int .i64 xx], .int .i64 e0] ∧
      ((e0 = 0 ∧ Hid (number s.data.toList k = .ok (.mk 3 false nb dd xx ⟨#[]⟩ [] [], q))) ∨ (e0 ≠ 0 ∧ Hid (number s.data.toList k = .error (k, e0)))) := by
    unfold Num.parseV
    rw [HD2.out, HN.out]
    cases hp : Num.parse ((s.data.toList.drop k).take n) with
    | error e => exact ⟨_, _, _, e, rfl, .inr ⟨by have := parse_err hp; omega, rfl⟩⟩
    | ok r =>
      obtain ⟨a, b, c⟩ := r
      exact ⟨_, _, _, 0, rfl, .inl ⟨rfl, by rw [Hid, ← HQ.out]⟩⟩
  go_enter Tryd.func39, Tryd.ntmps39
  go_wp2_with fail
  go_quiet ((go_at_call 58; exact hcall _))
  have P2 : Hid (Psr (w1.drewN nq) P s k V 0 0) := P1.out.kept (gb_drew _ _ none) (by simp)
  have G2 : Hid (w1.grownBy (w1.drewN nq) (some P)) := gb_drew _ _ _
  have T2 : Hid (Num.Steps (w1.drewN nq)) := T1.out.stays (below_drewN _ _ _)
  clear c0 c1 hcall hw1
  generalize w1.drewN nq = w2 at *
  have c0 := P2.out.c0
  have c1 := P2.out.c1
  have e0' := World.new_ne w2 _ c0
  have e1' := World.new_ne w2 _ c1
  have hA := Num.parse_any D2 w2.drew (by omega) (T2.out.stays (below_drewN _ w2 1))
  have hB := Num.parse_any D2 (w2.drew.alloc (.cells #[.bool false, .string ⟨#[]⟩, .int .i64 0] 25)) (by omega) (T2.out.stays ((below_drewN _ w2 1).alloc (Nat.le_refl _) _))
  rw [hv] at hA hB
  have HA := Hid.out (p := Hid _) hA
  have HB := Hid.out (p := Hid _) hB
  clear hA hB hv
  go_wp2_with fail
  go_region_held3 (fun w' => w'.cell? ⟨P, 0, none⟩ = some (.string s) ∧ w'.cell? ⟨P, 1, none⟩ = some (.int .i64 k)) (go_keep)
      ((go_at_call 59; first
        | (refine (Calls.mono HA.out ?_); rintro x w3 ⟨rfl, hb3⟩; have P3 : Hid (Psr w3 P s k V 0 0) := (P2.out.kept (gb_drew w2 1 none) (by simp)).kept (gb_below hb3 none) (by simp); have G3 : Hid (w1.grownBy w3 (some P)) := (G2.out.trans (gb_drew w2 1 _)).trans (gb_below hb3 _); clear hb3 c0 c1; have c0 := P3.out.c0; have c1 := P3.out.c1)
        | (refine (Calls.mono HB.out ?_); rintro x w3 ⟨rfl, hb3⟩; have P3 : Hid (Psr w3 P s k V 0 0) := ((P2.out.kept (gb_drew w2 1 none) (by simp)).kept (World.grownBy_alloc _ _ none) (by simp)).kept (gb_below hb3 none) (by simp); have G3 : Hid (w1.grownBy w3 (some P)) := ((G2.out.trans (gb_drew w2 1 _)).trans (World.grownBy_alloc _ _ _)).trans (gb_below hb3 _); have N3 := num_new hb3; have m0 := cell_of N3 0; have m1 := cell_of N3 1; have m2 := cell_of N3 2; have o0 := frozen_of N3 0; have o1 := frozen_of N3 1; have o2 := frozen_of N3 2; have M3 := Hid.out (p := Hid _) N3; clear hb3 c0 c1 N3; have c0 := P3.out.c0; have c1 := P3.out.c1)))
  · obtain ⟨w4, hw4⟩ : ∃ w4, w3.alloc (.cells #[.bool nb, .string dd, .int .i64 xx] 25) = w4 := ⟨_, rfl⟩
    have P4 : Hid (Psr w4 P s k V 0 0) := by rw [← hw4]; exact P3.out.kept (World.grownBy_alloc _ _ none) (by simp)
    have G4 : Hid (w1.grownBy w4 (some P)) := by rw [← hw4]; exact G3.out.trans (World.grownBy_alloc _ _ _)
    have N4 : Hid (w4.heap[w3.heap.size]? = some (.cells #[.bool nb, .string dd, .int .i64 xx] 25 (0, 0))) := by rw [← hw4]; exact heap_alloc_new _ _
    have hNP : w3.heap.size ≠ P := by have := P3.out.lt; omega
    rw [hw4]
    obtain ⟨NB, hNB⟩ : ∃ NB, w3.heap.size = NB := ⟨_, rfl⟩
    rename_i hHeld
    clear hHeld
    rw [hNB] at N4 hNP ⊢
    clear hw4 hNB c0 c1 HA HB e0' e1' G3 P3 hl qn hsl
    have z := val_cells (res_kept Z1.out G4.out HP.out)
    obtain ⟨⟨z0, z1, z2, z3, z4, z5, z6, z7⟩, y0, y1, y2, y3, y4, y5, y6, y7⟩ := z
    have ZZ := Hid.out (p := Hid _) (res_kept Z1.out G4.out HP.out)
    have c0 := P4.out.c0
    have c1 := P4.out.c1
    have f1 := P4.out.f 1
    have n0 := cell_of N4.out 0
    have n1 := cell_of N4.out 1
    have n2 := cell_of N4.out 2
    have hPR : Hid (P ≠ w.heap.size) := by have := HP.out; rw [Hid]; omega
    have hRP : w.heap.size ≠ P := by have := HP.out; omega
    rcases hcase with ⟨he, HF⟩ | ⟨he, HF⟩
    · subst he
      go_wp2_with fail
      refine bare_fin (w2 := w4.setCell ⟨P, 1, none⟩ (.int .i64 q)) rfl ((Below.heap_setCell _ _ _ _ (fun e => hPR.out e.symm)).trans ZZ.out) rfl ((G1.out.trans G4.out).trans (gb_set _ _ _ _)) HP.out 3 false nb dd xx ⟨#[]⟩ _ ?_
      rw [HF.out]
      exact ⟨rfl, P4.out.set1 q⟩
    · have qe : ((e0 : Int) != 0) = true := by rw [bne_iff_ne]; omega
      clear he
      go_wp2_with fail
      refine (fail_any P s k V 0 0 k e0 w4 P4.out).mono ?_
      rintro x w5 ⟨rfl, h5, g5⟩
      have H5 : Hid (Psr w5 P s k V k e0) := h5
      have G5 := Hid.out (p := Hid _) (G4.out.trans g5)
      clear z0 z1 z2 z3 z4 z5 z6 z7 y0 y1 y2 y3 y4 y5 y6 y7 c0 c1 f1 n0 n1 n2 ZZ
      have ZZ := Hid.out (p := Hid _) (res_kept Z1.out G5.out HP.out)
      obtain ⟨⟨z0, z1, z2, z3, z4, z5, z6, z7⟩, y0, y1, y2, y3, y4, y5, y6, y7⟩ := val_cells ZZ.out
      clear g5 h5
      go_wp2_with fail
      refine bare_fin rfl ZZ.out rfl (G1.out.trans G5.out) HP.out 0 false false ⟨#[]⟩ 0 ⟨#[]⟩ _ ?_
      rw [HF.out]
      exact ⟨k, by omega, H5.out⟩
  · obtain ⟨w4, hw4⟩ : ∃ w4, ((w3.setCell ⟨w2.heap.size, 0, none⟩ (.bool nb)).setCell ⟨w2.heap.size, 1, none⟩ (.string dd)).setCell ⟨w2.heap.size, 2, none⟩ (.int .i64 xx) = w4 := ⟨_, rfl⟩
    have g3 : w3.grownBy w4 (some w2.heap.size) := by rw [← hw4]; exact ((gb_set _ _ _ _).trans (gb_set _ _ _ _)).trans (gb_set _ _ _ _)
    have hNP : w2.heap.size ≠ P := e0'
    have P4 : Hid (Psr w4 P s k V 0 0) := P3.out.kept g3 (by simpa using hNP.symm)
    have hws : w.heap.size ≤ w2.heap.size := by have := (G1.out.trans G2.out).size; exact this
    have G4 : Hid (w1.grownBy w4 (some P)) := by
      have h1 : w1.heap.size ≤ w2.heap.size := G2.out.size
      exact gb_new G3.out g3 h1
    have N4 : Hid (w4.heap[w2.heap.size]? = some (.cells #[.bool nb, .string dd, .int .i64 xx] 25 (0, 0))) := by
      rw [← hw4]; exact Num.set3 M3.out _ _ _
    rw [hw4]
    obtain ⟨NB, hNB⟩ : ∃ NB, w2.heap.size = NB := ⟨_, rfl⟩
    rename_i hHeld
    clear hHeld
    rw [hNB] at N4 hNP ⊢
    clear hw4 hNB c0 c1 HA HB e0' e1' G3 P3 hl qn hsl m0 m1 m2 o0 o1 o2 M3 g3 hws
    have z := val_cells (res_kept Z1.out G4.out HP.out)
    obtain ⟨⟨z0, z1, z2, z3, z4, z5, z6, z7⟩, y0, y1, y2, y3, y4, y5, y6, y7⟩ := z
    have ZZ := Hid.out (p := Hid _) (res_kept Z1.out G4.out HP.out)
    have c0 := P4.out.c0
    have c1 := P4.out.c1
    have f1 := P4.out.f 1
    have n0 := cell_of N4.out 0
    have n1 := cell_of N4.out 1
    have n2 := cell_of N4.out 2
    have hPR : Hid (P ≠ w.heap.size) := by have := HP.out; rw [Hid]; omega
    have hRP : w.heap.size ≠ P := by have := HP.out; omega
    rcases hcase with ⟨he, HF⟩ | ⟨he, HF⟩
    · subst he
      go_wp2_with fail
      refine bare_fin (w2 := w4.setCell ⟨P, 1, none⟩ (.int .i64 q)) rfl ((Below.heap_setCell _ _ _ _ (fun e => hPR.out e.symm)).trans ZZ.out) rfl ((G1.out.trans G4.out).trans (gb_set _ _ _ _)) HP.out 3 false nb dd xx ⟨#[]⟩ _ ?_
      rw [HF.out]
      exact ⟨rfl, P4.out.set1 q⟩
    · have qe : ((e0 : Int) != 0) = true := by rw [bne_iff_ne]; omega
      clear he
      go_wp2_with fail
      refine (fail_any P s k V 0 0 k e0 w4 P4.out).mono ?_
      rintro x w5 ⟨rfl, h5, g5⟩
      have H5 : Hid (Psr w5 P s k V k e0) := h5
      have G5 := Hid.out (p := Hid _) (G4.out.trans g5)
      clear z0 z1 z2 z3 z4 z5 z6 z7 y0 y1 y2 y3 y4 y5 y6 y7 c0 c1 f1 n0 n1 n2 ZZ
      have ZZ := Hid.out (p := Hid _) (res_kept Z1.out G5.out HP.out)
      obtain ⟨⟨z0, z1, z2, z3, z4, z5, z6, z7⟩, y0, y1, y2, y3, y4, y5, y6, y7⟩ := val_cells ZZ.out
      clear g5 h5
      go_wp2_with fail
      refine bare_fin rfl ZZ.out rfl (G1.out.trans G5.out) HP.out 0 false false ⟨#[]⟩ 0 ⟨#[]⟩ _ ?_
      rw [HF.out]
      exact ⟨k, by omega, H5.out⟩
theorem number_any (P : Nat) (s : ByteArray) (k : Nat) (V : Value) (dp : Int) (w : World) (hs : s.size ≤ 2147483648) (hk : k < s.size) (h : Psr w P s k V 0 0) (T : Num.Steps w) :
    Calls Tryd.prog 39 #[.pointer (some ⟨P, 0, none⟩), .int .i64 dp] w (VPost P s V (number s.data.toList k) w) := by
  by_cases h0 : Num.scan (s.data.toList.drop k) = 0
  · exact number_none P s k V dp w hs hk h T h0
  · exact number_some P s k V dp w hs hk h T h0
end Go.Proofs.YtbfkgddhpabioaaDoor.Jdec
