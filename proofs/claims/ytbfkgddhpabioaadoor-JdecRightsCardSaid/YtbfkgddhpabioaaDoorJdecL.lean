/- jdec's parser: lists. -/
import Derived.Test.YtbfkgddhpabioaaDoorJdecA
import Derived.Deep.AppendLies
import Derived.Deep.RegionLaw
namespace Go.Proofs.YtbfkgddhpabioaaDoor.Jdec
open Go.RowKit Go.Proofs.YtbfkgddhpabioaaDoor.Strs
set_option linter.unusedVariables false
set_option linter.unusedSimpArgs false
set_option maxRecDepth 100000

theorem infoKid : (Tryd.prog.info? 29).map (fun i => (i.zero, i.size, i.bytes)) = some (some (.agg #[.int .i64 0, .bool false, .bool false, .string ⟨#[]⟩, .int .i64 0, .string ⟨#[]⟩, .slice none 0 0, .slice none 0 0]), 8, 112) := by kernel_rfl
/-- The value that lies so deep is read so. -/
def ValC (P : Nat) (s : ByteArray) (V : Value) (dp : Int) (val : Val) : Prop :=
  ∀ (k : Nat) (w : World), k ≤ s.size → Psr w P s k V 0 0 → Env w P V → Calls Tryd.prog 32 #[.pointer (some ⟨P, 0, none⟩), .int .i64 dp] w (VPost P s V (val k) w)
/-- The list's own state. -/
def LSt (P : Nat) (s : ByteArray) (V : Value) (w : World) (val : Val) (acc : List JV) (RES : Except Er (List JV × Nat)) : Prop :=
  (∃ k n, k ≤ s.size ∧ acc.length ≤ k ∧ Psr w P s k V 0 0 ∧ s.size - k < n ∧ RES = items s.data.toList val n k acc) ∨ (∃ q y, q ≤ s.size ∧ Psr w P s q V y.1 y.2 ∧ y.2 ≠ 0 ∧ RES = .error y)
def lmeas (s : ByteArray) (P : Nat) (w : World) : Nat := if intOf ((w.cell? ⟨P, 4, none⟩).getD undef) = 0 then s.size + 2 - (intOf ((w.cell? ⟨P, 1, none⟩).getD undef)).toNat else 0

theorem lmeas_run {P : Nat} {s : ByteArray} {V : Value} {w : World} {k : Nat} (h : Psr w P s k V 0 0) : lmeas s P w = s.size + 2 - k := by
  unfold lmeas; rw [h.c4, h.c1]; simp [intOf]
theorem lmeas_bad {P : Nat} {s : ByteArray} {V : Value} {w : World} {k b e : Nat} (h : Psr w P s k V b e) (he : e ≠ 0) : lmeas s P w = 0 := by
  unfold lmeas; rw [h.c4]; simp [intOf, he]
/-- Where a value ends. -/
def vpos (r : Except Er (JV × Nat)) : Except Er Nat :=
  match r with
  | .ok x => .ok x.2
  | .error y => .error y
theorem vpos_at {P : Nat} {s : ByteArray} {V : Value} {w' : World} {t : JV} {val : Val} {k : Nat} (hvo : ValOk s.data.toList val) (hk : k ≤ s.size) (h : VAt P s V w' t (val k)) : SAt P s V w' (vpos (val k)) := by
  have hl : s.data.toList.length = s.size := by simp
  have f := hvo k (by omega)
  cases hv : val k with
  | ok x =>
    obtain ⟨t', q⟩ := x
    rw [hv] at h
    have := (f.ok _ hv).2
    rw [hl] at this
    exact ⟨this, h.2⟩
  | error y =>
    rw [hv] at h
    exact ⟨(f.err _ hv).2, h⟩
/-- A round of the list. -/
theorem LSt.next {P : Nat} {s : ByteArray} {V : Value} {val : Val} {kk n : Nat} {acc : List JV} {RES : Except Er (List JV × Nat)} {w' w'' : World} {t : JV} {g : Bool} (hvo : ValOk s.data.toList val) (hkk : kk ≤ s.size) (hacc : acc.length ≤ kk) (hn : s.size - kk < n)
    (hres : RES = items s.data.toList val n kk acc) (hat : VAt P s V w' t (val kk)) (he : EndsAt P s V g w'' (onE (vpos (val kk)) (ends s.data.toList 93))) :
    (g = true → ∃ q, RES = .ok (acc ++ [t], q) ∧ Psr w'' P s q V 0 0) ∧ (g = false → LSt P s V w'' val (acc ++ [t]) RES ∧ lmeas s P w'' < s.size + 2 - kk) := by
  have hl : s.data.toList.length = s.size := by simp
  have f := hvo kk (by omega)
  obtain ⟨n, rfl⟩ : ∃ m, n = m + 1 := ⟨n - 1, by omega⟩
  rw [items] at hres
  cases hv : val kk with
  | error y =>
    rw [hv] at hres he
    obtain ⟨rfl, q, hq, hp⟩ := he
    have hy := (f.err _ hv).2
    exact ⟨fun h => (by cases h), fun _ => ⟨.inr ⟨q, y, hq, hp, hy, hres⟩, by rw [lmeas_bad hp hy]; omega⟩⟩
  | ok x =>
    obtain ⟨t', q⟩ := x
    rw [hv] at hres he hat
    obtain ⟨rfl, _⟩ := hat
    have f1 := f.ok _ hv
    simp only [hl] at f1
    have f2 := ends_fits s.data.toList 93 q (by omega)
    simp only at hres
    have he : EndsAt P s V g w'' (ends s.data.toList 93 q) := he
    cases hx : ends s.data.toList 93 q with
    | error y =>
      rw [hx] at hres he
      obtain ⟨rfl, q', hq, hp⟩ := he
      have hy := (f2.err _ hx).2
      exact ⟨fun h => (by cases h), fun _ => ⟨.inr ⟨q', y, hq, hp, hy, hres⟩, by rw [lmeas_bad hp hy]; omega⟩⟩
    | ok z =>
      obtain ⟨b, r⟩ := z
      rw [hx] at hres he
      obtain ⟨rfl, hp⟩ := he
      have f3 := f2.ok _ hx
      simp only [hl] at f3
      cases g
      · refine ⟨fun h => (by cases h), fun _ => ⟨.inl ⟨r, n, by omega, ?_, hp, by omega, hres⟩, by rw [lmeas_run hp]; omega⟩⟩
        rw [List.length_append, List.length_singleton]; omega
      · exact ⟨fun _ => ⟨r, hres, hp⟩, fun h => (by cases h)⟩
def listR (r : Except Er (List JV × Nat)) : Except Er (JV × Nat) :=
  match r with
  | .error x => .error x
  | .ok (vs, r) => .ok (listOf vs, r)
theorem list_eq (l : List UInt8) (val : Val) (p : Nat) : list l val p = if l[skip l (p + 1)]? = some 93 then .ok (listOf [], skip l (p + 1) + 1) else listR (items l val (l.length + 1) (skip l (p + 1)) []) := rfl
/-- A list's words. -/
def lraw (va : Option Addr) (vn vc : Nat) : Raw := ⟨5, false, false, ⟨#[]⟩, 0, ⟨#[]⟩, none, 0, 0, va, vn, vc⟩
theorem list_is {w : World} {B : Nat} {va : Option Addr} {vc : Nat} {ts : List JV} (h : Kids w B (.slice va ts.length vc) ts) : IsV w (fun j => B ≤ j) (lraw va ts.length vc) (listOf ts) := by
  obtain ⟨_, f, h1, h2⟩ := h.isV
  exact .mk (lraw va ts.length vc) [] ts f rfl rfl (.inl rfl) h1 h2
/-- A value with its parts is told. -/
theorem full_fin {F : Func} {p : Tmp} (hr : F.results = #[.cell p 29]) {tm : Array Value} {a : Raw} {P : Nat} {s : ByteArray} {V : Value} {w w2 : World}
    (hb : w2.heap[w.heap.size]? = some (.cells a.arr 29 (0, 0))) (hp : tm.getD p undef = .pointer (some ⟨w.heap.size, 0, none⟩)) (g : w.grownBy w2 (some P)) (hP : P < w.heap.size)
    (c : Raw) (t : JV) (hi : IsV w2 (fun j => w.heap.size + 1 ≤ j) c t) (r : Except Er (JV × Nat)) (hv : VAt P s V w2 t r) :
    bodyPost Tryd.prog F (VPost P s V r w) Exit.ret { tmps := tm, defers := [] }
    ((((((((w2.setCell ⟨w.heap.size, 0, none⟩ (.int .i64 c.kind)).setCell ⟨w.heap.size, 1, none⟩ (.bool c.is)).setCell ⟨w.heap.size, 2, none⟩ (.bool c.neg)).setCell ⟨w.heap.size, 3, none⟩ (.string c.dig)).setCell ⟨w.heap.size, 4, none⟩ (.int .i64 c.exp)).setCell ⟨w.heap.size, 5, none⟩ (.string c.str)).setCell ⟨w.heap.size, 6, none⟩ (.slice c.ka c.kn c.kc)).setCell ⟨w.heap.size, 7, none⟩ (.slice c.va c.vn c.vc)) := by
  have h8 := set8 hb c
  have G8 := gb8 w2 w.heap.size (.int .i64 c.kind) (.bool c.is) (.bool c.neg) (.string c.dig) (.int .i64 c.exp) (.string c.str) (.slice c.ka c.kn c.kc) (.slice c.va c.vn c.vc)
  refine val_ret (a := c) hr h8 hp ?_
  refine ⟨_, _, rfl, hi.turn ⟨G8.size, fun b hA hlt => ⟨G8.block b hlt (fun e => by injection e with e; omega), by show w.heap.size ≤ b; omega⟩⟩, gb_new g G8 (Nat.le_refl _), hv.kept G8 (by omega)⟩
/-- What an append to the row leaves, the row's slice in a block of its own. -/
theorem kid_put {w5 w6 : World} {b : Nat} {va : Option Addr} {vc g cap : Nat} {acc : List JV} {a : Raw} {t : JV} {rs : List Raw} (o : Obj) (k1 : rs.length = acc.length)
    (k2 : w5.ownsRow (b + 1) 29 8 (.slice va acc.length vc) acc.length (rs.flatMap Raw.cells))
    (k3 : ∀ i (h : i < rs.length) (h' : i < acc.length), IsV w5 (fun j => b + 1 ≤ j ∧ some j ≠ (Value.slice va acc.length vc).ownBlock) rs[i] acc[i])
    (hiv : IsV w5 (fun j => b + 1 ≤ j ∧ some j ≠ (Value.slice va acc.length vc).ownBlock) a t)
    (hown : w6.ownsRow (b + 1) 29 8 (.slice (some ⟨g, 0, none⟩) (acc.length + 1) cap) (acc.length + 1) (rs.flatMap Raw.cells ++ a.cells)) (hgrow : (w5.alloc o).grownBy w6 (Value.slice va acc.length vc).ownBlock)
    (hat : (Value.slice va acc.length vc).ownBlock = some g ∨ g = w5.heap.size + 1) : Kids w6 (b + 1) (.slice (some ⟨g, 0, none⟩) (acc ++ [t]).length cap) (acc ++ [t]) := by
  have T : ∀ {A : Nat → Prop}, Turn w5 (w5.alloc o) A A := fun {A} => Turn.grown (World.grownBy_alloc _ _ none) (fun b _ => by simp)
  have := Kids.snoc (w := w5.alloc o) (r := a) (t := t) rs k1 (k2.alloc o) (fun i h h' => (k3 i h h').turn T) (hiv.turn T) hown hgrow (by
    rcases hat with h | h
    · left; rw [h]; rfl
    · right; rw [h]; simp [Value.ownBlock])
  rw [List.length_append]; exact this

/-- Behind the value's call. -/
theorem kid_call {wr w6 : World} {b P k : Nat} {s : ByteArray} {V : Value} {va : Option Addr} {vc : Nat} {r : Raw} {acc : List JV} {a : Raw} {t : JV} {T : TypeId} (hK : Kids wr (b + 1) (.slice va acc.length vc) acc) (hY : wr.heap[b]? = some (.cells r.arr T (0, 0)))
    (hp : Psr wr P s k V 0 0) (hiv : IsV w6 (fun j => wr.drew.heap.size ≤ j) a t) (g : wr.drew.grownBy w6 (some P)) (hP : P < b) :
    ∃ rs : List Raw, Hid (rs.length = acc.length) ∧ Hid (w6.ownsRow (b + 1) 29 8 (.slice va acc.length vc) acc.length (rs.flatMap Raw.cells)) ∧
      Hid ((∀ i (h : i < rs.length) (h' : i < acc.length), IsV w6 (fun j => b + 1 ≤ j ∧ some j ≠ (Value.slice va acc.length vc).ownBlock) rs[i] acc[i]) ∧ IsV w6 (fun j => b + 1 ≤ j ∧ some j ≠ (Value.slice va acc.length vc).ownBlock) a t) := by
  have hb : b < wr.heap.size := heap_lt hY
  have hown : ∀ j, (Value.slice va acc.length vc).ownBlock = some j → j < wr.heap.size := by
    intro j hj
    obtain ⟨rs, h1, h2, h3⟩ := hK
    exact (h2.lt j hj).2
  obtain ⟨rs, h1, h2, h3⟩ := (hK.kept (gb_drew wr 1 none) (by simp)).kept g (by intro k hk; injection hk with hk; omega)
  refine ⟨rs, h1, h2, h3, hiv.turn ⟨Nat.le_refl _, fun j hj hlt => ⟨rfl, ?_, fun e => ?_⟩⟩⟩
  · have hj : wr.heap.size ≤ j := hj
    omega
  · have hj : wr.heap.size ≤ j := hj
    have := hown j e.symm
    omega
theorem call_keeps {wr w6 : World} {b P : Nat} {r : Raw} {T : TypeId} (hY : wr.heap[b]? = some (.cells r.arr T (0, 0))) (g : wr.drew.grownBy w6 (some P)) (hP : P < b) : Hid (w6.heap[b]? = some (.cells r.arr T (0, 0))) := by
  have : w6.heap[b]? = wr.drew.heap[b]? := g.block b (heap_lt hY) (by simp; omega)
  exact this.trans hY

theorem kid_ne {w : World} {b n : Nat} {v : Value} {xs : List Value} (h : w.ownsRow (b + 1) 29 8 v n xs) : some b ≠ v.ownBlock := by
  intro e
  have := (h.lt b e.symm).1
  omega

theorem kid_far {w w' : World} {b : Nat} {x o : Obj} {row : Option Nat} (h : w.heap[b]? = some x) (hg : (w.alloc o).grownBy w' row) (hne : some b ≠ row) : Hid (w'.heap[b]? = some x) := by
  have hb := heap_lt h
  rw [Hid, hg.block b (by simp; omega) hne]
  exact heap_alloc_old h

theorem kid_below {w w' : World} {b n : Nat} {o : Obj} {v u : Value} {xs : List Value} (hg : (w.alloc o).grownBy w' v.ownBlock) (h : w.ownsRow (b + 1) 29 8 v n xs) (hb : b < w.heap.size) {j : Nat} {c : Nat} (hj : b ≤ j) : Below b w (w'.setCell ⟨j, c, none⟩ u) :=
  (((Below.refl b w).alloc (by omega) _).grown hg (by simp; omega) (fun k hk => by have := (h.lt k hk).1; omega)).setCell (p := ⟨j, c, none⟩) hj _
theorem SAt.below {P b : Nat} {s : ByteArray} {V : Value} {w w' : World} {r : Except Er Nat} (h : SAt P s V w r) (g : Below b w w') (hb : P < b) : SAt P s V w' r := by
  have k : ∀ {q x e}, Psr w P s q V x e → Psr w' P s q V x e := fun h => ⟨(g.block P hb).trans h.blk⟩
  cases r with
  | ok q => exact ⟨h.1, k h.2⟩
  | error y => obtain ⟨h0, q, h1, h2⟩ := h; exact ⟨h0, q, h1, k h2⟩

theorem gb_keeps {w w' : World} {b P : Nat} {x : Obj} (h : w.heap[b]? = some x) (g : w.grownBy w' (some P)) (hP : P < b) : Hid (w'.heap[b]? = some x) := by
  rw [Hid, g.block b (heap_lt h) (by simp; omega)]; exact h

set_option maxHeartbeats 8000000 in
theorem list_any (P : Nat) (s : ByteArray) (k : Nat) (V : Value) (dp : Nat) (val : Val) (w : World) (hs : s.size ≤ 2147483648) (hk : k < s.size) (hdp : dp ≤ 64) (h : Psr w P s k V 0 0) (E : Env w P V)
    (hval : ValC P s V ((dp : Int) + 1) val) (hvo : ValOk s.data.toList val) :
    Calls Tryd.prog 41 #[.pointer (some ⟨P, 0, none⟩), .int .i64 dp] w (VPost P s V (list s.data.toList val k) w) := by
  obtain ⟨i0, hi, hz0, hz1, hz2⟩ := info_parts infoKid
  have HI := Hid.out (p := Hid _) hi; clear hi
  have HZ := Hid.out (p := Hid _) hz0; clear hz0
  have HP : Hid (P < w.heap.size) := h.lt
  have HE := Hid.out (p := Hid _) E; clear E
  have HV : Hid (ValC P s V ((dp : Int) + 1) val) := hval
  have HVO : Hid (ValOk s.data.toList val) := hvo
  clear hval hvo
  have hl : s.data.toList.length = s.size := by simp
  obtain ⟨q0, hq0⟩ : ∃ q0, skip s.data.toList (k + 1) = q0 := ⟨_, rfl⟩
  have hqs : q0 ≤ s.size := by have := skip_le s.data.toList (k + 1) (by omega); omega
  have hbl := fun w h => blanks_any P s (k + 1) V 0 0 w (by omega) (by omega) h
  rw [hq0] at hbl
  obtain ⟨RES, hRES⟩ : ∃ RES, items s.data.toList val (s.size + 1) q0 [] = RES := ⟨_, rfl⟩
  have HL : Hid (list s.data.toList val k = if s.data.toList[q0]? = some 93 then .ok (listOf [], q0 + 1) else listR RES) := by rw [Hid, list_eq, hq0, hl, hRES]
  have HB := Hid.out (p := Hid _) hbl
  have HR := Hid.out (p := Hid _) hRES
  clear hbl hq0 hl hRES
  obtain ⟨w1, hw1, P1, G1, Z1, B1, S1⟩ := res_new w P s k V 0 0 h
  clear h
  have c1 := P1.out.c1
  have f1 := P1.out.f 1
  have hn1 : P < w1.heap.size := P1.out.lt
  have hdw : IntKind.i64.wrap ((dp : Int) + 1) = (dp : Int) + 1 := IntWalk.i64_in _ (by omega)
  go_enter Tryd.func41, Tryd.ntmps41
  go_wp2_with fail
  obtain ⟨b2, hb2⟩ : ∃ b2, w1.heap.size = b2 := ⟨_, rfl⟩
  obtain ⟨w3, hw3⟩ : ∃ w3, (w1.setCell ⟨P, 1, none⟩ (.int .i64 ((k : Int) + 1))).alloc (.cells #[.int .i64 5, .bool false, .bool false, .string ⟨#[]⟩, .int .i64 0, .string ⟨#[]⟩, .slice none 0 0, .slice none 0 0] 29) = w3 := ⟨_, rfl⟩
  have P3 : Hid (Psr w3 P s (k + 1) V 0 0) := by rw [← hw3]; exact (P1.out.set1 (k + 1)).kept (World.grownBy_alloc _ _ none) (by simp)
  have g3 : w1.grownBy w3 (some P) := by rw [← hw3]; exact (gb_set _ _ _ _).trans (World.grownBy_alloc _ _ _)
  have G3 : Hid (w.grownBy w3 (some P)) := G1.out.trans g3
  have Z3 := Hid.out (p := Hid _) (res_kept Z1.out g3 HP.out)
  have Y3 : Hid (w3.heap[b2]? = some (.cells (lraw none 0 0).arr 29 (0, 0))) := by
    have e : (w1.setCell ⟨P, 1, none⟩ (.int .i64 ((k : Int) + 1))).heap.size = w1.heap.size := by simp [World.setCell]
    rw [← hw3, ← hb2, ← e]
    exact heap_alloc_new _ _
  have hbR : b2 = w.heap.size + 1 := by rw [← hb2]; exact S1.out
  have HbR := Hid.out (p := Hid _) hbR
  rw [hw3, hb2]
  clear hw3 hb2 hbR hw1 c1 f1 hn1 g3 P1 G1 Z1 B1 S1
  refine (Calls.mono (HB.out w3 P3.out) ?_)
  rintro x w4 ⟨rfl, p4, g4⟩
  have P4 := Hid.out (p := Hid _) p4
  have G4 := Hid.out (p := Hid _) (G3.out.trans g4)
  have Z4 := Hid.out (p := Hid _) (res_kept Z3.out g4 HP.out)
  have Y4 : Hid (w4.heap[b2]? = some (.cells (lraw none 0 0).arr 29 (0, 0))) := by
    rw [Hid, g4.block _ (heap_lt Y3.out) (by have := HP.out; have := HbR.out; simp; omega)]; exact Y3.out
  clear p4 g4 P3 G3 Z3 Y3
  go_wp2_with fail
  refine (is_any P s q0 V 0 0 93 w4 (by omega) hqs P4.out).mono ?_
  rintro x w5 ⟨rfl, p5, g5⟩
  have G5 := Hid.out (p := Hid _) (G4.out.trans g5)
  have Z5 := Hid.out (p := Hid _) (res_kept Z4.out g5 HP.out)
  have Y5 : Hid (w5.heap[b2]? = some (.cells (lraw none 0 0).arr 29 (0, 0))) := by
    rw [Hid, g5.block _ (heap_lt Y4.out) (by have := HP.out; have := HbR.out; simp; omega)]; exact Y4.out
  clear g5 P4 G4 Z4 Y4
  by_cases hc : s.data.toList[q0]? = some 93
  · have hB : isB s.data.toList q0 0 93 = true := by rw [isB, decide_eq_true_eq]; exact ⟨rfl, hc⟩
    rw [hB] at p5 ⊢
    have P5 : Hid (Psr w5 P s (q0 + 1) V 0 0) := p5
    have HF : Hid (list s.data.toList val k = .ok (listOf [], q0 + 1)) := by rw [Hid, HL.out, if_pos hc]
    obtain ⟨⟨z0, z1, z2, z3, z4, z5, z6, z7⟩, y0, y1, y2, y3, y4, y5, y6, y7⟩ := val_cells Z5.out
    obtain ⟨⟨x0, x1, x2, x3, x4, x5, x6, x7⟩, _⟩ := val_cells Y5.out
    clear p5 hB hc
    go_wp2_with fail
    refine bare_fin rfl Z5.out rfl G5.out HP.out 5 false false ⟨#[]⟩ 0 ⟨#[]⟩ _ ?_
    rw [HF.out]
    exact ⟨rfl, P5.out⟩
  · have hB : isB s.data.toList q0 0 93 = false := by rw [isB, decide_eq_false_iff_not]; exact fun h => hc h.2
    rw [hB] at p5 ⊢
    have P5 : Hid (Psr w5 P s q0 V 0 0) := p5
    have HF : Hid (list s.data.toList val k = listR RES) := by rw [Hid, HL.out, if_neg hc]
    clear p5 hB hc HL
    have hKn : Hid (Kids w5 (b2 + 1) (.slice none 0 0) []) := Kids.nil _ _
    have hLn : Hid (LSt P s V w5 val [] RES) := .inl ⟨q0, s.size + 1, hqs, Nat.zero_le _, P5.out, by omega, HR.out.symm⟩
    clear P5 HR
    go_wp2_with fail
    go_loopw [] (fun wr => ∃ (va : Option Addr) (vc : Nat) (acc : List JV), Hid (wr.heap[b2]? = some (.cells (lraw va acc.length vc).arr 29 (0, 0))) ∧ Hid (Kids wr (b2 + 1) (.slice va acc.length vc) acc) ∧ Hid (wr.heap[w.heap.size]? = some (.cells Raw.zero.arr 29 (0, 0))) ∧ Hid (w.grownBy wr (some P)) ∧ Hid (LSt P s V wr val acc RES)) (fun wr => lmeas s P wr)
    case atStart => exact ⟨none, 0, [], Y5.out, hKn.out, Z5.out, G5.out, hLn.out⟩
    case round =>
      obtain ⟨va, vc, acc, hY, hK, hZ, hG, hL⟩ := hrel
      rcases hL.out with ⟨kk, n, hkk, hacc, hp, hn, hres⟩ | ⟨q, y, hq, hp, hy0, hres⟩
      · have HPs := Hid.out (p := Hid _) hp
        have HRes := Hid.out (p := Hid _) hres
        have c4 := hp.c4
        have x7 : wr.cell? ⟨b2, 7, none⟩ = some (.slice va acc.length vc) := cell_of hY.out 7
        have m7 := frozen_of hY.out 7
        have hbw : b2 < wr.heap.size := heap_lt hY.out
        have PD : Hid (Psr wr.drew P s kk V 0 0) := hp.kept (gb_drew _ 1 none) (by simp)
        have ED : Hid (Env wr.drew P V) := (HE.out.kept hG.out).kept (gb_drew _ 1 _)
        clear hp hres hL
        go_wp2_with fail
        go_region_law
          ((first
            | (refine step_append_lies _ (by rfl) _ _ _ (by rfl) (b2 + 1) 29 i0 _ 8 112 Tryd.underlying27 HI.out HZ.out hz1 hz2 rfl (by omega) (.slice va acc.length vc) acc.length (rs.flatMap Raw.cells) (by rfl) (K2.out.alloc _)
                ⟨w6.heap.size, 0, none⟩ 1 1 a.cells (by rfl) (by rfl) (World.news_of_block (cs := a.arr) (t := 29) (fr := (0, 0)) (heap_alloc_new w6 _)) (by simp [Raw.cells, Value.oneCell'])
                (by omega) (by unfold maxLen; omega) (by omega) (by simp; omega) (w6.heap.size + 1) (by simp) ?_; intro g cap w7 hown hgrow hat7 hlt7; have hne : some b2 ≠ (Value.slice va acc.length vc).ownBlock := kid_ne K2.out; have Y7 := kid_far Y6.out hgrow hne; clear x7 m7; have x7 : w7.cell? ⟨b2, 7, none⟩ = some (.slice va acc.length vc) := cell_of Y7.out 7; have m7 := frozen_of Y7.out 7)
            | (go_simp; go_at_call 32; refine (Calls.mono (HV.out kk wr.drew hkk PD.out ED.out) ?_); rintro x w6 ⟨a, t, rfl, hiv, g6, hat⟩; dsimp only [Raw.val]; obtain ⟨rs, K1, K2, K3⟩ := kid_call hK.out hY.out HPs.out hiv g6 (by have := HP.out; have := HbR.out; omega); have Y6 := call_keeps hY.out g6 (by have := HP.out; have := HbR.out; omega); have G6 : Hid (w.grownBy w6 (some P)) := (hG.out.trans (gb_drew wr 1 _)).trans g6; have HAT := Hid.out (p := Hid _) hat; have hb6 : b2 < w6.heap.size := heap_lt Y6.out; have Z6 := call_keeps hZ.out g6 HP.out; clear hiv g6 hat x7 m7; have x7 : w6.cell? ⟨b2, 7, none⟩ = some (.slice va acc.length vc) := cell_of Y6.out 7; have m7 := frozen_of Y6.out 7)))
        all_goals
          obtain ⟨w8, hw8⟩ : ∃ w8, w7.setCell ⟨b2, 7, none⟩ (.slice (some ⟨g, 0, none⟩) (acc.length + 1) cap) = w8 := ⟨_, rfl⟩
          have hPb : P < b2 := by have := HP.out; have := HbR.out; omega
          have hRb : w.heap.size < b2 := by have := HbR.out; omega
          have B8 : Below b2 w6 w8 := by
            rw [← hw8]
            exact kid_below hgrow K2.out hb6 (Nat.le_refl _)
          have K8 : Hid (Kids w8 (b2 + 1) (.slice (some ⟨g, 0, none⟩) (acc ++ [t]).length cap) (acc ++ [t])) := by
            rw [← hw8]
            exact (kid_put _ K1.out K2.out K3.out.1 K3.out.2 hown hgrow hat7).kept (gb_set _ _ _ _) (by intro k hk; injection hk with hk; omega)
          have Y8 : Hid (w8.heap[b2]? = some (.cells (lraw (some ⟨g, 0, none⟩) (acc ++ [t]).length cap).arr 29 (0, 0))) := by
            rw [Hid, ← hw8, heap_set_same Y7.out]; simp [lraw, Raw.arr]
          have Z8 : Hid (w8.heap[w.heap.size]? = some (.cells Raw.zero.arr 29 (0, 0))) := by
            rw [Hid, B8.block _ hRb]; exact Z6.out
          have G8 : Hid (w.grownBy w8 (some P)) := ⟨B8.os.trans G6.out.os, B8.tape.trans G6.out.tape, B8.output.trans G6.out.output, Nat.le_trans G6.out.size B8.size, fun j hj hne => (B8.block j (by omega)).trans (G6.out.block j hj hne)⟩
          have S8 : Hid (SAt P s V w8 (vpos (val kk))) := (vpos_at HVO.out hkk HAT.out).below B8 hPb
          have HAT2 : Hid (VAt P s V w6 t (val kk)) := HAT.out
          rw [hw8]
          clear hw8 B8 hown hgrow hat7 hlt7 hne Y7 x7 m7 K1 K2 K3 Y6 G6 Z6 HAT hb6
          go_wp2_with fail
          refine (ends_all P s V 93 w8 _ (by omega) S8.out).mono ?_
          rintro x w9 ⟨gb, rfl, g9, he⟩
          obtain ⟨hT, hF⟩ := LSt.next HVO.out hkk hacc hn HRes.out HAT2.out he
          have Y9 := gb_keeps Y8.out g9 hPb
          have Z9 := gb_keeps Z8.out g9 HP.out
          have G9 := Hid.out (p := Hid _) (G8.out.trans g9)
          have K9 : Hid (Kids w9 (b2 + 1) (.slice (some ⟨g, 0, none⟩) (acc ++ [t]).length cap) (acc ++ [t])) := K8.out.kept g9 (by intro k hk; injection hk with hk; omega)
          clear he g9 S8 K8 Y8 Z8 G8
          cases gb
          · obtain ⟨hL9, hm⟩ := hF rfl
            have HL9 := Hid.out (p := Hid _) hL9
            have HM : Hid (lmeas s P w9 < lmeas s P wr) := by rw [Hid, lmeas_run HPs.out]; exact hm
            clear hT hF hL9 hm
            go_wp2_with fail
            go_roundw
            case rel => exact ⟨some ⟨g, 0, none⟩, cap, acc ++ [t], Y9.out, K9.out, Z9.out, G9.out, HL9.out⟩
            case measure => exact HM.out
          · obtain ⟨q, hq, hp9⟩ := hT rfl
            have HF2 : Hid (list s.data.toList val k = .ok (listOf (acc ++ [t]), q)) := by rw [Hid, HF.out, hq]; rfl
            have P9 := Hid.out (p := Hid _) hp9
            clear hT hF hq hp9
            generalize acc ++ [t] = ts at *
            obtain ⟨⟨z0, z1, z2, z3, z4, z5, z6, z7⟩, y0, y1, y2, y3, y4, y5, y6, y7⟩ := val_cells Z9.out
            obtain ⟨⟨x0, x1, x2, x3, x4, x5, x6, x7⟩, _⟩ := val_cells Y9.out
            go_wp2_with fail
            refine full_fin rfl Z9.out rfl G9.out HP.out (lraw (some ⟨g, 0, none⟩) ts.length cap) (listOf ts) ((list_is K9.out).turn (Turn.mono _ (fun j hj _ => by have := HbR.out; omega))) _ ?_
            rw [HF2.out]
            exact ⟨rfl, P9.out⟩
      · have qy : ((y.2 : Int) == 0) = false := by rw [beq_eq_false_iff_ne]; omega
        have c4 := hp.c4
        have HP9 := Hid.out (p := Hid _) hp
        have HF2 : Hid (list s.data.toList val k = .error y) := by rw [Hid, HF.out, hres]; rfl
        obtain ⟨⟨z0, z1, z2, z3, z4, z5, z6, z7⟩, y0, y1, y2, y3, y4, y5, y6, y7⟩ := val_cells hZ.out
        obtain ⟨⟨x0, x1, x2, x3, x4, x5, x6, x7⟩, _⟩ := val_cells hY.out
        clear hp hres hL hy0
        go_wp2_with fail
        refine full_fin rfl hZ.out rfl hG.out HP.out (lraw va acc.length vc) (listOf acc) ((list_is hK.out).turn (Turn.mono _ (fun j hj _ => by have := HbR.out; omega))) _ ?_
        rw [HF2.out]
        exact ⟨q, hq, HP9.out⟩
end Go.Proofs.YtbfkgddhpabioaaDoor.Jdec
