/- jdec's parser: objects. -/
import Derived.Test.YtehffmcfmdjknaaGreatDoorJdecL
import Derived.Deep.CutRange
import Derived.WalkMore
import Derived.Laws.EntriesVeiled
namespace Go.Proofs.YtehffmcfmdjknaaGreatDoor.Jdec
open Go.RowKit Go.Maps Go.Proofs.YtehffmcfmdjknaaGreatDoor.Strs
set_option linter.unusedVariables false
set_option linter.unusedSimpArgs false
set_option maxRecDepth 100000

theorem infoStr : (Tryz.prog.info? 9).map (fun i => (i.zero, i.size, i.bytes)) = some (some (.string ⟨#[]⟩), 1, 16) := by kernel_rfl
/-- A value where an error was met. -/
theorem value_err (P : Nat) (s : ByteArray) (k : Nat) (V : Value) (b e : Nat) (dp : Int) (w : World) (hk : k ≤ s.size) (he : e ≠ 0) (h : Psr w P s k V b e) :
    Calls Tryz.prog 30 #[.pointer (some ⟨P, 0, none⟩), .int .i64 dp] w (VPost P s V (.error (b, e)) w) := by
  have HP : Hid (P < w.heap.size) := h.lt
  obtain ⟨w1, hw1, P1, G1, Z1, B1, _⟩ := res_new w P s k V b e h
  have q : ((e : Int) != 0) = true := by rw [bne_iff_ne]; omega
  have c4 := P1.out.c4
  obtain ⟨⟨z0, z1, z2, z3, z4, z5, z6, z7⟩, y0, y1, y2, y3, y4, y5, y6, y7⟩ := val_cells Z1.out
  clear h he
  go_enter Tryz.func30, Tryz.ntmps30
  go_wp2_with fail
  refine bare_fin rfl Z1.out rfl G1.out HP.out 0 false false ⟨#[]⟩ 0 ⟨#[]⟩ _ ?_
  exact ⟨k, hk, P1.out⟩
def onV (r : Except Er Nat) (val : Val) : Except Er (JV × Nat) :=
  match r with
  | .ok q => val q
  | .error y => .error y
theorem value_all (P : Nat) (s : ByteArray) (V : Value) (dp : Int) (val : Val) (w : World) (r : Except Er Nat) (hval : ValC P s V dp val) (h : SAt P s V w r) (E : Env w P V) :
    Calls Tryz.prog 30 #[.pointer (some ⟨P, 0, none⟩), .int .i64 dp] w (VPost P s V (onV r val) w) := by
  cases r with
  | ok q => exact hval q w h.1 h.2 E
  | error y =>
    obtain ⟨h0, q, h1, h2⟩ := h
    exact value_err P s q V y.1 y.2 dp w h1 h0 h2
def kpos (r : Except Er (ByteArray × Nat)) : Except Er Nat :=
  match r with
  | .ok x => .ok x.2
  | .error y => .error y
theorem vpos_on {P : Nat} {s : ByteArray} {V : Value} {w' w0 : World} {t : JV} {val : Val} {r : Except Er Nat} (hvo : ValOk s.data.toList val) (h0 : SAt P s V w0 r) (h : VAt P s V w' t (onV r val)) : SAt P s V w' (vpos (onV r val)) := by
  cases r with
  | ok q => exact vpos_at hvo h0.1 h
  | error y => exact ⟨h0.1, h⟩
/-- The object's own state. -/
def OSt (P : Nat) (s : ByteArray) (V : Value) (w : World) (val : Val) (ks : List ByteArray) (vs : List JV) (okp : Prop) (m : Nat) (RES : Except Er (List ByteArray × List JV × Nat)) : Prop :=
  (∃ k n, okp ∧ k ≤ s.size ∧ ks.length ≤ k ∧ vs.length ≤ k ∧ m ≤ k ∧ Psr w P s k V 0 0 ∧ s.size - k < n ∧ RES = members s.data.toList val n k ks vs) ∨ (∃ q y, q ≤ s.size ∧ Psr w P s q V y.1 y.2 ∧ y.2 ≠ 0 ∧ RES = .error y)
/-- A round of the object. -/
theorem OSt.next {P : Nat} {s : ByteArray} {V : Value} {val : Val} {kk n m : Nat} {ks : List ByteArray} {vs : List JV} {RES : Except Er (List ByteArray × List JV × Nat)} {w' w'' : World} {d : ByteArray} {t : JV} {g : Bool} (hvo : ValOk s.data.toList val) (hkk : kk ≤ s.size) (hks : ks.length ≤ kk) (hvs : vs.length ≤ kk) (hm : m ≤ kk) (hn : s.size - kk < n)
    (hres : RES = members s.data.toList val n kk ks vs) (hd : ∀ d' q, key s.data.toList ks kk = .ok (d', q) → d = d') (hat : VAt P s V w' t (onV (onE (kpos (key s.data.toList ks kk)) (colon s.data.toList)) val))
    (he : EndsAt P s V g w'' (onE (vpos (onV (onE (kpos (key s.data.toList ks kk)) (colon s.data.toList)) val)) (ends s.data.toList 125))) :
    (g = true → ∃ q, RES = .ok (ks ++ [d], vs ++ [t], q) ∧ Psr w'' P s q V 0 0) ∧ (g = false → OSt P s V w'' val (ks ++ [d]) (vs ++ [t]) (∃ q, key s.data.toList ks kk = .ok (d, q)) (m + 1) RES ∧ lmeas s P w'' < s.size + 2 - kk) := by
  have hl : s.data.toList.length = s.size := by simp
  obtain ⟨n, rfl⟩ : ∃ m, n = m + 1 := ⟨n - 1, by omega⟩
  rw [members] at hres
  have bad : ∀ (y : Er), y.2 ≠ 0 → RES = .error y → EndsAt P s V g w'' (.error y) → (g = true → ∃ q, RES = .ok (ks ++ [d], vs ++ [t], q) ∧ Psr w'' P s q V 0 0) ∧ (g = false → OSt P s V w'' val (ks ++ [d]) (vs ++ [t]) (∃ q, key s.data.toList ks kk = .ok (d, q)) (m + 1) RES ∧ lmeas s P w'' < s.size + 2 - kk) := by
    intro y hy hr he
    obtain ⟨rfl, q, hq, hp⟩ := he
    exact ⟨fun h => (by cases h), fun _ => ⟨.inr ⟨q, y, hq, hp, hy, hr⟩, by rw [lmeas_bad hp hy]; omega⟩⟩
  have f0 := key_fits s.data.toList ks kk (by omega)
  cases h0 : key s.data.toList ks kk with
  | error y =>
    rw [h0] at hres he
    have := bad y (f0.err _ h0).2 hres he
    rw [h0] at this
    exact this
  | ok x =>
    obtain ⟨d', q0⟩ := x
    obtain rfl := hd d' q0 h0
    have g0 := f0.ok _ h0
    simp only [hl] at g0
    rw [h0] at hres he hat
    simp only at hres
    have f1 := colon_fits s.data.toList q0 (by omega)
    have he : EndsAt P s V g w'' (onE (vpos (onV (colon s.data.toList q0) val)) (ends s.data.toList 125)) := he
    have hat : VAt P s V w' t (onV (colon s.data.toList q0) val) := hat
    rw [h0] at bad
    cases h1 : colon s.data.toList q0 with
    | error y => rw [h1] at hres he; exact bad y (f1.err _ h1).2 hres he
    | ok r =>
      have g1 := f1.ok _ h1
      simp only [hl, id] at g1
      rw [h1] at hres he hat
      simp only at hres
      have f2 := hvo r (by omega)
      have he : EndsAt P s V g w'' (onE (vpos (val r)) (ends s.data.toList 125)) := he
      have hat : VAt P s V w' t (val r) := hat
      cases h2 : val r with
      | error y => rw [h2] at hres he; exact bad y (f2.err _ h2).2 hres he
      | ok x =>
        obtain ⟨t', q⟩ := x
        have g2 := f2.ok _ h2
        simp only [hl] at g2
        rw [h2] at hres he hat
        simp only at hres
        obtain ⟨rfl, _⟩ := hat
        have f3 := ends_fits s.data.toList 125 q (by omega)
        have he : EndsAt P s V g w'' (ends s.data.toList 125 q) := he
        cases h3 : ends s.data.toList 125 q with
        | error y => rw [h3] at hres he; exact bad y (f3.err _ h3).2 hres he
        | ok z =>
          obtain ⟨b, u⟩ := z
          have g3 := f3.ok _ h3
          simp only [hl] at g3
          rw [h3] at hres he
          obtain ⟨rfl, hp⟩ := he
          cases g
          · refine ⟨fun h => (by cases h), fun _ => ⟨.inl ⟨u, n, ⟨q0, rfl⟩, by omega, ?_, ?_, by omega, hp, by omega, hres⟩, by rw [lmeas_run hp]; omega⟩⟩
            · rw [List.length_append, List.length_singleton]; omega
            · rw [List.length_append, List.length_singleton]; omega
          · exact ⟨fun _ => ⟨u, hres, hp⟩, fun h => (by cases h)⟩
def objectR (r : Except Er (List ByteArray × List JV × Nat)) : Except Er (JV × Nat) :=
  match r with
  | .error x => .error x
  | .ok (ks, vs, r) => .ok (objectOf ks vs, r)
theorem object_eq (l : List UInt8) (val : Val) (p : Nat) : object l val p = if l[skip l (p + 1)]? = some 125 then .ok (objectOf [] [], skip l (p + 1) + 1) else objectR (members l val (l.length + 1) (skip l (p + 1)) [] []) := by
  unfold object objectR
  split
  · rfl
  · cases members l val (l.length + 1) (skip l (p + 1)) [] [] with
    | error x => rfl
    | ok x => rfl
end Go.Proofs.YtehffmcfmdjknaaGreatDoor.Jdec
/- jdec's parser: object. -/
namespace Go.Proofs.YtehffmcfmdjknaaGreatDoor.Jdec
open Go.RowKit Go.Maps Go.Proofs.YtehffmcfmdjknaaGreatDoor.Strs
set_option linter.unusedVariables false
set_option linter.unusedSimpArgs false
set_option maxRecDepth 100000

theorem row_ne {w : World} {b e size n : Nat} {v : Value} {xs : List Value} (h : w.ownsRow (b + 1) e size v n xs) : some b ≠ v.ownBlock := by
  intro e
  have := (h.lt b e.symm).1
  omega
theorem colon_yes {l : List UInt8} {r : Except Er Nat} {q : Nat} (h : onE r (fun q => .ok (skip l q)) = .ok q) (hc : l[q]? = some 58) : onE (.ok (q + 1)) (fun q => .ok (skip l q)) = onE r (colon l) := by
  cases r with
  | error y => cases h
  | ok q1 =>
    injection h with h
    subst h
    show _ = colon l q1
    rw [colon, if_pos hc]; rfl
theorem colon_no {l : List UInt8} {r : Except Er Nat} (hno : ∀ q, onE r (fun q => .ok (skip l q)) = .ok q → l[q]? ≠ some 58) :
    onE (onE (onE r (fun q => .ok (skip l q))) (fun q => (.error (here l q) : Except Er Nat))) (fun q => .ok (skip l q)) = onE r (colon l) := by
  cases r with
  | error y => rfl
  | ok q1 =>
    have := hno _ rfl
    show _ = colon l q1
    rw [colon, if_neg this]; rfl
/-- Behind the key's call. -/
theorem obj_key {wr wk : World} {b P M m k : Nat} {s : ByteArray} {V : Value} {ok : Prop} {ks : List ByteArray} {vs : List JV} {ka va : Option Addr} {kc vc : Nat} {d : ByteArray} {w : World}
    (hO : OB wr b M m ok ks vs ka kc va vc) (hG : w.grownBy wr (some P)) (hZ : wr.heap[w.heap.size]? = some (.cells Raw.zero.arr 29 (0, 0))) (hb : w.heap.size < b) (hPb : P < b) (hPw : P < w.heap.size) (h2 : Two wr.drew wk P M) :
    OB wk b M m False ks vs ka kc va vc ∧ w.grownBy wk (some P) ∧ wk.heap[w.heap.size]? = some (.cells Raw.zero.arr 29 (0, 0)) := by
  obtain ⟨wm, g1, g2, hm⟩ := h2
  have hbM := hO.bM
  have hPr : ∀ k, some P = some k → k < b := by intro k hk; injection hk with hk; omega
  refine ⟨((hO.kept (gb_drew wr 1 (some P)) hPr).kept g1 hPr).keptM g2 hm, gb_new ((hG.trans (gb_drew wr 1 _)).trans g1) g2 (by omega), ?_⟩
  have z1 : wm.heap[w.heap.size]? = some (.cells Raw.zero.arr 29 (0, 0)) := (gb_keeps (w := wr.drew) hZ g1 hPw).out
  rw [g2.block _ (heap_lt z1) (by simp; omega)]; exact z1
theorem key_state {P : Nat} {s : ByteArray} {V : Value} {M m : Nat} {ks : List ByteArray} {d : ByteArray} {w : World} {r : Except Er (ByteArray × Nat)} (h : KeyAt P s V M m ks d w r) :
    SAt P s V w (kpos r) ∧ (∀ d' q, r = .ok (d', q) → d = d') ∧ ((∃ q, r = .ok (d, q)) → Seen w M (m + 1) (ks ++ [d])) := by
  cases r with
  | ok x =>
    obtain ⟨d', q⟩ := x
    obtain ⟨rfl, h1, h2, h3⟩ := h
    exact ⟨⟨h1, h2⟩, fun d'' q' e => by injection e with e; injection e with e _, fun _ => h3⟩
  | error y => exact ⟨h, fun d' q e => (by cases e), fun ⟨q, e⟩ => (by cases e)⟩
/-- Behind the value's call. -/
theorem obj_kid {wr wk : World} {b P M m : Nat} {ok : Prop} {ks : List ByteArray} {vs : List JV} {ka va : Option Addr} {kc vc : Nat} {a : Raw} {t : JV} {w : World}
    (hO : OB wr b M m ok ks vs ka kc va vc) (hG : w.grownBy wr (some P)) (hZ : wr.heap[w.heap.size]? = some (.cells Raw.zero.arr 29 (0, 0))) (hPb : P < b) (hPw : P < w.heap.size)
    (g : wr.drew.grownBy wk (some P)) (hiv : IsV wk (fun j => wr.drew.heap.size ≤ j) a t) :
    OB wk b M m ok ks vs ka kc va vc ∧ w.grownBy wk (some P) ∧ wk.heap[w.heap.size]? = some (.cells Raw.zero.arr 29 (0, 0)) ∧
    ∃ rs : List Raw, rs.length = vs.length ∧ wk.ownsRow (b + 1) 29 8 (.slice va vs.length vc) vs.length (rs.flatMap Raw.cells) ∧
      (∀ i (h : i < rs.length) (h' : i < vs.length), IsV wk (fun j => OA b M (.slice ka ks.length kc) j ∧ some j ≠ (Value.slice va vs.length vc).ownBlock) rs[i] vs[i]) ∧
      IsV wk (fun j => OA b M (.slice ka ks.length kc) j ∧ some j ≠ (Value.slice va vs.length vc).ownBlock) a t := by
  have hbM := hO.bM
  have hlt := hO.lt
  have hMl : M < wr.heap.size := by obtain ⟨es, c, hm⟩ := hO.mp; exact heap_lt hm
  have hPr : ∀ k, some P = some k → k < b := by intro k hk; injection hk with hk; omega
  have O1 := (hO.kept (gb_drew wr 1 (some P)) hPr).kept g hPr
  have o1 : ∀ j, (Value.slice ka ks.length kc).ownBlock = some j → j < wr.heap.size := fun j hj => (hO.K.lt j hj).2
  have o2 : ∀ j, (Value.slice va vs.length vc).ownBlock = some j → j < wr.heap.size := by
    intro j hj
    obtain ⟨rs, k1, k2, k3⟩ := hO.V
    exact (k2.lt j hj).2
  obtain ⟨rs, k1, k2, k3⟩ := O1.V
  refine ⟨O1, (hG.trans (gb_drew wr 1 _)).trans g, (gb_keeps (w := wr.drew) hZ g hPw).out, rs, k1, k2, k3, hiv.turn ⟨Nat.le_refl _, fun j hj hl => ⟨rfl, ?_, fun e => ?_⟩⟩⟩
  · have hj : wr.heap.size ≤ j := hj
    exact ⟨by omega, by omega, fun e => by have := o1 j e.symm; omega⟩
  · have hj : wr.heap.size ≤ j := hj
    have := o2 j e.symm
    omega
/-- .. and what turned lies at b or beyond. -/
theorem obj_below {w wk wx : World} {b P : Nat} (B : Below b wk wx) (hG : w.grownBy wk (some P)) (hZ : wk.heap[w.heap.size]? = some (.cells Raw.zero.arr 29 (0, 0))) (hb : w.heap.size < b) :
    w.grownBy wx (some P) ∧ wx.heap[w.heap.size]? = some (.cells Raw.zero.arr 29 (0, 0)) :=
  ⟨⟨B.os.trans hG.os, B.tape.trans hG.tape, B.output.trans hG.output, Nat.le_trans hG.size B.size, fun j hj hne => (B.block j (by omega)).trans (hG.block j hj hne)⟩, (B.block _ hb).trans hZ⟩

set_option maxHeartbeats 16000000 in
theorem object_any (P : Nat) (s : ByteArray) (k : Nat) (V : Value) (dp : Nat) (val : Val) (w : World) (hs : s.size ≤ 2147483648) (hk : k < s.size) (hdp : dp ≤ 64) (h : Psr w P s k V 0 0) (E : Env w P V)
    (hval : ValC P s V ((dp : Int) + 1) val) (hvo : ValOk s.data.toList val) :
    Calls Tryz.prog 46 #[.pointer (some ⟨P, 0, none⟩), .int .i64 dp] w (VPost P s V (object s.data.toList val k) w) := by
  obtain ⟨i0, hi, hz0, hz1, hz2⟩ := info_parts infoKid
  have HI := Hid.out (p := Hid _) hi; clear hi
  have HZ := Hid.out (p := Hid _) hz0; clear hz0
  obtain ⟨j0, hj, hjz, hj1, hj2⟩ := info_parts infoStr
  have HJ := Hid.out (p := Hid _) hj; clear hj
  have HJZ := Hid.out (p := Hid _) hjz; clear hjz
  have hmm := @Go.RowKit.run_makeMap Tryz.prog
  have HP : Hid (P < w.heap.size) := h.lt
  have HE := Hid.out (p := Hid _) E; clear E
  have HV : Hid (ValC P s V ((dp : Int) + 1) val) := hval
  have HVO : Hid (ValOk s.data.toList val) := hvo
  clear hval hvo
  have hl : s.data.toList.length = s.size := by simp
  obtain ⟨q0, hq0⟩ : ∃ q0, skip s.data.toList (k + 1) = q0 := ⟨_, rfl⟩
  have hqs : q0 ≤ s.size := by have := skip_le s.data.toList (k + 1) (by omega); omega
  have hbl := fun w h => blanks_any P s (k + 1) V 0 0 w (by omega) (by omega) h
  rw [hq0] at hbl
  obtain ⟨RES, hRES⟩ : ∃ RES, members s.data.toList val (s.size + 1) q0 [] [] = RES := ⟨_, rfl⟩
  have HL : Hid (object s.data.toList val k = if s.data.toList[q0]? = some 125 then .ok (objectOf [] [], q0 + 1) else objectR RES) := by rw [Hid, object_eq, hq0, hl, hRES]
  have HB := Hid.out (p := Hid _) hbl
  have HR := Hid.out (p := Hid _) hRES
  clear hbl hq0 hl hRES
  obtain ⟨w1, hw1, P1, G1, Z1, B1, S1⟩ := res_new w P s k V 0 0 h
  clear h
  have c1 := P1.out.c1
  have f1 := P1.out.f 1
  have hn1 : P < w1.heap.size := P1.out.lt
  have hdw : IntKind.i64.wrap ((dp : Int) + 1) = (dp : Int) + 1 := IntWalk.i64_in _ (by omega)
  go_enter Tryz.func46, Tryz.ntmps46
  go_wp2_with fail
  obtain ⟨b2, hb2⟩ : ∃ b2, w1.heap.size = b2 := ⟨_, rfl⟩
  obtain ⟨w3, hw3⟩ : ∃ w3, (w1.setCell ⟨P, 1, none⟩ (.int .i64 ((k : Int) + 1))).alloc (.cells #[.int .i64 6, .bool false, .bool false, .string ⟨#[]⟩, .int .i64 0, .string ⟨#[]⟩, .slice none 0 0, .slice none 0 0] 29) = w3 := ⟨_, rfl⟩
  have P3 : Hid (Psr w3 P s (k + 1) V 0 0) := by rw [← hw3]; exact (P1.out.set1 (k + 1)).kept (World.grownBy_alloc _ _ none) (by simp)
  have g3 : w1.grownBy w3 (some P) := by rw [← hw3]; exact (gb_set _ _ _ _).trans (World.grownBy_alloc _ _ _)
  have G3 : Hid (w.grownBy w3 (some P)) := G1.out.trans g3
  have Z3 := Hid.out (p := Hid _) (res_kept Z1.out g3 HP.out)
  have Y3 : Hid (w3.heap[b2]? = some (.cells (oraw none 0 0 none 0 0).arr 29 (0, 0))) := by
    have e : (w1.setCell ⟨P, 1, none⟩ (.int .i64 ((k : Int) + 1))).heap.size = w1.heap.size := by simp [World.setCell]
    rw [← hw3, ← hb2, ← e]
    exact heap_alloc_new _ _
  have hbR : b2 = w.heap.size + 1 := by rw [← hb2]; exact S1.out
  have HbR := Hid.out (p := Hid _) hbR
  have HPb : Hid (P < b2) := by have := HP.out; have := HbR.out; rw [Hid]; omega
  rw [hw3, hb2]
  clear hw3 hb2 hbR hw1 c1 f1 hn1 g3 P1 G1 Z1 B1 S1
  refine (Calls.mono (HB.out w3 P3.out) ?_)
  rintro x w4 ⟨rfl, p4, g4⟩
  have P4 := Hid.out (p := Hid _) p4
  have G4 := Hid.out (p := Hid _) (G3.out.trans g4)
  have Z4 := gb_keeps Z3.out g4 HP.out
  have Y4 := gb_keeps Y3.out g4 HPb.out
  clear p4 g4 P3 G3 Z3 Y3
  go_wp2_with fail
  refine (is_any P s q0 V 0 0 125 w4 (by omega) hqs P4.out).mono ?_
  rintro x w5 ⟨rfl, p5, g5⟩
  have G5 := Hid.out (p := Hid _) (G4.out.trans g5)
  have Z5 := gb_keeps Z4.out g5 HP.out
  have Y5 := gb_keeps Y4.out g5 HPb.out
  clear g5 P4 G4 Z4 Y4
  by_cases hc : s.data.toList[q0]? = some 125
  · have hB : isB s.data.toList q0 0 125 = true := by rw [isB, decide_eq_true_eq]; exact ⟨rfl, hc⟩
    rw [hB] at p5 ⊢
    have P5 : Hid (Psr w5 P s (q0 + 1) V 0 0) := p5
    have HF : Hid (object s.data.toList val k = .ok (objectOf [] [], q0 + 1)) := by rw [Hid, HL.out, if_pos hc]
    obtain ⟨⟨z0, z1, z2, z3, z4, z5, z6, z7⟩, y0, y1, y2, y3, y4, y5, y6, y7⟩ := val_cells Z5.out
    obtain ⟨⟨x0, x1, x2, x3, x4, x5, x6, x7⟩, _⟩ := val_cells Y5.out
    clear p5 hB hc
    go_wp2_with fail
    refine bare_fin rfl Z5.out rfl G5.out HP.out 6 false false ⟨#[]⟩ 0 ⟨#[]⟩ _ ?_
    rw [HF.out]
    exact ⟨rfl, P5.out⟩
  · have hB : isB s.data.toList q0 0 125 = false := by rw [isB, decide_eq_false_iff_not]; exact fun h => hc h.2
    rw [hB] at p5 ⊢
    have P5 : Hid (Psr w5 P s q0 V 0 0) := p5
    have HF : Hid (object s.data.toList val k = objectR RES) := by rw [Hid, HL.out, if_neg hc]
    clear p5 hB hc HL
    obtain ⟨M, hM⟩ : ∃ M, w5.heap.size = M := ⟨_, rfl⟩
    obtain ⟨w6, hw6⟩ : ∃ w6, w5.alloc (.map #[] 0) = w6 := ⟨_, rfl⟩
    have hbM : b2 < M := by rw [← hM]; exact heap_lt Y5.out
    have HbM := Hid.out (p := Hid _) hbM
    have S6 : Hid (Seen w6 M 0 []) := by rw [← hw6, ← hM]; exact Seen.made w5
    have G6 : Hid (w.grownBy w6 (some P)) := by rw [← hw6]; exact G5.out.trans (World.grownBy_alloc _ _ _)
    have Z6 : Hid (w6.heap[w.heap.size]? = some (.cells Raw.zero.arr 29 (0, 0))) := by rw [← hw6]; exact heap_alloc_old Z5.out
    have P6 : Hid (Psr w6 P s q0 V 0 0) := by rw [← hw6]; exact P5.out.kept (World.grownBy_alloc _ _ none) (by simp)
    have O6 : Hid (OB w6 b2 M 0 True [] [] none 0 none 0) := by
      refine ⟨?_, World.ownsRow_nil _ _ _ _, ⟨[], rfl, World.ownsRow_nil _ _ _ _, fun i h => absurd h (Nat.not_lt_zero _)⟩, hbM, S6.out.map, fun _ => S6.out⟩
      rw [← hw6]; exact heap_alloc_old Y5.out
    have hLn : Hid (OSt P s V w6 val [] [] True 0 RES) := .inl ⟨q0, s.size + 1, trivial, hqs, Nat.zero_le _, Nat.zero_le _, Nat.zero_le _, P6.out, by omega, HR.out.symm⟩
    have hMw : w5.heap.size = M := hM
    clear P5 HR G5 Z5 Y5 hbM P6 hM
    have hRb : Hid (w.heap.size < b2) := by have := HbR.out; rw [Hid]; omega
    go_wp2_with fail
    clear hMw hw6
    go_loopw [] (fun wr => ∃ (okp : Prop) (m : Nat) (ks : List ByteArray) (vs : List JV) (ka : Option Addr) (kc : Nat) (va : Option Addr) (vc : Nat), Hid (OB wr b2 M m okp ks vs ka kc va vc) ∧ Hid (wr.heap[w.heap.size]? = some (.cells Raw.zero.arr 29 (0, 0))) ∧ Hid (w.grownBy wr (some P)) ∧ Hid (OSt P s V wr val ks vs okp m RES)) (fun wr => lmeas s P wr)
    case atStart => exact ⟨True, 0, [], [], none, 0, none, 0, O6.out, Z6.out, G6.out, hLn.out⟩
    case round =>
      obtain ⟨okp, m, ks, vs, ka, kc, va, vc, hO, hZ, hG, hL⟩ := hrel
      rcases hL.out with ⟨kk, n, hok, hkk, hks, hvs, hm, hp, hn, hres⟩ | ⟨q, y, hq, hp, hy0, hres⟩
      · have HPs := Hid.out (p := Hid _) hp
        have HRes := Hid.out (p := Hid _) hres
        have HS : Hid (Seen wr M m ks) := hO.out.S hok
        have c4 := hp.c4
        clear hp hres hL hok
        go_upto_region 8 with (fail)
        go_cut [] from 21 to 53 (fun wx => ∃ (d : ByteArray) (ka' : Option Addr) (kc' : Nat), Hid (OB wx b2 M (m + 1) (∃ q, key s.data.toList ks kk = .ok (d, q)) (ks ++ [d]) vs ka' kc' va vc) ∧ Hid (wx.heap[w.heap.size]? = some (.cells Raw.zero.arr 29 (0, 0))) ∧ Hid (w.grownBy wx (some P)) ∧ Hid (SAt P s V wx (kpos (key s.data.toList ks kk))) ∧ Hid (∀ d' q, key s.data.toList ks kk = .ok (d', q) → d = d'))
        case first =>
          have x6 : wr.cell? ⟨b2, 6, none⟩ = some (.slice ka ks.length kc) := cell_of hO.out.Y 6
          have m6 := frozen_of hO.out.Y 6
          have hbw : b2 < wr.heap.size := hO.out.lt
          have PD : Hid (Psr wr.drew P s kk V 0 0) := HPs.out.kept (gb_drew _ 1 none) (by simp)
          have ED : Hid (Utf.Sizes wr.drew) := ((HE.out.kept hG.out).kept (gb_drew _ 1 _)).z
          have SD : Hid (Seen wr.drew M m ks) := HS.out.kept (gb_drew _ 1 none) (by simp)
          have hPM : Hid (P ≠ M) := by have := HPb.out; have := HbM.out; rw [Hid]; omega
          go_wp2_with fail
          go_region_law
            ((first
              | (refine step_append_lies _ (by rfl) _ _ _ (by rfl) (b2 + 1) 9 j0 _ 1 16 Tryz.underlying26 HJ.out HJZ.out hj1 hj2 rfl (by omega) (.slice ka ks.length kc) ks.length (ks.map Value.string) (by rfl) (KK.out.alloc _)
                  ⟨wk.heap.size, 0, none⟩ 1 1 [.string d] (by rfl) (by rfl) (World.news_of_block (cs := #[.string d]) (t := 9) (fr := (0, 0)) (heap_alloc_new wk _)) (by simp [Value.oneCell'])
                  (by omega) (by unfold maxLen; omega) (by omega) (by simp; omega) (wk.heap.size + 1) (by simp) ?_; intro g cap w7 hown hgrow hat7 hlt7; have hne : some b2 ≠ (Value.slice ka ks.length kc).ownBlock := row_ne KK.out; have Y7 := kid_far OK6.out.Y hgrow hne; clear x6 m6; have x6 : w7.cell? ⟨b2, 6, none⟩ = some (.slice ka ks.length kc) := cell_of Y7.out 6; have m6 := frozen_of Y7.out 6)
              | (go_simp; go_at_call 73; refine (key_any P s kk V M m ks wr.drew hs hkk (by omega) PD.out ED.out SD.out hPM.out).mono ?_; rintro x wk ⟨d, rfl, hds, htwo, hkat⟩; obtain ⟨o6, g6, z6⟩ := obj_key (k := 0) (s := s) (V := V) (d := d) hO.out hG.out hZ.out hRb.out HPb.out HP.out htwo; have OK6 := Hid.out (p := Hid _) o6; have G6k := Hid.out (p := Hid _) g6; have Z6k := Hid.out (p := Hid _) z6; have HKat := Hid.out (p := Hid _) hkat; have hb6 : b2 < wk.heap.size := o6.lt; have KK : Hid (wk.ownsRow (b2 + 1) 9 1 (.slice ka ks.length kc) ks.length (ks.map Value.string)) := o6.K; clear o6 g6 z6 hkat htwo x6 m6; have x6 : wk.cell? ⟨b2, 6, none⟩ = some (.slice ka ks.length kc) := cell_of OK6.out.Y 6; have m6 := frozen_of OK6.out.Y 6)))
          all_goals
            have HKt : KeyAt P s V M m ks d wk (key s.data.toList ks kk) := HKat.out
            obtain ⟨k1, k2, k3⟩ := key_state HKt
            obtain ⟨o8, B8⟩ := OK6.out.key k3 hown hgrow hat7
            obtain ⟨g8, z8⟩ := obj_below B8 G6k.out Z6k.out hRb.out
            clear hown hgrow
            go_wp2_with fail
            go_meet
            exact ⟨d, _, _, o8, z8, g8, k1.below B8 HPb.out, k2⟩
        case rest =>
        obtain ⟨d, ka', kc', O8, Z8, G8, S8, HD⟩ := hcut
        have HPr : Hid (∀ j, some P = some j → j < b2) := by intro j hj; have := HPb.out; injection hj with hj; omega
        clear hO hZ hG HS c4
        go_wp2_with fail
        refine (blanks_all P s V wc _ (by omega) S8.out).mono ?_
        rintro x w9 ⟨rfl, g9, s9⟩
        have S9 := Hid.out (p := Hid _) s9
        have O9 := Hid.out (p := Hid _) (O8.out.kept g9 HPr.out)
        have Z9 := gb_keeps Z8.out g9 HP.out
        have G9 := Hid.out (p := Hid _) (G8.out.trans g9)
        clear s9 g9 O8 Z8 G8 S8
        go_wp2_with fail
        refine (is_all P s V 58 w9 _ (by omega) S9.out).mono ?_
        rintro x w10 ⟨gb, rfl, g10, hcs⟩
        have HCS := Hid.out (p := Hid _) hcs
        have O10 := Hid.out (p := Hid _) (O9.out.kept g10 HPr.out)
        have Z10 := gb_keeps Z9.out g10 HP.out
        have G10 := Hid.out (p := Hid _) (G9.out.trans g10)
        clear hcs g10 O9 Z9 G9 S9
        go_upto_if 38 with (fail)
        go_cut [] from 21 to 53 (fun wx => Hid (OB wx b2 M (m + 1) (∃ q, key s.data.toList ks kk = .ok (d, q)) (ks ++ [d]) vs ka' kc' va vc) ∧ Hid (wx.heap[w.heap.size]? = some (.cells Raw.zero.arr 29 (0, 0))) ∧ Hid (w.grownBy wx (some P)) ∧ ∃ r, Hid (SAt P s V wx r) ∧ Hid (onE r (fun q => .ok (skip s.data.toList q)) = onE (kpos (key s.data.toList ks kk)) (colon s.data.toList)))
        case first =>
          rcases HCS.out with ⟨rfl, q, hr, hc, s10⟩ | ⟨rfl, s10, hno⟩
          · have HC := Hid.out (p := Hid _) (colon_yes hr hc)
            have S10 : Hid (SAt P s V w10 (.ok (q + 1))) := s10
            clear hr hc s10 HCS
            go_wp2_with fail
            go_meet
            exact ⟨O10.out, Z10.out, G10.out, _, S10.out, HC.out⟩
          · have HC := Hid.out (p := Hid _) (colon_no hno)
            have S10 := Hid.out (p := Hid _) s10
            clear hno s10 HCS
            go_wp2_with fail
            refine (wrong_all P s V w10 _ S10.out).mono ?_
            rintro x w11 ⟨rfl, g11, s11⟩
            have S11 := Hid.out (p := Hid _) s11
            have O11 := Hid.out (p := Hid _) (O10.out.kept g11 HPr.out)
            have Z11 := gb_keeps Z10.out g11 HP.out
            have G11 := Hid.out (p := Hid _) (G10.out.trans g11)
            clear s11 g11 O10 Z10 G10 S10
            go_wp2_with fail
            go_meet
            exact ⟨O11.out, Z11.out, G11.out, _, S11.out, HC.out⟩
        case rest =>
        obtain ⟨O12, Z12, G12, r, S12, HC⟩ := hcut
        clear HCS O10 Z10 G10
        go_wp2_with fail
        refine (blanks_all P s V wc r (by omega) S12.out).mono ?_
        rintro x w13 ⟨rfl, g13, s13⟩
        rw [HC.out] at s13
        have S13 : Hid (SAt P s V w13 (onE (kpos (key s.data.toList ks kk)) (colon s.data.toList))) := s13
        have O13 := Hid.out (p := Hid _) (O12.out.kept g13 HPr.out)
        have Z13 := gb_keeps Z12.out g13 HP.out
        have G13 := Hid.out (p := Hid _) (G12.out.trans g13)
        clear s13 g13 O12 Z12 G12 S12 HC
        go_upto_region 13 with (fail)
        go_cut [] from 21 to 53 (fun wx => ∃ (t : JV) (va' : Option Addr) (vc' : Nat), Hid (OB wx b2 M (m + 1) (∃ q, key s.data.toList ks kk = .ok (d, q)) (ks ++ [d]) (vs ++ [t]) ka' kc' va' vc') ∧ Hid (wx.heap[w.heap.size]? = some (.cells Raw.zero.arr 29 (0, 0))) ∧ Hid (w.grownBy wx (some P)) ∧ Hid (SAt P s V wx (vpos (onV (onE (kpos (key s.data.toList ks kk)) (colon s.data.toList)) val))) ∧ ∃ w', Hid (VAt P s V w' t (onV (onE (kpos (key s.data.toList ks kk)) (colon s.data.toList)) val)))
        case first =>
          generalize ks ++ [d] = ks' at *
          generalize onE (kpos (key s.data.toList ks kk)) (colon s.data.toList) = rc at *
          generalize (∃ q, key s.data.toList ks kk = .ok (d, q)) = okq at *
          have x7 : w13.cell? ⟨b2, 7, none⟩ = some (.slice va vs.length vc) := cell_of O13.out.Y 7
          have m7 := frozen_of O13.out.Y 7
          have hbw : b2 < w13.heap.size := O13.out.lt
          have SD : Hid (SAt P s V w13.drew rc) := S13.out.kept (gb_drew _ 1 none) (by simp)
          have ED : Hid (Env w13.drew P V) := (HE.out.kept G13.out).kept (gb_drew _ 1 _)
          go_wp2_with fail
          go_region_law
            ((first
              | (refine step_append_lies _ (by rfl) _ _ _ (by rfl) (b2 + 1) 29 i0 _ 8 112 Tryz.underlying27 HI.out HZ.out hz1 hz2 rfl (by omega) (.slice va vs.length vc) vs.length (rs.flatMap Raw.cells) (by rfl) (K2.out.alloc _)
                  ⟨wk.heap.size, 0, none⟩ 1 1 a.cells (by rfl) (by rfl) (World.news_of_block (cs := a.arr) (t := 29) (fr := (0, 0)) (heap_alloc_new wk _)) (by simp [Raw.cells, Value.oneCell'])
                  (by omega) (by unfold maxLen; omega) (by omega) (by simp; omega) (wk.heap.size + 1) (by simp) ?_; intro g cap w7 hown hgrow hat7 hlt7; have hne : some b2 ≠ (Value.slice va vs.length vc).ownBlock := row_ne K2.out; have Y7 := kid_far OK6.out.Y hgrow hne; clear x7 m7; have x7 : w7.cell? ⟨b2, 7, none⟩ = some (.slice va vs.length vc) := cell_of Y7.out 7; have m7 := frozen_of Y7.out 7)
              | (go_simp; go_at_call 30; refine (value_all P s V ((dp : Int) + 1) val w13.drew rc HV.out SD.out ED.out).mono ?_; rintro x wk ⟨a, t, rfl, hiv, g6, hat⟩; dsimp only [Raw.val]; obtain ⟨o6, gg6, z6, rs, k1, k2, k3, k4⟩ := obj_kid O13.out G13.out Z13.out HPb.out HP.out g6 hiv; have OK6 := Hid.out (p := Hid _) o6; have G6k := Hid.out (p := Hid _) gg6; have Z6k := Hid.out (p := Hid _) z6; have K1 := Hid.out (p := Hid _) k1; have K2 : Hid (wk.ownsRow (b2 + 1) 29 8 (.slice va vs.length vc) vs.length (rs.flatMap Raw.cells)) := k2; have K3 := Hid.out (p := Hid _) k3; have K4 := Hid.out (p := Hid _) k4; have HAt := Hid.out (p := Hid _) hat; have hb6 : b2 < wk.heap.size := o6.lt; clear o6 gg6 z6 k1 k2 k3 k4 hat g6 hiv x7 m7; have x7 : wk.cell? ⟨b2, 7, none⟩ = some (.slice va vs.length vc) := cell_of OK6.out.Y 7; have m7 := frozen_of OK6.out.Y 7)))
          all_goals
            have HAT : VAt P s V wk t (onV rc val) := HAt.out
            obtain ⟨o8, B8⟩ := OK6.out.kid K1.out K2.out K3.out K4.out hown hgrow hat7
            obtain ⟨g8, z8⟩ := obj_below B8 G6k.out Z6k.out hRb.out
            have s8 := (vpos_on HVO.out SD.out HAT).below B8 HPb.out
            clear hown hgrow
            go_wp2_with fail
            go_meet
            exact ⟨t, _, _, o8, z8, g8, s8, wk, HAT⟩
        case rest =>
        obtain ⟨t, va', vc', O14, Z14, G14, S14, w', HAT⟩ := hcut
        clear O13 Z13 G13 S13
        go_wp2_with fail
        refine (ends_all P s V 125 wc _ (by omega) S14.out).mono ?_
        rintro x w15 ⟨gb, rfl, g15, he⟩
        obtain ⟨hT, hF⟩ := OSt.next HVO.out hkk hks hvs hm hn HRes.out HD.out HAT.out he
        have HT := Hid.out (p := Hid _) hT
        have HFf := Hid.out (p := Hid _) hF
        have O15 := Hid.out (p := Hid _) (O14.out.kept g15 HPr.out)
        have Z15 := gb_keeps Z14.out g15 HP.out
        have G15 := Hid.out (p := Hid _) (G14.out.trans g15)
        clear hT hF he g15 O14 Z14 G14 S14 HAT
        cases gb
        · obtain ⟨hL9, hm9⟩ := HFf.out rfl
          have HL9 := Hid.out (p := Hid _) hL9
          have HM : Hid (lmeas s P w15 < lmeas s P wr) := by rw [Hid, lmeas_run HPs.out]; exact hm9
          clear HT HFf hL9 hm9
          generalize (∃ q, key s.data.toList ks kk = .ok (d, q)) = okq at *
          generalize ks ++ [d] = ks' at *
          generalize vs ++ [t] = vs' at *
          go_wp2_with fail
          go_roundw
          case rel => exact ⟨okq, m + 1, ks', vs', ka', kc', va', vc', O15.out, Z15.out, G15.out, HL9.out⟩
          case measure => exact HM.out
        · obtain ⟨q, hq, hp9⟩ := HT.out rfl
          have HF2 : Hid (object s.data.toList val k = .ok (objectOf (ks ++ [d]) (vs ++ [t]), q)) := by rw [Hid, HF.out, hq]; rfl
          have P9 := Hid.out (p := Hid _) hp9
          clear HT HFf hq hp9
          generalize (∃ q, key s.data.toList ks kk = .ok (d, q)) = okq at *
          generalize ks ++ [d] = ks' at *
          generalize vs ++ [t] = vs' at *
          obtain ⟨⟨z0, z1, z2, z3, z4, z5, z6, z7⟩, y0, y1, y2, y3, y4, y5, y6, y7⟩ := val_cells Z15.out
          obtain ⟨⟨x0, x1, x2, x3, x4, x5, x6, x7⟩, _⟩ := val_cells O15.out.Y
          go_wp2_with fail
          refine full_fin rfl Z15.out rfl G15.out HP.out (oraw ka' ks'.length kc' va' vs'.length vc') (objectOf ks' vs') (O15.out.isV.turn (Turn.mono _ (fun j hj _ => by have := HbR.out; omega))) _ ?_
          rw [HF2.out]
          exact ⟨rfl, P9.out⟩
      · have qy : ((y.2 : Int) == 0) = false := by rw [beq_eq_false_iff_ne]; omega
        have c4 := hp.c4
        have HP9 := Hid.out (p := Hid _) hp
        have HF2 : Hid (object s.data.toList val k = .error y) := by rw [Hid, HF.out, hres]; rfl
        obtain ⟨⟨z0, z1, z2, z3, z4, z5, z6, z7⟩, y0, y1, y2, y3, y4, y5, y6, y7⟩ := val_cells hZ.out
        obtain ⟨⟨x0, x1, x2, x3, x4, x5, x6, x7⟩, _⟩ := val_cells hO.out.Y
        clear hp hres hL hy0
        go_wp2_with fail
        refine full_fin rfl hZ.out rfl hG.out HP.out (oraw ka ks.length kc va vs.length vc) (objectOf ks vs) (hO.out.isV.turn (Turn.mono _ (fun j hj _ => by have := HbR.out; omega))) _ ?_
        rw [HF2.out]
        exact ⟨q, hq, HP9.out⟩
end Go.Proofs.YtehffmcfmdjknaaGreatDoor.Jdec
/- jdec's parser: value. -/
namespace Go.Proofs.YtehffmcfmdjknaaGreatDoor.Jdec
open Go.RowKit Go.Proofs.YtehffmcfmdjknaaGreatDoor.Strs
set_option linter.unusedVariables false
set_option linter.unusedSimpArgs false
set_option maxRecDepth 100000

set_option maxRecDepth 1000000 in
theorem way_zN : ∀ i : Fin 7, ∀ n : Fin 256, decide (zidx ((wayS i.val).data.toList.findIdx? (· == UInt8.ofNat n.val)) < 0) = decide (way (UInt8.ofNat n.val) ≠ i.val + 1) := by decide +kernel
theorem way_z (i : Nat) (hi : i < 7) (c : UInt8) : decide (zidx ((wayS i).data.toList.findIdx? (· == c)) < 0) = decide (way c ≠ i + 1) := by
  have := way_zN ⟨i, hi⟩ ⟨c.toNat, UInt8.toNat_lt c⟩
  simpa using this
theorem way_le (c : UInt8) : way c ≤ 7 := by unfold way; (repeat' split) <;> omega
theorem way_call (P : Nat) (s : ByteArray) (k : Nat) (V : Value) (dp d i : Nat) (c : UInt8) (W : World) (hs : s.size ≤ 2147483648) (hdp : dp ≤ 64) (hi : i < 7) (hc : s.data.toList[k]? = some c) (hw : way c = i + 1)
    (IH : ValC P s V ((dp : Int) + 1) (value s.data.toList d)) (h : Psr W P s k V 0 0) (E : Env W P V) :
    Calls Tryz.prog (wayF i) #[.pointer (some ⟨P, 0, none⟩), .int .i64 dp] W (VPost P s V (value s.data.toList (d + 1) k) W) := by
  have hk : k < s.size := by have := get_lt hc; simpa using this
  have hv : ∀ r, (match i + 1 with
      | 0 => .error (k, 3)
      | 1 => text s.data.toList k
      | 2 => number s.data.toList k
      | 3 => object s.data.toList (value s.data.toList d) k
      | 4 => list s.data.toList (value s.data.toList d) k
      | 5 => wordV s.data.toList [116, 114, 117, 101] (plain 2 true) k
      | 6 => wordV s.data.toList [102, 97, 108, 115, 101] (plain 2 false) k
      | _ => wordV s.data.toList [110, 117, 108, 108] (plain 1 false) k) = r → value s.data.toList (d + 1) k = r := by
    intro r hr
    rw [value, hc]
    simp only
    rw [hw]
    exact hr
  rcases (show i = 0 ∨ i = 1 ∨ i = 2 ∨ i = 3 ∨ i = 4 ∨ i = 5 ∨ i = 6 by omega) with rfl | rfl | rfl | rfl | rfl | rfl | rfl
  · rw [hv _ rfl]; exact text_any P s k V dp W (by omega) (by omega) h E.z
  · rw [hv _ rfl]; exact number_any P s k V dp W hs hk h E.m
  · rw [hv _ rfl]; exact object_any P s k V dp _ W hs hk hdp h E IH (value_fits _ d)
  · rw [hv _ rfl]; exact list_any P s k V dp _ W hs hk hdp h E IH (value_fits _ d)
  · rw [hv _ rfl]; exact yes_any P s k V dp W (by omega) (by omega) h
  · rw [hv _ rfl]; exact no_any P s k V dp W (by omega) (by omega) h
  · rw [hv _ rfl]; exact null_any P s k V dp W (by omega) (by omega) h

set_option maxHeartbeats 4000000 in
theorem value_end (P : Nat) (s : ByteArray) (k : Nat) (V : Value) (dp : Nat) (w : World) (hs : s.size ≤ 2147483648) (hk : s.size ≤ k) (hk2 : k ≤ s.size) (h : Psr w P s k V 0 0) :
    Calls Tryz.prog 30 #[.pointer (some ⟨P, 0, none⟩), .int .i64 dp] w (VPost P s V (.error (k, 2)) w) := by
  have HP : Hid (P < w.heap.size) := h.lt
  have hh : here s.data.toList k = (k, 2) := by unfold here; rw [if_pos (by simpa using hk)]
  have HH := Hid.out (p := Hid _) hh; clear hh
  obtain ⟨w1, hw1, P1, G1, Z1, B1, S1⟩ := res_new w P s k V 0 0 h
  clear h
  have c0 := P1.out.c0
  have c1 := P1.out.c1
  have c4 := P1.out.c4
  have q2 : decide ((k : Int) < (s.size : Int)) = false := by rw [decide_eq_false_iff_not]; omega
  have q3 : decide (k < s.size) = false := by rw [decide_eq_false_iff_not]; omega
  go_enter Tryz.func30, Tryz.ntmps30
  go_wp2_with fail
  go_quiet (fail)
  have P2 : Hid (Psr (w1.drewN nq) P s k V 0 0) := P1.out.kept (gb_drew _ _ none) (by simp)
  have G2 : Hid (w1.grownBy (w1.drewN nq) (some P)) := gb_drew _ _ _
  clear c0 c1 c4 hw1
  generalize w1.drewN nq = w2 at *
  go_wp2_with fail
  refine (wrong_any P s k V 0 0 w2 P2.out).mono ?_
  rw [HH.out]
  rintro x w4 ⟨rfl, h4, g4⟩
  have H4 : Hid (Psr w4 P s k V k 2) := h4
  have G4 := Hid.out (p := Hid _) (G2.out.trans g4)
  have Z4 := res_kept Z1.out G4.out HP.out
  have ZZ := Hid.out (p := Hid _) Z4
  obtain ⟨⟨z0, z1, z2, z3, z4, z5, z6, z7⟩, y0, y1, y2, y3, y4, y5, y6, y7⟩ := val_cells Z4
  clear g4 h4 Z4
  go_wp2_with fail
  refine bare_fin rfl ZZ.out rfl (G1.out.trans G4.out) HP.out 0 false false ⟨#[]⟩ 0 ⟨#[]⟩ _ ?_
  exact ⟨k, hk2, H4.out⟩

/-- A value from elsewhere is told on. -/
theorem pass_fin {F : Func} {p : Tmp} (hr : F.results = #[.cell p 29]) {tm : Array Value} {a : Raw} {P : Nat} {s : ByteArray} {V : Value} {w wc w2 : World}
    (hb : w2.heap[w.heap.size]? = some (.cells a.arr 29 (0, 0))) (hp : tm.getD p undef = .pointer (some ⟨w.heap.size, 0, none⟩)) (g : w.grownBy w2 (some P)) (hP : P < w.heap.size) (hc : w.heap.size + 1 ≤ wc.heap.size)
    (c : Raw) (t : JV) (hi : IsV w2 (fun j => wc.heap.size ≤ j) c t) (r : Except Er (JV × Nat)) (hv : VAt P s V w2 t r) :
    bodyPost Tryz.prog F (VPost P s V r w) Exit.ret { tmps := tm, defers := [] }
    ((((((((w2.setCell ⟨w.heap.size, 0, none⟩ (.int .i64 c.kind)).setCell ⟨w.heap.size, 1, none⟩ (.bool c.is)).setCell ⟨w.heap.size, 2, none⟩ (.bool c.neg)).setCell ⟨w.heap.size, 3, none⟩ (.string c.dig)).setCell ⟨w.heap.size, 4, none⟩ (.int .i64 c.exp)).setCell ⟨w.heap.size, 5, none⟩ (.string c.str)).setCell ⟨w.heap.size, 6, none⟩ (.slice c.ka c.kn c.kc)).setCell ⟨w.heap.size, 7, none⟩ (.slice c.va c.vn c.vc)) :=
  full_fin hr hb hp g hP c t (hi.turn (Turn.mono _ (fun j hj _ => Nat.le_trans hc hj))) r hv

set_option maxHeartbeats 8000000 in
theorem value_main (P : Nat) (s : ByteArray) (k : Nat) (V : Value) (dp d : Nat) (w : World) (hs : s.size ≤ 2147483648) (hdd : dp + d = 65) (hk : k < s.size) (h : Psr w P s k V 0 0) (E : Env w P V)
    (IH : ∀ d', d = d' + 1 → ValC P s V ((dp : Int) + 1) (value s.data.toList d')) :
    Calls Tryz.prog 30 #[.pointer (some ⟨P, 0, none⟩), .int .i64 dp] w (VPost P s V (value s.data.toList d k) w) := by
  have HP : Hid (P < w.heap.size) := h.lt
  have HIH : Hid (∀ d', d = d' + 1 → ValC P s V ((dp : Int) + 1) (value s.data.toList d')) := IH
  clear IH
  have hget := byte_get s k hk
  have HG := Hid.out (p := Hid _) hget
  obtain ⟨w1, hw1, P1, G1, Z1, B1, S1⟩ := res_new w P s k V 0 0 h
  have E1 : Hid (Env w1 P V) := E.kept G1.out
  clear h hget E
  have c0 := P1.out.c0
  have c1 := P1.out.c1
  have c4 := P1.out.c4
  have q2 : decide ((k : Int) < (s.size : Int)) = true := by rw [decide_eq_true_eq]; omega
  have q3 : decide (k < s.size) = true := by rw [decide_eq_true_eq]; omega
  go_enter Tryz.func30, Tryz.ntmps30
  go_wp2_with fail
  go_quiet (fail)
  have P2 : Hid (Psr (w1.drewN nq) P s k V 0 0) := P1.out.kept (gb_drew _ _ none) (by simp)
  have G2 : Hid (w1.grownBy (w1.drewN nq) (some P)) := gb_drew _ _ _
  have E2 : Hid (Env (w1.drewN nq) P V) := E1.out.kept (gb_drew _ _ _)
  clear c0 c1 c4 hw1
  generalize w1.drewN nq = w2 at *
  obtain ⟨vb, hW⟩ := E2.out.v
  obtain rfl := hW.form
  have c2 := P2.out.c2
  have HW := Hid.out (p := Hid _) hW
  clear hW
  go_wp2_with fail
  go_loopw [28] (fun p28 wr => ∃ i : Nat, i ≤ 7 ∧ p28 = .int .i64 i ∧ Hid (∀ j, j < i → way s[k] ≠ j + 1) ∧ Hid (Psr wr P s k (.slice (some ⟨vb, 0, none⟩) 7 7) 0 0) ∧ Hid (w1.grownBy wr (some P)) ∧ Hid (Env wr P (.slice (some ⟨vb, 0, none⟩) 7 7)) ∧ Hid (∀ i, i < 7 → wr.cell? ⟨vb, i * 2, none⟩ = some (.string (wayS i)) ∧ wr.cell? ⟨vb, i * 2 + 1, none⟩ = some (.func (.func (wayF i)) #[] #[])) ∧ Hid (vb < wr.heap.size)) (fun p28 _ => 7 - (intOf p28).toNat)
  case atStart => exact ⟨0, Nat.zero_le _, rfl, fun j hj => by omega, P2.out, G2.out, E2.out, HW.out.at_, HW.out.lt⟩
  case round =>
    obtain ⟨i, hi, rfl, hno, hP, hG, hE, hA, hlt⟩ := hrel
    have c0 := hP.out.c0
    have c1 := hP.out.c1
    have hPl : P < wr.heap.size := hP.out.lt
    by_cases h7 : i < 7
    · obtain ⟨x0, x1⟩ := hA.out i h7
      have hz := way_z i h7 s[k]
      have HCl : ∀ (d' : Nat) (W : World), ValC P s (.slice (some ⟨vb, 0, none⟩) 7 7) ((dp : Int) + 1) (value s.data.toList d') → Psr W P s k (.slice (some ⟨vb, 0, none⟩) 7 7) 0 0 → Env W P (.slice (some ⟨vb, 0, none⟩) 7 7) → dp ≤ 64 → way s[k] = i + 1 →
          Calls Tryz.prog (wayF i) #[.pointer (some ⟨P, 0, none⟩), .int .i64 dp] W (VPost P s (.slice (some ⟨vb, 0, none⟩) 7 7) (value s.data.toList (d' + 1) k) W) := fun d' W IH h E hdp hw => way_call P s k (.slice (some ⟨vb, 0, none⟩) 7 7) dp d' i s[k] W hs hdp h7 HG.out hw IH h E
      have HC := Hid.out (p := Hid _) HCl; clear HCl
      generalize hf : wayF i = f at *
      have HFF := Hid.out (p := Hid _) hf; clear hf
      generalize wayS i = fs at *
      obtain ⟨z, hzz⟩ : ∃ z, z = zidx (fs.data.toList.findIdx? (· == s[k])) := ⟨_, rfl⟩
      rw [← hzz] at hz
      have HHZ : Hid (decide (z < 0) = decide (way s[k] ≠ i + 1)) := hz
      clear hz
      have HZ := Hid.out (p := Hid _) hzz; clear hzz
      have hvl : vb < wr.heap.size := hlt.out
      have hix : ∀ n, Calls Tryz.prog 51 #[.string fs, .int .u8 s[k].toNat] ((wr.alloc (.cells #[.string fs, .func (.func f) #[] #[]] 87)).drewN n) fun e w'' => e = .returned (.int .i64 z) ∧ ∃ m, w'' = (wr.alloc (.cells #[.string fs, .func (.func f) #[] #[]] 87)).drewN m := fun n =>
        Calls.quiet_of_same ((indexByte_any fs s[k].toNat ((wr.alloc (.cells #[.string fs, .func (.func f) #[] #[]] 87)).drewN n) (UInt8.toNat_lt _)).mono fun e w' h => ⟨by rw [h.1, HZ.out]; simp, h.2.symm⟩)
      go_wp2_with fail
      go_quiet ((go_at_call 51; exact hix _))
      obtain ⟨w3, hw3⟩ : ∃ w3, (wr.alloc (.cells #[.string fs, .func (.func f) #[] #[]] 87)).drewN nq = w3 := ⟨_, rfl⟩
      have g3 : wr.grownBy w3 (some P) := by rw [← hw3]; exact (World.grownBy_alloc _ _ _).trans (gb_drew _ _ _)
      have g3n : wr.grownBy w3 none := by rw [← hw3]; exact (World.grownBy_alloc _ _ _).trans (gb_drew _ _ _)
      have P3 : Hid (Psr w3 P s k (.slice (some ⟨vb, 0, none⟩) 7 7) 0 0) := hP.out.kept g3n (by simp)
      have G3 : Hid (w1.grownBy w3 (some P)) := hG.out.trans g3
      have E3 : Hid (Env w3 P (.slice (some ⟨vb, 0, none⟩) 7 7)) := hE.out.kept g3
      have hvb : w3.heap[vb]? = wr.heap[vb]? := g3n.block vb hvl (by simp)
      have A3 : Hid (∀ i, i < 7 → w3.cell? ⟨vb, i * 2, none⟩ = some (.string (wayS i)) ∧ w3.cell? ⟨vb, i * 2 + 1, none⟩ = some (.func (.func (wayF i)) #[] #[])) := fun i hi => ⟨(World.cell?_of_block hvb).trans (hA.out i hi).1, (World.cell?_of_block hvb).trans (hA.out i hi).2⟩
      have L3 : Hid (vb < w3.heap.size) := Nat.lt_of_lt_of_le hvl g3.size
      have F3 : w3.cell? ⟨wr.heap.size, 1, none⟩ = some (.func (.func f) #[] #[]) := by
        rw [← hw3]
        exact cell_of (heap_alloc_new wr (.cells #[.string fs, .func (.func f) #[] #[]] 87)) 1
      rw [hw3]
      clear hw3 g3 g3n hvb hix c0 c1 hA hE hG hP hlt x0 x1
      by_cases hw : way s[k] = i + 1
      · have hz2 : decide (z < 0) = false := by rw [HHZ.out, decide_eq_false_iff_not]; exact fun h => h hw
        have hz3 : 0 ≤ z := by rw [decide_eq_false_iff_not] at hz2; omega
        have c1 := P3.out.c1
        by_cases hd : d = 0
        · subst hd
          have q64 : decide ((64 : Int) < (dp : Int)) = true := by rw [decide_eq_true_eq]; omega
          have q65 : decide (64 < dp) = true := by rw [decide_eq_true_eq]; omega
          have HF : Hid (value s.data.toList 0 k = .error (k, 5)) := by rw [Hid, value, HG.out]; simp only; rw [hw, if_neg (by omega)]
          clear hw
          go_wp2_with fail
          refine (fail_any P s k _ 0 0 k 5 w3 P3.out).mono ?_
          rintro x w4 ⟨rfl, h4, g4⟩
          have H4 : Hid (Psr w4 P s k (.slice (some ⟨vb, 0, none⟩) 7 7) k 5) := h4
          have G4 := Hid.out (p := Hid _) (G3.out.trans g4)
          have ZZ := Hid.out (p := Hid _) (res_kept Z1.out G4.out HP.out)
          obtain ⟨⟨z0, z1, z2, z3, z4, z5, z6, z7⟩, y0, y1, y2, y3, y4, y5, y6, y7⟩ := val_cells ZZ.out
          clear g4 h4
          go_wp2_with fail
          refine bare_fin rfl ZZ.out rfl (G1.out.trans G4.out) HP.out 0 false false ⟨#[]⟩ 0 ⟨#[]⟩ _ ?_
          rw [HF.out]
          exact ⟨k, by omega, H4.out⟩
        · obtain ⟨d', rfl⟩ : ∃ d', d = d' + 1 := ⟨d - 1, by omega⟩
          have q64 : decide ((64 : Int) < (dp : Int)) = false := by rw [decide_eq_false_iff_not]; omega
          have q65 : decide (64 < dp) = false := by rw [decide_eq_false_iff_not]; omega
          have hcall := HC.out d' w3 (HIH.out d' rfl) P3.out E3.out (by omega) hw
          have HCA := Hid.out (p := Hid _) hcall
          have hff := HFF.out
          have h7c : i = 0 ∨ i = 1 ∨ i = 2 ∨ i = 3 ∨ i = 4 ∨ i = 5 ∨ i = 6 := by omega
          clear hw hcall hd HC HFF
          rcases h7c with rfl | rfl | rfl | rfl | rfl | rfl | rfl
          all_goals
            simp only [wayF] at hff
            subst hff
            go_wp2_with fail
            refine (Calls.mono HCA.out ?_)
            rintro x w4 ⟨a, t, rfl, hiv, g4, hat⟩
            dsimp only [Raw.val]
            have G4 := Hid.out (p := Hid _) (G3.out.trans g4)
            have ZZ := Hid.out (p := Hid _) (res_kept Z1.out G4.out HP.out)
            obtain ⟨⟨z0, z1, z2, z3, z4, z5, z6, z7⟩, y0, y1, y2, y3, y4, y5, y6, y7⟩ := val_cells ZZ.out
            have HIV := Hid.out (p := Hid _) hiv
            have HAT : Hid (VAt P s (.slice (some ⟨vb, 0, none⟩) 7 7) w4 t (value s.data.toList (d' + 1) k)) := hat
            have HSZ : Hid (w.heap.size + 1 ≤ w3.heap.size) := by have := G3.out.size; have := S1.out; rw [Hid]; omega
            clear g4 hiv hat
            go_wp2_with fail
            exact pass_fin rfl ZZ.out rfl (G1.out.trans G4.out) HP.out HSZ.out a t HIV.out _ HAT.out
      · have hz2 : decide (z < 0) = true := by rw [HHZ.out, decide_eq_true_eq]; exact hw
        have hz3 : z < 0 := by rw [decide_eq_true_eq] at hz2; exact hz2
        have HN : Hid (∀ j, j < i + 1 → way s[k] ≠ j + 1) := by
          intro j hj
          by_cases e : j = i
          · subst e; exact hw
          · exact hno.out j (by omega)
        clear hw
        go_wp2_with fail
        go_roundw
        case rel => exact ⟨i + 1, by omega, by go_num, HN.out, P3.out, G3.out, E3.out, A3.out, L3.out⟩
        case measure => simp [intOf]; omega
    · have h0 : way s[k] = 0 := by
        have h1 := way_le s[k]
        rcases Nat.eq_zero_or_pos (way s[k]) with e | e
        · exact e
        · exact absurd (by omega) (hno.out (way s[k] - 1) (by omega))
      have HF : Hid (value s.data.toList d k = .error (k, 3)) := by
        cases d with
        | zero => rw [Hid, value, HG.out]; simp only; rw [if_pos h0]
        | succ d => rw [Hid, value, HG.out]; simp only; rw [h0]; rfl
      have hh : here s.data.toList k = (k, 3) := by unfold here; rw [if_neg (by simp; omega)]
      have HH := Hid.out (p := Hid _) hh
      clear h0 hh
      go_wp2_with fail
      refine (wrong_any P s k _ 0 0 wr hP.out).mono ?_
      rw [HH.out]
      rintro x w4 ⟨rfl, h4, g4⟩
      have H4 : Hid (Psr w4 P s k (.slice (some ⟨vb, 0, none⟩) 7 7) k 3) := h4
      have G4 := Hid.out (p := Hid _) (hG.out.trans g4)
      have ZZ := Hid.out (p := Hid _) (res_kept Z1.out G4.out HP.out)
      obtain ⟨⟨z0, z1, z2, z3, z4, z5, z6, z7⟩, y0, y1, y2, y3, y4, y5, y6, y7⟩ := val_cells ZZ.out
      clear g4 h4
      go_wp2_with fail
      refine bare_fin rfl ZZ.out rfl (G1.out.trans G4.out) HP.out 0 false false ⟨#[]⟩ 0 ⟨#[]⟩ _ ?_
      rw [HF.out]
      exact ⟨k, by omega, H4.out⟩

/-- A value is read as the plain function says, so deep as it may be. -/
theorem value_any (P : Nat) (s : ByteArray) (V : Value) (hs : s.size ≤ 2147483648) : ∀ (d dp : Nat), dp + d = 65 → ValC P s V dp (value s.data.toList d)
  | d, dp, hdd, k, w, hk, h, E => by
    by_cases hlt : k < s.size
    · refine value_main P s k V dp d w hs hdd hlt h E ?_
      intro d' hd
      have := value_any P s V hs d' (dp + 1) (by omega)
      rwa [Int.natCast_add] at this
    · have hv : value s.data.toList d k = .error (k, 2) := by
        have hn : s.data.toList[k]? = none := List.getElem?_eq_none (by simp; omega)
        cases d with
        | zero => rw [value, hn]
        | succ d => rw [value, hn]
      rw [hv]
      exact value_end P s k V dp w hs (by omega) hk h
end Go.Proofs.YtehffmcfmdjknaaGreatDoor.Jdec
