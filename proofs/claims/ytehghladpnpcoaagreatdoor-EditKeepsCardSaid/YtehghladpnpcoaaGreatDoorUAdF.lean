/- addr.ident: is a text one name, and nothing else? -/
import Derived.Test.YtehghladpnpcoaaGreatDoorUAllA
import Derived.Test.YtehghladpnpcoaaGreatDoorULawA
import Derived.Test.YtehghladpnpcoaaGreatDoorUJdecU
import Derived.Test.YtehghladpnpcoaaGreatDoorUJenF
import Derived.Deep.RegionHeld3
set_option linter.unusedVariables false
set_option linter.unusedSimpArgs false
set_option maxRecDepth 100000
set_option maxHeartbeats 8000000
namespace Go.Proofs.YtehghladpnpcoaaGreatDoor.Addr
open Go.RowKit Go.Shelf Utf Strs Lex
attribute [local go_sem] Oper.semAt_some
def oneTok (n : Nat) (x : Tok) : Bool := x.1 == 1 && x.2.1.length == n
def identB (l : List UInt8) : Bool := match (toksAt l 0).1 with
 | [] => false
 | x :: _ => oneTok l.length x
theorem tabs_kept {w W W' : World} (T : Tabs w) (t : Tabs W) (h : ∀ k, k < w.heap.size -> W'.heap[k]? = W.heap[k]?) : Tabs W' :=
 ⟨t.z.kept (h _ T.z.lt), t.s.kept (h _ T.s.lt), t.m.kept (h _ T.m.lt), t.d.kept (h _ T.d.lt)⟩
theorem cells_grown {w w' : World} {k : Nat} {cs : Array Value} {T : TypeId} {fr : Nat × Nat} {row : Option Nat} (h : w.heap[k]? = some (.cells cs T fr)) (hg : w.grownBy w' row) (hr : ∀ r, row = some r -> ∃ o : Obj, w.heap[r]? = some o /\ o.isCells = false) : w'.heap[k]? = some (.cells cs T fr) :=
 (hg.block k (heap_lt h) (fun e => by obtain ⟨o, h1, h2⟩ := hr k e.symm; rw [h] at h1; cases h1; cases h2)).trans h
theorem iter_some (b : Nat) : ∀ w, Sem.run Tryz.prog (binOp BinOp.neq 208 (.func (.func 175) #[] #[.pointer (some ⟨b, 0, none⟩)]) .nilFunc) w = .ok (.bool true) w := fun _ => by kernel_rfl
theorem ident_ret (w W : World) (D : Nat) (s : ByteArray) (tm : Array Value) (r : Bool) (hv : W.heap[w.heap.size + 1]? = some (.cells #[.bool r] 4 (0, 0))) (hr : r = identB s.data.toList) (hB : Below w.heap.size w W) (hD : w.heap.size <= D) (hK : W.heap[D]? = some (.deferred (some [])))
  (h2 : tm[2]? = some (.pointer (some ⟨w.heap.size + 1, 0, none⟩))) :
  bodyPostM Fence.wide 10 Tryz.prog Tryz.f119 (fun e w' => e = .returned (.bool (identB s.data.toList)) /\ Below w.heap.size w w') Exit.ret
   { tmps := tm, defers := [{ target := .collected D, args := #[] }] } W := by
 have hg := grownBy_putObj' W D (.deferred none);have hne : W.heap[w.heap.size + 1]? = some (.cells #[.bool r] 4 (0, 0)) := hv;have hv' : (W.putObj D (.deferred none)).heap[w.heap.size + 1]? = some (.cells #[.bool r] 4 (0, 0)) := cells_grown hv hg (fun k e => by cases e; exact ⟨_, hK, rfl⟩);have hc := cell_of hv' 0;refine ⟨by simp, .inl ⟨_, _, rfl, run_takeDeferred hK, ?_⟩⟩;refine ⟨.bool r, ?_, by rw [hr], hB.grown hg hB.size (fun k e => by cases e; exact hD)⟩;simp [results, Tryz.results119, go_sem, h2, hc]
def TokAt (w : World) (s : ByteArray) (b0 : Nat) (x : Tok) (a : Act) (W : World) : Prop :=
 ∃ (b : Nat) (u4 u5 u6 u7 u8 u9 u10 u11 u12 u13 u14 u15 u16 u17 : Value), a = { tmps := #[.string s, .pointer (some ⟨w.heap.size, 0, none⟩), .pointer (some ⟨w.heap.size + 1, 0, none⟩), .pointer (some ⟨b, 0, none⟩), u4, u5, u6, u7, u8, u9, u10, u11, u12, u13, u14, u15, u16, u17], defers := [] } ∧
  b0 <= b /\ W.heap[b]? = some (.cells #[.int .i64 x.1, .string ⟨x.2.1.toArray⟩, .int .i64 x.2.2] 182 (0, 0))
theorem ident_new (w : World) (s : ByteArray) : ∃ w1, (w.alloc (.cells #[.string s] 9)).alloc (.cells #[.bool false] 4) = w1 /\ Hid (w1.heap[w.heap.size]? = some (.cells #[.string s] 9 (0, 0))) /\ Hid (w1.heap[w.heap.size + 1]? = some (.cells #[.bool false] 4 (0, 0))) /\ Hid (Below w.heap.size w w1) /\ Hid (w1.heap.size = w.heap.size + 2) := by
 refine ⟨_, rfl, heap_alloc_old (heap_alloc_new _ _), ?_, ((Below.refl _ _).alloc (Nat.le_refl _) _).alloc (by simp) _, by simp [Hid]⟩;have := heap_alloc_new (w.alloc (.cells #[.string s] 9)) (.cells #[.bool false] 4 (0, 0));unfold Hid
 simpa using this
theorem ident_any (s : ByteArray) (w : World) (hs : s.size <= 1048576) (T : Tabs w) : Calls Tryz.prog 119 #[.string s] w fun e w' => e = .returned (.bool (identB s.data.toList)) /\ Below w.heap.size w w' := by
 have HT := hdQ T; clear T;have hsl : s.data.toList.length = s.size := by simp
 have HSL := hdQ hsl; clear hsl;obtain ⟨w1, hw1, S1, R1, B1, Z1⟩ := ident_new w s;have T1 : Hid (Tabs w1) := HT.out.stays B1.out;obtain ⟨bs, hbs⟩ : ∃ bs, w1.heap.size = bs := ⟨_, rfl⟩;have hal := Lex.all_any s w1;rw [hbs] at hal;have HAL := hdQ hal;have HBS : Hid (bs = w.heap.size + 2) := by rw [<-hbs]; exact Z1.out
 have HBW : Hid (w1.heap.size = bs) := hbs;clear hal hbs;have c0 := cell_of S1.out 0;rw [<-callsIn_wide (n := 10)];refine callsIn_of_wp_marks Tryz.func119 rfl trivial ?_ rfl;simp only [Tryz.ntmps119, List.size_toArray, List.length_cons, List.length_nil, Nat.reduceAdd, Nat.reduceSub, Array.replicate_succ, Array.replicate_zero, List.push_toArray, List.append_toArray, List.nil_append, List.cons_append]
 refine wpIn_wide.2 ?_;go_wp2_with fail
 refine (Calls.mono HAL.out ?_);rintro e w2 ⟨rfl, hb2x, hbox⟩;have hb2 : Below w1.heap.size w1 w2 := by rw [HBW.out]; exact hb2x
 clear hb2x;have X2 : Hid (w2.heap[bs]? = some (.cells #[.string s] 9 (0, 0))) := hbox;have S2 : Hid (w2.heap[w.heap.size]? = some (.cells #[.string s] 9 (0, 0))) := (hb2.block _ (heap_lt S1.out)).trans S1.out;have R2 : Hid (w2.heap[w.heap.size + 1]? = some (.cells #[.bool false] 4 (0, 0))) := (hb2.block _ (heap_lt R1.out)).trans R1.out;have T2 : Hid (Tabs w2) := T1.out.stays hb2;have B2 : Hid (Below w.heap.size w w2) := B1.out.trans (hb2.mono B1.out.size);clear hb2 hbox hw1 S1 R1 B1 Z1 T1 HAL c0;have hbl2 := heap_lt X2.out;have hsq := iter_some bs;go_wp2_with fail
 refine (wpIn_wide (n := 10)).1 ?_;refine wpIn_rangeFunc_ownH (α := Tok) (w := w2) rfl (by decide) (gf := 175) (lb := #[.pointer (some ⟨bs, 0, none⟩)]) rfl trivial (enters_of Tryz.func175 (by kernel_rfl) rfl)
  (toks_stops 9 bs s (by omega) (by decide) w2 X2.out T2.out) (fun h k => KpL.t h k)
  (fun W l o o' hl ho hc _ => ⟨World.putObj_heap_other (fun e => by omega), fun t => tabs_kept T2.out t (fun k hk => World.putObj_heap_other (fun e => by omega))⟩) (Below.refl _ _) (fun _ => rfl)
  (fun pre W => pre = [] /\ Hid (W.heap[w.heap.size]? = some (.cells #[.string s] 9 (0, 0))) /\ Hid (W.heap[w.heap.size + 1]? = some (.cells #[.bool false] 4 (0, 0))) /\ Hid (Below w.heap.size w W) /\ Hid (w2.heap.size <= W.heap.size) /\ Hid (W.heap[bs]? = some (.cells #[.string s] 9 (0, 0))))
  (fun c pre W => c = .ret /\ ∃ x : Tok, pre = [x] /\ Hid (W.heap[w.heap.size + 1]? = some (.cells #[.bool (oneTok s.size x)] 4 (0, 0))) /\ Hid (Below w.heap.size w W))
  (fun s A B row hs hg hr => ⟨hs.1, cells_grown hs.2.1.out hg (fun r e => (hr r e).2), cells_grown hs.2.2.1.out hg (fun r e => (hr r e).2), hs.2.2.2.1.out.grown hg hs.2.2.2.1.out.size (fun r e => by have := (hr r e).1; have := B2.out.size; omega), Nat.le_trans hs.2.2.2.2.1.out hg.size, cells_grown hs.2.2.2.2.2.out hg (fun r e => (hr r e).2)⟩)
  (fun c s A B row hs hg hr => ⟨hs.1, by obtain ⟨_, x, h1, h3, h4⟩ := hs; exact ⟨x, h1, cells_grown h3.out hg (fun r e => (hr r e).2), h4.out.grown hg h4.out.size (fun r e => by have := (hr r e).1; have := B2.out.size; omega)⟩⟩)
  ⟨rfl, S2.out, R2.out, B2.out, Nat.le_refl _, X2.out⟩
  (TokAt w s w2.heap.size)
  (fun x a' s A B row hs hg hr => by
   obtain ⟨b, u4, u5, u6, u7, u8, u9, u10, u11, u12, u13, u14, u15, u16, u17, h1, h2, h3⟩ := hs;exact ⟨b, u4, u5, u6, u7, u8, u9, u10, u11, u12, u13, u14, u15, u16, u17, h1, h2, cells_grown h3 hg (fun r e => (hr r e).2)⟩)
  ?assign ?body ?done ?stop
 case assign =>
  rintro l pre x W K ⟨h1, h2, h3, h4, h5, h6⟩ hK;have HK := hdQ hK; clear hK
  gi_wp2_with fail
  have HO : ∀ k, k < W.heap.size -> (W.alloc (.cells #[.int .i64 x.1, .string ⟨x.2.1.toArray⟩, .int .i64 x.2.2] 182)).heap[k]? = W.heap[k]? := fun k hk => ((Below.refl W.heap.size W).alloc (Nat.le_refl _) _).block k hk;refine HK.out _ _ ((KeepsOthers.alloc W _).from _) ⟨HO _ (by have := h5.out; omega), fun t => tabs_kept T2.out t (fun k hk => HO k (by have := h5.out; omega))⟩ ⟨h1, heap_alloc_old h2.out, heap_alloc_old h3.out, h4.out.alloc h4.out.size _, by have := h5.out; simp [Hid]; omega, heap_alloc_old h6.out⟩ ?_;exact ⟨W.heap.size, _, _, _, _, _, _, _, _, _, _, _, _, _, _, rfl, h5.out, heap_alloc_new _ _⟩
 case body =>
  rintro l pre x a' W hwl hrec ⟨rfl, h2, h3, h4, h5, h6⟩ ⟨b, u4, u5, u6, u7, u8, u9, u10, u11, u12, u13, u14, u15, u16, u17, rfl, hb0, hb⟩ hlen;have cs := cell_of h2.out 0;have cr := cell_of h3.out 0;have fr := frozen_of h3.out 0;have cb0 := cell_of hb 0;have cb1 := cell_of hb 1;have cb2 := cell_of hb 2;have HSET : ∀ r : Bool, Hid ((W.setCell ⟨w.heap.size + 1, 0, none⟩ (.bool r)).heap[w.heap.size + 1]? = some (.cells #[.bool r] 4 (0, 0))) := fun r => by rw [Hid, heap_set_same h3.out]; rfl
  clear hrec hlen;have HFIN : ∀ r : Bool, oneTok s.size x = r -> Hid (Hid (KeepsFrom w2.heap.size W (W.setCell ⟨w.heap.size + 1, 0, none⟩ (.bool r))) /\ Hid ((W.setCell ⟨w.heap.size + 1, 0, none⟩ (.bool r)).heap[w.heap.size + 1]? = some (.cells #[.bool (oneTok s.size x)] 4 (0, 0))) /\ Hid (Below w.heap.size w (W.setCell ⟨w.heap.size + 1, 0, none⟩ (.bool r)))) := fun r e => ⟨(KeepsOthers.setCell _ _ _).from _, by rw [e]; exact (HSET r).out, h4.out.setCell (p := ⟨w.heap.size + 1, 0, none⟩) (by show w.heap.size <= w.heap.size + 1; omega) _⟩;clear HSET;by_cases hk : x.1 = 1
  ·have q1 : ((x.1 : Int) == 1) = true := by rw [beq_iff_eq]; omega
   by_cases hn : x.2.1.length = s.size
   ·have q2 : ((x.2.1.length : Int) == (s.size : Int)) = true := by rw [beq_iff_eq]; omega
    have HR := HFIN true (by simp [oneTok, hk, hn]);clear hk hn HFIN
    gi_wp2_with fail
    exact ⟨HR.out.1.out, rfl, x, rfl, HR.out.2.1, HR.out.2.2⟩
   ·have q2 : ((x.2.1.length : Int) == (s.size : Int)) = false := by rw [bnQ]; omega
    have HR := HFIN false (by simp [oneTok, hn]);clear hk hn HFIN
    gi_wp2_with fail
    exact ⟨HR.out.1.out, rfl, x, rfl, HR.out.2.1, HR.out.2.2⟩
  ·have q1 : ((x.1 : Int) == 1) = false := by rw [bnQ]; omega
   have HR := HFIN false (by simp [oneTok, hk]);clear hk HFIN
   gi_wp2_with fail
   exact ⟨HR.out.1.out, rfl, x, rfl, HR.out.2.1, HR.out.2.2⟩
 case done =>
  rintro D xs W hD rfl ⟨h1, h2, h3, h4, h5, h6⟩ hKD;have HID : Hid (false = identB s.data.toList) := by rw [Hid, identB, h1]
  have cr := cell_of h3.out 0;have fr := frozen_of h3.out 0;have HK := hdQ hKD;have HSET : Hid ((W.setCell ⟨w.heap.size + 1, 0, none⟩ (.bool false)).heap[w.heap.size + 1]? = some (.cells #[.bool false] 4 (0, 0))) := by rw [Hid, heap_set_same h3.out]; rfl
  have HKD : Hid ((W.setCell ⟨w.heap.size + 1, 0, none⟩ (.bool false)).heap[D]? = some (.deferred (some []))) := (Below.heap_setCell _ _ _ _ (by show D ≠ w.heap.size + 1; have := B2.out.size; have := heap_lt R2.out; omega)).trans HK.out;clear hKD h1;go_wp2_with fail
  exact ident_ret w _ D s _ _ HSET.out HID.out (h4.out.setCell (p := ⟨w.heap.size + 1, 0, none⟩) (by show w.heap.size <= w.heap.size + 1; omega) _) (by have := B2.out.size; omega) HKD.out rfl
 case stop =>
  rintro D c pre W hD hpre ⟨rfl, x, rfl, h3, h4⟩ hKD;have HID : Hid (oneTok s.size x = identB s.data.toList) := by
   obtain ⟨t, ht⟩ := hpre;rw [Hid, identB, <-ht, HSL.out]; rfl
  have HK := hdQ hKD;clear hKD hpre;refine wpIn_wide.2 ?_;go_wp2_with fail
  exact ident_ret w W D s _ _ h3.out HID.out h4.out (by have := B2.out.size; omega) HK.out rfl
theorem first_len (l : List UInt8) : ∀ (n p : Nat), l.length - p <= n -> p <= l.length -> ∀ x t, (toksAt l p).1 = x :: t -> x.2.1.length + p <= l.length := by
 intro n
 induction n with
 | zero =>
  intro p h1 h2 x t h
  obtain rfl : p = l.length := by omega
  rw [toksAt_end] at h;cases h
 | succ n ih =>
  intro p h1 h2 x t h
  by_cases hp : p = l.length
  ·subst hp; rw [toksAt_end] at h; cases h
  have hlt : p < l.length := by omega
  cases hb : Lex.blank l[p] with
  | true =>
   rw [toksAt_blank l p hlt hb] at h;have := ih (p + 1) (by omega) (by omega) x t h;omega
  | false =>
   by_cases he : (next (l.drop p)).2.2.2 = 0
   ·rw [toksAt_tok l p hlt hb he] at h;injection h with h _
    subst h;simp only [List.length_take, List.length_drop]
    omega
   ·rw [toksAt_bad l p hlt hb he] at h; cases h
theorem ident_toks (l : List UInt8) (h : identB l = true) : toksAt l 0 = ([(1, l, 0)], 0, 0) := by
 unfold identB at h;by_cases h0 : l.length = 0
 ·have := toksAt_end l;rw [h0] at this;rw [this] at h; cases h
 have hlt : 0 < l.length := by omega
 cases hb : Lex.blank l[0] with
 | true =>
  rw [toksAt_blank l 0 hlt hb] at h
  cases hx : (toksAt l (0 + 1)).1 with
  | nil => rw [hx] at h; cases h
  | cons x t =>
   have := first_len l (l.length) (0 + 1) (by omega) (by omega) x t hx;rw [hx] at h;simp only [oneTok, Bool.and_eq_true, beq_iff_eq] at h
   omega
 | false =>
  by_cases he : (next (l.drop 0)).2.2.2 = 0
  ·have ht := toksAt_tok l 0 hlt hb he;have hf := (next_fits (l.drop 0) (List.ne_nil_of_length_pos (by rw [List.length_drop]; omega))).size he;rw [ht] at h ⊢;simp only [oneTok, Bool.and_eq_true, beq_iff_eq, List.drop_zero, List.length_take] at h hf ⊢
   have hs : (next l).2.1 = l.length := by omega
   rw [hs, h.1, Nat.zero_add, toksAt_end, List.take_length]
  ·rw [toksAt_bad l 0 hlt hb he] at h; cases h
theorem ident_not {l : List UInt8} (h : identB l = false) (he : (toksAt l 0).2.2 = 0) (x : Tok) (hx : (toksAt l 0).1 = [x]) (h1 : x.1 = 1) : x.2.1 ≠ l := by
 intro e
 unfold identB at h;rw [hx] at h;simp [oneTok, h1, e] at h
theorem RParse.to {l : List UInt8} {w w' : World} {e : Ending} (h : RParse l w e w') : ∃ v, e = .returned (.agg #[v, .int .i64 (whereAt (toksAt l 0)), .int .i64 (toksAt l 0).2.2]) /\ Hid (Row w' w.heap.size v (toksAt l 0).1) /\ Hid (Below w.heap.size w w') := h
theorem told_put (w : World) (a b c : Value) : ∃ w1, w.alloc (.cells #[a, b, c] 238) = w1 /\ Hid (w1.heap[w.heap.size]? = some (.cells #[a, b, c] 238 (0, 0))) /\ Hid (Below w.heap.size w w1) :=
 ⟨_, rfl, heap_alloc_new _ _, (Below.refl _ _).alloc (Nat.le_refl _) _⟩
theorem row_one {w : World} {B c : Nat} {a : Option Addr} {x : Tok} (h : Row w B (.slice a 1 c) [x]) : ∃ g, a = some ⟨g, 0, none⟩ /\ w.cell? ⟨g, 0, none⟩ = some (.int .i64 x.1) /\ w.cell? ⟨g, 1, none⟩ = some (.string ⟨x.2.1.toArray⟩) := by
 have h' : w.ownsRow B 182 3 (.slice a 1 c) 1 (toksCells [x]) := h;rcases h'.2 with ⟨_, h0⟩ | ⟨g, cap, cur, hv, _⟩
 ·omega
 ·injection hv with e1 _ _
  subst e1;have h2 := h'.cellAt 0 (by omega);have h3 := h'.cellAt 1 (by omega);exact ⟨g, rfl, h2, h3⟩
theorem alone_any (s : ByteArray) (w : World) (hs : s.size <= 1000000) : Calls Tryz.prog 148 #[.string s, .int .i64 1] w fun e w' => e = .returned (.bool (identB s.data.toList)) /\ Below w.heap.size w w' := by
 have hp := rparse_any s w (by omega);have HP := hdQ hp;have q0 : decide ((1048576 : Int) < (s.size : Int)) = false := by rw [dfQ]; omega
 have q00 : decide (1048576 < s.size) = false := by rw [dfQ]; omega
 clear hp;go_enter Tryz.func148, Tryz.ntmps148
 go_wp2_with fail
 refine (Calls.mono HP.out ?_);rintro z w2 hz;obtain ⟨v, rfl, hr, B2⟩ := RParse.to hz;obtain ⟨va, vc, rfl⟩ := hr.out.form;obtain ⟨L, hL⟩ : ∃ L, (toksAt s.data.toList 0).1 = L := ⟨_, rfl⟩;obtain ⟨er, her⟩ : ∃ er, (toksAt s.data.toList 0).2.2 = er := ⟨_, rfl⟩;obtain ⟨at_, hat⟩ : ∃ x, whereAt (toksAt s.data.toList 0) = x := ⟨_, rfl⟩;rw [hL] at hr ⊢;obtain ⟨n, hn⟩ : ∃ n, L.length = n := ⟨_, rfl⟩;rw [her, hat, hn];have hr : Hid (Row w2 w.heap.size (.slice va n vc) L) := by have := hr.out; rw [hn] at this; exact this
 have HNOT : Hid (∀ x, identB s.data.toList = false -> er = 0 -> L = [x] -> x.1 = 1 -> x.2.1 ≠ s.data.toList) := fun x h1 h2 h3 h4 => ident_not h1 (by rw [her]; exact h2) x (by rw [hL]; exact h3) h4;have HYES : Hid (identB s.data.toList = true -> er = 0 /\ L = [(1, s.data.toList, 0)]) := fun h => by
  have := ident_toks _ h;rw [this] at hL her;exact ⟨her.symm, hL.symm⟩
 obtain ⟨w3, hw3, X3, B3⟩ := told_put w2 (.slice va n vc) (.int .i64 at_) (.int .i64 er);have HR3 : Hid (Row w3 w.heap.size (.slice va n vc) L) := hr.out.stays B3.out;have B13 : Hid (Below w.heap.size w w3) := B2.out.trans (B3.out.mono B2.out.size);have c0 := cell_of X3.out 0;have c1 := cell_of X3.out 1;have c2 := cell_of X3.out 2;clear hz hr hL her hat B2 B3;by_cases he : er = 0
 ·have q1 : ((er : Int) == 0) = true := by rw [beq_iff_eq]; omega
  by_cases hl : n = 1
  ·subst hl;obtain ⟨x, rfl⟩ := List.length_eq_one_iff.1 hn;clear hn;obtain ⟨g, rfl, d0, d1⟩ := row_one HR3.out;by_cases hk : x.1 = 1
   ·have q3 : ((x.1 : Int) == 1) = true := by rw [beq_iff_eq]; omega
    by_cases ht : x.2.1 = s.data.toList
    ·have HF : Hid (identB s.data.toList = true) := by
      cases hi : identB s.data.toList with
      | true => rfl
      | false => exact absurd ht (HNOT.out x hi he rfl hk)
     have hxs : (⟨x.2.1.toArray⟩ : ByteArray) = s := by rw [ht] <;> simp
     rw [hxs] at d1;clear he hk ht HNOT HYES hxs;go_wp2_with fail
     go_ret
     exact ⟨by rw [HF.out] <;> rfl, B13.out⟩
    ·have HF : Hid (identB s.data.toList = false) := by
      cases hi : identB s.data.toList with
      | false => rfl
      | true => exact absurd (by have := (HYES.out hi).2; injection this with this _; rw [this]) ht
     have q4 : (x.2.1 == s.toList) = false := by
      rw [bnQ, ByteArray.toList_eq];exact ht
     clear he hk ht HNOT HYES;go_wp2_with fail
     go_ret
     exact ⟨by rw [HF.out] <;> rfl, B13.out⟩
   ·have q3 : ((x.1 : Int) == 1) = false := by rw [bnQ]; omega
    have HF : Hid (identB s.data.toList = false) := by
     cases hi : identB s.data.toList with
     | false => rfl
     | true => exact absurd (by have := (HYES.out hi).2; injection this with this _; rw [this]) hk
    clear he hk HNOT HYES;go_wp2_with fail
    go_ret
    exact ⟨by rw [HF.out] <;> rfl, B13.out⟩
  ·have q2 : ((n : Int) == 1) = false := by rw [bnQ]; omega
   have HF : Hid (identB s.data.toList = false) := by
    cases hi : identB s.data.toList with
    | false => rfl
    | true => exact absurd (by rw [<-hn, (HYES.out hi).2]; rfl) hl
   clear he hl hn HNOT HYES;go_wp2_with fail
   go_ret
   exact ⟨by rw [HF.out] <;> rfl, B13.out⟩
 ·have q1 : ((er : Int) == 0) = false := by rw [bnQ]; omega
  have HF : Hid (identB s.data.toList = false) := by
   cases hi : identB s.data.toList with
   | false => rfl
   | true => exact absurd (HYES.out hi).1 he
  clear he hn HNOT HYES;go_wp2_with fail
  go_ret
  exact ⟨by rw [HF.out] <;> rfl, B13.out⟩
theorem alone_list (s : ByteArray) (g c : Nat) (w : World) (hs : s.size <= 1000000) (h0 : w.cell? ⟨g, 0, none⟩ = some (.int .i64 1)) (h1 : w.cell? ⟨g, 1, none⟩ = some (.string s)) : Calls Tryz.prog 122 #[.slice (some ⟨g, 0, none⟩) 1 c] w fun e w' => e = .returned (.bool (identB s.data.toList)) /\ Below w.heap.size w w' := by
 have HA : Hid (∀ w, Calls Tryz.prog 148 #[.string s, .int .i64 1] w fun e w' => e = .returned (.bool (identB s.data.toList)) /\ Below w.heap.size w w') := fun w => alone_any s w hs;obtain ⟨r, hr⟩ : ∃ r, identB s.data.toList = r := ⟨_, rfl⟩;rw [hr] at HA ⊢;clear hr;go_enter Tryz.func122, Tryz.ntmps122
 go_wp2_with fail
 go_loopw [3] (fun p wr => (p = .int .i64 0 /\ w = wr) ∨ (p = .int .i64 1 /\ r = true /\ Hid (Below w.heap.size w wr))) (fun p _ => 1 - (intOf p).toNat)
 case atStart => exact .inl ⟨rfl, rfl⟩
 case round =>
  rcases hrel with ⟨rfl, rfl⟩ | ⟨rfl, rfl, hB⟩
  ·go_wp2_with fail
   have HK : ∀ w2, Below w.drew.heap.size w.drew w2 -> w2.cell? ⟨g, 0, none⟩ = some (.int .i64 1) /\ w2.cell? ⟨g, 1, none⟩ = some (.string s) := fun w2 hb2 => ⟨(World.cell?_of_block (w := w.drew) (hb2.block g (World.block_lt_of_cell? w _ h0))).trans h0, (World.cell?_of_block (w := w.drew) (hb2.block g (World.block_lt_of_cell? w _ h1))).trans h1⟩;have HK2 := hdQ HK;clear HK
   go_region_held3 (fun w' => w'.cell? ⟨g, 0, none⟩ = some (.int .i64 1) /\ w'.cell? ⟨g, 1, none⟩ = some (.string s)) (go_keep)
    (first
     | (go_at_call 148; refine (HA.out w.drew).mono ?_; rintro z w2 ⟨rfl, hb2⟩; obtain ⟨k0, k1⟩ := HK2.out w2 hb2; have HB2 := hdQ hb2; clear hb2))
   have HB : Hid (Below w.heap.size w w2) := ⟨HB2.out.os, HB2.out.tape, HB2.out.output, HB2.out.size, HB2.out.block⟩;clear k0 k1;cases r
   ·go_wp2_with fail
    go_ret
    exact ⟨rfl, HB.out⟩
   ·go_wp2_with fail
    go_roundw
    case rel => exact .inr ⟨by go_num, trivial, HB.out⟩
    case measure => simp [intOf]
  ·go_wp2_with fail
   go_ret
   exact ⟨rfl, hB.out⟩
theorem name_any (s : ByteArray) (w : World) (hs : s.size <= 1000000) : Calls Tryz.prog 96 #[.string s] w fun e w' => e = .returned (.bool (identB s.data.toList)) /\ Below w.heap.size w w' := by
 obtain ⟨w1, hw1, X1, B1⟩ : ∃ w1, w.alloc (.cells #[.int .i64 1, .string s, .int .i64 0] 182) = w1 /\ Hid (w1.heap[w.heap.size]? = some (.cells #[.int .i64 1, .string s, .int .i64 0] 182 (0, 0))) /\ Hid (Below w.heap.size w w1) := ⟨_, rfl, heap_alloc_new _ _, (Below.refl _ _).alloc (Nat.le_refl _) _⟩;have hc := alone_list s w.heap.size 1 w1 hs (cell_of X1.out 0) (cell_of X1.out 1);have HC := hdQ hc;clear hc;go_enter Tryz.func96, Tryz.ntmps96
 go_wp2_with fail
 refine (Calls.mono HC.out ?_);rintro z w2 ⟨rfl, hb2⟩;have B2 : Hid (Below w.heap.size w w2) := B1.out.trans (hb2.mono B1.out.size);clear hb2;go_wp2_with fail
 go_ret
 exact ⟨rfl, B2.out⟩
open Jdec (IsTexts)
def identsB (ks : List ByteArray) : Bool := ks.all fun k => identB k.data.toList
theorem idents_take {ks : List ByteArray} {i : Nat} (h : i < ks.length) : identsB (ks.take (i + 1)) = (identsB (ks.take i) && identB ks[i].data.toList) := by
 unfold identsB;rw [List.take_add_one, List.getElem?_eq_getElem h, List.all_append];simp
theorem idents_any (ks : List ByteArray) (ka : Option Addr) (kc : Nat) (A : Nat -> Prop) (w : World) (ht : IsTexts w A ka ks) (hl : ks.length <= 3000) (hs : ∀ x ∈ ks, x.size <= 1048576) (T : Tabs w) : Calls Tryz.prog 94 #[.slice ka ks.length kc] w fun e w' => e = .returned (.bool (identsB ks)) /\ Below w.heap.size w w' := by
 have HI : Hid (∀ i (h : i < ks.length) w', Below w.heap.size w w' -> Calls Tryz.prog 119 #[.string ks[i]] w' fun e w'' => e = .returned (.bool (identB ks[i].data.toList)) /\ Below w'.heap.size w' w'') := fun i h w' hb => ident_any ks[i] w' (hs _ (List.getElem_mem h)) (T.stays hb);have HTX := hdQ ht;clear ht T hs;go_enter Tryz.func94, Tryz.ntmps94
 go_wp2_with fail
 go_loopw [7] (fun p wr => ∃ i : Nat, p = .int .i64 i /\ i <= ks.length /\ Hid (identsB (ks.take i) = true) /\ Hid (Below w.heap.size w wr)) (fun p _ => ks.length - (intOf p).toNat)
 case atStart => exact ⟨0, rfl, Nat.zero_le _, rfl, Below.refl _ _⟩
 case round =>
  obtain ⟨i, rfl, hi, hT, hB⟩ := hrel;by_cases hlt : i < ks.length
  ·obtain ⟨b, o, rfl, _, hb, hc⟩ := HTX.out.resolve_left (by intro e; rw [e] at hlt; simp at hlt);have k0 : wr.cell? ⟨b, o + i, none⟩ = some (.string ks[i]) := (World.cell?_of_block (w := w) (hB.out.block b hb)).trans (hc i hlt);have hcall := HI.out i hlt wr hB.out;have HCL := hdQ hcall;have HTK := hdQ (idents_take hlt);have HSZ := hB.out.size;obtain ⟨r, hr⟩ : ∃ r, identB ks[i].data.toList = r := ⟨_, rfl⟩;have HRR := hdQ hr;rw [hr] at HCL;obtain ⟨x, hx⟩ : ∃ x, ks[i] = x := ⟨_, rfl⟩;rw [hx] at HCL k0;clear hcall hc hr hx;go_wp2_with fail
   refine (Calls.mono HCL.out ?_);rintro z w2 ⟨rfl, hb2⟩;have B2 : Hid (Below w.heap.size w w2) := hB.out.trans (hb2.mono HSZ);clear hb2 k0 HCL;cases r
   ·have HF : Hid (identsB ks = false) := by
     rw [Hid, identsB, List.all_eq_false];exact ⟨_, List.getElem_mem hlt, by rw [HRR.out]; simp⟩
    go_wp2_with fail
    go_ret
    exact ⟨by rw [HF.out] <;> rfl, B2.out⟩
   ·have HN : Hid (identsB (ks.take (i + 1)) = true) := by rw [Hid, HTK.out, hT.out, HRR.out]; rfl
    go_wp2_with fail
    go_roundw
    case rel => exact ⟨i + 1, by go_num, by omega, HN.out, B2.out⟩
    case measure => simp [intOf]; omega
  ·obtain rfl : i = ks.length := by omega
   have HF : Hid (identsB ks = true) := by
    have := hT.out;rw [List.take_length] at this;exact this
   go_wp2_with fail
   go_ret
   exact ⟨by rw [HF.out] <;> rfl, hB.out⟩
structure Adr where
 path : List ByteArray
 type : ByteArray
 name : ByteArray
 key : Int
 place : Nat
 word : ByteArray
def wordsA (pa : Option Addr) (pc : Nat) (a : Adr) : Value := .agg #[.slice pa a.path.length pc, .string a.type, .string a.name, .int .i64 a.key, .int .u64 a.place, .string a.word]
def arrA (pa : Option Addr) (pc : Nat) (a : Adr) : Array Value := #[.slice pa a.path.length pc, .string a.type, .string a.name, .int .i64 a.key, .int .u64 a.place, .string a.word]
def moduleL : List UInt8 := [109, 111, 100, 117, 108, 101]
def keyA (a : Adr) : Bool :=
 if a.key = 0 then a.place == 0 && a.word.toList.isEmpty
 else if a.key = 1 then a.word.toList.isEmpty
 else if a.key = 2 then a.place == 0 && decide (badZ a.word.data.toList < 0)
 else false
def rightA (a : Adr) : Bool := !(a.type.toList == moduleL) && decide (a.path.length <= 20) && identsB [a.type, a.name] && identsB a.path && keyA a
theorem adr_new (w : World) (pa : Option Addr) (pc : Nat) (a : Adr) : ∃ w1, w.alloc (.cells #[.slice pa a.path.length pc, .string a.type, .string a.name, .int .i64 a.key, .int .u64 a.place, .string a.word] 35) = w1 /\ Hid (w1.heap[w.heap.size]? = some (.cells (arrA pa pc a) 35 (0, 0))) /\ Hid (Below w.heap.size w w1) :=
 ⟨_, rfl, heap_alloc_new _ _, (Below.refl _ _).alloc (Nat.le_refl _) _⟩
theorem adr_cells {w : World} {b : Nat} {pa : Option Addr} {pc : Nat} {a : Adr} (h : w.heap[b]? = some (.cells (arrA pa pc a) 35 (0, 0))) : w.cell? ⟨b, 0, none⟩ = some (.slice pa a.path.length pc) /\ w.cell? ⟨b, 1, none⟩ = some (.string a.type) /\ w.cell? ⟨b, 2, none⟩ = some (.string a.name) /\ w.cell? ⟨b, 3, none⟩ = some (.int .i64 a.key) /\ w.cell? ⟨b, 4, none⟩ = some (.int .u64 a.place) /\ w.cell? ⟨b, 5, none⟩ = some (.string a.word) :=
 ⟨cell_of h 0, cell_of h 1, cell_of h 2, cell_of h 3, cell_of h 4, cell_of h 5⟩
theorem two_new (w : World) (x y : ByteArray) : ∃ w1, w.alloc (.cells #[.string x, .string y] 9) = w1 /\ Hid (IsTexts w1 (fun _ => True) (some ⟨w.heap.size, 0, none⟩) [x, y]) /\ Hid (Below w.heap.size w w1) := by
 refine ⟨_, rfl, .inr ⟨w.heap.size, 0, rfl, trivial, by simp, fun i hi => ?_⟩, (Below.refl _ _).alloc (Nat.le_refl _) _⟩;have h := heap_alloc_new w (.cells #[.string x, .string y] 9 (0, 0))
 match i, hi with
 | 0, _ => exact cell_of h 0
 | 1, _ => exact cell_of h 1
theorem right_any (a : Adr) (pa : Option Addr) (pc : Nat) (A : Nat -> Prop) (w : World) (ht : IsTexts w A pa a.path) (hl : a.path.length <= 3000) (hs : ∀ x ∈ a.path, x.size <= 1048576) (h1 : a.type.size <= 1048576) (h2 : a.name.size <= 1048576) (h3 : a.word.size <= 1048576) (T : Tabs w) : Calls Tryz.prog 61 #[wordsA pa pc a] w fun e w' => e = .returned (.bool (rightA a)) /\ Below w.heap.size w w' := by
 obtain ⟨w1, hw1, V1, B1⟩ := adr_new w pa pc a;obtain ⟨x0, x1, x2, x3, x4, x5⟩ := adr_cells V1.out;unfold wordsA;by_cases q1 : (a.type.toList == moduleL) = true
 ·have HF : Hid (rightA a = false) := by rw [Hid, rightA, q1]; rfl
  unfold moduleL at q1;go_enter Tryz.func61, Tryz.ntmps61
  go_wp2_with fail
  go_ret
  exact ⟨by rw [HF.out] <;> rfl, B1.out⟩
 have q1 : (a.type.toList == moduleL) = false := by simpa using q1
 by_cases hp : 20 < a.path.length
 ·have q2 : decide ((20 : Int) < (a.path.length : Int)) = true := by rw [dtQ]; omega
  have q3 : decide (20 < a.path.length) = true := by rw [dtQ]; omega
  have HF : Hid (rightA a = false) := by
   have : decide (a.path.length <= 20) = false := by rw [dfQ]; omega
   rw [Hid, rightA, q1, this]; rfl
  unfold moduleL at q1;clear hp;go_enter Tryz.func61, Tryz.ntmps61
  go_wp2_with fail
  go_ret
  exact ⟨by rw [HF.out] <;> rfl, B1.out⟩
 have q2 : decide ((20 : Int) < (a.path.length : Int)) = false := by rw [dfQ]; omega
 have q3 : decide (20 < a.path.length) = false := by rw [dfQ]; omega
 have HRA : Hid (rightA a = (identsB [a.type, a.name] && identsB a.path && keyA a)) := by
  have : decide (a.path.length <= 20) = true := by rw [dtQ]; omega
  rw [Hid, rightA, q1, this]; rfl
 obtain ⟨w2, hw2, X2, B2⟩ := two_new w1 a.type a.name;have hc := idents_any [a.type, a.name] _ 2 _ w2 X2.out (by simp) (fun x hx => by simp at hx; rcases hx with rfl | rfl <;> assumption) ((T.stays B1.out).stays B2.out);have HC := hdQ hc;have HP : Hid (∀ w', Below w.heap.size w w' -> Calls Tryz.prog 94 #[.slice pa a.path.length pc] w' fun e w'' => e = .returned (.bool (identsB a.path)) /\ Below w'.heap.size w' w'') := fun w' hb => idents_any a.path pa pc A w' (ht.turn (Jdec.Turn.below hb)) hl hs (T.stays hb);have HVA : Hid (∀ w', Below w.heap.size w w' -> Calls Tryz.prog 37 #[.string a.word] w' fun e w'' => e = .returned (.bool (decide (badZ a.word.data.toList < 0))) /\ w' = w'') := fun w' hb => Quote.valid_any a.word w' (by omega) (T.stays hb).z;obtain ⟨r1, hr1⟩ : ∃ r, identsB [a.type, a.name] = r := ⟨_, rfl⟩;obtain ⟨r2, hr2⟩ : ∃ r, identsB a.path = r := ⟨_, rfl⟩;rw [hr1] at HC HRA;rw [hr2] at HP HRA;have hl1 := heap_lt V1.out;have B12 : Hid (Below w.heap.size w w2) := B1.out.trans (B2.out.mono (by omega));have V2 : Hid (w2.heap[w.heap.size]? = some (.cells (arrA pa pc a) 35 (0, 0))) := (B2.out.block _ hl1).trans V1.out;have h12 := B2.out.size;unfold moduleL at q1;clear hc hp hr1 hr2 ht hs T;go_enter Tryz.func61, Tryz.ntmps61
 go_wp2_with fail
 refine (Calls.mono HC.out ?_);rintro z w3 ⟨rfl, hb3⟩;have B3 : Hid (Below w.heap.size w w3) := B12.out.trans (hb3.mono (by omega));have V3 : Hid (w3.heap[w.heap.size]? = some (.cells (arrA pa pc a) 35 (0, 0))) := (hb3.block _ (by omega)).trans V2.out;have h3 := hb3.size;have hpp := HP.out w3 B3.out;have HP3 := hdQ hpp;clear hb3 x0 x1 x2 x3 x4 x5 hw1 hw2 HC HP hpp;obtain ⟨x0, x1, x2, x3, x4, x5⟩ := adr_cells V3.out;cases r1
 ·go_wp2_with fail
  go_ret
  exact ⟨by rw [HRA.out] <;> rfl, B3.out⟩
 go_wp2_with fail
 refine (Calls.mono HP3.out ?_);rintro z w4 ⟨rfl, hb4⟩;have B4 : Hid (Below w.heap.size w w4) := B3.out.trans (hb4.mono (by omega));have V4 : Hid (w4.heap[w.heap.size]? = some (.cells (arrA pa pc a) 35 (0, 0))) := (hb4.block _ (by omega)).trans V3.out;have hva := HVA.out w4 B4.out;have HV4 := hdQ hva;clear hb4 x0 x1 x2 x3 x4 x5 HP3 hva HVA;obtain ⟨x0, x1, x2, x3, x4, x5⟩ := adr_cells V4.out;cases r2
 ·go_wp2_with fail
  go_ret
  exact ⟨by rw [HRA.out] <;> rfl, B4.out⟩
 have HRK : Hid (rightA a = keyA a) := by rw [Hid, HRA.out]; rfl
 obtain ⟨e5, he5⟩ : ∃ b, a.word.toList.isEmpty = b := ⟨_, rfl⟩;obtain ⟨v5, hv5⟩ : ∃ b, decide (badZ a.word.data.toList < 0) = b := ⟨_, rfl⟩;rw [hv5] at HV4;obtain ⟨p5, hp5⟩ : ∃ b, (a.place == 0) = b := ⟨_, rfl⟩;have HK : Hid (keyA a = if a.key = 0 then p5 && e5 else if a.key = 1 then e5 else if a.key = 2 then p5 && v5 else false) := by rw [Hid, keyA, he5, hv5, hp5]
 have hp6 : ((a.place : Int) == 0) = p5 := by
  rw [<-hp5];by_cases h : a.place = 0
  ·rw [h]; rfl
  ·rw [beq_eq_false_iff_ne.2 h, bnQ]; omega
 clear hv5 hp5 HRA;by_cases k0 : a.key = 0
 ·have t0 : (a.key == 0) = true := by rw [beq_iff_eq]; exact k0
  have HF : Hid (rightA a = (p5 && e5)) := by rw [Hid, HRK.out, HK.out, if_pos k0]
  clear k0 HK HRK;cases p5 <;> cases e5
  all_goals
   go_wp2_with fail
   go_ret
   exact ⟨by rw [HF.out] <;> rfl, B4.out⟩
 have t0 : (a.key == 0) = false := by rw [bnQ]; exact k0
 by_cases k1 : a.key = 1
 ·have t1 : (a.key == 1) = true := by rw [beq_iff_eq]; exact k1
  have HF : Hid (rightA a = e5) := by rw [Hid, HRK.out, HK.out, if_neg k0, if_pos k1]
  clear k0 k1 HK HRK;cases e5
  all_goals
   go_wp2_with fail
   go_ret
   exact ⟨by rw [HF.out] <;> rfl, B4.out⟩
 have t1 : (a.key == 1) = false := by rw [bnQ]; exact k1
 by_cases k2 : a.key = 2
 ·have t2 : (a.key == 2) = true := by rw [beq_iff_eq]; exact k2
  have HF : Hid (rightA a = (p5 && v5)) := by rw [Hid, HRK.out, HK.out, if_neg k0, if_neg k1, if_pos k2]
  clear k0 k1 k2 HK HRK;cases p5
  ·go_wp2_with fail
   go_ret
   exact ⟨by rw [HF.out] <;> rfl, B4.out⟩
  ·go_wp2_with fail
   refine (Calls.mono HV4.out ?_);rintro z w5 ⟨rfl, rfl⟩;go_wp2_with fail
   go_ret
   exact ⟨by rw [HF.out] <;> rfl, B4.out⟩
 ·have t2 : (a.key == 2) = false := by rw [bnQ]; exact k2
  have HF : Hid (rightA a = false) := by rw [Hid, HRK.out, HK.out, if_neg k0, if_neg k1, if_neg k2]
  clear k0 k1 k2 HK HRK;go_wp2_with fail
  go_ret
  exact ⟨by rw [HF.out] <;> rfl, B4.out⟩
theorem idents_two (a b : ByteArray) : identsB [a, b] = (identB a.data.toList && identB b.data.toList) := by simp [identsB]
theorem valid_neg (l : List UInt8) : decide (badZ l < 0) = validB l := badZ_neg l
theorem empty_word {x : ByteArray} (h : x.toList.isEmpty = true) : validB x.data.toList = true := by
 rw [ByteArray.toList_eq, List.isEmpty_iff] at h;rw [h]; rfl
theorem rright_any (a : Adr) (pa : Option Addr) (pc : Nat) (A : Nat -> Prop) (w : World) (ht : IsTexts w A pa a.path) (hl : a.path.length <= 3000) (hs : ∀ x ∈ a.path, x.size <= 1000000) (h1 : a.type.size <= 1000000) (h2 : a.name.size <= 1000000) (h3 : a.word.size <= 1000000) : Calls Tryz.prog 64 #[wordsA pa pc a] w fun e w' => e = .returned (.bool (rightA a)) /\ Below w.heap.size w w' := by
 obtain ⟨w1, hw1, V1, B1⟩ := adr_new w pa pc a;obtain ⟨x0, x1, x2, x3, x4, x5⟩ := adr_cells V1.out;have hl1 := heap_lt V1.out;unfold wordsA;by_cases hp : 20 < a.path.length
 ·have q2 : decide ((20 : Int) < (a.path.length : Int)) = true := by rw [dtQ]; omega
  have q3 : decide (20 < a.path.length) = true := by rw [dtQ]; omega
  have HF : Hid (rightA a = false) := by
   have : decide (a.path.length <= 20) = false := by rw [dfQ]; omega
   rw [Hid, rightA, this]; simp
  clear hp;go_enter Tryz.func64, Tryz.ntmps64
  go_wp2_with fail
  go_ret
  exact ⟨by rw [HF.out] <;> rfl, B1.out⟩
 have q2 : decide ((20 : Int) < (a.path.length : Int)) = false := by rw [dfQ]; omega
 have q3 : decide (20 < a.path.length) = false := by rw [dfQ]; omega
 obtain ⟨r1, hr1⟩ : ∃ r, identB a.type.data.toList = r := ⟨_, rfl⟩;obtain ⟨r2, hr2⟩ : ∃ r, identB a.name.data.toList = r := ⟨_, rfl⟩;obtain ⟨m, hm⟩ : ∃ m, (a.type.toList == moduleL) = m := ⟨_, rfl⟩;have HRA : Hid (rightA a = (!m && (r1 && r2) && identsB a.path && keyA a)) := by
  have : decide (a.path.length <= 20) = true := by rw [dtQ]; omega
  rw [Hid, rightA, this, idents_two, hr1, hr2, hm]; simp
 have n1 := name_any a.type w1 h1;rw [hr1] at n1;have N1 := hdQ n1;have N2 : Hid (∀ w', Calls Tryz.prog 96 #[.string a.name] w' fun e w'' => e = .returned (.bool r2) /\ Below w'.heap.size w' w'') := fun w' => by rw [<-hr2]; exact name_any a.name w' h2
 have NP : Hid (∀ i (h : i < a.path.length) w', Calls Tryz.prog 96 #[.string a.path[i]] w' fun e w'' => e = .returned (.bool (identB a.path[i].data.toList)) /\ Below w'.heap.size w' w'') := fun i h w' => name_any _ w' (hs _ (List.getElem_mem h));have NV : Hid (∀ w', Calls Tryz.prog 48 #[.string a.word] w' fun e w'' => e = .returned (.bool (validB a.word.data.toList)) /\ Below w'.heap.size w' w'') := fun w' => rvalid_any a.word w' (by omega);have HTX := hdQ ht;unfold moduleL at hm;clear hp n1 hr1 hr2 ht hs;go_enter Tryz.func64, Tryz.ntmps64
 go_wp2_with fail
 refine (Calls.mono N1.out ?_);rintro z w3 ⟨rfl, hb3⟩;have B3 : Hid (Below w.heap.size w w3) := B1.out.trans (hb3.mono (by omega));have V3 : Hid (w3.heap[w.heap.size]? = some (.cells (arrA pa pc a) 35 (0, 0))) := (hb3.block _ hl1).trans V1.out;have h3 := hb3.size;have n2 := N2.out w3;have N23 := hdQ n2;clear hb3 x0 x1 x2 x3 x4 x5 hw1 N1 N2 n2;obtain ⟨x0, x1, x2, x3, x4, x5⟩ := adr_cells V3.out;cases r1
 ·go_wp2_with fail
  go_ret
  exact ⟨by rw [HRA.out] <;> simp, B3.out⟩
 go_wp2_with fail
 refine (Calls.mono N23.out ?_);rintro z w4 ⟨rfl, hb4⟩;have B4 : Hid (Below w.heap.size w w4) := B3.out.trans (hb4.mono (by omega));have V4 : Hid (w4.heap[w.heap.size]? = some (.cells (arrA pa pc a) 35 (0, 0))) := (hb4.block _ (by omega)).trans V3.out;have h4 := hb4.size;clear hb4 x0 x1 x2 x3 x4 x5 N23;obtain ⟨x0, x1, x2, x3, x4, x5⟩ := adr_cells V4.out;cases r2
 ·go_wp2_with fail
  go_ret
  exact ⟨by rw [HRA.out] <;> simp, B4.out⟩
 cases m
 case true =>
  go_wp2_with fail
  go_ret
  exact ⟨by rw [HRA.out] <;> simp, B4.out⟩
 case false =>
 have HRB : Hid (rightA a = (identsB a.path && keyA a)) := by rw [Hid, HRA.out]; rfl
 clear HRA;go_wp2_with fail
 clear x0 x1 x2 x3 x4 x5
 go_loopw [3] (fun p wr => ∃ i : Nat, p = .int .i64 i /\ i <= a.path.length /\ Hid (identsB (a.path.take i) = true) /\ Hid (Below w4.heap.size w4 wr)) (fun p _ => a.path.length - (intOf p).toNat)
 case atStart => exact ⟨0, rfl, Nat.zero_le _, rfl, Below.refl _ _⟩
 case round =>
  obtain ⟨i, rfl, hi, hT, hB⟩ := hrel;have Vr : Hid (wr.heap[w.heap.size]? = some (.cells (arrA pa pc a) 35 (0, 0))) := (hB.out.block _ (by omega)).trans V4.out;have Br : Hid (Below w.heap.size w wr) := B4.out.trans (hB.out.mono (by omega));have hrs := hB.out.size;obtain ⟨x0, x1, x2, x3, x4, x5⟩ := adr_cells Vr.out;by_cases hlt : i < a.path.length
  ·obtain ⟨b, o, rfl, _, hb, hc⟩ := HTX.out.resolve_left (by intro e; rw [e] at hlt; simp at hlt);have k0 : wr.cell? ⟨b, o + i, none⟩ = some (.string a.path[i]) := (World.cell?_of_block (w := w) (Br.out.block b hb)).trans (hc i hlt);have hcall := NP.out i hlt wr;have HCL := hdQ hcall;have HTK := hdQ (idents_take hlt);obtain ⟨r, hr⟩ : ∃ r, identB a.path[i].data.toList = r := ⟨_, rfl⟩;have HRR := hdQ hr;rw [hr] at HCL;obtain ⟨x, hx⟩ : ∃ x, a.path[i] = x := ⟨_, rfl⟩;rw [hx] at HCL k0;clear hcall hc hr hx;go_wp2_with fail
   refine (Calls.mono HCL.out ?_);rintro z w5 ⟨rfl, hb5⟩;have B5 : Hid (Below w4.heap.size w4 w5) := hB.out.trans (hb5.mono hrs);have B15 : Hid (Below w.heap.size w w5) := Br.out.trans (hb5.mono (by omega));clear hb5 k0 HCL;cases r
   ·have HF : Hid (rightA a = false) := by
     have : identsB a.path = false := by
      rw [identsB, List.all_eq_false];exact ⟨_, List.getElem_mem hlt, by rw [HRR.out]; simp⟩
     rw [Hid, HRB.out, this]; rfl
    go_wp2_with fail
    go_ret
    exact ⟨by rw [HF.out] <;> rfl, B15.out⟩
   ·have HN : Hid (identsB (a.path.take (i + 1)) = true) := by rw [Hid, HTK.out, hT.out, HRR.out]; rfl
    go_wp2_with fail
    go_roundw
    case rel => exact ⟨i + 1, by go_num, by omega, HN.out, B5.out⟩
    case measure => simp [intOf]; omega
  ·obtain rfl : i = a.path.length := by omega
   have HRK : Hid (rightA a = keyA a) := by
    have := hT.out;rw [List.take_length] at this;rw [Hid, HRB.out, this]; rfl
   have NVr := NV.out wr;obtain ⟨e5, he5⟩ : ∃ b, a.word.toList.isEmpty = b := ⟨_, rfl⟩;obtain ⟨v5, hv5⟩ : ∃ b, validB a.word.data.toList = b := ⟨_, rfl⟩;have hev : e5 = true -> v5 = true := fun h => by rw [<-hv5]; exact empty_word (by rw [he5]; exact h)
   rw [hv5] at NVr;obtain ⟨p5, hp5⟩ : ∃ b, (a.place == 0) = b := ⟨_, rfl⟩;have HK : Hid (keyA a = if a.key = 0 then p5 && e5 else if a.key = 1 then e5 else if a.key = 2 then p5 && v5 else false) := by rw [Hid, keyA, he5, valid_neg, hv5, hp5]
   have hp6 : ((a.place : Int) != 0) = !p5 := by
    rw [<-hp5];by_cases h : a.place = 0
    ·rw [h]; rfl
    ·rw [beq_eq_false_iff_ne.2 h, bne_iff_ne.2 (by omega)]; rfl
   have NVV := hdQ NVr;clear hv5 hp5 NVr NV NP;by_cases k0 : a.key = 0
   ·have t0 : decide (a.key < 0) = false := by rw [dfQ]; omega
    have t1 : decide (2 < a.key) = false := by rw [dfQ]; omega
    have t2 : (a.key != 1) = true := by rw [bne_iff_ne]; omega
    have t3 : (a.key != 2) = true := by rw [bne_iff_ne]; omega
    have HF : Hid (rightA a = (p5 && e5)) := by rw [Hid, HRK.out, HK.out, if_pos k0]
    clear k0 HK HRK;cases p5
    ·go_wp2_with fail
     go_ret
     exact ⟨by rw [HF.out] <;> rfl, Br.out⟩
    ·cases e5
     ·go_wp2_with fail
      go_ret
      exact ⟨by rw [HF.out] <;> rfl, Br.out⟩
     ·obtain rfl := hev rfl;clear hev;go_wp2_with fail
      refine (Calls.mono NVV.out ?_);rintro z w5 ⟨rfl, hb5⟩;have B5 : Hid (Below w.heap.size w w5) := Br.out.trans (hb5.mono (by omega));clear hb5;go_wp2_with fail
      go_ret
      exact ⟨by rw [HF.out] <;> rfl, B5.out⟩
   by_cases k1 : a.key = 1
   ·have t0 : decide (a.key < 0) = false := by rw [dfQ]; omega
    have t1 : decide (2 < a.key) = false := by rw [dfQ]; omega
    have t2 : (a.key != 1) = false := by rw [k1]; rfl
    have t3 : (a.key != 2) = true := by rw [bne_iff_ne]; omega
    have HF : Hid (rightA a = e5) := by rw [Hid, HRK.out, HK.out, if_neg k0, if_pos k1]
    clear k0 k1 HK HRK;cases e5
    ·go_wp2_with fail
     go_ret
     exact ⟨by rw [HF.out] <;> rfl, Br.out⟩
    ·obtain rfl := hev rfl;clear hev;go_wp2_with fail
     refine (Calls.mono NVV.out ?_);rintro z w5 ⟨rfl, hb5⟩;have B5 : Hid (Below w.heap.size w w5) := Br.out.trans (hb5.mono (by omega));clear hb5;go_wp2_with fail
     go_ret
     exact ⟨by rw [HF.out] <;> rfl, B5.out⟩
   by_cases k2 : a.key = 2
   ·have t0 : decide (a.key < 0) = false := by rw [dfQ]; omega
    have t1 : decide (2 < a.key) = false := by rw [dfQ]; omega
    have t2 : (a.key != 1) = true := by rw [bne_iff_ne]; omega
    have t3 : (a.key != 2) = false := by rw [k2]; rfl
    have HF : Hid (rightA a = (p5 && v5)) := by rw [Hid, HRK.out, HK.out, if_neg k0, if_neg k1, if_pos k2]
    clear k0 k1 k2 HK HRK hev;cases p5
    ·go_wp2_with fail
     go_ret
     exact ⟨by rw [HF.out] <;> rfl, Br.out⟩
    ·go_wp2_with fail
     refine (Calls.mono NVV.out ?_);rintro z w5 ⟨rfl, hb5⟩;have B5 : Hid (Below w.heap.size w w5) := Br.out.trans (hb5.mono (by omega));clear hb5;go_wp2_with fail
     go_ret
     exact ⟨by rw [HF.out] <;> rfl, B5.out⟩
   ·have HF : Hid (rightA a = false) := by rw [Hid, HRK.out, HK.out, if_neg k0, if_neg k1, if_neg k2]
    clear HK HRK hev;by_cases kn : a.key < 0
    ·have t0 : decide (a.key < 0) = true := by rw [dtQ]; exact kn
     clear k0 k1 k2 kn;go_wp2_with fail
     go_ret
     exact ⟨by rw [HF.out] <;> rfl, Br.out⟩
    ·have t0 : decide (a.key < 0) = false := by rw [dfQ]; exact kn
     have t1 : decide (2 < a.key) = true := by rw [dtQ]; omega
     clear k0 k1 k2 kn;go_wp2_with fail
     go_ret
     exact ⟨by rw [HF.out] <;> rfl, Br.out⟩
end Go.Proofs.YtehghladpnpcoaaGreatDoor.Addr
