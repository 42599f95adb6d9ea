/- jdec's table of ways; what all readers of values lean on; ends wherever the parser stands. -/
import Derived.Test.YtfdjolfenghmaaaGreatDoorWJdecE
import Derived.Test.YtfdjolfenghmaaaGreatDoorWRefD
import Derived.Test.YtfdjolfenghmaaaGreatDoorWAdF
import Derived.Deep.AppendLies
import Derived.Deep.RegionLaw
import Derived.Maps.OwnSet
import Derived.Maps.OwnOps
import Derived.Deep.CutRange
import Derived.WalkMore
import Derived.Laws.EntriesVeiled
import Derived.Laws.StructEq
import Derived.Lib.Bytealg
set_option linter.unusedVariables false
set_option linter.unusedSimpArgs false
set_option maxRecDepth 100000
namespace Go.Proofs.YtfdjolfenghmaaaGreatDoor.Jdec
open Go.RowKit Strs
theorem infoKid : (Tryz.prog.info? 46).map (fun i => (i.zero, i.size, i.bytes)) = some (some (.agg #[.int .i64 0, .bool false, .bool false, .string ⟨#[]⟩, .int .i64 0, .string ⟨#[]⟩, .slice none 0 0, .slice none 0 0]), 8, 112) := by kernel_rfl
def lraw (va : Option Addr) (vn vc : Nat) : Raw := ⟨5, false, false, ⟨#[]⟩, 0, ⟨#[]⟩, none, 0, 0, va, vn, vc⟩
open Go.Maps
theorem zeroBool (w : World) : (zeroValue 4).run Tryz.prog w = .ok (.bool false) w := by kernel_rfl
theorem plainElem_bool_inv {H : Type} {P : Program} {e : TypeId} (he : P.underlying e = some .bool) {v : Value} {x : Bool} {ps : List MemPlace} (h : plainElem (H := H) P e v = some (.lit (.bool x), ps)) : v = .bool x := by
  unfold plainElem at h;rw [he] at h;cases v <;> simp at h
  rw [h.1]
theorem keyLaw : Keyed Tryz.prog 9 := string_keyed Tryz.underlying9
def Seen (w : World) (M n : Nat) (ks : List ByteArray) : Prop :=
  ∃ D : DataW Unit, w.ownsMap Tryz.prog 9 (plainElem Tryz.prog 4) M n D /\ ∀ d : ByteArray, D.atKey (.string d.data.toList) (.lit (.bool false)) = .lit (.bool (ks.any (fun x => decide (x = d))))
theorem Seen.made (w : World) : Seen (w.alloc (.map #[] 0)) w.heap.size 0 [] := ⟨.map [], World.ownsMap_made _ _ _ _, fun d => rfl⟩
theorem key_of (d : ByteArray) (hd : d.size <= maxLen) : keyOf Tryz.prog 9 (.string d) = some (.string d.data.toList) := Go.WideMaps.keyOf_string_mk Tryz.underlying9 hd
theorem Seen.look {w : World} {M n : Nat} {ks : List ByteArray} (h : Seen w M n ks) (d : ByteArray) (hd : d.size <= maxLen) : (Instr.lookup 160 (.map (some M)) (.string d) false).run Tryz.prog w = .ok (.bool (ks.any (fun x => decide (x = d)))) w := by
  obtain ⟨D, h1, h2⟩ := h;obtain ⟨v, ps, hrun, hv⟩ := h1.lookup keyLaw Tryz.underlying160 (zeroBool w) (plainElem_bool Tryz.underlying4 false) (key_of d hd);rw [h2 d] at hv;rw [hrun, plainElem_bool_inv Tryz.underlying4 hv]
theorem Seen.put {w w' : World} {M n : Nat} {ks : List ByteArray} {d : ByteArray} {D : DataW Unit} (h0 : w.ownsMap Tryz.prog 9 (plainElem Tryz.prog 4) M n D) (h2 : ∀ d : ByteArray, D.atKey (.string d.data.toList) (.lit (.bool false)) = .lit (.bool (ks.any (fun x => decide (x = d)))))
    (h1 : w'.ownsMap Tryz.prog 9 (plainElem Tryz.prog 4) M (n + 1) (D.put (.string d.data.toList) (.lit (.bool true)))) : Seen w' M (n + 1) (ks ++ [d]) := by
  refine ⟨_, h1, fun d' => ?_⟩;by_cases e : d = d'
  · subst e;rw [atKey_put_same h0.isMap (by trivial)];simp
  · rw [atKey_put_other, h2 d']
    · simp [e]
    · intro h
      injection h with h
      apply e
      cases d; cases d';simp only [ByteArray.mk.injEq]
      exact (Array.toList_inj.1 h.symm)
def KidsA (w : World) (B : Nat) (A : Nat -> Prop) (v : Value) (ts : List JV) : Prop :=
  ∃ rs : List Raw, rs.length = ts.length /\ w.ownsRow B 46 8 v ts.length (rs.flatMap Raw.cells) ∧
    ∀ i (h : i < rs.length) (h' : i < ts.length), IsV w (fun b => A b /\ some b ≠ v.ownBlock) rs[i] ts[i]
theorem KidsA.turn {w w' : World} {B : Nat} {A A' : Nat -> Prop} {v : Value} {ts : List JV} {row : Option Nat} (h : KidsA w B A v ts) (hg : w.grownBy w' row) (h1 : v.ownBlock = none ∨ v.ownBlock ≠ row) (h2 : ∀ b, A b -> b < w.heap.size -> some b ≠ row /\ A' b) : KidsA w' B A' v ts := by
  obtain ⟨rs, k1, k2, k3⟩ := h;refine ⟨rs, k1, k2.kept hg h1, fun i hi hi' => (k3 i hi hi').turn ⟨hg.size, fun b hb hlt => ?_⟩⟩;obtain ⟨h3, h4⟩ := h2 b hb.1 hlt;exact ⟨hg.block b hlt h3, h4, hb.2⟩
theorem KidsA.snoc {w w' : World} {B : Nat} {A : Nat -> Prop} {v v' : Value} {ts : List JV} {r : Raw} {t : JV} (rs : List Raw) (h1 : rs.length = ts.length) (h2 : w.ownsRow B 46 8 v ts.length (rs.flatMap Raw.cells))
    (h3 : ∀ i (h : i < rs.length) (h' : i < ts.length), IsV w (fun b => A b /\ some b ≠ v.ownBlock) rs[i] ts[i]) (hr : IsV w (fun b => A b /\ some b ≠ v.ownBlock) r t)
    (hown : w'.ownsRow B 46 8 v' (ts.length + 1) (rs.flatMap Raw.cells ++ r.cells)) (hg : w.grownBy w' v.ownBlock) (hl : v'.ownBlock = v.ownBlock ∨ v'.ownBlock = some w.heap.size) : KidsA w' B A v' (ts ++ [t]) := by
  have T : Turn w w' (fun b => A b /\ some b ≠ v.ownBlock) (fun b => A b /\ some b ≠ v'.ownBlock) := ⟨hg.size, fun b hb hlt => ⟨hg.block b hlt hb.2, hb.1, by
    rcases hl with e | e
    · rw [e]; exact hb.2
    · rw [e]; intro x; injection x with x; omega⟩⟩
  refine ⟨rs ++ [r], by simp [h1], by simpa using hown, fun i hi hi' => ?_⟩;by_cases hlt : i < rs.length
  · rw [List.getElem_append_left hlt, List.getElem_append_left (by omega)];exact (h3 i hlt (by omega)).turn T
  · have he : i = rs.length := by simp at hi; omega
    subst he;have e1 : (rs ++ [r])[rs.length] = r := by simp
    have e2 : (ts ++ [t])[rs.length]'(by simp [h1]) = t := by simp [<-h1]
    rw [e1, e2];exact hr.turn T
theorem rows_ne {w : World} {B B' e e' size size' n n' : Nat} {v v' : Value} {xs xs' : List Value} (h : w.ownsRow B e size v n xs) (h' : w.ownsRow B' e' size' v' n' xs') (hne : e ≠ e') : v.ownBlock = none ∨ v.ownBlock ≠ v'.ownBlock := by
  rcases h.2 with ⟨rfl, _⟩ | ⟨g, cap, cur, rfl, _, hgg, _⟩
  · exact .inl rfl
  · rcases h'.2 with ⟨rfl, _⟩ | ⟨g', cap', cur', rfl, _, hgg', _⟩
    · exact .inr (by simp [Value.ownBlock])
    · refine .inr fun he => ?_;simp only [Value.ownBlock, Option.some.injEq] at he
      subst he;rw [hgg] at hgg';simp only [Option.some.injEq, Obj.cells.injEq] at hgg'
      exact hne hgg'.2.1
section
variable {w w' w7 : World} {b M m : Nat} {ok : Prop} {ks : List ByteArray} {vs : List JV} {ka va : Option Addr} {kc vc : Nat}
end
open Go.RowKit Go.Maps Strs
theorem infoStr : (Tryz.prog.info? 9).map (fun i => (i.zero, i.size, i.bytes)) = some (some (.string ⟨#[]⟩), 1, 16) := by kernel_rfl
theorem row_ne {w : World} {b e size n : Nat} {v : Value} {xs : List Value} (h : w.ownsRow (b + 1) e size v n xs) : some b ≠ v.ownBlock := by
  intro e
  have := (h.lt b e.symm).1;omega
inductive Small (N : Nat) : JV -> Prop where
  | mk (k : Int) (i n : Bool) (d : ByteArray) (e : Int) (s : ByteArray) (ks : List ByteArray) (vs : List JV) : ks.length <= N -> vs.length <= N -> (∀ j (h : j < vs.length), Small N vs[j]) -> Small N (.mk k i n d e s ks vs)
theorem CellsAt.below {w w' : World} {b o : Nat} {r : Raw} (h : CellsAt w b o r) (hb : b < w.heap.size) (g : Below w.heap.size w w') : CellsAt w' b o r := fun j u hu => (World.cell?_of_block (g.block b hb)).trans (h j u hu)
theorem CellsAt.eight {w : World} {b o : Nat} {r : Raw} (h : CellsAt w b o r) : w.cell? ⟨b, o, none⟩ = some (.int .i64 r.kind) /\ w.cell? ⟨b, o + 1, none⟩ = some (.bool r.is) /\ w.cell? ⟨b, o + 2, none⟩ = some (.bool r.neg) /\ w.cell? ⟨b, o + 3, none⟩ = some (.string r.dig) /\ w.cell? ⟨b, o + 4, none⟩ = some (.int .i64 r.exp) /\ w.cell? ⟨b, o + 5, none⟩ = some (.string r.str) /\ w.cell? ⟨b, o + 6, none⟩ = some (.slice r.ka r.kn r.kc) /\ w.cell? ⟨b, o + 7, none⟩ = some (.slice r.va r.vn r.vc) :=
  ⟨h 0 _ rfl, h 1 _ rfl, h 2 _ rfl, h 3 _ rfl, h 4 _ rfl, h 5 _ rfl, h 6 _ rfl, h 7 _ rfl⟩
theorem IsV.parts {w : World} {A : Nat -> Prop} {r : Raw} {k : Int} {i n : Bool} {d : ByteArray} {e : Int} {s : ByteArray} {ks : List ByteArray} {vs : List JV} (h : IsV w A r (.mk k i n d e s ks vs)) : ∃ ka kc va vc, r = Raw.mk k i n d e s ka ks.length kc va vs.length vc /\ IsTexts w A ka ks /\ ∃ f : Nat -> Raw, (vs = [] ∨ ∃ b o, va = some ⟨b, o, none⟩ /\ b < w.heap.size /\ ∀ i, i < vs.length -> CellsAt w b (o + i * 8) (f i)) /\ ∀ i (h : i < vs.length), IsV w A (f i) vs[i] := by
  generalize hz : JV.mk k i n d e s ks vs = z at h
  cases h with
  | mk _ keys kids f h1 h2 h3 h4 h5 =>
    injection hz with e1 e2 e3 e4 e5 e6 e7 e8
    subst e7 e8;obtain ⟨kd, is, ng, dg, ex, st, ka, kn, kc, va, vn, vc⟩ := r;simp only at h1 h2 e1 e2 e3 e4 e5 e6
    subst e1 e2 e3 e4 e5 e6 h1 h2;refine ⟨ka, kc, va, vc, rfl, h3, f, ?_, h5⟩;rcases h4 with h4 | ⟨b, o, q1, _, q3, q4⟩
    · exact .inl h4
    · exact .inr ⟨b, o, q1, q3, q4⟩
theorem IsV.behind {w w' : World} {A : Nat -> Prop} {r : Raw} {t : JV} (h : IsV w A r t) (g : Below w.heap.size w w') : IsV w' A r t := h.turn (Turn.below g)
theorem deepNs_snoc (v : JV) : ∀ l : List JV, deepNs (l ++ [v]) = max (deepNs l) v.deepN
  | [] => by rw [List.nil_append, deepNs_cons, deepNs_nil]; omega
  | u :: l => by rw [List.cons_append, deepNs_cons, deepNs_snoc v l, deepNs_cons]; omega
theorem take_next {vs : List JV} {i : Nat} (h : i < vs.length) : vs.take (i + 1) = vs.take i ++ [vs[i]] := by
  rw [List.take_add_one, List.getElem?_eq_getElem h]; rfl
theorem deepNs_take (vs : List JV) : ∀ i, deepNs (vs.take i) <= deepNs vs := by
  induction vs with
  | nil => intro i; simp
  | cons v t ih =>
    intro i
    cases i with
    | zero => rw [List.take_zero, deepNs_nil]; omega
    | succ i => rw [List.take_succ_cons, deepNs_cons, deepNs_cons]; have := ih i; omega
theorem deepNs_mem (vs : List JV) (j : Nat) (h : j < vs.length) : vs[j].deepN <= deepNs vs := by
  have := deepNs_take vs (j + 1);rw [take_next h, deepNs_snoc] at this;omega
theorem own_new (w : World) (r : Raw) : ∃ w1, w.alloc (.cells #[.int .i64 r.kind, .bool r.is, .bool r.neg, .string r.dig, .int .i64 r.exp, .string r.str, .slice r.ka r.kn r.kc, .slice r.va r.vn r.vc] 46) = w1 ∧
    Hid (w1.heap[w.heap.size]? = some (.cells #[.int .i64 r.kind, .bool r.is, .bool r.neg, .string r.dig, .int .i64 r.exp, .string r.str, .slice r.ka r.kn r.kc, .slice r.va r.vn r.vc] 46 (0, 0))) /\ Hid (Below w.heap.size w w1) :=
  ⟨_, rfl, heap_alloc_new _ _, (Below.refl _ _).alloc (Nat.le_refl _) _⟩
theorem right_size {n : Bool} {l : List UInt8} {x : Int} (h : Num.right n l x = true) : l.length <= 1000 := by
  unfold Num.right at h;by_cases h0 : l = []
  · rw [h0]; exact Nat.zero_le _
  · rw [if_neg h0] at h;by_cases h1 : 1000 < l.length ∨ x < -10000 ∨ 10000 < x
    · rw [if_pos h1] at h; cases h
    · omega
inductive Held (N : Nat) : JV -> Prop where
  | mk (k : Int) (i n : Bool) (d : ByteArray) (e : Int) (s : ByteArray) (ks : List ByteArray) (vs : List JV) : d.size <= N -> s.size <= N -> ks.length <= N -> vs.length <= N -> (∀ x ∈ ks, x.size <= N) -> (∀ j (h : j < vs.length), Held N vs[j]) -> Held N (.mk k i n d e s ks vs)
structure OwnQ (k : Int) (is neg : Bool) (dig : ByteArray) (exp : Int) (str : ByteArray) (keys : List ByteArray) (n : Nat) : Prop where
  k1 : 1 <= k
  k6 : k <= 6
  is : k ≠ 2 -> is = false
  num : k ≠ 3 -> neg = false /\ dig = ⟨#[]⟩ /\ exp = 0
  text : k ≠ 4 -> str = ⟨#[]⟩
  kids : k < 5 -> n = 0
  noKeys : k ≠ 6 -> keys = []
  right : Num.right neg dig.data.toList exp = true
  valid : Utf.validB str.data.toList = true
  both : k = 6 -> keys.length = n
  words : ∀ x ∈ keys, Utf.validB x.data.toList = true
  apart : keys.Nodup
theorem toList_nil {s : ByteArray} (h : s ≠ ⟨#[]⟩) : s.toList.isEmpty = false := by
  rw [ByteArray.toList_eq]
  cases s with
  | mk a =>
    rw [List.isEmpty_eq_false_iff];intro e
    exact h (by rw [ByteArray.mk.injEq]; exact Array.toList_inj.1 e)
inductive GoodQ : JV -> Prop where
  | mk (k : Int) (i n : Bool) (d : ByteArray) (e : Int) (s : ByteArray) (ks : List ByteArray) (vs : List JV) : OwnQ k i n d e s ks vs.length -> (∀ j (h : j < vs.length), GoodQ vs[j]) -> GoodQ (.mk k i n d e s ks vs)
inductive Fine : JV -> Prop where
  | mk (k : Int) (i n : Bool) (d : ByteArray) (e : Int) (s : ByteArray) (ks : List ByteArray) (vs : List JV) : d.size <= 1200 -> s.size <= 6000 -> (∀ x ∈ ks, x.size <= 6000) -> (∀ j (h : j < vs.length), Fine vs[j]) -> Fine (.mk k i n d e s ks vs)
mutual
def JV.mass : JV -> Nat
  | .mk _ _ _ _ _ _ ks vs => 1 + ks.length + masses vs
def masses : List JV -> Nat
  | [] => 0
  | v :: t => v.mass + masses t
end
theorem masses_nil : masses [] = 0 := by rw [masses]
theorem masses_cons (v : JV) (t : List JV) : masses (v :: t) = v.mass + masses t := by rw [masses]
theorem mass_mk (k : Int) (i n : Bool) (d : ByteArray) (e : Int) (s : ByteArray) (ks : List ByteArray) (vs : List JV) : (JV.mk k i n d e s ks vs).mass = 1 + ks.length + masses vs := by rw [JV.mass]
theorem deepN_mk (k : Int) (i n : Bool) (d : ByteArray) (e : Int) (s : ByteArray) (ks : List ByteArray) (vs : List JV) : (JV.mk k i n d e s ks vs).deepN = (if k = 5 ∨ k = 6 then deepNs vs else 0) + 1 := by rw [JV.deepN]
/-! What sorting keeps. -/
theorem masses_sum (vs : List JV) : masses vs = (vs.map JV.mass).sum := by
  induction vs with
  | nil => rw [masses_nil]; rfl
  | cons v t ih => rw [masses_cons, ih]; rfl
theorem deepNs_le (vs : List JV) (d : Nat) : deepNs vs <= d ↔ ∀ v ∈ vs, v.deepN <= d := by
  induction vs with
  | nil => rw [deepNs_nil]; simp
  | cons v t ih => rw [deepNs_cons, Nat.max_le, ih]; simp
theorem goodq_mem {vs : List JV} : (∀ j (h : j < vs.length), GoodQ vs[j]) ↔ ∀ v ∈ vs, GoodQ v :=
  ⟨fun h v hv => by obtain ⟨j, hj, rfl⟩ := List.getElem_of_mem hv; exact h j hj, fun h j hj => h _ (List.getElem_mem hj)⟩
theorem fine_mem {vs : List JV} : (∀ j (h : j < vs.length), Fine vs[j]) ↔ ∀ v ∈ vs, Fine v :=
  ⟨fun h v hv => by obtain ⟨j, hj, rfl⟩ := List.getElem_of_mem hv; exact h j hj, fun h j hj => h _ (List.getElem_mem hj)⟩
set_option maxHeartbeats 4000000
theorem makeMap_hint (n : Int) : ∀ w, Sem.run Tryz.prog (Instr.makeMap 160 (some (.int .i64 n))) w = .ok (.map (some w.heap.size)) (w.alloc (.map #[] 0)) := fun w => by
  simp [Instr.makeMap, run_underlying Tryz.underlying160, asInt, asIntOf, Result.andThen]
theorem valid_yes (s : ByteArray) (w : World) (hs : s.size <= 4611686018427387904) (T : Utf.Sizes w) (h : Utf.validB s.data.toList = true) : Calls Tryz.prog 37 #[.string s] w fun e w' => e = .returned (.bool true) /\ w = w' := by
  have := Quote.valid_any s w hs T;rw [Utf.badZ_neg, h] at this;exact this
theorem areKeys_any (ks : List ByteArray) (ka : Option Addr) (kc : Nat) (A : Nat -> Prop) (w : World) (ht : IsTexts w A ka ks) (hl : ks.length <= 9000) (hs : ∀ x ∈ ks, x.size <= 6000) (hv : ∀ x ∈ ks, Utf.validB x.data.toList = true) (hn : ks.Nodup) (T : Utf.Sizes w) : Calls Tryz.prog 99 #[.slice ka ks.length kc] w fun e w' => e = .returned (.bool true) /\ Below w.heap.size w w' := by
  have HT : Hid (IsTexts w A ka ks) := ht;have HS := hZz hs;have HV := hZz hv;have HN := hZz hn;have HZ := hZz T;obtain ⟨w1, hw1⟩ : ∃ w1, w.alloc (.map #[] 0) = w1 := ⟨_, rfl⟩;have S1 : Hid (Seen w1 w.heap.size 0 []) := by rw [<-hw1]; exact Seen.made w
  have B1 : Hid (Below w.heap.size w w1) := by rw [<-hw1]; exact (Below.refl _ _).alloc (Nat.le_refl _) _
  clear ht hs hv hn T;have hmm := makeMap_hint ks.length;go_enter Tryz.func99, Tryz.ntmps99
  go_wp2_with fail
  clear hw1
  go_loopw [11] (fun p wr => ∃ i : Nat, p = .int .i64 i /\ i <= ks.length /\ Hid (Seen wr w.heap.size i (ks.take i)) /\ Hid (Below w.heap.size w wr)) (fun p _ => ks.length - (intOf p).toNat)
  case atStart => exact ⟨0, rfl, Nat.zero_le _, S1.out, B1.out⟩
  case round =>
    obtain ⟨i, rfl, hi, hS, hB⟩ := hrel;by_cases hlt : i < ks.length
    · have hne : ks ≠ [] := fun e => by rw [e] at hlt; simp at hlt
      have HT5 : Hid (IsTexts wr A ka ks) := IsTexts.turn HT.out (Turn.below hB.out);obtain ⟨b, o, rfl, _, _, hc⟩ := HT5.out.resolve_left hne;have g2 := hc i hlt;have hx2 := HS.out ks[i] (List.getElem_mem hlt);have hxv := HV.out ks[i] (List.getElem_mem hlt);have hno : (ks.take i).any (fun x => decide (x = ks[i])) = false := by
        rw [List.any_eq_false];intro x hx
        obtain ⟨j, hj, rfl⟩ := List.getElem_of_mem hx;rw [List.length_take] at hj;rw [List.getElem_take, decide_eq_true_eq];intro e
        exact absurd ((List.getElem_inj HN.out).1 e) (by omega)
      have htk : ks.take (i + 1) = ks.take i ++ [ks[i]] := by rw [List.take_add_one, List.getElem?_eq_getElem hlt]; rfl
      generalize ks[i] = x at *;have hlook := hS.out.look x (by unfold maxLen; omega);rw [hno] at hlook;have hva := valid_yes x wr (by omega) (HZ.out.stays hB.out) hxv;have hkey := key_of x (by unfold maxLen; omega);have HVA := hZz hva;have HTK := hZz htk;obtain ⟨D, hD1, hD2⟩ := hS.out;have HD1 : Hid (wr.ownsMap Tryz.prog 9 (plainElem Tryz.prog 4) w.heap.size i D) := hD1;have HD2 := hZz hD2;clear hc hva hno hxv htk hD1 hD2 HT5;go_wp2_with fail
      refine (Calls.mono HVA.out ?_);rintro e w' ⟨rfl, rfl⟩;go_wp2_with (at_mapUpdate; refine wpList_mapUpdate_own _ rfl _ _ _ 160 rfl 9 4 keyLaw Tryz.underlying160 _ w.heap.size i D rfl HD1.out (by unfold maxLen; omega) _ _ _ rfl rfl hkey _ [] (plainElem_bool Tryz.underlying4 true) ?_)
      intro w4 hown4 hgrow4
      have S4 : Hid (Seen w4 w.heap.size (i + 1) (ks.take (i + 1))) := by rw [Hid, HTK.out]; exact Seen.put HD1.out HD2.out hown4
      have B4 : Hid (Below w.heap.size w w4) := hB.out.grown hgrow4 hB.out.size (fun k e => by cases e; exact Nat.le_refl _);clear hown4 hgrow4 hlook g2;go_wp2_with fail
      go_roundw
      case rel => exact ⟨i + 1, by go_num, by omega, S4.out, B4.out⟩
      case measure => simp [intOf]; omega
    · go_wp2_with fail
      go_ret
      exact ⟨rfl, hB.out⟩
end Go.Proofs.YtfdjolfenghmaaaGreatDoor.Jdec
