/- A value in memory of its own: each part in blocks that no other part has. -/
import Derived.Test.YtfdjolfenghmaaaGreatDoorWJenR
import Derived.Test.YtfdjolfenghmaaaGreatDoorRows
import Derived.Test.YtfdjolfenghmaaaGreatDoorWJenP
import Derived.Test.YtfdjolfenghmaaaGreatDoorWAdV
import Derived.Deep.RegionLaw
import Derived.WalkKit
import Derived.Deep.DeepHandedRow
import Derived.ProofKit
import Derived.OpenShut
import Derived.ShutString
import Derived.ChangeOld
import Derived.Below
import Derived.Carry
import Derived.Deep.Slices
import Derived.Deep.RegionHeld3
set_option linter.unusedVariables false
set_option linter.unusedSimpArgs false
set_option maxRecDepth 100000
namespace Go.Proofs.YtfdjolfenghmaaaGreatDoor.Jdec
open Go.RowKit Strs
def setL (xs : List Value) (j : Nat) : List Value -> List Value
  | [] => xs
  | u :: us => setL (xs.set j u) (j + 1) us
theorem setL_mid : ∀ (us old A C : List Value), us.length = old.length -> setL (A ++ old ++ C) A.length us = A ++ us ++ C
  | [], [], A, C, _ => rfl
  | u :: us, o :: old, A, C, h => by
    have ih := setL_mid us old (A ++ [u]) C (by simpa using h);rw [setL, show A ++ (o :: old) ++ C = A ++ (o :: (old ++ C)) by simp, List.set_append_right _ _ (Nat.le_refl _), Nat.sub_self, List.set_cons_zero];rw [List.length_append, List.length_singleton] at ih;rw [show A ++ (u :: (old ++ C)) = (A ++ [u]) ++ old ++ C by simp, ih];simp
theorem row_setCells {w : World} {B : Nat} {T : TypeId} {m g n c : Nat} : ∀ (us : List Value) (j : Nat) (w : World) (xs : List Value), w.ownsRow B T m (.slice (some ⟨g, 0, none⟩) n c) n xs →
    (w.setCells g j us).ownsRow B T m (.slice (some ⟨g, 0, none⟩) n c) n (setL xs j us) /\ w.grownBy (w.setCells g j us) (some g)
  | [], j, w, xs, h => ⟨h, rfl, rfl, rfl, Nat.le_refl _, fun _ _ _ => rfl⟩
  | u :: us, j, w, xs, h => by
    obtain ⟨h1, h2⟩ := h.stored j u;obtain ⟨h3, h4⟩ := row_setCells (w := w) us (j + 1) _ _ h1;exact ⟨h3, h4.os.trans h2.os, h4.tape.trans h2.tape, h4.output.trans h2.output, Nat.le_trans h2.size h4.size, fun k hk hr => (h4.block k (Nat.lt_of_lt_of_le hk h2.size) hr).trans (h2.block k hk hr)⟩
theorem wpList_append_run {P : Program} {w w' : World} {ops : Array Oper} {rest : List Oper} {o : Oper} {a : Act} {Q : Exit -> Act -> World -> Prop} {v' : Value} (v1 v2 : Value) (t : TypeId) (hr : (Builtin.append_ #[t, t] o.type #[v1, v2]).run P w = .ok v' w') (hgd : o.guard = none) (s x : Operand)
    (ho : o.op = .call { callee := .builtin .append, args := #[s, x], argTypes := #[t, t] }) (hs : a.eval s = v1) (hx : a.eval x = v2) (h : wpList P ops Q rest (a.put o.dst v') w') : wpList P ops Q (o :: rest) a w := by
  refine wpList_plain hgd fun K hK => ?_;unfold Oper.wp;simp [execOp, ho, resolve, invoke, builtin, hs, hx, hr, Result.andThen]
  exact hK _ _ h
theorem row_cell {w : World} {B : Nat} {T : TypeId} {m n g c : Nat} {xs : List Value} (h : w.ownsRow B T m (.slice (some ⟨g, 0, none⟩) n c) n xs) (j : Nat) (hj : j < n * m) : ∃ z, w.cell? ⟨g, j, none⟩ = some z := by
  rw [h.cellAt j hj];have := h.1;exact ⟨_, List.getElem?_eq_getElem (by omega)⟩
theorem set6 {w : World} {b : Nat} {k : Int} {i n : Bool} {d : ByteArray} {e : Int} {s : ByteArray} {ka va ka' : Option Addr} {kn kc vn vc kn' kc' : Nat} {T : TypeId} (h : w.heap[b]? = some (.cells (Raw.mk k i n d e s ka kn kc va vn vc).arr T (0, 0))) :
    (w.setCell ⟨b, 6, none⟩ (.slice ka' kn' kc')).heap[b]? = some (.cells (Raw.mk k i n d e s ka' kn' kc' va vn vc).arr T (0, 0)) := by rw [heap_set_same h]; rfl
theorem set7 {w : World} {b : Nat} {k : Int} {i n : Bool} {d : ByteArray} {e : Int} {s : ByteArray} {ka va va' : Option Addr} {kn kc vn vc vn' vc' : Nat} {T : TypeId} (h : w.heap[b]? = some (.cells (Raw.mk k i n d e s ka kn kc va vn vc).arr T (0, 0))) :
    (w.setCell ⟨b, 7, none⟩ (.slice va' vn' vc')).heap[b]? = some (.cells (Raw.mk k i n d e s ka kn kc va' vn' vc').arr T (0, 0)) := by rw [heap_set_same h]; rfl
set_option maxHeartbeats 4000000
def PrP (wd : Bool) (t : JV) (w : World) (e : Ending) (w' : World) : Prop := ∃ s : ByteArray, e = .returned (.tuple #[.string s, .int .i64 0]) /\ s.data.toList = t.print wd 0 /\ Below w.heap.size w w'
theorem PrP.mk {wd : Bool} {t : JV} {w w' : World} {e : Ending} (s : ByteArray) (h1 : e = .returned (.tuple #[.string s, .int .i64 0])) (h2 : s.data.toList = t.print wd 0) (h3 : Below w.heap.size w w') : PrP wd t w e w' := ⟨s, h1, h2, h3⟩
theorem PrP.to {wd : Bool} {t : JV} {w w' : World} {e : Ending} (h : PrP wd t w e w') : ∃ s : ByteArray, e = .returned (.tuple #[.string s, .int .i64 0]) /\ Hid (s.data.toList = t.print wd 0) /\ Hid (Below w.heap.size w w') := h
theorem pb_newn (w : World) : ∃ w1, w.alloc (.cells #[.pointer none, .slice none 0 0] 74) = w1 /\ Hid (PB 74 w.heap.size w1 []) /\ Hid (Below w.heap.size w w1) :=
  ⟨_, rfl, ⟨#[.pointer none, .slice none 0 0], Nat.le_refl _, heap_alloc_new _ _, by decide, .inl rfl, ⟨_, rfl, World.ownsRow_nil _ _ _ _⟩, by decide, by kernel_rfl⟩, (Below.refl _ _).alloc (Nat.le_refl _) _⟩
theorem Alln.to {t : JV} {w0 w w' : World} {e : Ending} (h : Alln t w0 w e w') : ∃ s : ByteArray, e = .returned (.tuple #[.string s, .int .i64 0]) /\ Hid (s.data.toList = t.print false 0) /\ Hid (Below w0.heap.size w w') := h
theorem print_any (t : JV) (hg : GoodQ t) (hf : Fine t) (hm : t.mass <= 9000) (hd : t.deepN <= 64) (ra : Raw) (A : Nat -> Prop) (w : World) (T0 : Utf.Sizes w) (P0 : Pow10 w) (hi : IsV w A ra t) : Calls Tryz.prog 15 #[ra.val] w (PrP false t w) := by
  obtain ⟨w2, hw2, V2, B2⟩ := own_new w ra;have V2 : Hid (w2.heap[w.heap.size]? = some (.cells ra.arr 46 (0, 0))) := V2.out;obtain ⟨w3, hw3, K3, B3⟩ := pb_newn w2;have hl2 := heap_lt V2.out;have V3 : Hid (w3.heap[w.heap.size]? = some (.cells ra.arr 46 (0, 0))) := (B3.out.block _ (by omega)).trans V2.out;have ha := all_n w2 (T0.stays B2.out) (P0.stays B2.out) t hg hf hm hd ra w3 ((hi.behind B2.out).turn (Turn.mono w2 (fun _ _ _ => trivial))) K3.out B3.out;have HA := hZz ha;clear ha hi hg hf T0 P0;unfold Raw.val pvn at HA;unfold Raw.val;obtain ⟨⟨x0, x1, x2, x3, x4, x5, x6, x7⟩, _⟩ := val_cells V3.out;go_enter Tryz.func15, Tryz.ntmps15
  go_wp2_with fail
  refine (Calls.mono HA.out ?_);rintro z w4 hz;obtain ⟨s, rfl, hs, B4⟩ := hz.to;clear hz;go_wp2_with fail
  go_ret2
  exact PrP.mk s rfl hs.out ((B2.out.trans (B3.out.mono (by omega))).trans (B4.out.mono (by omega)))
end Go.Proofs.YtfdjolfenghmaaaGreatDoor.Jdec
namespace Go.Proofs.YtfdjolfenghmaaaGreatDoor
def flatD : Nat -> DataW Unit -> List Value
  | 0, _ => []
  | n + 1, .agg l => l.flatMap (flatD n)
  | _, .lit (.int k z) => [.int k z]
  | _, .lit (.string b) => [.string ⟨b.toArray⟩]
  | _, .lit (.bool b) => [.bool b]
  | _, _ => []
def fill (d : DataW Unit) : Obj -> Obj
  | .cells _ t fr => .cells (flatD 8 d).toArray t fr
  | o => o
open Go.ChangeShapes Go.WideShapes Go.ChangeAt Go.RowKit
theorem ownKnobs : ownKnob Tryz.prog.godebug = none := by kernel_rfl
theorem laidOut : laidOutB Tryz.prog = true := by kernel_rfl
theorem trodAll_stays {H : Type} {enc : TypeId × Value -> H} {W W' : World} (hb : Below W.heap.size W W') : ∀ {ts : List TypeId} {vs : List Value} {ds : List (DataW H)} {ps : List MemPlace},
    (∀ t ∈ ts, Tryz.prog.readableRec t = true) -> (∀ t ∈ ts, t < Tryz.prog.types.size) →
    DataW.TrodAll enc Tryz.prog W 0 (fun _ => true) true ts vs ds ps -> DataW.TrodAll enc Tryz.prog W' 0 (fun b => decide (b < W.heap.size)) true ts vs ds ps
  | [], [], [], _, _, _, h => h
  | t :: ts, v :: vs, d :: ds, ps, hr, hz, ⟨p, q, h, hs, e⟩ =>
    ⟨p, q, Below.trod laidOut (hr t (by simp)) (hz t (by simp)) h hb (by obtain ⟨m, hm⟩ := h; exact DataW.trod_lt m _ _ _ hm), trodAll_stays hb (fun t' h' => hr t' (by simp [h'])) (fun t' h' => hz t' (by simp [h'])) hs, e⟩
  | [], _ :: _, _, _, _, _, h => h.elim
  | [], [], _ :: _, _, _, _, h => h.elim
  | _ :: _, [], _, _, _, _, h => h.elim
  | _ :: _, _ :: _, [], _, _, _, h => h.elim
theorem readable_of {ts : List TypeId} (h : ts.all (fun t => Tryz.prog.readableRec t && decide (t < Tryz.prog.types.size)) = true) (t : TypeId) (ht : t ∈ ts) : Tryz.prog.readableRec t = true /\ t < Tryz.prog.types.size := by
  have := List.all_eq_true.1 h t ht
  simpa using this
open Go Go.RowKit
theorem hd {p : Prop} (h : p) : Hid p := h
theorem nz : (∀ (a : Act) (d : Tmp) (v : Value), a.put (some d) v = { a with tmps := a.tmps.setIfInBounds d v }) /\ (∀ (a : Act) (v : Value), a.put none v = a) ∧
    (∀ (l : List Value) (i : Nat) (v : Value), l.toArray.setIfInBounds i v = (l.set i v).toArray) /\ (∀ (x : Value) (l : List Value) (v : Value), (x :: l).set 0 v = v :: l) /\ (∀ (x : Value) (l : List Value) (n : Nat) (v : Value), (x :: l).set (n + 1) v = x :: l.set n v) ∧
    (∀ (l : List Bool) (i : Nat) (v : Bool), l.toArray.setIfInBounds i v = (l.set i v).toArray) /\ (∀ (x : Bool) (l : List Bool) (v : Bool), (x :: l).set 0 v = v :: l) /\ (∀ (x : Bool) (l : List Bool) (n : Nat) (v : Bool), (x :: l).set (n + 1) v = x :: l.set n v) ∧
    (∀ (l : List Oper) (i : Nat) (h : i < l.toArray.size), l.toArray[i] = l[i]'(by simpa using h)) /\ (∀ (x : Oper) (l : List Oper) (i : Nat) (h : i + 1 < (x :: l).length), (x :: l)[i + 1] = l[i]'(by simpa using h)) /\ (∀ (x : Oper) (l : List Oper) (h : 0 < (x :: l).length), (x :: l)[0] = x) :=
  ⟨fun _ _ _ => rfl, fun _ _ => rfl, fun _ _ _ => by simp, fun _ _ _ => rfl, fun _ _ _ _ => rfl, fun _ _ _ => by simp, fun _ _ _ => rfl, fun _ _ _ _ => rfl, fun _ _ _ => by simp, fun _ _ _ _ => rfl, fun _ _ _ => rfl⟩
section
variable {P : Program} {ops : Array Oper} {Q : Exit -> Act -> World -> Prop} {md : Region.Mode} {S : World -> Prop}
def mayTake (md : Region.Mode) (ops : Array Oper) (listed : Array Bool) (i : Nat) : Bool := Region.noSelect ops && (Region.free md ops listed i && (Region.ready md ops listed).contains i)
theorem tv (i : Nat) (v : Value) {oi : Oper} {fuel : Nat} {listed : Array Bool} {a : Act} {w : World}
    (hy : ∀ w, S w -> (execOp a.eval oi).run P w = .ok (.value v) w) (h : wpAnyH P md ops Q S fuel (listed.setIfInBounds i true) (a.put oi.dst v) w)
    (hi : ops[i]? = some oi := by rfl) (hc : mayTake md ops listed i = true := by kernel_rfl) (hQ : ∀ c a w, Q (.panic c) (a.put oi.dst v) w -> Q (.panic c) a w := by exact fun _ _ _ h => h)
    (hw : Region.wanted oi (yielded ops a.tmps) = true := by rfl) (hS : S w := by assumption) : wpAnyH P md ops Q S (fuel + 1) listed a w := by
  unfold mayTake at hc;rw [Bool.and_eq_true, Bool.and_eq_true] at hc;exact wpAnyH_take hi hc.1 hc.2.1 hc.2.2 hQ (.inl ⟨hw, hy⟩) hS h
theorem tk (i : Nat) {v : Value} {oi : Oper} {fuel : Nat} {listed : Array Bool} {a : Act} {w : World}
    (h : wpAnyH P md ops Q S fuel (listed.setIfInBounds i true) (a.put oi.dst v) w)
    (hi : ops[i]? = some oi := by rfl) (hc : mayTake md ops listed i = true := by kernel_rfl)
    (hw : Region.wanted oi (yielded ops a.tmps) = true := by rfl) (hS : S w := by assumption)
    (hy : ∀ w, S w -> (execOp a.eval oi).run P w = .ok (.value v) w := by intro w hs; clear hs; go_simp <;> with_reducible rfl)
    (hQ : ∀ c a w, Q (.panic c) (a.put oi.dst v) w -> Q (.panic c) a w := by exact fun _ _ _ h => h) : wpAnyH P md ops Q S (fuel + 1) listed a w :=
  tv i v hy h hi hc hQ hw hS
theorem tl (i : Nat) {v : Value} {oi : Oper} {fuel : Nat} {listed : Array Bool} {a : Act} {w : World}
    (h : wpAnyH P md ops Q S fuel (listed.setIfInBounds i true) (a.put oi.dst v) w)
    (hi : ops[i]? = some oi := by rfl) (hc : mayTake md ops listed i = true := by kernel_rfl)
    (hw : Region.wanted oi (yielded ops a.tmps) = true := by rfl) (hS : S w := by assumption)
    (hy : ∀ w, S w -> (execOp a.eval oi).run P w = .ok (.value v) w := by intro w hs; (try dsimp only at hs); go_simp <;> with_reducible rfl)
    (hQ : ∀ c a w, Q (.panic c) (a.put oi.dst v) w -> Q (.panic c) a w := by exact fun _ _ _ h => h) : wpAnyH P md ops Q S (fuel + 1) listed a w :=
  tv i v hy h hi hc hQ hw hS
theorem tn (i : Nat) {oi : Oper} {fuel : Nat} {listed : Array Bool} {a : Act} {w : World}
    (h : wpAnyH P md ops Q S fuel (listed.setIfInBounds i true) (a.put oi.dst undef) w)
    (hi : ops[i]? = some oi := by rfl) (hc : mayTake md ops listed i = true := by kernel_rfl) (hQ : ∀ c a w, Q (.panic c) (a.put oi.dst undef) w -> Q (.panic c) a w := by exact fun _ _ _ h => h)
    (hw : Region.wanted oi (yielded ops a.tmps) = false := by rfl) (hS : S w := by assumption) : wpAnyH P md ops Q S (fuel + 1) listed a w := by
  unfold mayTake at hc;rw [Bool.and_eq_true, Bool.and_eq_true] at hc;exact wpAnyH_take hi hc.1 hc.2.1 hc.2.2 hQ (.inr ⟨hw, rfl⟩) hS h
theorem rd (i : Nat) {o : Oper} {fuel : Nat} {listed : Array Bool} {a : Act} {w : World}
    (h : ∀ K' : Act -> World -> Prop, Shut (∀ a w, S w -> (S w -> wpAnyH P md ops Q S fuel (listed.setIfInBounds i true) a w) -> K' a w) -> if Region.wanted o (yielded ops a.tmps) = true then Oper.wp P o a w K' Q else K' (a.put o.dst undef) w)
    (hr : Region.ready md ops listed = [i] := by kernel_rfl) (ho : ops[i]? = some o := by rfl) : wpAnyH P md ops Q S (fuel + 1) listed a w :=
  wpAnyH_ready hr (by simp) (AllReadyH.cons ho h AllReadyH.nil)
end
end Go.Proofs.YtfdjolfenghmaaaGreatDoor
namespace Go.Proofs.YtfdjolfenghmaaaGreatDoor.State
open Go.RowKit Go.Shelf Utf Strs Go.Proofs.YtfdjolfenghmaaaGreatDoor.Addr
open Jdec (IsTexts Turn)
structure Rec where
  a : Adr
  prov : ByteArray
  id : ByteArray
  attrs : List (ByteArray × ByteArray)
structure At where
  pa : Option Addr
  pc : Nat
  ta : Option Addr
  tc : Nat
def At.zero : At := ⟨none, 0, none, 0⟩
def Rec.zero : Rec := ⟨zeroA, ⟨#[]⟩, ⟨#[]⟩, []⟩
def recArr (p : At) (r : Rec) : Array Value := #[.slice p.pa r.a.path.length p.pc, .string r.a.type, .string r.a.name, .int .i64 r.a.key, .int .u64 r.a.place, .string r.a.word, .string r.prov, .string r.id, .slice p.ta r.attrs.length p.tc]
def recV (p : At) (r : Rec) : Value := .agg #[.slice p.pa r.a.path.length p.pc, .string r.a.type, .string r.a.name, .int .i64 r.a.key, .int .u64 r.a.place, .string r.a.word, .string r.prov, .string r.id, .slice p.ta r.attrs.length p.tc]
def IsPairs (w : World) (A : Nat -> Prop) (a : Option Addr) (l : List (ByteArray × ByteArray)) : Prop :=
  l = [] ∨ ∃ b o, a = some ⟨b, o, none⟩ /\ A b /\ b < w.heap.size /\ ∀ i (h : i < l.length), w.cell? ⟨b, o + i * 2, none⟩ = some (.string l[i].1) /\ w.cell? ⟨b, o + i * 2 + 1, none⟩ = some (.string l[i].2)
structure IsRec (w : World) (A : Nat -> Prop) (p : At) (r : Rec) : Prop where
  path : IsTexts w A p.pa r.a.path
  attrs : IsPairs w A p.ta r.attrs
def IsRecs (w : World) (A : Nat -> Prop) (a : Option Addr) (l : List Rec) : Prop :=
  l = [] ∨ ∃ b o, a = some ⟨b, o, none⟩ /\ A b /\ b < w.heap.size /\ ∃ f : Nat -> At, ∀ i (h : i < l.length), (∀ j u, (recArr (f i) l[i])[j]? = some u -> w.cell? ⟨b, o + i * 9 + j, none⟩ = some u) /\ IsRec w A (f i) l[i]
structure Sta where
  serial : Nat
  lin : ByteArray
  recs : List Rec
def staArr (ra : Option Addr) (rc : Nat) (s : Sta) : Array Value := #[.int .u64 s.serial, .string s.lin, .slice ra s.recs.length rc]
def staV (ra : Option Addr) (rc : Nat) (s : Sta) : Value := .agg #[.int .u64 s.serial, .string s.lin, .slice ra s.recs.length rc]
theorem cell_blk {w w' : World} {b o : Nat} (h : w'.heap[b]? = w.heap[b]?) : w'.cell? ⟨b, o, none⟩ = w.cell? ⟨b, o, none⟩ := by simp only [World.cell?, h]
theorem IsPairs.turn {w w' : World} {A A' : Nat -> Prop} {a : Option Addr} {l : List (ByteArray × ByteArray)} (h : IsPairs w A a l) (t : Turn w w' A A') : IsPairs w' A' a l := by
  rcases h with h | ⟨b, o, ha, hA, hb, hc⟩
  · exact .inl h
  · obtain ⟨h1, h2⟩ := t.block b hA hb;exact .inr ⟨b, o, ha, h2, Nat.lt_of_lt_of_le hb t.size, fun i hi => ⟨by rw [cell_blk h1]; exact (hc i hi).1, by rw [cell_blk h1]; exact (hc i hi).2⟩⟩
theorem IsRec.turn {w w' : World} {A A' : Nat -> Prop} {p : At} {r : Rec} (h : IsRec w A p r) (t : Turn w w' A A') : IsRec w' A' p r := ⟨h.path.turn t, h.attrs.turn t⟩
theorem IsRecs.turn {w w' : World} {A A' : Nat -> Prop} {a : Option Addr} {l : List Rec} (h : IsRecs w A a l) (t : Turn w w' A A') : IsRecs w' A' a l := by
  rcases h with h | ⟨b, o, ha, hA, hb, f, hc⟩
  · exact .inl h
  · obtain ⟨h1, h2⟩ := t.block b hA hb;exact .inr ⟨b, o, ha, h2, Nat.lt_of_lt_of_le hb t.size, f, fun i hi => ⟨fun j u hu => by rw [cell_blk h1]; exact (hc i hi).1 j u hu, (hc i hi).2.turn t⟩⟩
theorem rec_new (w : World) (p : At) (r : Rec) : ∃ w1, w.alloc (.cells #[.slice p.pa r.a.path.length p.pc, .string r.a.type, .string r.a.name, .int .i64 r.a.key, .int .u64 r.a.place, .string r.a.word, .string r.prov, .string r.id, .slice p.ta r.attrs.length p.tc] 38) = w1 /\ Hid (w1.heap[w.heap.size]? = some (.cells (recArr p r) 38 (0, 0))) /\ Hid (Below w.heap.size w w1) :=
  ⟨_, rfl, heap_alloc_new _ _, (Below.refl _ _).alloc (Nat.le_refl _) _⟩
theorem rec_cells {w : World} {b : Nat} {p : At} {r : Rec} (h : w.heap[b]? = some (.cells (recArr p r) 38 (0, 0))) : w.cell? ⟨b, 0, none⟩ = some (.slice p.pa r.a.path.length p.pc) /\ w.cell? ⟨b, 1, none⟩ = some (.string r.a.type) /\ w.cell? ⟨b, 2, none⟩ = some (.string r.a.name) /\ w.cell? ⟨b, 3, none⟩ = some (.int .i64 r.a.key) /\ w.cell? ⟨b, 4, none⟩ = some (.int .u64 r.a.place) /\ w.cell? ⟨b, 5, none⟩ = some (.string r.a.word) /\ w.cell? ⟨b, 6, none⟩ = some (.string r.prov) /\ w.cell? ⟨b, 7, none⟩ = some (.string r.id) /\ w.cell? ⟨b, 8, none⟩ = some (.slice p.ta r.attrs.length p.tc) :=
  ⟨cell_of h 0, cell_of h 1, cell_of h 2, cell_of h 3, cell_of h 4, cell_of h 5, cell_of h 6, cell_of h 7, cell_of h 8⟩
theorem sta_new (w : World) (ra : Option Addr) (rc : Nat) (s : Sta) : ∃ w1, w.alloc (.cells #[.int .u64 s.serial, .string s.lin, .slice ra s.recs.length rc] 25) = w1 /\ Hid (w1.heap[w.heap.size]? = some (.cells (staArr ra rc s) 25 (0, 0))) /\ Hid (Below w.heap.size w w1) :=
  ⟨_, rfl, heap_alloc_new _ _, (Below.refl _ _).alloc (Nat.le_refl _) _⟩
structure Small (r : Rec) : Prop where
  l : r.a.path.length <= 3000
  s : ∀ x ∈ r.a.path, x.size <= 3000
  ty : r.a.type.size <= 3000
  nm : r.a.name.size <= 3000
  wd : r.a.word.size <= 3000
  p : r.a.place < 18446744073709551616
  pr : r.prov.size <= 6000
  id : r.id.size <= 6000
  n : r.attrs.length <= 3000
  at1 : ∀ x ∈ r.attrs, x.1.size <= 6000
  at2 : ∀ x ∈ r.attrs, x.2.size <= 6000
  m : r.attrs.length <= 60
theorem IsRec.adr {w : World} {p : At} {r : Rec} (h : IsRec w (fun _ => True) p r) (hs : Small r) : AdrAt w p.pa r.a := ⟨h.path, hs.l, hs.s, hs.ty, hs.nm, hs.wd, hs.p⟩
/-! ## What a right record is -/
def ltB (x y : ByteArray) : Bool := Op.bytesLess x.toList y.toList
def risingB : List (ByteArray × ByteArray) -> Bool
  | x :: y :: t => ltB x.1 y.1 && risingB (y :: t)
  | _ => true
def pairB (x : ByteArray × ByteArray) : Bool := decide (badZ x.1.data.toList < 0) && decide (badZ x.2.data.toList < 0)
def looseB (r : Rec) : Bool := rightA r.a && (decide (badZ r.prov.data.toList < 0) && (decide (badZ r.id.data.toList < 0) && r.attrs.all pairB))
def recB (r : Rec) : Bool := looseB r && risingB r.attrs
theorem rising_iff : ∀ l : List (ByteArray × ByteArray), risingB l = true ↔ ∀ j (h : j + 1 < l.length), ltB l[j].1 l[j + 1].1 = true := by
  intro l
  induction l with
  | nil => simp [risingB]
  | cons x t ih =>
    cases t with
    | nil => simp [risingB]
    | cons y t =>
      rw [risingB, Bool.and_eq_true, ih];constructor
      · rintro ⟨h1, h2⟩ j hj
        cases j with
        | zero => exact h1
        | succ j => exact h2 j (by simp only [List.length_cons] at hj ⊢; omega)
      · intro h
        exact ⟨h 0 (by simp), fun j hj => h (j + 1) (by simp only [List.length_cons] at hj ⊢; omega)⟩
theorem less_swap (x y : List UInt8) : Op.bytesLess y x = !(Op.bytesLess x y || (x == y)) := by
  have hn := compare_neg x y;rcases cmp_cases x y with ⟨h1, h2, h3⟩ | ⟨h1, h2, h3⟩ | ⟨h1, h2, h3⟩ <;> rcases cmp_cases y x with ⟨k1, k2, k3⟩ | ⟨k1, k2, k3⟩ | ⟨k1, k2, k3⟩
  all_goals first
    | (exfalso; rw [h1, k1] at hn; revert hn; decide)
    | (rw [h2, k2]; simp [h3])
end Go.Proofs.YtfdjolfenghmaaaGreatDoor.State
