/- A map from a resource's key to an int, as a function of the key. -/
import Derived.Test.YtfdjolfenghmaaaGreatDoorWSvD
import Derived.Maps.OwnSet
import Derived.Maps.Views
import Derived.DeepKeys5
set_option linter.unusedVariables false
set_option linter.unusedSimpArgs false
set_option maxRecDepth 100000
namespace Go.Proofs.YtfdjolfenghmaaaGreatDoor.Save
open Go.RowKit Go.Maps Go.Proofs.YtfdjolfenghmaaaGreatDoor.State
open Jdec (gb_set gb_below gb_refl)
theorem keyK : Keyed Tryz.prog 60 := Keyed.of_law (deep_law_gate (by kernel_rfl) (Nat.le_of_ble_eq_true (by kernel_rfl)) (Nat.le_of_ble_eq_true (by kernel_rfl)) (by kernel_rfl) (by kernel_rfl))
def keyVal (k : Key) : Value := .agg #[.string k.1, .string k.2.1, .string k.2.2.1, .string k.2.2.2]
def keyLs (k : Key) : List Lit := [.string k.1.data.toList, .string k.2.1.data.toList, .string k.2.2.1.data.toList, .string k.2.2.2.data.toList]
def keyB (k : Key) : List UInt8 := keyBytes (keyLs k)
structure KeyOk (k : Key) : Prop where
  a : k.1.size <= 100000
  b : k.2.1.size <= 100000
  c : k.2.2.1.size <= 100000
  d : k.2.2.2.size <= 100000
theorem KeyOk.wf {k : Key} (h : KeyOk k) : ∀ a ∈ keyLs k, a.keyWf := by
  have m : ∀ n, n <= 100000 -> n <= maxLen := fun n hn => by unfold maxLen; omega
  intro a ha
  simp only [keyLs, List.mem_cons, List.mem_nil_iff, or_false] at ha
  rcases ha with rfl | rfl | rfl | rfl
  · exact m _ (by simpa using h.a)
  · exact m _ (by simpa using h.b)
  · exact m _ (by simpa using h.c)
  · exact m _ (by simpa using h.d)
theorem keyB_inj {k l : Key} (hk : KeyOk k) (hl : KeyOk l) (h : keyB k = keyB l) : k = l := by
  have h1 := keyBytes_inj (l := keyLs k) (l' := keyLs l) (by simp [keyLs, Alike, Lit.sameKind]) hk.wf hl.wf h;obtain ⟨a, b, c, d⟩ := k;obtain ⟨x, y, z, u⟩ := l;simp only [keyLs] at h1
  injection h1 with e1 h1
  injection h1 with e2 h1
  injection h1 with e3 h1
  injection h1 with e4 _
  injection e1 with e1
  injection e2 with e2
  injection e3 with e3
  injection e4 with e4
  rw [bytes_inj e1, bytes_inj e2, bytes_inj e3, bytes_inj e4]
theorem lits_str (d : Nat) {s : ByteArray} (h : s.size <= maxLen) : Tryz.prog.keyLits (d + 1) 9 [.string s] = some [.string s.data.toList] := by
  simp [Program.keyLits, Tryz.underlying9, h]
theorem keyTypeK : Tryz.prog.keyType 60 = true := by kernel_rfl
theorem cellsK : Tryz.prog.cellsOf 60 = 4 := by kernel_rfl
theorem cellsS1 : Tryz.prog.cellsOf 9 = 1 := by kernel_rfl
theorem sizeP : ∃ d, Tryz.prog.types.size = d + 1 := by
  have : Nat.ble 1 Tryz.prog.types.size = true := by kernel_rfl
  exact ⟨Tryz.prog.types.size - 1, by have := Nat.le_of_ble_eq_true this; omega⟩
theorem keyOf_k {k : Key} (h : KeyOk k) : keyOf Tryz.prog 60 (keyVal k) = some (.string (keyB k)) := by
  obtain ⟨a, b, c, d⟩ := k;have m : ∀ n, n <= 100000 -> n <= maxLen := fun n hn => by unfold maxLen; omega
  have m1 := m _ h.a;have m2 := m _ h.b;have m3 := m _ h.c;have m4 := m _ h.d;simp only at m1 m2 m3 m4
  have e2 : (keyVal (a, b, c, d)).formed Tryz.prog 60 = true := by kernel_rfl
  obtain ⟨n, hn⟩ := sizeP;have e3 : Tryz.prog.keyLits (Tryz.prog.types.size + 1) 60 [.string a, .string b, .string c, .string d] = some (keyLs (a, b, c, d)) := by
    rw [hn];unfold Program.keyLits;rw [Tryz.underlying60];simp [cellsK, cellsS1, lits_str n m1, lits_str n m2, lits_str n m3, lits_str n m4, keyLs]
  unfold keyOf;rw [Tryz.underlying60];simp only [keyTypeK, e2, Bool.and_self, if_true]
  have e4 : (keyVal (a, b, c, d)).cells.toList = [.string a, .string b, .string c, .string d] := rfl;rw [e4, e3]
  rfl
/-! ## The map -/
def valR (v : Value) : Option (DataW Value × List MemPlace) := some (.held v, [])
theorem zeroInt (w : World) : (zeroValue 3).run Tryz.prog w = .ok (.int .i64 0) w := by kernel_rfl
def at? (D : DataW Value) (k : List UInt8) : Option Value := if has D (.string k) then (match D.atKey (.string k) .nil with | .held v => some v | _ => none) else none
def Held (D : DataW Value) : Prop := ∃ es, D = .map es /\ es.Pairwise (fun p q => p.1 ≠ q.1) /\ ∀ p ∈ es, ∃ k v, p = (Lit.string k, .held v)
theorem key_lit (k : List UInt8) : WideAt.IsKeyLit (.string k) := trivial
theorem Held.tidy {D : DataW Value} (h : Held D) : Tidy D := let ⟨es, e, h1, _⟩ := h; ⟨es, e, h1⟩
theorem at_has {D : DataW Value} (h : Held D) (k : List UInt8) : (at? D k).isSome = has D (.string k) := by
  obtain ⟨es, rfl, _, h2⟩ := h;unfold at?;cases e : has (.map es) (.string k)
  · rfl
  · rw [if_pos rfl];rw [has_eq, List.any_eq_true] at e;obtain ⟨p, hp, hk⟩ := e;have hf : (es.find? (fun p => p.1.sameKey (.string k))).isSome = true := by rw [List.find?_isSome]; exact ⟨p, hp, hk⟩
    obtain ⟨q, hq⟩ := Option.isSome_iff_exists.1 hf;obtain ⟨k', v, rfl⟩ := h2 q (List.mem_of_find?_eq_some hq);simp [DataW.atKey, hq]
theorem at_key {D : DataW Value} (h : Held D) (k : List UInt8) (z : Value) : D.atKey (.string k) (.held z) = .held ((at? D k).getD z) := by
  obtain ⟨es, rfl, _, h2⟩ := h;unfold at?;cases e : has (.map es) (.string k)
  · rw [atKey_of_not_has e]; rfl
  · rw [if_pos rfl];rw [has_eq, List.any_eq_true] at e;obtain ⟨p, hp, hk⟩ := e;have hf : (es.find? (fun p => p.1.sameKey (.string k))).isSome = true := by rw [List.find?_isSome]; exact ⟨p, hp, hk⟩
    obtain ⟨q, hq⟩ := Option.isSome_iff_exists.1 hf;obtain ⟨k', v, rfl⟩ := h2 q (List.mem_of_find?_eq_some hq);simp [DataW.atKey, hq]
theorem mem_insert {x p : Lit × DataW Value} : ∀ (l : List (Lit × DataW Value)), p ∈ DataW.insert x l ↔ p = x ∨ p ∈ l
  | [] => by simp [DataW.insert]
  | y :: r => by
    unfold DataW.insert;split
    · simp
    · simp only [List.mem_cons, mem_insert r]
      constructor
      · rintro (h | h | h)
        · exact .inr (.inl h)
        · exact .inl h
        · exact .inr (.inr h)
      · rintro (h | h | h)
        · exact .inr (.inl h)
        · exact .inl h
        · exact .inr (.inr h)
theorem Held.put {D : DataW Value} (h : Held D) (k : List UInt8) (v : Value) : Held (D.put (.string k) (.held v)) := by
  obtain ⟨es', e', h1'⟩ := h.tidy.put (key_lit k) (.held v);obtain ⟨es, rfl, h1, h2⟩ := h;refine ⟨es', e', h1', fun p hp => ?_⟩;have e2 : es' = DataW.insert (.string k, .held v) (es.filter fun p => !p.1.sameKey (.string k)) := by
    have : DataW.map (DataW.insert (.string k, .held v) (es.filter fun p => !p.1.sameKey (.string k))) = DataW.map es' := e';injection this with this; exact this.symm
  rw [e2, mem_insert] at hp;rcases hp with rfl | hp
  · exact ⟨k, v, rfl⟩
  · exact h2 p (List.mem_filter.1 hp).1
theorem at_put {D : DataW Value} (h : Held D) (k k' : List UInt8) (v : Value) : at? (D.put (.string k) (.held v)) k' = if k' = k then some v else at? D k' := by
  unfold at?;by_cases e : k' = k
  · subst e;rw [if_pos rfl, has_put_same h.tidy.isMap (key_lit _), if_pos rfl, atKey_put_same h.tidy.isMap (key_lit _)]
  · have hne : (Lit.string k') ≠ .string k := fun e2 => e (by injection e2);rw [if_neg e, has_put_other hne, atKey_put_other hne]
structure Places (w : World) (bm n : Nat) (gs : List (List Rec)) : Prop where
  m : ∃ D, w.ownsMap Tryz.prog 60 valR bm n D /\ Held D /\ ∀ k, KeyOk k -> at? D (keyB k) = (placeG gs k).map fun i => Value.int .i64 (i : Nat)
theorem Places.made (w : World) : Places (w.alloc (.map #[] 0)) w.heap.size 0 [] := ⟨.map [], World.ownsMap_made _ _ _ _, ⟨[], rfl, List.Pairwise.nil, fun p hp => by cases hp⟩, fun k _ => rfl⟩
theorem Places.lt {w : World} {bm n : Nat} {gs : List (List Rec)} (h : Places w bm n gs) : bm < w.heap.size := by obtain ⟨D, h1, _⟩ := h.m; exact h1.lt
theorem Places.kept {w w' : World} {bm n : Nat} {gs : List (List Rec)} {r : Option Nat} (h : Places w bm n gs) (hg : w.grownBy w' r) (hne : some bm ≠ r) : Places w' bm n gs := by
  obtain ⟨D, h1, h2⟩ := h.m;exact ⟨D, h1.kept hg hne, h2⟩
theorem Places.below {w w' : World} {bm n : Nat} {gs : List (List Rec)} (h : Places w bm n gs) (hb : Below w.heap.size w w') : Places w' bm n gs := h.kept (gb_below hb none) (by simp)
theorem Places.mono {w : World} {bm n n' : Nat} {gs : List (List Rec)} (h : Places w bm n gs) (hn : n <= n') : Places w bm n' gs := by obtain ⟨D, h1, h2⟩ := h.m; exact ⟨D, h1.mono hn, h2⟩
theorem Places.turn {w : World} {bm n : Nat} {gs gs' : List (List Rec)} (h : Places w bm n gs) (hg : ∀ k, placeG gs' k = placeG gs k) : Places w bm n gs' := by
  obtain ⟨D, h1, h2, h3⟩ := h.m;exact ⟨D, h1, h2, fun k hk => by rw [hg]; exact h3 k hk⟩
theorem Places.look {w : World} {bm n : Nat} {gs : List (List Rec)} (h : Places w bm n gs) {k : Key} (hk : KeyOk k) : (Instr.lookup 57 (.map (some bm)) (keyVal k) true).run Tryz.prog w = .ok (.tuple #[.int .i64 ((placeG gs k).getD 0 : Nat), .bool (placeG gs k).isSome]) w := by
  obtain ⟨D, h1, h2, h3⟩ := h.m;obtain ⟨v, ps, hr, hv⟩ := h1.look_ok keyK Tryz.underlying57 (zeroInt w) (zd := .held (.int .i64 0)) (zp := []) rfl (keyOf_k hk);rw [at_key h2, h3 k hk] at hv;have hv2 : some (DataW.held v, ([] : List MemPlace)) = some (.held (((placeG gs k).map fun i => Value.int .i64 (i : Nat)).getD (.int .i64 0)), ps) := hv;injection hv2 with hv2
  injection hv2 with hv2 _
  injection hv2 with hv2
  rw [hr, hv2, <-at_has h2, h3 k hk];cases placeG gs k <;> rfl
theorem Places.store {w : World} {bm n : Nat} {gs gs' : List (List Rec)} (h : Places w bm n gs) {k : Key} (hk : KeyOk k) (i : Nat) (hn : n <= 100000) (hg : ∀ k', placeG gs' k' = if k' = k then some i else placeG gs k') : ∃ w', (Instr.mapUpdate 57 (.map (some bm)) (keyVal k) (.int .i64 (i : Nat))).run Tryz.prog w = .ok () w' /\ Places w' bm (n + 1) gs' /\ w.grownBy w' (some bm) := by
  obtain ⟨D, h1, h2, h3⟩ := h.m;obtain ⟨w', hr, ho, ht⟩ := h1.store keyK Tryz.underlying57 (by unfold maxLen; omega) (keyOf_k hk) (val := .int .i64 (i : Nat)) (d := .held (.int .i64 (i : Nat))) (ps := []) rfl;refine ⟨w', hr, ⟨_, ho, h2.put _ _, fun k' hk' => ?_⟩, ht.grown⟩;rw [at_put h2, hg];by_cases e : k' = k
  · rw [if_pos e, e, if_pos rfl]; rfl
  · rw [if_neg e, if_neg (fun e2 => e (keyB_inj hk' hk e2)), h3 k' hk']
end Go.Proofs.YtfdjolfenghmaaaGreatDoor.Save
