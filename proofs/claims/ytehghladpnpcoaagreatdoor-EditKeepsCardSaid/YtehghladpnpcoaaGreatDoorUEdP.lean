/- Edits in plain: what a command does to a state. -/
import Derived.Test.YtehghladpnpcoaaGreatDoorUYa
import Derived.Test.YtehghladpnpcoaaGreatDoorUStN
import Derived.Maps.OwnSet
import Derived.Maps.Views
import Derived.Sort.KeysCollected
set_option linter.unusedVariables false
set_option linter.unusedSimpArgs false
set_option maxRecDepth 100000
namespace Go.Proofs.YtehghladpnpcoaaGreatDoor.State.Edit
open Go.RowKit Utf Strs Go.Proofs.YtehghladpnpcoaaGreatDoor.Addr Go.Proofs.YtehghladpnpcoaaGreatDoor.State
structure Cmd where
  kind : Int
  fr : Adr
  ad : Adr
  r : Rec
def noA (a : Adr) : Bool := sameA a zeroA
def noR (r : Rec) : Bool := noA r.a && (r.prov.toList.isEmpty && (r.id.toList.isEmpty && r.attrs.isEmpty))
def rightC (c : Cmd) : Bool := if c.kind = 1 then rightA c.fr && (rightA c.ad && noR c.r) else if c.kind = 2 then rightA c.fr && (noA c.ad && noR c.r) else if c.kind = 3 then recB c.r && (noA c.fr && noA c.ad) else false
def recOf (a : Adr) : Rec := ⟨a, ⟨#[]⟩, ⟨#[]⟩, []⟩
structure SmallC (c : Cmd) : Prop where
  f : Small (recOf c.fr)
  t : Small (recOf c.ad)
  r : Small c.r
def moved (r : Rec) (a : Adr) : Rec := ⟨a, r.prov, r.id, r.attrs⟩
theorem moved_right {r : Rec} {a : Adr} (h : recB r = true) (ha : rightA a = true) : recB (moved r a) = true := by
  rw [recB, Bool.and_eq_true, looseB, Bool.and_eq_true] at h ⊢;exact ⟨⟨ha, h.1.2⟩, h.2⟩
theorem moved_small {r : Rec} {a : Adr} (h : Small r) (ha : Small (recOf a)) : Small (moved r a) := ⟨ha.l, ha.s, ha.ty, ha.nm, ha.wd, ha.p, h.pr, h.id, h.n, h.at1, h.at2⟩
def dropA (l : List Rec) (a : Adr) : List Rec := l.filter fun x => !sameA x.a a
theorem mem_dropA (l : List Rec) (a : Adr) (x : Rec) : x ∈ dropA l a ↔ x ∈ l /\ x.a ≠ a := by
  rw [dropA, List.mem_filter];constructor
  · rintro ⟨h1, h2⟩;exact ⟨h1, fun e => by rw [(sameA_iff _ _).2 e] at h2; cases h2⟩
  · rintro ⟨h1, h2⟩;refine ⟨h1, ?_⟩;cases h : sameA x.a a
    · rfl
    · exact absurd ((sameA_iff _ _).1 h) h2
theorem good_dropA {l : List Rec} (h : Good l) (a : Adr) : Good (dropA l a) := h.sub List.filter_sublist
theorem dropA_len (l : List Rec) (a : Adr) : (dropA l a).length <= l.length := List.length_filter_le _ _
theorem place_ex : ∀ {l : List Rec}, l.Pairwise Lt -> ∀ t, ∃ i, Place l t i
  | [], _, t => ⟨0, ⟨Nat.le_refl _, (fun m hm _ => by cases hm), (fun m hm _ => by cases hm)⟩⟩
  | x :: l, h, t => by
    rw [List.pairwise_cons] at h;cases hx : Op.bytesLess (printA x.a) t
    · refine ⟨0, ⟨Nat.zero_le _, fun m hm h0 => by omega, fun m hm _ => ?_⟩⟩
      cases m with
      | zero => exact hx
      | succ m =>
        have hm' : m < l.length := by simpa using hm
        cases h3 : Op.bytesLess (printA l[m].a) t
        · exact h3
        · have h4 := less_trans (h.1 l[m] (List.getElem_mem hm')) h3;rw [hx] at h4; cases h4
    · obtain ⟨i, hi⟩ := place_ex h.2 t;refine ⟨i + 1, ⟨by have := hi.n; rw [List.length_cons]; omega, fun m hm hl => ?_, fun m hm hl => ?_⟩⟩
      · cases m with
        | zero => exact hx
        | succ m => exact hi.lo m (by simpa using hm) (by omega)
      · cases m with
        | zero => omega
        | succ m => exact hi.hi m (by simpa using hm) (by omega)
theorem next_ex (l : List Rec) (t : List UInt8) (i : Nat) : ∃ nx, Next l t i nx := by
  by_cases h : Is l t i
  · exact ⟨i + 1, .inl ⟨h, rfl⟩⟩
  · exact ⟨i, .inr ⟨h, rfl⟩⟩
theorem put_ex {l : List Rec} {r : Rec} (h : Good l) (hr : recB r = true) (hs : Small r) : ∃ l', Good l' /\ (∀ x, x ∈ l' ↔ x = r ∨ x ∈ l /\ x.a ≠ r.a) /\ l'.length <= l.length + 1 := by
  obtain ⟨i, hP⟩ := place_ex h.o (printA r.a);obtain ⟨nx, hN⟩ := next_ex l (printA r.a) i;have hle := next_le hN hP;refine ⟨putR l r i nx, good_put h hr hs hP hN, mem_put h hr hs hP hN, ?_⟩;rw [putR, List.length_append, List.length_cons, List.length_take, List.length_drop]; omega
def hasB (l : List Rec) (a : Adr) : Bool := l.any fun x => sameA x.a a
theorem hasB_iff (l : List Rec) (a : Adr) : hasB l a = true ↔ ∃ x ∈ l, x.a = a := by
  rw [hasB, List.any_eq_true];exact ⟨fun ⟨x, h1, h2⟩ => ⟨x, h1, (sameA_iff _ _).1 h2⟩, fun ⟨x, h1, h2⟩ => ⟨x, h1, (sameA_iff _ _).2 h2⟩⟩
theorem hasB_not (l : List Rec) (a : Adr) : hasB l a = false ↔ ∀ x ∈ l, x.a ≠ a := by
  rw [Bool.eq_false_iff, ne_eq, hasB_iff];exact ⟨fun h x hx e => h ⟨x, hx, e⟩, fun h ⟨x, hx, e⟩ => h x hx e⟩
def thereC (l : List Rec) (c : Cmd) : Bool := if c.kind = 1 then hasB l c.ad else if c.kind = 3 then hasB l c.r.a else false
def errC (s : Sta) (c : Cmd) : Int := if rightC c = false then 1 else if (!decide (c.kind = 3) && !hasB s.recs c.fr) = true then 12 else if thereC s.recs c = true then 11 else if s.serial = 18446744073709551615 then 13 else 0
def memC (l : List Rec) (c : Cmd) (x : Rec) : Prop := if c.kind = 1 then (x ∈ l /\ x.a ≠ c.fr) ∨ ∃ r ∈ l, r.a = c.fr /\ x = moved r c.ad else if c.kind = 2 then x ∈ l /\ x.a ≠ c.fr else x ∈ l ∨ x = c.r
structure Done (s : Sta) (c : Cmd) (s' : Sta) : Prop where
  bad : errC s c ≠ 0 -> s' = s
  ser : errC s c = 0 -> s'.serial = s.serial + 1
  lin : s'.lin = s.lin
  mem : errC s c = 0 -> ∀ x, x ∈ s'.recs ↔ memC s.recs c x
  good : Good s'.recs
theorem Done.uniq {s s1 s2 : Sta} {c : Cmd} (h : Done s c s1) (h' : Done s c s2) : s1 = s2 := by
  by_cases e : errC s c = 0
  · have h1 : s1.serial = s2.serial := by rw [h.ser e, h'.ser e]
    have h2 : s1.lin = s2.lin := by rw [h.lin, h'.lin]
    have h3 : s1.recs = s2.recs := good_ext h.good.o h'.good.o fun x => by rw [h.mem e, h'.mem e]
    cases s1; cases s2; cases h1; cases h2; cases h3; rfl
  · rw [h.bad e, h'.bad e]
theorem rightC_cases {c : Cmd} (h : rightC c = true) : (c.kind = 1 /\ rightA c.fr = true /\ rightA c.ad = true /\ noR c.r = true) ∨ (c.kind = 2 /\ rightA c.fr = true /\ noA c.ad = true /\ noR c.r = true) ∨ (c.kind = 3 /\ recB c.r = true /\ noA c.fr = true /\ noA c.ad = true) := by
  unfold rightC at h;split at h
  · rename_i hk; rw [Bool.and_eq_true, Bool.and_eq_true] at h; exact .inl ⟨hk, h⟩
  · split at h
    · rename_i hk; rw [Bool.and_eq_true, Bool.and_eq_true] at h; exact .inr (.inl ⟨hk, h⟩)
    · split at h
      · rename_i hk; rw [Bool.and_eq_true, Bool.and_eq_true] at h; exact .inr (.inr ⟨hk, h⟩)
      · cases h
structure Okay (s : Sta) (c : Cmd) : Prop where
  r : rightC c = true
  f : c.kind ≠ 3 -> ∃ x ∈ s.recs, x.a = c.fr
  t : c.kind = 1 -> ∀ x ∈ s.recs, x.a ≠ c.ad
  g : c.kind = 3 -> ∀ x ∈ s.recs, x.a ≠ c.r.a
  n : s.serial ≠ 18446744073709551615
theorem err_okay {s : Sta} {c : Cmd} : errC s c = 0 ↔ Okay s c := by
  unfold errC;constructor
  · intro h
    split at h
    · exact absurd h (by decide)
    · split at h
      · exact absurd h (by decide)
      · split at h
        · exact absurd h (by decide)
        · split at h
          · exact absurd h (by decide)
          · rename_i h1 h2 h3 h4
            rw [Bool.not_eq_false] at h1;rw [Bool.not_eq_true] at h2 h3;refine ⟨h1, fun hk => ?_, fun hk => ?_, fun hk => ?_, h4⟩
            · rw [decide_eq_false hk, Bool.not_false, Bool.true_and, Bool.not_eq_false'] at h2;exact (hasB_iff _ _).1 h2
            · rw [thereC, if_pos hk] at h3;exact (hasB_not _ _).1 h3
            · rw [thereC, if_neg (by rw [hk]; decide), if_pos hk] at h3;exact (hasB_not _ _).1 h3
  · intro h
    rw [if_neg (by rw [h.r]; decide), if_neg, if_neg, if_neg h.n]
    · unfold thereC;split
      · rename_i hk; rw [(hasB_not _ _).2 (h.t hk)]; decide
      · split
        · rename_i hk; rw [(hasB_not _ _).2 (h.g hk)]; decide
        · decide
    · by_cases hk : c.kind = 3
      · rw [decide_eq_true hk]; simp
      · rw [(hasB_iff _ _).2 (h.f hk)]; simp
theorem keyL_len (a : Adr) (hw : a.word.size <= 3000) (hp : a.place < 18446744073709551616) : (keyL a).length <= 18010 := by
  unfold keyL;split
  · have := Lib.nDigits_le20 a.place hp;rw [List.length_cons, List.length_append, Lib.decDigits_length, List.length_singleton];omega
  · split
    · have h1 := Quote.qps_len a.word.data.toList;have h2 : a.word.data.toList.length = a.word.size := by simp
      have h3 : Quote.qprint a.word.data.toList = 34 :: (a.word.data.toList.flatMap Quote.qp ++ [34]) := rfl;rw [h3];simp only [List.length_append, List.length_cons, List.length_nil]
      omega
    · exact Nat.zero_le _
theorem print_len {a : Adr} (h : Small (recOf a)) : (printA a).length <= 100000 := by
  unfold printA;split
  · rename_i hr
    have hp20 := (right_parts hr).len;have h1 := path_size a.path 3000 h.s;have h2 : (pathL a.path).length <= 60160 := Nat.le_trans h1 (by have := Nat.mul_le_mul_right (3000 + 8) hp20; omega);have h3 := keyL_len a h.wd h.p;have hty : a.type.data.toList.length = a.type.size := by simp
    have hnm : a.name.data.toList.length = a.name.size := by simp
    have h4 : a.type.size <= 3000 := h.ty;have h5 : a.name.size <= 3000 := h.nm;simp only [printR, headL, List.length_append, List.length_cons]
    omega
  · exact Nat.zero_le _
theorem small_adr {r : Rec} (h : Small r) : Small (recOf r.a) := ⟨h.l, h.s, h.ty, h.nm, h.wd, h.p, Nat.zero_le _, Nat.zero_le _, Nat.zero_le _, (fun x h => by cases h), (fun x h => by cases h)⟩
end Go.Proofs.YtehghladpnpcoaaGreatDoor.State.Edit
set_option linter.unusedVariables false
set_option linter.unusedSimpArgs false
set_option maxRecDepth 100000
namespace Go.Proofs.YtehghladpnpcoaaGreatDoor.State.Edit
open Go.RowKit Go.Maps Go.Proofs.YtehghladpnpcoaaGreatDoor.State
open Jdec (gb_set gb_below gb_refl)
def recR (v : Value) : Option (DataW Value × List MemPlace) := some (.held v, [])
theorem keyS : Keyed Tryz.prog 9 := string_keyed Tryz.underlying9
theorem zeroRec (w : World) : (zeroValue 38).run Tryz.prog w = .ok (recV At.zero Rec.zero) w := by kernel_rfl
def at? (D : DataW Value) (k : List UInt8) : Option Value := if has D (.string k) then (match D.atKey (.string k) .nil with | .held v => some v | _ => none) else none
def Held (D : DataW Value) : Prop := ∃ es, D = .map es /\ es.Pairwise (fun p q => p.1 ≠ q.1) /\ ∀ p ∈ es, ∃ k v, p = (Lit.string k, .held v)
def MapAt (w : World) (bm n : Nat) (m : List UInt8 -> Option Value) : Prop := ∃ D, w.ownsMap Tryz.prog 9 recR bm n D /\ Held D /\ ∀ k, at? D k = m k
theorem key_lit (k : List UInt8) : WideAt.IsKeyLit (.string k) := trivial
theorem Held.tidy {D : DataW Value} (h : Held D) : Tidy D := let ⟨es, e, h1, _⟩ := h; ⟨es, e, h1⟩
theorem at_has {D : DataW Value} (h : Held D) (k : List UInt8) : (at? D k).isSome = has D (.string k) := by
  obtain ⟨es, rfl, _, h2⟩ := h;unfold at?;cases e : has (.map es) (.string k)
  · rfl
  · rw [if_pos rfl];rw [has_eq, List.any_eq_true] at e;obtain ⟨p, hp, hk⟩ := e;have hf : (es.find? (fun p => p.1.sameKey (.string k))).isSome = true := by rw [List.find?_isSome]; exact ⟨p, hp, hk⟩
    obtain ⟨q, hq⟩ := Option.isSome_iff_exists.1 hf;obtain ⟨k', v, rfl⟩ := h2 q (List.mem_of_find?_eq_some hq);simp [DataW.atKey, hq]
theorem at_key {D : DataW Value} (h : Held D) (k : List UInt8) (z : Value) : D.atKey (.string k) (.held z) = .held ((at? D k).getD z) := by
  obtain ⟨es, rfl, _, h2⟩ := h;unfold at?;cases e : has (.map es) (.string k)
  · rw [atKey_of_not_has e]; rfl
  · rw [if_pos rfl];rw [has_eq, List.any_eq_true] at e;obtain ⟨p, hp, hk⟩ := e;have hf : (es.find? (fun p => p.1.sameKey (.string k))).isSome = true := by rw [List.find?_isSome]; exact ⟨p, hp, hk⟩
    obtain ⟨q, hq⟩ := Option.isSome_iff_exists.1 hf;obtain ⟨k', v, rfl⟩ := h2 q (List.mem_of_find?_eq_some hq);simp [DataW.atKey, hq]
theorem mem_insert {x p : Lit × DataW Value} : ∀ (l : List (Lit × DataW Value)), p ∈ DataW.insert x l ↔ p = x ∨ p ∈ l
  | [] => by simp [DataW.insert]
  | y :: r => by
    unfold DataW.insert;split
    · simp
    · simp only [List.mem_cons, mem_insert r]
      constructor
      · rintro (h | h | h)
        · exact .inr (.inl h)
        · exact .inl h
        · exact .inr (.inr h)
      · rintro (h | h | h)
        · exact .inr (.inl h)
        · exact .inl h
        · exact .inr (.inr h)
theorem Held.put {D : DataW Value} (h : Held D) (k : List UInt8) (v : Value) : Held (D.put (.string k) (.held v)) := by
  obtain ⟨es', e', h1'⟩ := h.tidy.put (key_lit k) (.held v);obtain ⟨es, rfl, h1, h2⟩ := h;refine ⟨es', e', h1', fun p hp => ?_⟩;have e2 : es' = DataW.insert (.string k, .held v) (es.filter fun p => !p.1.sameKey (.string k)) := by
    have : DataW.map (DataW.insert (.string k, .held v) (es.filter fun p => !p.1.sameKey (.string k))) = DataW.map es' := e';injection this with this; exact this.symm
  rw [e2, mem_insert] at hp;rcases hp with rfl | hp
  · exact ⟨k, v, rfl⟩
  · exact h2 p (List.mem_filter.1 hp).1
theorem Held.del {D : DataW Value} (h : Held D) (k : List UInt8) : Held (D.del (.string k)) := by
  obtain ⟨es', e', h1'⟩ := h.tidy.del (.string k);obtain ⟨es, rfl, h1, h2⟩ := h;refine ⟨es', e', h1', fun p hp => ?_⟩;have e2 : es' = es.filter fun p => !p.1.sameKey (.string k) := by
    have : DataW.map (es.filter fun p => !p.1.sameKey (.string k)) = DataW.map es' := e';injection this with this; exact this.symm
  rw [e2] at hp;exact h2 p (List.mem_filter.1 hp).1
theorem at_put {D : DataW Value} (h : Held D) (k k' : List UInt8) (v : Value) : at? (D.put (.string k) (.held v)) k' = if k' = k then some v else at? D k' := by
  unfold at?;by_cases e : k' = k
  · subst e;rw [if_pos rfl, has_put_same h.tidy.isMap (key_lit _), if_pos rfl, atKey_put_same h.tidy.isMap (key_lit _)]
  · have hne : (Lit.string k') ≠ .string k := fun e2 => e (by injection e2);rw [if_neg e, has_put_other hne, atKey_put_other hne]
theorem at_del {D : DataW Value} (k k' : List UInt8) : at? (D.del (.string k)) k' = if k' = k then none else at? D k' := by
  unfold at?;by_cases e : k' = k
  · subst e;rw [if_pos rfl, has_del_same]; rfl
  · have hne : (Lit.string k') ≠ .string k := fun e2 => e (by injection e2);rw [if_neg e, has_del_other hne, atKey_del_other hne]
/-! ## What the map's operations do -/
theorem MapAt.made (w : World) : MapAt (w.alloc (.map #[] 0)) w.heap.size 0 (fun _ => none) := ⟨.map [], World.ownsMap_made _ _ _ _, ⟨[], rfl, List.Pairwise.nil, fun p hp => by cases hp⟩, fun k => rfl⟩
theorem MapAt.lt {w : World} {bm n : Nat} {m : List UInt8 -> Option Value} (h : MapAt w bm n m) : bm < w.heap.size := by obtain ⟨D, h1, _⟩ := h; exact h1.lt
theorem MapAt.mono {w : World} {bm n n' : Nat} {m : List UInt8 -> Option Value} (h : MapAt w bm n m) (hn : n <= n') : MapAt w bm n' m := by obtain ⟨D, h1, h2⟩ := h; exact ⟨D, h1.mono hn, h2⟩
theorem MapAt.kept {w w' : World} {bm n : Nat} {m : List UInt8 -> Option Value} {r : Option Nat} (h : MapAt w bm n m) (hg : w.grownBy w' r) (hne : some bm ≠ r) : MapAt w' bm n m := by
  obtain ⟨D, h1, h2⟩ := h;exact ⟨D, h1.kept hg hne, h2⟩
theorem MapAt.below {w w' : World} {bm n : Nat} {m : List UInt8 -> Option Value} (h : MapAt w bm n m) (hb : Below w.heap.size w w') : MapAt w' bm n m := h.kept (gb_below hb none) (by simp)
theorem keyOf_s {s : ByteArray} (hs : s.size <= 100000) : keyOf Tryz.prog 9 (.string s) = some (.string s.data.toList) := WideMaps.keyOf_string_mk Tryz.underlying9 (by unfold maxLen; omega)
theorem MapAt.look {w : World} {bm n : Nat} {m : List UInt8 -> Option Value} (h : MapAt w bm n m) (s : ByteArray) (hs : s.size <= 100000) : (Instr.lookup 132 (.map (some bm)) (.string s) false).run Tryz.prog w = .ok ((m s.data.toList).getD (recV At.zero Rec.zero)) w := by
  obtain ⟨D, h1, h2, h3⟩ := h;obtain ⟨v, ps, hr, hv⟩ := h1.lookup keyS Tryz.underlying132 (zeroRec w) (zd := .held (recV At.zero Rec.zero)) (zp := []) rfl (keyOf_s hs);rw [at_key h2, h3] at hv;have hv2 : some (DataW.held v, ([] : List MemPlace)) = some (.held ((m s.data.toList).getD (recV At.zero Rec.zero)), ps) := hv;injection hv2 with hv2
  injection hv2 with hv2 _
  injection hv2 with hv2
  rw [hr, hv2]
theorem MapAt.look_ok {w : World} {bm n : Nat} {m : List UInt8 -> Option Value} (h : MapAt w bm n m) (s : ByteArray) (hs : s.size <= 100000) : (Instr.lookup 132 (.map (some bm)) (.string s) true).run Tryz.prog w = .ok (.tuple #[(m s.data.toList).getD (recV At.zero Rec.zero), .bool (m s.data.toList).isSome]) w := by
  obtain ⟨D, h1, h2, h3⟩ := h;obtain ⟨v, ps, hr, hv⟩ := h1.look_ok keyS Tryz.underlying132 (zeroRec w) (zd := .held (recV At.zero Rec.zero)) (zp := []) rfl (keyOf_s hs);rw [at_key h2, h3] at hv;have hv2 : some (DataW.held v, ([] : List MemPlace)) = some (.held ((m s.data.toList).getD (recV At.zero Rec.zero)), ps) := hv;injection hv2 with hv2
  injection hv2 with hv2 _
  injection hv2 with hv2
  rw [hr, hv2, <-at_has h2, h3]
theorem MapAt.store {w : World} {bm n : Nat} {m : List UInt8 -> Option Value} (h : MapAt w bm n m) (s : ByteArray) (hs : s.size <= 100000) (v : Value) (hn : n <= 100000) : ∃ w', (Instr.mapUpdate 132 (.map (some bm)) (.string s) v).run Tryz.prog w = .ok () w' /\ MapAt w' bm (n + 1) (fun k => if k = s.data.toList then some v else m k) /\ w.grownBy w' (some bm) := by
  obtain ⟨D, h1, h2, h3⟩ := h;obtain ⟨w', hr, ho, ht⟩ := h1.store keyS Tryz.underlying132 (by unfold maxLen; omega) (keyOf_s hs) (val := v) (d := .held v) (ps := []) rfl;exact ⟨w', hr, ⟨_, ho, h2.put _ _, fun k => by rw [at_put h2, h3]⟩, ht.grown⟩
theorem MapAt.drop {w : World} {bm n : Nat} {m : List UInt8 -> Option Value} (h : MapAt w bm n m) (s : ByteArray) (hs : s.size <= 100000) (ty : TypeId) : ∃ w', (Builtin.delete_ #[132, 9] ty #[.map (some bm), .string s]).run Tryz.prog w = .ok (.tuple #[]) w' /\ MapAt w' bm n (fun k => if k = s.data.toList then none else m k) /\ w.grownBy w' (some bm) := by
  obtain ⟨D, h1, h2, h3⟩ := h;obtain ⟨w', hr, ho, ht⟩ := h1.drop keyS Tryz.underlying132 (keyOf_s hs) ty;exact ⟨w', hr, ⟨_, ho, h2.del _, fun k => by rw [at_del, h3]⟩, ht.grown⟩
theorem held_keys {D : DataW Value} (h : Held D) : (strKeys D).Nodup /\ ∀ k, k ∈ strKeys D ↔ (at? D k).isSome = true := by
  have hh := fun k => at_has h k;obtain ⟨es, rfl, h1, h2⟩ := h;refine ⟨?_, fun k => ?_⟩
  · unfold strKeys List.Nodup;simp only
    rw [List.pairwise_map];refine List.Pairwise.imp_of_mem ?_ h1;intro p q hp hq hne e
    obtain ⟨k1, v1, rfl⟩ := h2 p hp;obtain ⟨k2, v2, rfl⟩ := h2 q hq;exact hne (by simp only [strOf] at e; rw [e])
  · rw [hh k, has_eq, List.any_eq_true];unfold strKeys;simp only [List.mem_map]
    constructor
    · rintro ⟨p, hp, rfl⟩;obtain ⟨k1, v1, rfl⟩ := h2 p hp;exact ⟨_, hp, by simp [Lit.sameKey, strOf]⟩
    · rintro ⟨p, hp, hs⟩;obtain ⟨k1, v1, rfl⟩ := h2 p hp;refine ⟨_, hp, ?_⟩
      simpa [Lit.sameKey, strOf] using hs
end Go.Proofs.YtehghladpnpcoaaGreatDoor.State.Edit
set_option linter.unusedVariables false
set_option linter.unusedSimpArgs false
set_option maxRecDepth 100000
namespace Go.Proofs.YtehghladpnpcoaaGreatDoor.State.Edit
open Go.RowKit Go.Maps Utf Strs Go.Proofs.YtehghladpnpcoaaGreatDoor.Addr Go.Proofs.YtehghladpnpcoaaGreatDoor.State
open Jdec (IsTexts Turn infoStr gb_set gb_below gb_refl)
structure BookAt (w0 w : World) (bm n : Nat) (l : List Rec) : Prop where
  lo : w0.heap.size <= bm
  mp : ∃ m, MapAt w bm n m /\ (∀ k v, m k = some v -> ∃ p r, v = recV p r /\ r ∈ l /\ printA r.a = k /\ IsRec w0 (fun _ => True) p r) /\ ∀ r ∈ l, (m (printA r.a)).isSome = true
theorem BookAt.nil (w0 w : World) (hs : w0.heap.size <= w.heap.size) : BookAt w0 (w.alloc (.map #[] 0)) w.heap.size 0 [] :=
  ⟨hs, _, MapAt.made w, (fun k v e => by cases e), (fun r hr => by cases hr)⟩
theorem BookAt.lt {w0 w : World} {bm n : Nat} {l : List Rec} (h : BookAt w0 w bm n l) : bm < w.heap.size := by obtain ⟨m, hm, _⟩ := h.mp; exact hm.lt
theorem BookAt.mono {w0 w : World} {bm n n' : Nat} {l : List Rec} (h : BookAt w0 w bm n l) (hn : n <= n') : BookAt w0 w bm n' l := by obtain ⟨m, hm, h1⟩ := h.mp; exact ⟨h.lo, m, hm.mono hn, h1⟩
theorem BookAt.kept {w0 w w' : World} {bm n : Nat} {l : List Rec} {r : Option Nat} (h : BookAt w0 w bm n l) (hg : w.grownBy w' r) (hne : some bm ≠ r) : BookAt w0 w' bm n l := by
  obtain ⟨m, hm, h1⟩ := h.mp;exact ⟨h.lo, m, hm.kept hg hne, h1⟩
theorem BookAt.below {w0 w w' : World} {bm n : Nat} {l : List Rec} (h : BookAt w0 w bm n l) (hb : Below w.heap.size w w') : BookAt w0 w' bm n l := h.kept (gb_below hb none) (by simp)
theorem BookAt.look_in {w0 w : World} {bm n : Nat} {l : List Rec} (h : BookAt w0 w bm n l) (hg : Good l) {r : Rec} (hr : r ∈ l) {q : ByteArray} (hq : q.data.toList = printA r.a) (hs : q.size <= 100000) : ∃ p, IsRec w0 (fun _ => True) p r /\ ∀ w', Below w.heap.size w w' -> (Instr.lookup 132 (.map (some bm)) (.string q) false).run Tryz.prog w' = .ok (recV p r) w' := by
  obtain ⟨m, hm, h1, h2⟩ := h.mp;obtain ⟨v, hv⟩ := Option.isSome_iff_exists.1 (h2 r hr);obtain ⟨p, r', rfl, hr', hp, hi⟩ := h1 _ _ hv;have e : r' = r := hg.inj hr' hr (adr_eq (hg.r _ hr') (hg.s _ hr') (hg.s _ hr).p hp);subst e;refine ⟨p, hi, fun w' hb => ?_⟩;have := (hm.below hb).look q hs;rw [hq, hv] at this;exact this
theorem BookAt.has {w0 w : World} {bm n : Nat} {l : List Rec} (h : BookAt w0 w bm n l) (hg : Good l) {a : Adr} (ha : a.place < 18446744073709551616) {q : ByteArray} (hq : q.data.toList = printA a) (hs : q.size <= 100000) : ∃ p r, (Instr.lookup 132 (.map (some bm)) (.string q) true).run Tryz.prog w = .ok (.tuple #[recV p r, .bool (hasB l a)]) w := by
  obtain ⟨m, hm, h1, h2⟩ := h.mp;have hl := hm.look_ok q hs;rw [hq] at hl
  cases hv : m (printA a) with
  | none =>
    have e : hasB l a = false := by
      rw [hasB_not];rintro x hx rfl;have := h2 x hx;rw [hv] at this; cases this
    rw [hv] at hl;rw [e];exact ⟨At.zero, Rec.zero, hl⟩
  | some v =>
    obtain ⟨p, r, rfl, hr, hp, _⟩ := h1 _ _ hv;have e : hasB l a = true := (hasB_iff _ _).2 ⟨r, hr, adr_eq (hg.r _ hr) (hg.s _ hr) ha hp⟩;rw [hv] at hl;rw [e];exact ⟨p, r, hl⟩
theorem BookAt.store {w0 w : World} {bm n : Nat} {l l' : List Rec} (h : BookAt w0 w bm n l) {r : Rec} {p : At} (hi : IsRec w0 (fun _ => True) p r) {q : ByteArray} (hq : q.data.toList = printA r.a) (hs : q.size <= 100000) (hn : n <= 100000)
    (hl : ∀ x, x ∈ l' ↔ x = r ∨ x ∈ l /\ printA x.a ≠ printA r.a) :
    ∃ w', (Instr.mapUpdate 132 (.map (some bm)) (.string q) (recV p r)).run Tryz.prog w = .ok () w' /\ BookAt w0 w' bm (n + 1) l' /\ w.grownBy w' (some bm) := by
  obtain ⟨m, hm, h1, h2⟩ := h.mp;obtain ⟨w', hr, hm', hgr⟩ := hm.store q hs (recV p r) hn;refine ⟨w', hr, ⟨h.lo, _, hm', fun k v e => ?_, fun x hx => ?_⟩, hgr⟩
  · (try dsimp only at e)
    split at e
    · rename_i hk
      injection e with e
      exact ⟨p, r, e.symm, (hl r).2 (.inl rfl), by rw [hk, hq], hi⟩
    · rename_i hk
      obtain ⟨p', r', e1, e2, e3, e4⟩ := h1 k v e;exact ⟨p', r', e1, (hl r').2 (.inr ⟨e2, by rw [e3, <-hq]; exact hk⟩), e3, e4⟩
  · rcases (hl x).1 hx with rfl | ⟨hx, hne⟩
    · simp [hq]
    · (try dsimp only)
      rw [if_neg (by rw [hq]; exact hne)];exact h2 x hx
theorem BookAt.drop {w0 w : World} {bm n : Nat} {l l' : List Rec} (h : BookAt w0 w bm n l) {t : List UInt8} {q : ByteArray} (hq : q.data.toList = t) (hs : q.size <= 100000) (ty : TypeId)
    (hl : ∀ x, x ∈ l' ↔ x ∈ l /\ printA x.a ≠ t) :
    ∃ w', (Builtin.delete_ #[132, 9] ty #[.map (some bm), .string q]).run Tryz.prog w = .ok (.tuple #[]) w' /\ BookAt w0 w' bm n l' /\ w.grownBy w' (some bm) := by
  obtain ⟨m, hm, h1, h2⟩ := h.mp;obtain ⟨w', hr, hm', hgr⟩ := hm.drop q hs ty;refine ⟨w', hr, ⟨h.lo, _, hm', fun k v e => ?_, fun x hx => ?_⟩, hgr⟩
  · (try dsimp only at e)
    split at e
    · cases e
    · rename_i hk
      obtain ⟨p', r', e1, e2, e3, e4⟩ := h1 k v e;exact ⟨p', r', e1, (hl r').2 ⟨e2, by rw [e3, <-hq]; exact hk⟩, e3, e4⟩
  · obtain ⟨hx, hne⟩ := (hl x).1 hx
    (try dsimp only)
    rw [if_neg (by rw [hq]; exact hne)];exact h2 x hx
def bookArr (s : Sta) (bm : Nat) : Array Value := #[.int .u64 s.serial, .string s.lin, .map (some bm)]
structure BkAt (w0 w : World) (b bm n : Nat) (s : Sta) : Prop where
  up : Below w0.heap.size w0 w
  blk : w.heap[b]? = some (.cells (bookArr s bm) 134 (0, 0))
  lo : w0.heap.size <= b
  ne : b ≠ bm
  map : BookAt w0 w bm n s.recs
theorem BkAt.below {w0 w w' : World} {b bm n : Nat} {s : Sta} (h : BkAt w0 w b bm n s) (hb : Below w.heap.size w w') : BkAt w0 w' b bm n s :=
  ⟨h.up.trans (hb.mono h.up.size), (hb.block _ (heap_lt h.blk)).trans h.blk, h.lo, h.ne, h.map.below hb⟩
theorem BkAt.turn {w0 w w' : World} {b bm n n' : Nat} {s : Sta} {l : List Rec} (h : BkAt w0 w b bm n s) (hg : w.grownBy w' (some bm)) (hm : BookAt w0 w' bm n' l) : BkAt w0 w' b bm n' ⟨s.serial, s.lin, l⟩ :=
  ⟨h.up.grown hg h.up.size (fun k hk => by injection hk with hk; have := h.map.lo; omega), (hg.block b (heap_lt h.blk) (fun e => h.ne (by injection e with e))).trans h.blk, h.lo, h.ne, hm⟩
theorem BkAt.more {w0 w : World} {b bm n n' : Nat} {s : Sta} (h : BkAt w0 w b bm n s) (hn : n <= n') : BkAt w0 w b bm n' s := ⟨h.up, h.blk, h.lo, h.ne, h.map.mono hn⟩
theorem book_cells {w : World} {b bm : Nat} {s : Sta} (h : w.heap[b]? = some (.cells (bookArr s bm) 134 (0, 0))) : w.cell? ⟨b, 0, none⟩ = some (.int .u64 s.serial) /\ w.cell? ⟨b, 1, none⟩ = some (.string s.lin) /\ w.cell? ⟨b, 2, none⟩ = some (.map (some bm)) := ⟨cell_of h 0, cell_of h 1, cell_of h 2⟩
end Go.Proofs.YtehghladpnpcoaaGreatDoor.State.Edit
