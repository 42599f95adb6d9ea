/- tabulariumref09: lists and objects. (Written by gen/cute.py.) -/
import Derived.Test.YtehffmcfmdjknaaGreatDoorCutD
import Derived.Test.YtehffmcfmdjknaaGreatDoorJdecD
namespace Go.Proofs.YtehffmcfmdjknaaGreatDoor.Jdec
open Go.RowKit Go.Proofs.YtehffmcfmdjknaaGreatDoor.Strs
set_option linter.unusedVariables false
set_option linter.unusedSimpArgs false
set_option maxRecDepth 100000

/-- What stands ahead of a value: nothing, or a key and a colon. -/
def headS (obj : Bool) (l : List UInt8) (ks : List ByteArray) (p : Nat) : Except Er (List ByteArray × Nat) :=
  if obj then match fieldS l ks p with
    | .error x => .error x
    | .ok (k, r) => .ok (ks ++ [k], r)
  else .ok (ks, p)
def closeB (obj : Bool) : UInt8 := if obj then 125 else 93
/-- Where a list or an object ends. -/
def manyS (obj : Bool) (l : List UInt8) (val : Val) : Nat → Nat → List ByteArray → Except Er Nat
  | 0, p, _ => .error (p, 3)
  | n + 1, p, ks => match headS obj l ks p with
    | .error x => .error x
    | .ok (ks', r) => match val r with
      | .error x => .error x
      | .ok (_, t) => match ends l (closeB obj) t with
        | .error x => .error x
        | .ok (true, u) => .ok u
        | .ok (false, u) => manyS obj l val n u ks'
def manyV (obj : Bool) (l : List UInt8) (val : Val) (p : Nat) : Except Er Nat :=
  if l[skip l (p + 1)]? = some (closeB obj) then .ok (skip l (p + 1) + 1) else manyS obj l val (l.length + 1) (skip l (p + 1)) []
def ipos (r : Except Er (List JV × Nat)) : Except Er Nat := match r with
  | .error x => .error x
  | .ok (_, q) => .ok q
def mpos (r : Except Er (List ByteArray × List JV × Nat)) : Except Er Nat := match r with
  | .error x => .error x
  | .ok (_, _, q) => .ok q
theorem items_many (l : List UInt8) (val : Val) : ∀ (n p : Nat) (acc : List JV) (ks : List ByteArray), ipos (items l val n p acc) = manyS false l val n p ks
  | 0, p, acc, ks => rfl
  | n + 1, p, acc, ks => by
    have ih := fun u acc => items_many l val n u acc ks
    have hh : headS false l ks p = .ok (ks, p) := rfl
    have hc : closeB false = 93 := rfl
    cases hv : val p with
    | error x => simp only [items, manyS, hv, hh, ipos]
    | ok z =>
      obtain ⟨v, t⟩ := z
      cases he : ends l 93 t with
      | error x => simp only [items, manyS, hv, hh, hc, he, ipos]
      | ok y =>
        obtain ⟨b, u⟩ := y
        cases b
        · simp only [items, manyS, hv, hh, hc, he, ih]
        · simp only [items, manyS, hv, hh, hc, he, ipos]
theorem members_many (l : List UInt8) (val : Val) : ∀ (n p : Nat) (ks : List ByteArray) (vs : List JV), mpos (members l val n p ks vs) = manyS true l val n p ks
  | 0, p, ks, vs => rfl
  | n + 1, p, ks, vs => by
    have ih := fun u ks vs => members_many l val n u ks vs
    have hc : closeB true = 125 := rfl
    cases hk : key l ks p with
    | error x => simp only [members, manyS, headS, fieldS, hk, mpos, if_pos]
    | ok z =>
      obtain ⟨k, q⟩ := z
      cases hco : colon l q with
      | error x => simp only [members, manyS, headS, fieldS, hk, hco, mpos, if_pos]
      | ok r =>
        cases hv : val r with
        | error x => simp only [members, manyS, headS, fieldS, hk, hco, hv, mpos, if_pos]
        | ok z =>
          obtain ⟨v, t⟩ := z
          cases he : ends l 125 t with
          | error x => simp only [members, manyS, headS, fieldS, hk, hco, hv, hc, he, mpos, if_pos]
          | ok y =>
            obtain ⟨b, u⟩ := y
            cases b
            · simp only [members, manyS, headS, fieldS, hk, hco, hv, hc, he, if_pos, ih]
            · simp only [members, manyS, headS, fieldS, hk, hco, hv, hc, he, mpos, if_pos]
theorem list_many (l : List UInt8) (val : Val) (p : Nat) : vpos (list l val p) = manyV false l val p := by
  have hc : closeB false = 93 := rfl
  by_cases h : l[skip l (p + 1)]? = some 93
  · simp only [list, manyV, hc, if_pos h, vpos]
  · simp only [list, manyV, hc, if_neg h, ← items_many l val _ _ [] []]
    cases items l val (l.length + 1) (skip l (p + 1)) [] <;> rfl
theorem object_many (l : List UInt8) (val : Val) (p : Nat) : vpos (object l val p) = manyV true l val p := by
  have hc : closeB true = 125 := rfl
  by_cases h : l[skip l (p + 1)]? = some 125
  · simp only [object, manyV, hc, if_pos h, vpos]
  · simp only [object, manyV, hc, if_neg h, ← members_many l val _ _ [] []]
    cases members l val (l.length + 1) (skip l (p + 1)) [] [] <;> rfl
/-- What a reader tells of where a thing ends. -/
def GAtE (r : Except Er Nat) (a : Raw) (en at_ e : Int) : Prop :=
  match r with
  | .ok q => e = 0 ∧ en = q
  | .error y => e = y.2 ∧ at_ = y.1
theorem GAtE.turn {r : Except Er (JV × Nat)} {a : Raw} {en at_ e : Int} (h : GAtE (vpos r) a en at_ e) : GAt r a en at_ e := by cases r <;> exact h
theorem GAtE.bad {r : Except Er Nat} {y : Er} {p n : Nat} {a : Raw} {en at_ e : Int} (hr : r = .error y) (h1 : y.1 = p) (h2 : y.2 = n) (h : BadR p n a en at_ e) : GAtE r a en at_ e := by
  subst h1 h2
  rw [hr]; exact ⟨h.2, h.1⟩
theorem head_fits {obj : Bool} {l : List UInt8} {ks ks' : List ByteArray} {p r : Nat} (hp : p ≤ l.length) (h : headS obj l ks p = .ok (ks', r)) : p ≤ r ∧ r ≤ l.length ∧ ks'.length ≤ ks.length + 1 := by
  unfold headS at h
  cases obj
  · injection h with h
    injection h with h1 h2
    subst h1 h2
    omega
  · rw [if_pos rfl] at h
    unfold fieldS at h
    have f := key_fits l ks p hp
    cases hk : key l ks p with
    | error x => rw [hk] at h; cases h
    | ok z =>
      obtain ⟨k, q⟩ := z
      have g := f.ok _ hk
      rw [hk] at h
      simp only at g h
      have f2 := colon_fits l q g.2
      cases hc : colon l q with
      | error x => rw [hc] at h; cases h
      | ok r' =>
        have g2 := f2.ok _ hc
        rw [hc] at h
        injection h with h
        injection h with h1 h2
        subst h1 h2
        simp only [id] at g2
        rw [List.length_append, List.length_singleton]
        omega

/-- A list, or an object, in the making. -/
structure RO (w : World) (b : Nat) (kind : Int) (ks : List ByteArray) (n : Nat) (ka : Option Addr) (kc : Nat) (va : Option Addr) (vc : Nat) : Prop where
  Y : w.heap[b]? = some (.cells (Raw.mk kind false false ⟨#[]⟩ 0 ⟨#[]⟩ ka ks.length kc va n vc).arr 29 (0, 0))
  K : w.ownsRow (b + 1) 9 1 (.slice ka ks.length kc) ks.length (ks.map Value.string)
  V : ∃ xs, w.ownsRow (b + 1) 29 8 (.slice va n vc) n xs
section
variable {w w' w7 : World} {b n : Nat} {kind : Int} {ks : List ByteArray} {ka va : Option Addr} {kc vc : Nat}
theorem own_ne {w : World} {B e T x size n : Nat} {v : Value} {xs : List Value} {cs : Array Value} {fr : Nat × Nat} (h : w.ownsRow B e size v n xs) (hx : w.heap[x]? = some (.cells cs T fr)) (hne : e ≠ T) : some x ≠ v.ownBlock := by
  rcases h.2 with ⟨rfl, _⟩ | ⟨g, cap, cur, rfl, _, hgg, _⟩
  · simp [Value.ownBlock]
  · intro he
    simp only [Value.ownBlock, Option.some.injEq] at he
    subst he
    rw [hgg] at hx
    simp only [Option.some.injEq, Obj.cells.injEq] at hx
    exact hne hx.2.1
theorem RO.lt (h : RO w b kind ks n ka kc va vc) : b < w.heap.size := heap_lt h.Y
theorem own_none {w w' : World} {B e size n : Nat} {v : Value} {xs : List Value} (h : w.ownsRow B e size v n xs) (g : Below w.heap.size w w') : w'.ownsRow B e size v n xs :=
  h.kept (gb_below g none) (by cases hv : v.ownBlock with
    | none => exact .inl rfl
    | some k => exact .inr (by simp))
theorem RO.stays (h : RO w b kind ks n ka kc va vc) (g : Below w.heap.size w w') : RO w' b kind ks n ka kc va vc :=
  ⟨(g.block b h.lt).trans h.Y, own_none h.K g, by obtain ⟨xs, hx⟩ := h.V; exact ⟨xs, own_none hx g⟩⟩
theorem RO.texts (h : RO w b kind ks n ka kc va vc) : IsTexts w (fun _ => True) ka ks := by
  rcases h.K.2 with ⟨hx, h0⟩ | ⟨g, cap, cur, hx, hg, _⟩
  · exact .inl (List.length_eq_zero_iff.1 h0)
  · injection hx with x1 x2 x3
    refine .inr ⟨g, 0, x1, trivial, (h.K.lt g (by rw [x1]; rfl)).2, fun i hi => ?_⟩
    have := h.K.cells (g := g) (by rw [x1]; rfl) i (.string ks[i]) (by simp [hi])
    rw [Addr.add_lit] at this
    exact this
theorem RO.key {g cap : Nat} {d : ByteArray} {o : Obj} (h : RO w b kind ks n ka kc va vc)
    (hown : w7.ownsRow (b + 1) 9 1 (.slice (some ⟨g, 0, none⟩) (ks.length + 1) cap) (ks.length + 1) (ks.map Value.string ++ [.string d])) (hgrow : (w.alloc o).grownBy w7 (Value.slice ka ks.length kc).ownBlock)
    (hat : (Value.slice ka ks.length kc).ownBlock = some g ∨ g = w.heap.size + 1) :
    RO (w7.setCell ⟨b, 6, none⟩ (.slice (some ⟨g, 0, none⟩) (ks.length + 1) cap)) b kind (ks ++ [d]) n (some ⟨g, 0, none⟩) cap va vc ∧ Below b w (w7.setCell ⟨b, 6, none⟩ (.slice (some ⟨g, 0, none⟩) (ks.length + 1) cap)) := by
  have hlt := h.lt
  have hKo : ∀ j, (Value.slice ka ks.length kc).ownBlock = some j → b + 1 ≤ j := fun j hj => (h.K.lt j hj).1
  have hbo : some b ≠ (Value.slice ka ks.length kc).ownBlock := fun e => by have := hKo b e.symm; omega
  have Y7 : w7.heap[b]? = some (.cells (Raw.mk kind false false ⟨#[]⟩ 0 ⟨#[]⟩ ka ks.length kc va n vc).arr 29 (0, 0)) := (hgrow.block b (by simp; omega) hbo).trans (heap_alloc_old h.Y)
  have hgb : b + 1 ≤ g := by
    rcases hat with e | e
    · exact hKo g e
    · omega
  have gs := gb_set w7 b 6 (.slice (some ⟨g, 0, none⟩) (ks.length + 1) cap)
  refine ⟨⟨?_, ?_, ?_⟩, ?_⟩
  · rw [heap_set_same Y7]; simp [Raw.arr]
  · have := hown.kept gs (.inr (by simp [Value.ownBlock]; omega))
    simpa using this
  · obtain ⟨xs, hx⟩ := h.V
    exact ⟨xs, ((hx.alloc o).kept hgrow (rows_ne hx h.K (by decide))).kept gs (by
      cases hv : (Value.slice va n vc).ownBlock with
      | none => exact .inl rfl
      | some k => have := (hx.lt k hv).1; exact .inr (by simp; omega))⟩
  · exact (((Below.refl b w).alloc (by omega) _).grown hgrow (by simp; omega) (fun k hk => by have := hKo k hk; omega)).setCell (p := ⟨b, 6, none⟩) (Nat.le_refl _) _
theorem RO.kid {g cap : Nat} {xs ys : List Value} {o : Obj} (h : RO w b kind ks n ka kc va vc) (hx : w.ownsRow (b + 1) 29 8 (.slice va n vc) n xs)
    (hown : w7.ownsRow (b + 1) 29 8 (.slice (some ⟨g, 0, none⟩) (n + 1) cap) (n + 1) ys) (hgrow : (w.alloc o).grownBy w7 (Value.slice va n vc).ownBlock)
    (hat : (Value.slice va n vc).ownBlock = some g ∨ g = w.heap.size + 1) :
    RO (w7.setCell ⟨b, 7, none⟩ (.slice (some ⟨g, 0, none⟩) (n + 1) cap)) b kind ks (n + 1) ka kc (some ⟨g, 0, none⟩) cap ∧ Below b w (w7.setCell ⟨b, 7, none⟩ (.slice (some ⟨g, 0, none⟩) (n + 1) cap)) := by
  have hlt := h.lt
  have hVo : ∀ j, (Value.slice va n vc).ownBlock = some j → b + 1 ≤ j := fun j hj => (hx.lt j hj).1
  have hbo : some b ≠ (Value.slice va n vc).ownBlock := fun e => by have := hVo b e.symm; omega
  have Y7 : w7.heap[b]? = some (.cells (Raw.mk kind false false ⟨#[]⟩ 0 ⟨#[]⟩ ka ks.length kc va n vc).arr 29 (0, 0)) := (hgrow.block b (by simp; omega) hbo).trans (heap_alloc_old h.Y)
  have hgb : b + 1 ≤ g := by
    rcases hat with e | e
    · exact hVo g e
    · omega
  have gs := gb_set w7 b 7 (.slice (some ⟨g, 0, none⟩) (n + 1) cap)
  refine ⟨⟨?_, ?_, ?_⟩, ?_⟩
  · rw [heap_set_same Y7]; simp [Raw.arr]
  · exact ((h.K.alloc o).kept hgrow (rows_ne h.K hx (by decide))).kept gs (by
      cases hv : (Value.slice ka ks.length kc).ownBlock with
      | none => exact .inl rfl
      | some k => have := (h.K.lt k hv).1; exact .inr (by simp; omega))
  · exact ⟨ys, hown.kept gs (.inr (by simp [Value.ownBlock]; omega))⟩
  · exact (((Below.refl b w).alloc (by omega) _).grown hgrow (by simp; omega) (fun k hk => by have := hVo k hk; omega)).setCell (p := ⟨b, 7, none⟩) (Nat.le_refl _) _
end
theorem got_put (w : World) (a : Raw) (en at_ e : Int) : ∃ w1, w.alloc (.cells #[.int .i64 a.kind, .bool a.is, .bool a.neg, .string a.dig, .int .i64 a.exp, .string a.str, .slice a.ka a.kn a.kc, .slice a.va a.vn a.vc, .int .i64 en, .int .i64 at_, .int .i64 e] 31) = w1 ∧
    Hid (w1.heap[w.heap.size]? = some (.cells (gArr a en at_ e) 31 (0, 0))) ∧ Hid (Below w.heap.size w w1) :=
  ⟨_, rfl, heap_alloc_new _ _, (Below.refl _ _).alloc (Nat.le_refl _) _⟩
/-- How a reader of values is called. -/
def RVal (s : ByteArray) (dp : Int) (val : Val) : Prop := ∀ (k : Nat) (w : World), k ≤ s.size → Calls Tryz.prog 14 #[.string s, .int .i64 k, .int .i64 dp] w (GPost (GAt (val k)) w)
theorem GPost.to {R : Raw → Int → Int → Int → Prop} {w : World} {x : Ending} {w' : World} (h : GPost R w x w') : ∃ a en at_ e, x = .returned (.agg #[.int .i64 a.kind, .bool a.is, .bool a.neg, .string a.dig, .int .i64 a.exp, .string a.str, .slice a.ka a.kn a.kc, .slice a.va a.vn a.vc, .int .i64 en, .int .i64 at_, .int .i64 e]) ∧ R a en at_ e ∧ Below w.heap.size w w' := h
theorem infoVal2 : (Tryz.prog.info? 29).map (fun i => (i.zero, i.size, i.bytes)) = some (some (.agg #[.int .i64 0, .bool false, .bool false, .string ⟨#[]⟩, .int .i64 0, .string ⟨#[]⟩, .slice none 0 0, .slice none 0 0]), 8, 112) := by kernel_rfl
theorem infoStr2 : (Tryz.prog.info? 9).map (fun i => (i.zero, i.size, i.bytes)) = some (some (.string ⟨#[]⟩), 1, 16) := by kernel_rfl

theorem byte_yes {x : Option UInt8} {c d : UInt8} (h : x = some c) (hq : x = some d) : ((c.toNat : Int) == (d.toNat : Int)) = true := by
  rw [h] at hq; injection hq with hq; rw [hq]; simp
theorem byte_no {x : Option UInt8} {c d : UInt8} (h : x = some c) (hq : x ≠ some d) : ((c.toNat : Int) == (d.toNat : Int)) = false := by
  rw [beq_eq_false_iff_ne]; intro e
  exact hq (by rw [h]; exact congrArg some (UInt8.toNat_inj.1 (by omega)))
theorem byte_ney {x : Option UInt8} {c d : UInt8} (h : x = some c) (hq : x = some d) : ((c.toNat : Int) != (d.toNat : Int)) = false := by
  rw [h] at hq; injection hq with hq; rw [hq]; simp
theorem byte_nen {x : Option UInt8} {c d : UInt8} (h : x = some c) (hq : x ≠ some d) : ((c.toNat : Int) != (d.toNat : Int)) = true := by
  rw [bne_iff_ne]; intro e
  exact hq (by rw [h]; exact congrArg some (UInt8.toNat_inj.1 (by omega)))
theorem many_ends {l : List UInt8} {c : UInt8} {t p : Nat} {f : Nat → Except Er Nat} (h : skip l t = p) :
    (match ends l c t with
      | .error x => .error x
      | .ok (true, u) => .ok u
      | .ok (false, u) => f u) = if l[p]? = some c then .ok (p + 1) else if l[p]? = some 44 then f (skip l (p + 1)) else .error (here l p) := by
  subst h
  by_cases h1 : l[skip l t]? = some c
  · simp only [ends, if_pos h1]
  · by_cases h2 : l[skip l t]? = some 44
    · simp only [ends, if_neg h1, if_pos h2]
    · simp only [ends, if_neg h1, if_neg h2]
theorem field_err {l : List UInt8} {ks : List ByteArray} {p : Nat} {y : Er} (hp : p ≤ l.length) (h : fieldS l ks p = .error y) : y.2 ≠ 0 := by
  unfold fieldS at h
  have f := key_fits l ks p hp
  cases hk : key l ks p with
  | error x => rw [hk] at h; injection h with h; subst h; exact (f.err _ hk).2
  | ok z =>
    obtain ⟨k, q⟩ := z
    have g := f.ok _ hk
    rw [hk] at h
    simp only at g h
    have f2 := colon_fits l q g.2
    cases hc : colon l q with
    | error x => rw [hc] at h; injection h with h; subst h; exact (f2.err _ hc).2
    | ok r => rw [hc] at h; cases h

set_option maxHeartbeats 16000000 in
theorem rmany_list (s : ByteArray) (k : Nat) (dp : Nat) (val : Val) (w : World) (hs : s.size ≤ 1000000) (hk : k < s.size) (hdp : dp ≤ 64) (hc : (s[k].toNat : Int) = 91) (hval : RVal s ((dp : Int) + 1) val) (hvo : ValOk s.data.toList val) :
    Calls Tryz.prog 27 #[.string s, .int .i64 k, .int .i64 dp] w (GPost (GAtE (manyV false s.data.toList val k)) w) := by
  obtain ⟨i0, hi, hz0, hz1, hz2⟩ := info_parts infoVal2
  have HI := Hid.out (p := Hid _) hi; clear hi
  have HZ := Hid.out (p := Hid _) hz0; clear hz0
  obtain ⟨j0, hj, hjz, hj1, hj2⟩ := info_parts infoStr2
  have HJ := Hid.out (p := Hid _) hj; clear hj
  have HJZ := Hid.out (p := Hid _) hjz; clear hjz
  have HV : Hid (RVal s ((dp : Int) + 1) val) := hval
  have HVO : Hid (ValOk s.data.toList val) := hvo
  clear hval hvo
  have hl : s.data.toList.length = s.size := by simp
  have HL := Hid.out (p := Hid _) hl
  obtain ⟨q0, hq0⟩ : ∃ q0, skip s.data.toList (k + 1) = q0 := ⟨_, rfl⟩
  have hqs : q0 ≤ s.size := by have := skip_le s.data.toList (k + 1) (by omega); omega
  have hbl := fun w => rblanks_any s (k + 1) w (by omega) (by omega)
  rw [hq0] at hbl
  have HBL := Hid.out (p := Hid _) hbl
  obtain ⟨RES, hRES⟩ : ∃ RES, manyS false s.data.toList val (s.size + 1) q0 [] = RES := ⟨_, rfl⟩
  have HR := Hid.out (p := Hid _) hRES
  have HM : Hid (manyV false s.data.toList val k = if s.data.toList[q0]? = some 93 then .ok (q0 + 1) else RES) := by rw [Hid, manyV, hq0, hl, hRES]; rfl
  obtain ⟨w1, hw1, R1, B1, S1⟩ := got_new w
  obtain ⟨b, hb⟩ : ∃ b, w1.heap.size = b := ⟨_, rfl⟩
  have HbR : Hid (b = w.heap.size + 1) := by rw [← hb]; exact S1.out
  have hdw : IntKind.i64.wrap ((dp : Int) + 1) = (dp : Int) + 1 := IntWalk.i64_in _ (by omega)
  clear hl hq0 hbl hRES
  go_enter Tryz.func27, Tryz.ntmps27
  go_wp2_with fail
  obtain ⟨w2, hw2, Y2, G2, _⟩ := box_new w1 ⟨5, false, false, ⟨#[]⟩, 0, ⟨#[]⟩, none, 0, 0, none, 0, 0⟩
  dsimp only at hw2
  have R2 := kept_z R1.out G2.out
  have B2 := Hid.out (p := Hid _) (B1.out.trans (G2.out.mono B1.out.size))
  rw [hb] at Y2
  have Y2 : Hid (w2.heap[b]? = some (.cells (Raw.mk 5 false false ⟨#[]⟩ 0 ⟨#[]⟩ none 0 0 none 0 0).arr 29 (0, 0))) := Y2
  rw [hw2]
  have hbne : b ≠ w.heap.size := by have := HbR.out; omega
  have hbn2 : w.heap.size ≠ b := by have := HbR.out; omega
  clear R1 B1 S1 G2 hw1 hw2 hb
  refine (Calls.mono (HBL.out w2) ?_)
  rintro x w2' ⟨rfl, rfl⟩
  obtain ⟨T0, hT0⟩ : ∃ T, decide (s.data.toList[q0]? = some 93) = T := ⟨_, rfl⟩
  have HT0 := Hid.out (p := Hid _) hT0
  clear hT0
  go_upto_region 7 with (fail)
  go_cut [32] from 22 (fun p32 wx => w2 = wx ∧ p32 = .bool T0)
  case first =>
    by_cases hlt : q0 < s.size
    · cases T0
      · have hbe : ((s[q0].toNat : Int) == 93) = false := byte_no (byte_get s q0 hlt) (of_decide_eq_false HT0.out)
        go_wp2_with fail
        go_meet
        exact ⟨rfl, rfl⟩
      · have hbe : ((s[q0].toNat : Int) == 93) = true := byte_yes (byte_get s q0 hlt) (of_decide_eq_true HT0.out)
        go_wp2_with fail
        go_meet
        exact ⟨rfl, rfl⟩
    · cases T0
      · go_wp2_with fail
        go_meet
        exact ⟨rfl, rfl⟩
      · exact absurd (get_lt (of_decide_eq_true HT0.out)) (by rw [HL.out]; exact hlt)
  case rest =>
  obtain ⟨rfl, rfl⟩ := hcut
  cases T0
  case true =>
    have hq := of_decide_eq_true HT0.out
    have HF : Hid (manyV false s.data.toList val k = .ok (q0 + 1)) := by rw [Hid, HM.out, if_pos hq]
    have hlt : q0 < s.size := by have := get_lt hq; rw [HL.out] at this; exact this
    clear hq
    obtain ⟨⟨x0, x1, x2, x3, x4, x5, x6, x7⟩, _⟩ := val_cells Y2.out
    obtain ⟨⟨c0, c1, c2, c3, c4, c5, c6, c7, c8, c9, c10⟩, f0, f1, f2, f3, f4, f5, f6, f7, f8, f9, f10⟩ := got_cells R2.out
    go_wp2_with fail
    refine got_fin rfl R2.out rfl B2.out (Nat.le_refl _) ⟨5, false, false, ⟨#[]⟩, 0, ⟨#[]⟩, none, 0, 0, none, 0, 0⟩ ((q0 : Int) + 1) 0 0 ?_
    rw [HF.out]
    exact ⟨rfl, by omega⟩
  case false =>
    have HF : Hid (manyV false s.data.toList val k = RES) := by rw [Hid, HM.out, if_neg (of_decide_eq_false HT0.out)]
    have HO : Hid (RO w2 b 5 [] 0 none 0 none 0) := ⟨Y2.out, World.ownsRow_nil _ _ _ _, [], World.ownsRow_nil _ _ _ _⟩
    clear HT0 HM Y2 HBL
    go_wp2_with fail
    go_loopw [9] (fun p9 wr => ∃ (p n m : Nat) (ks : List ByteArray) (ka : Option Addr) (kc : Nat) (va : Option Addr) (vc : Nat), p9 = .int .i64 p ∧ p ≤ s.size ∧ ks.length ≤ p ∧ m ≤ p ∧ Hid (RO wr b 5 ks m ka kc va vc) ∧ Hid (wr.heap[w.heap.size]? = some (.cells (gArr Raw.zero 0 0 0) 31 (0, 0))) ∧ Hid (Below w.heap.size w wr) ∧ s.size - p < n ∧ Hid (RES = manyS false s.data.toList val n p ks)) (fun p9 _ => s.size + 1 - (intOf p9).toNat)
    case atStart => exact ⟨q0, s.size + 1, 0, [], none, 0, none, 0, rfl, hqs, Nat.zero_le _, Nat.zero_le _, HO.out, R2.out, B2.out, by omega, HR.out.symm⟩
    case round =>
      obtain ⟨p, n, m, ks, ka, kc, va, vc, rfl, hp, hks, hm, hO, hR, hB, hn, hres⟩ := hrel
      obtain ⟨n, rfl⟩ : ∃ n', n = n' + 1 := ⟨n - 1, by omega⟩
      have x0 : wr.cell? ⟨b, 0, none⟩ = some (.int .i64 5) := cell_of hO.out.Y 0
      clear HR HO R2 B2
      have HH : Hid (headS false s.data.toList ks p = .ok (ks, p)) := rfl
      have hpr : p ≤ p := Nat.le_refl _
      have hrs : p ≤ s.size := hp
      have hksr : ks.length ≤ p + 1 := by omega
      go_wp2_with fail
      clear x0
      refine (Calls.mono (HV.out p wr hrs) ?_)
      rintro x w9 ⟨a9, en, at_, e, rfl, hg, hb⟩
      dsimp only [gVal]
      have O9 := Hid.out (p := Hid _) (hO.out.stays hb)
      have R9 := kept_z hR.out hb
      have B9 := Hid.out (p := Hid _) (hB.out.trans (hb.mono hB.out.size))
      clear hb hO hR hB
      obtain ⟨e2, he2⟩ : ∃ e2, w9.heap.size = e2 := ⟨_, rfl⟩
      have hbe2 : b < e2 := by rw [← he2]; exact O9.out.lt
      have hne1 : e2 ≠ b := by omega
      have hne2 : e2 ≠ w.heap.size := by have := HbR.out; omega
      have hfit := HVO.out p (by rw [HL.out]; exact hrs)
      cases hv : val p with
      | error y =>
        rw [hv] at hg
        obtain ⟨rfl, rfl⟩ : e = (y.2 : Int) ∧ at_ = (y.1 : Int) := hg
        have hy := (hfit.err _ hv).2
        have hez : ((y.2 : Int) != 0) = true := by rw [bne_iff_ne]; omega
        have HF2 : Hid (manyV false s.data.toList val k = .error y) := by rw [Hid, HF.out, hres.out, manyS, HH.out]; simp only; rw [hv]
        obtain ⟨w10, hw10, X10, b10⟩ := got_put w9 a9 en y.1 y.2
        have R10 := kept_z R9.out b10.out
        have B10 := Hid.out (p := Hid _) (B9.out.trans (b10.out.mono B9.out.size))
        rw [he2] at X10
        obtain ⟨⟨d0, d1, d2, d3, d4, d5, d6, d7, d8, d9, d10⟩, g0, g1, g2, g3, g4, g5, g6, g7, g8, g9, g10⟩ := got_cells X10.out
        obtain ⟨⟨c0, c1, c2, c3, c4, c5, c6, c7, c8, c9, c10⟩, f0, f1, f2, f3, f4, f5, f6, f7, f8, f9, f10⟩ := got_cells R10.out
        clear hv hy b10 hfit
        go_wp2_with fail
        refine got_fin rfl R10.out rfl B10.out (Nat.le_refl _) a9 en y.1 y.2 ?_
        rw [HF2.out]
        exact ⟨rfl, rfl⟩
      | ok z =>
      obtain ⟨v, t⟩ := z
      rw [hv] at hg
      obtain ⟨he0, rfl⟩ : e = 0 ∧ en = (t : Int) := hg
      have hez : (e != 0) = false := by rw [he0]; rfl
      clear he0
      have ht := hfit.ok _ hv
      simp only [HL.out] at ht
      obtain ⟨ht1, ht2⟩ := ht
      obtain ⟨p2, hp2⟩ : ∃ p2, skip s.data.toList t = p2 := ⟨_, rfl⟩
      have hp21 : t ≤ p2 := by rw [← hp2]; exact skip_ge _ _
      have hp22 : p2 ≤ s.size := by have := skip_le s.data.toList t (by rw [HL.out]; exact ht2); rw [HL.out, hp2] at this; exact this
      have hbl := fun w => rblanks_any s t w (by omega) ht2
      rw [hp2] at hbl
      have HBL := Hid.out (p := Hid _) hbl
      have HRES : Hid (RES = if s.data.toList[p2]? = some 93 then .ok (p2 + 1) else if s.data.toList[p2]? = some 44 then manyS false s.data.toList val n (skip s.data.toList (p2 + 1)) ks else .error (here s.data.toList p2)) := by
        rw [Hid, hres.out, manyS, HH.out]; simp only; rw [hv]; simp only; exact many_ends hp2
      obtain ⟨w10, hw10, X10, b10⟩ := got_put w9 a9 t at_ e
      have R10 := kept_z R9.out b10.out
      have B10 := Hid.out (p := Hid _) (B9.out.trans (b10.out.mono B9.out.size))
      have O10 := Hid.out (p := Hid _) (O9.out.stays b10.out)
      rw [he2] at X10
      obtain ⟨⟨d0, d1, d2, d3, d4, d5, d6, d7, d8, d9, d10⟩, g0, g1, g2, g3, g4, g5, g6, g7, g8, g9, g10⟩ := got_cells X10.out
      have x7 : w10.cell? ⟨b, 7, none⟩ = some (.slice va m vc) := cell_of O10.out.Y 7
      have hb10 : b < w10.heap.size := O10.out.lt
      obtain ⟨xs, hxs⟩ := O10.out.V
      have HX : Hid (w10.ownsRow (b + 1) 29 8 (.slice va m vc) m xs) := hxs
      clear hv b10 O9 R9 B9 hbl hp2 hfit hxs
      go_wp2_with (at_builtin; refine wpList_append_lies _ rfl _ _ 27 rfl (b + 1) 29 i0 _ 8 112 Tryz.underlying27 HI.out HZ.out hz1 hz2 rfl (by omega) (.slice va m vc) m xs rfl (HX.out.alloc _) ⟨w10.heap.size, 0, none⟩ 1 1 a9.cells rfl rfl (World.news_of_block (cs := a9.arr) (t := 29) (fr := (0, 0)) (heap_alloc_new w10 _)) (by simp [Raw.cells, Value.oneCell']) (by omega) (by unfold maxLen; omega) (by omega) (by simp; omega) (w10.heap.size + 1) (by simp) ?_)
      intro gv cap2 w11 hown hgrow hat7 hlt7
      have hne : some b ≠ (Value.slice va m vc).ownBlock := row_ne HX.out
      have Y11 := kid_far O10.out.Y hgrow hne
      have E11 := kid_far X10.out hgrow (own_ne HX.out X10.out (by decide))
      clear x7 d0 d1 d2 d3 d4 d5 d6 d7 d8 d9 d10 g0 g1 g2 g3 g4 g5 g6 g7 g8 g9 g10
      have x7 : w11.cell? ⟨b, 7, none⟩ = some (.slice va m vc) := cell_of Y11.out 7
      have m7 := frozen_of Y11.out 7
      have d8 : w11.cell? ⟨e2, 8, none⟩ = some (.int .i64 t) := cell_of E11.out 8
      obtain ⟨o12, b12⟩ := RO.kid O10.out HX.out hown hgrow hat7
      have O12 := Hid.out (p := Hid _) o12
      have G12 := Hid.out (p := Hid _) b12
      clear hown hgrow hat7 hlt7 hne o12 b12 hw10 he2
      go_wp2_with fail
      have R12 := kept_of R10.out G12.out (by have := HbR.out; omega)
      have B12 := Hid.out (p := Hid _) (B10.out.trans (G12.out.mono (by have := HbR.out; omega)))
      clear x7 m7 d8 Y11 E11 HX X10 G12 R10 B10 O10
      generalize w11.setCell ⟨b, 7, none⟩ (.slice (some ⟨gv, 0, none⟩) (m + 1) cap2) = w12 at *
      refine (Calls.mono (HBL.out w12) ?_)
      rintro x w12' ⟨rfl, rfl⟩
      obtain ⟨T1, hT1⟩ : ∃ T, decide (s.data.toList[p2]? = some 93) = T := ⟨_, rfl⟩
      have HT1 := Hid.out (p := Hid _) hT1
      clear hT1 HBL
      go_upto_region 20 with (fail)
      go_cut [89] from 37 to 110 (fun p89 wx => w12 = wx ∧ p89 = .bool T1)
      case first =>
        by_cases hlt : p2 < s.size
        · cases T1
          · have hbe : ((s[p2].toNat : Int) == 93) = false := byte_no (byte_get s p2 hlt) (of_decide_eq_false HT1.out)
            go_wp2_with fail
            go_meet
            exact ⟨rfl, rfl⟩
          · have hbe : ((s[p2].toNat : Int) == 93) = true := byte_yes (byte_get s p2 hlt) (of_decide_eq_true HT1.out)
            go_wp2_with fail
            go_meet
            exact ⟨rfl, rfl⟩
        · cases T1
          · go_wp2_with fail
            go_meet
            exact ⟨rfl, rfl⟩
          · exact absurd (get_lt (of_decide_eq_true HT1.out)) (by rw [HL.out]; exact hlt)
      case rest =>
      obtain ⟨rfl, rfl⟩ := hcut
      cases T1
      case true =>
        have HF2 : Hid (manyV false s.data.toList val k = .ok (p2 + 1)) := by rw [Hid, HF.out, HRES.out, if_pos (of_decide_eq_true HT1.out)]
        have hlt : p2 < s.size := by have := get_lt (of_decide_eq_true HT1.out); rw [HL.out] at this; exact this
        obtain ⟨⟨x0, x1, x2, x3, x4, x5, x6, x7⟩, _⟩ := val_cells O12.out.Y
        obtain ⟨⟨c0, c1, c2, c3, c4, c5, c6, c7, c8, c9, c10⟩, f0, f1, f2, f3, f4, f5, f6, f7, f8, f9, f10⟩ := got_cells R12.out
        clear HRES HT1
        go_wp2_with fail
        refine got_fin rfl R12.out rfl B12.out (Nat.le_refl _) ⟨5, false, false, ⟨#[]⟩, 0, ⟨#[]⟩, ka, ks.length, kc, some ⟨gv, 0, none⟩, m + 1, cap2⟩ ((p2 : Int) + 1) 0 0 ?_
        rw [HF2.out]
        exact ⟨rfl, by omega⟩
      case false =>
      obtain ⟨T2, hT2⟩ : ∃ T, decide (s.data.toList[p2]? ≠ some 44) = T := ⟨_, rfl⟩
      have HT2 := Hid.out (p := Hid _) hT2
      have HRES2 : Hid (RES = if s.data.toList[p2]? = some 44 then manyS false s.data.toList val n (skip s.data.toList (p2 + 1)) ks else .error (here s.data.toList p2)) := by rw [Hid, HRES.out, if_neg (of_decide_eq_false HT1.out)]
      clear hT2 HRES HT1
      go_upto_region 22 with (fail)
      go_cut [103] from 37 to 110 (fun p103 wx => w12 = wx ∧ p103 = .bool T2)
      case first =>
        by_cases hlt : p2 < s.size
        · have hpz : decide ((s.size : Int) ≤ (p2 : Int)) = false := by rw [decide_eq_false_iff_not]; omega
          have hpn : decide (s.size ≤ p2) = false := by rw [decide_eq_false_iff_not]; omega
          cases T2
          · have hbe : ((s[p2].toNat : Int) != 44) = false := byte_ney (byte_get s p2 hlt) (Decidable.of_not_not (of_decide_eq_false HT2.out))
            go_wp2_with fail
            go_meet
            exact ⟨rfl, rfl⟩
          · have hbe : ((s[p2].toNat : Int) != 44) = true := byte_nen (byte_get s p2 hlt) (of_decide_eq_true HT2.out)
            go_wp2_with fail
            go_meet
            exact ⟨rfl, rfl⟩
        · have hpz : decide ((s.size : Int) ≤ (p2 : Int)) = true := by rw [decide_eq_true_eq]; omega
          have hpn : decide (s.size ≤ p2) = true := by rw [decide_eq_true_eq]; omega
          cases T2
          · exact absurd (get_lt (Decidable.of_not_not (of_decide_eq_false HT2.out))) (by rw [HL.out]; exact hlt)
          · go_wp2_with fail
            go_meet
            exact ⟨rfl, rfl⟩
      case rest =>
      obtain ⟨rfl, rfl⟩ := hcut
      cases T2
      case true =>
        have HF2 : Hid (manyV false s.data.toList val k = .error (here s.data.toList p2)) := by rw [Hid, HF.out, HRES2.out, if_neg (of_decide_eq_true HT2.out)]
        clear HRES2 HT2
        go_wp2_with fail
        refine (rhere_any s p2 w12 (by omega) (by omega)).mono ?_
        rintro x wz ⟨az, enz, atz, ez, rfl, hrz, hbz⟩
        dsimp only [gVal]
        have Rz := kept_z R12.out hbz
        have Bz := Hid.out (p := Hid _) (B12.out.trans (hbz.mono B12.out.size))
        have HBz := Hid.out (p := Hid _) (GAtE.bad HF2.out rfl rfl hrz)
        clear hbz hrz
        obtain ⟨⟨c0, c1, c2, c3, c4, c5, c6, c7, c8, c9, c10⟩, f0, f1, f2, f3, f4, f5, f6, f7, f8, f9, f10⟩ := got_cells Rz.out
        go_wp2_with fail
        exact got_fin rfl Rz.out rfl Bz.out (Nat.le_refl _) az enz atz ez HBz.out
      case false =>
        have hq := Decidable.of_not_not (of_decide_eq_false HT2.out)
        have HF2 : Hid (RES = manyS false s.data.toList val n (skip s.data.toList (p2 + 1)) ks) := by rw [Hid, HRES2.out, if_pos hq]
        have hlt : p2 < s.size := by have := get_lt hq; rw [HL.out] at this; exact this
        clear hq HRES2 HT2
        go_wp2_with fail
        refine (rblanks_any s (p2 + 1) w12 (by omega) hlt).mono ?_
        rintro x w13 ⟨rfl, rfl⟩
        obtain ⟨p3, hp3⟩ : ∃ p3, skip s.data.toList (p2 + 1) = p3 := ⟨_, rfl⟩
        have hp31 : p2 + 1 ≤ p3 := by rw [← hp3]; exact skip_ge _ _
        have hp32 : p3 ≤ s.size := by have := skip_le s.data.toList (p2 + 1) (by rw [HL.out]; exact hlt); rw [HL.out, hp3] at this; exact this
        rw [hp3] at HF2 ⊢
        clear hp3
        go_wp2_with fail
        go_roundw
        case rel => exact ⟨p3, n, m + 1, ks, ka, kc, some ⟨gv, 0, none⟩, cap2, rfl, hp32, by omega, by omega, O12.out, R12.out, B12.out, by omega, HF2.out⟩
        case measure => simp [intOf]; omega
end Go.Proofs.YtehffmcfmdjknaaGreatDoor.Jdec
/- tabulariumref09: objects. (Written by gen/cute.py.) -/
namespace Go.Proofs.YtehffmcfmdjknaaGreatDoor.Jdec
open Go.RowKit Go.Proofs.YtehffmcfmdjknaaGreatDoor.Strs
set_option linter.unusedVariables false
set_option linter.unusedSimpArgs false
set_option maxRecDepth 100000

set_option maxHeartbeats 16000000 in
theorem rmany_object (s : ByteArray) (k : Nat) (dp : Nat) (val : Val) (w : World) (hs : s.size ≤ 1000000) (hk : k < s.size) (hdp : dp ≤ 64) (hc : (s[k].toNat : Int) = 123) (hval : RVal s ((dp : Int) + 1) val) (hvo : ValOk s.data.toList val) :
    Calls Tryz.prog 27 #[.string s, .int .i64 k, .int .i64 dp] w (GPost (GAtE (manyV true s.data.toList val k)) w) := by
  obtain ⟨i0, hi, hz0, hz1, hz2⟩ := info_parts infoVal2
  have HI := Hid.out (p := Hid _) hi; clear hi
  have HZ := Hid.out (p := Hid _) hz0; clear hz0
  obtain ⟨j0, hj, hjz, hj1, hj2⟩ := info_parts infoStr2
  have HJ := Hid.out (p := Hid _) hj; clear hj
  have HJZ := Hid.out (p := Hid _) hjz; clear hjz
  have HV : Hid (RVal s ((dp : Int) + 1) val) := hval
  have HVO : Hid (ValOk s.data.toList val) := hvo
  clear hval hvo
  have hl : s.data.toList.length = s.size := by simp
  have HL := Hid.out (p := Hid _) hl
  obtain ⟨q0, hq0⟩ : ∃ q0, skip s.data.toList (k + 1) = q0 := ⟨_, rfl⟩
  have hqs : q0 ≤ s.size := by have := skip_le s.data.toList (k + 1) (by omega); omega
  have hbl := fun w => rblanks_any s (k + 1) w (by omega) (by omega)
  rw [hq0] at hbl
  have HBL := Hid.out (p := Hid _) hbl
  obtain ⟨RES, hRES⟩ : ∃ RES, manyS true s.data.toList val (s.size + 1) q0 [] = RES := ⟨_, rfl⟩
  have HR := Hid.out (p := Hid _) hRES
  have HM : Hid (manyV true s.data.toList val k = if s.data.toList[q0]? = some 125 then .ok (q0 + 1) else RES) := by rw [Hid, manyV, hq0, hl, hRES]; rfl
  obtain ⟨w1, hw1, R1, B1, S1⟩ := got_new w
  obtain ⟨b, hb⟩ : ∃ b, w1.heap.size = b := ⟨_, rfl⟩
  have HbR : Hid (b = w.heap.size + 1) := by rw [← hb]; exact S1.out
  have hdw : IntKind.i64.wrap ((dp : Int) + 1) = (dp : Int) + 1 := IntWalk.i64_in _ (by omega)
  clear hl hq0 hbl hRES
  go_enter Tryz.func27, Tryz.ntmps27
  go_wp2_with fail
  obtain ⟨w2, hw2, Y2, G2, _⟩ := box_new w1 ⟨6, false, false, ⟨#[]⟩, 0, ⟨#[]⟩, none, 0, 0, none, 0, 0⟩
  dsimp only at hw2
  have R2 := kept_z R1.out G2.out
  have B2 := Hid.out (p := Hid _) (B1.out.trans (G2.out.mono B1.out.size))
  rw [hb] at Y2
  have Y2 : Hid (w2.heap[b]? = some (.cells (Raw.mk 6 false false ⟨#[]⟩ 0 ⟨#[]⟩ none 0 0 none 0 0).arr 29 (0, 0))) := Y2
  rw [hw2]
  have hbne : b ≠ w.heap.size := by have := HbR.out; omega
  have hbn2 : w.heap.size ≠ b := by have := HbR.out; omega
  clear R1 B1 S1 G2 hw1 hw2 hb
  refine (Calls.mono (HBL.out w2) ?_)
  rintro x w2' ⟨rfl, rfl⟩
  obtain ⟨T0, hT0⟩ : ∃ T, decide (s.data.toList[q0]? = some 125) = T := ⟨_, rfl⟩
  have HT0 := Hid.out (p := Hid _) hT0
  clear hT0
  go_upto_region 7 with (fail)
  go_cut [32] from 22 (fun p32 wx => w2 = wx ∧ p32 = .bool T0)
  case first =>
    by_cases hlt : q0 < s.size
    · cases T0
      · have hbe : ((s[q0].toNat : Int) == 125) = false := byte_no (byte_get s q0 hlt) (of_decide_eq_false HT0.out)
        go_wp2_with fail
        go_meet
        exact ⟨rfl, rfl⟩
      · have hbe : ((s[q0].toNat : Int) == 125) = true := byte_yes (byte_get s q0 hlt) (of_decide_eq_true HT0.out)
        go_wp2_with fail
        go_meet
        exact ⟨rfl, rfl⟩
    · cases T0
      · go_wp2_with fail
        go_meet
        exact ⟨rfl, rfl⟩
      · exact absurd (get_lt (of_decide_eq_true HT0.out)) (by rw [HL.out]; exact hlt)
  case rest =>
  obtain ⟨rfl, rfl⟩ := hcut
  cases T0
  case true =>
    have hq := of_decide_eq_true HT0.out
    have HF : Hid (manyV true s.data.toList val k = .ok (q0 + 1)) := by rw [Hid, HM.out, if_pos hq]
    have hlt : q0 < s.size := by have := get_lt hq; rw [HL.out] at this; exact this
    clear hq
    obtain ⟨⟨x0, x1, x2, x3, x4, x5, x6, x7⟩, _⟩ := val_cells Y2.out
    obtain ⟨⟨c0, c1, c2, c3, c4, c5, c6, c7, c8, c9, c10⟩, f0, f1, f2, f3, f4, f5, f6, f7, f8, f9, f10⟩ := got_cells R2.out
    go_wp2_with fail
    refine got_fin rfl R2.out rfl B2.out (Nat.le_refl _) ⟨6, false, false, ⟨#[]⟩, 0, ⟨#[]⟩, none, 0, 0, none, 0, 0⟩ ((q0 : Int) + 1) 0 0 ?_
    rw [HF.out]
    exact ⟨rfl, by omega⟩
  case false =>
    have HF : Hid (manyV true s.data.toList val k = RES) := by rw [Hid, HM.out, if_neg (of_decide_eq_false HT0.out)]
    have HO : Hid (RO w2 b 6 [] 0 none 0 none 0) := ⟨Y2.out, World.ownsRow_nil _ _ _ _, [], World.ownsRow_nil _ _ _ _⟩
    clear HT0 HM Y2 HBL
    go_wp2_with fail
    go_loopw [9] (fun p9 wr => ∃ (p n m : Nat) (ks : List ByteArray) (ka : Option Addr) (kc : Nat) (va : Option Addr) (vc : Nat), p9 = .int .i64 p ∧ p ≤ s.size ∧ ks.length ≤ p ∧ m ≤ p ∧ Hid (RO wr b 6 ks m ka kc va vc) ∧ Hid (wr.heap[w.heap.size]? = some (.cells (gArr Raw.zero 0 0 0) 31 (0, 0))) ∧ Hid (Below w.heap.size w wr) ∧ s.size - p < n ∧ Hid (RES = manyS true s.data.toList val n p ks)) (fun p9 _ => s.size + 1 - (intOf p9).toNat)
    case atStart => exact ⟨q0, s.size + 1, 0, [], none, 0, none, 0, rfl, hqs, Nat.zero_le _, Nat.zero_le _, HO.out, R2.out, B2.out, by omega, HR.out.symm⟩
    case round =>
      obtain ⟨p, n, m, ks, ka, kc, va, vc, rfl, hp, hks, hm, hO, hR, hB, hn, hres⟩ := hrel
      obtain ⟨n, rfl⟩ : ∃ n', n = n' + 1 := ⟨n - 1, by omega⟩
      have x0 : wr.cell? ⟨b, 0, none⟩ = some (.int .i64 6) := cell_of hO.out.Y 0
      clear HR HO R2 B2
      have x6 : wr.cell? ⟨b, 6, none⟩ = some (.slice ka ks.length kc) := cell_of hO.out.Y 6
      go_wp2_with fail
      refine (rfield_any s p ka kc ks wr hs hp (by omega) hO.out.texts).mono ?_
      rintro x w3 ⟨a, en, at_, e, rfl, hr, hb⟩
      dsimp only [gVal]
      have O3 := Hid.out (p := Hid _) (hO.out.stays hb)
      have R3 := kept_z hR.out hb
      have B3 := Hid.out (p := Hid _) (hB.out.trans (hb.mono hB.out.size))
      clear hb x0 x6 hO hR hB
      obtain ⟨e1, he1⟩ : ∃ e1, w3.heap.size = e1 := ⟨_, rfl⟩
      have hbe1 : b < e1 := by rw [← he1]; exact O3.out.lt
      have hne1 : e1 ≠ b := by omega
      have hne2 : e1 ≠ w.heap.size := by have := HbR.out; omega
      cases hf : fieldS s.data.toList ks p with
      | error y =>
        rw [hf] at hr
        obtain ⟨rfl, rfl⟩ : e = (y.2 : Int) ∧ at_ = (y.1 : Int) := hr
        have hy := field_err (by rw [HL.out]; exact hp) hf
        have hez : ((y.2 : Int) != 0) = true := by rw [bne_iff_ne]; omega
        have HF2 : Hid (manyV true s.data.toList val k = .error y) := by rw [Hid, HF.out, hres.out, manyS, headS, if_pos rfl, hf]
        obtain ⟨w4, hw4, X4, b4⟩ := got_put w3 a en y.1 y.2
        have R4 := kept_z R3.out b4.out
        have B4 := Hid.out (p := Hid _) (B3.out.trans (b4.out.mono B3.out.size))
        rw [he1] at X4
        obtain ⟨⟨d0, d1, d2, d3, d4, d5, d6, d7, d8, d9, d10⟩, g0, g1, g2, g3, g4, g5, g6, g7, g8, g9, g10⟩ := got_cells X4.out
        obtain ⟨⟨c0, c1, c2, c3, c4, c5, c6, c7, c8, c9, c10⟩, f0, f1, f2, f3, f4, f5, f6, f7, f8, f9, f10⟩ := got_cells R4.out
        clear hf hy b4
        go_wp2_with fail
        refine got_fin rfl R4.out rfl B4.out (Nat.le_refl _) a en y.1 y.2 ?_
        rw [HF2.out]
        exact ⟨rfl, rfl⟩
      | ok z =>
      obtain ⟨d, r⟩ := z
      rw [hf] at hr
      obtain ⟨he0, rfl, rfl⟩ : e = 0 ∧ en = (r : Int) ∧ a.str = d := hr
      have hez : (e != 0) = false := by rw [he0]; rfl
      clear he0
      have HH : Hid (headS true s.data.toList ks p = .ok (ks ++ [a.str], r)) := by rw [Hid, headS, if_pos rfl, hf]
      obtain ⟨hpr, hrs, hksr⟩ := head_fits (by rw [HL.out]; exact hp) HH.out
      rw [HL.out] at hrs
      obtain ⟨w4, hw4, X4, b4⟩ := got_put w3 a r at_ e
      have R4 := kept_z R3.out b4.out
      have B4 := Hid.out (p := Hid _) (B3.out.trans (b4.out.mono B3.out.size))
      have O4 := Hid.out (p := Hid _) (O3.out.stays b4.out)
      rw [he1] at X4
      obtain ⟨⟨d0, d1, d2, d3, d4, d5, d6, d7, d8, d9, d10⟩, g0, g1, g2, g3, g4, g5, g6, g7, g8, g9, g10⟩ := got_cells X4.out
      have x6 : w4.cell? ⟨b, 6, none⟩ = some (.slice ka ks.length kc) := cell_of O4.out.Y 6
      have hb4 : b < w4.heap.size := O4.out.lt
      have KK : Hid (w4.ownsRow (b + 1) 9 1 (.slice ka ks.length kc) ks.length (ks.map Value.string)) := O4.out.K
      clear hf b4 O3 R3 B3
      go_wp2_with (at_builtin; refine wpList_append_lies _ rfl _ _ 26 rfl (b + 1) 9 j0 _ 1 16 Tryz.underlying26 HJ.out HJZ.out hj1 hj2 rfl (by omega) (.slice ka ks.length kc) ks.length (ks.map Value.string) rfl (KK.out.alloc _) ⟨w4.heap.size, 0, none⟩ 1 1 [.string a.str] rfl rfl (World.news_of_block (cs := #[.string a.str]) (t := 9) (fr := (0, 0)) (heap_alloc_new w4 _)) (by simp [Value.oneCell']) (by omega) (by unfold maxLen; omega) (by omega) (by simp; omega) (w4.heap.size + 1) (by simp) ?_)
      intro g cap w7 hown hgrow hat7 hlt7
      have hne : some b ≠ (Value.slice ka ks.length kc).ownBlock := row_ne KK.out
      have Y7 := kid_far O4.out.Y hgrow hne
      have E7 := kid_far X4.out hgrow (own_ne KK.out X4.out (by decide))
      clear x6 d0 d1 d2 d3 d4 d5 d6 d7 d8 d9 d10 g0 g1 g2 g3 g4 g5 g6 g7 g8 g9 g10
      have x6 : w7.cell? ⟨b, 6, none⟩ = some (.slice ka ks.length kc) := cell_of Y7.out 6
      have m6 := frozen_of Y7.out 6
      have d8 : w7.cell? ⟨e1, 8, none⟩ = some (.int .i64 r) := cell_of E7.out 8
      obtain ⟨o8, b8⟩ := RO.key O4.out hown hgrow hat7
      have O8 := Hid.out (p := Hid _) o8
      have G8 := Hid.out (p := Hid _) b8
      clear hown hgrow hat7 hlt7 hne o8 b8 hw4 he1
      go_wp2_with fail
      have R8 := kept_of R4.out G8.out (by have := HbR.out; omega)
      have B8 := Hid.out (p := Hid _) (B4.out.trans (G8.out.mono (by have := HbR.out; omega)))
      clear x6 m6 d8 Y7 E7 KK X4 G8 R4 B4 O4
      generalize w7.setCell ⟨b, 6, none⟩ (.slice (some ⟨g, 0, none⟩) (ks.length + 1) cap) = w8 at *
      generalize ks ++ [a.str] = ks' at *
      clear hne1 hne2 hbe1
      refine (Calls.mono (HV.out r w8 hrs) ?_)
      rintro x w9 ⟨a9, en, at_, e, rfl, hg, hb⟩
      dsimp only [gVal]
      have O9 := Hid.out (p := Hid _) (O8.out.stays hb)
      have R9 := kept_z R8.out hb
      have B9 := Hid.out (p := Hid _) (B8.out.trans (hb.mono B8.out.size))
      clear hb O8 R8 B8
      obtain ⟨e2, he2⟩ : ∃ e2, w9.heap.size = e2 := ⟨_, rfl⟩
      have hbe2 : b < e2 := by rw [← he2]; exact O9.out.lt
      have hne1 : e2 ≠ b := by omega
      have hne2 : e2 ≠ w.heap.size := by have := HbR.out; omega
      have hfit := HVO.out r (by rw [HL.out]; exact hrs)
      cases hv : val r with
      | error y =>
        rw [hv] at hg
        obtain ⟨rfl, rfl⟩ : e = (y.2 : Int) ∧ at_ = (y.1 : Int) := hg
        have hy := (hfit.err _ hv).2
        have hez : ((y.2 : Int) != 0) = true := by rw [bne_iff_ne]; omega
        have HF2 : Hid (manyV true s.data.toList val k = .error y) := by rw [Hid, HF.out, hres.out, manyS, HH.out]; simp only; rw [hv]
        obtain ⟨w10, hw10, X10, b10⟩ := got_put w9 a9 en y.1 y.2
        have R10 := kept_z R9.out b10.out
        have B10 := Hid.out (p := Hid _) (B9.out.trans (b10.out.mono B9.out.size))
        rw [he2] at X10
        obtain ⟨⟨d0, d1, d2, d3, d4, d5, d6, d7, d8, d9, d10⟩, g0, g1, g2, g3, g4, g5, g6, g7, g8, g9, g10⟩ := got_cells X10.out
        obtain ⟨⟨c0, c1, c2, c3, c4, c5, c6, c7, c8, c9, c10⟩, f0, f1, f2, f3, f4, f5, f6, f7, f8, f9, f10⟩ := got_cells R10.out
        clear hv hy b10 hfit
        go_wp2_with fail
        refine got_fin rfl R10.out rfl B10.out (Nat.le_refl _) a9 en y.1 y.2 ?_
        rw [HF2.out]
        exact ⟨rfl, rfl⟩
      | ok z =>
      obtain ⟨v, t⟩ := z
      rw [hv] at hg
      obtain ⟨he0, rfl⟩ : e = 0 ∧ en = (t : Int) := hg
      have hez : (e != 0) = false := by rw [he0]; rfl
      clear he0
      have ht := hfit.ok _ hv
      simp only [HL.out] at ht
      obtain ⟨ht1, ht2⟩ := ht
      obtain ⟨p2, hp2⟩ : ∃ p2, skip s.data.toList t = p2 := ⟨_, rfl⟩
      have hp21 : t ≤ p2 := by rw [← hp2]; exact skip_ge _ _
      have hp22 : p2 ≤ s.size := by have := skip_le s.data.toList t (by rw [HL.out]; exact ht2); rw [HL.out, hp2] at this; exact this
      have hbl := fun w => rblanks_any s t w (by omega) ht2
      rw [hp2] at hbl
      have HBL := Hid.out (p := Hid _) hbl
      have HRES : Hid (RES = if s.data.toList[p2]? = some 125 then .ok (p2 + 1) else if s.data.toList[p2]? = some 44 then manyS true s.data.toList val n (skip s.data.toList (p2 + 1)) ks' else .error (here s.data.toList p2)) := by
        rw [Hid, hres.out, manyS, HH.out]; simp only; rw [hv]; simp only; exact many_ends hp2
      obtain ⟨w10, hw10, X10, b10⟩ := got_put w9 a9 t at_ e
      have R10 := kept_z R9.out b10.out
      have B10 := Hid.out (p := Hid _) (B9.out.trans (b10.out.mono B9.out.size))
      have O10 := Hid.out (p := Hid _) (O9.out.stays b10.out)
      rw [he2] at X10
      obtain ⟨⟨d0, d1, d2, d3, d4, d5, d6, d7, d8, d9, d10⟩, g0, g1, g2, g3, g4, g5, g6, g7, g8, g9, g10⟩ := got_cells X10.out
      have x7 : w10.cell? ⟨b, 7, none⟩ = some (.slice va m vc) := cell_of O10.out.Y 7
      have hb10 : b < w10.heap.size := O10.out.lt
      obtain ⟨xs, hxs⟩ := O10.out.V
      have HX : Hid (w10.ownsRow (b + 1) 29 8 (.slice va m vc) m xs) := hxs
      clear hv b10 O9 R9 B9 hbl hp2 hfit hxs
      go_wp2_with (at_builtin; refine wpList_append_lies _ rfl _ _ 27 rfl (b + 1) 29 i0 _ 8 112 Tryz.underlying27 HI.out HZ.out hz1 hz2 rfl (by omega) (.slice va m vc) m xs rfl (HX.out.alloc _) ⟨w10.heap.size, 0, none⟩ 1 1 a9.cells rfl rfl (World.news_of_block (cs := a9.arr) (t := 29) (fr := (0, 0)) (heap_alloc_new w10 _)) (by simp [Raw.cells, Value.oneCell']) (by omega) (by unfold maxLen; omega) (by omega) (by simp; omega) (w10.heap.size + 1) (by simp) ?_)
      intro gv cap2 w11 hown hgrow hat7 hlt7
      have hne : some b ≠ (Value.slice va m vc).ownBlock := row_ne HX.out
      have Y11 := kid_far O10.out.Y hgrow hne
      have E11 := kid_far X10.out hgrow (own_ne HX.out X10.out (by decide))
      clear x7 d0 d1 d2 d3 d4 d5 d6 d7 d8 d9 d10 g0 g1 g2 g3 g4 g5 g6 g7 g8 g9 g10
      have x7 : w11.cell? ⟨b, 7, none⟩ = some (.slice va m vc) := cell_of Y11.out 7
      have m7 := frozen_of Y11.out 7
      have d8 : w11.cell? ⟨e2, 8, none⟩ = some (.int .i64 t) := cell_of E11.out 8
      obtain ⟨o12, b12⟩ := RO.kid O10.out HX.out hown hgrow hat7
      have O12 := Hid.out (p := Hid _) o12
      have G12 := Hid.out (p := Hid _) b12
      clear hown hgrow hat7 hlt7 hne o12 b12 hw10 he2
      go_wp2_with fail
      have R12 := kept_of R10.out G12.out (by have := HbR.out; omega)
      have B12 := Hid.out (p := Hid _) (B10.out.trans (G12.out.mono (by have := HbR.out; omega)))
      clear x7 m7 d8 Y11 E11 HX X10 G12 R10 B10 O10
      generalize w11.setCell ⟨b, 7, none⟩ (.slice (some ⟨gv, 0, none⟩) (m + 1) cap2) = w12 at *
      refine (Calls.mono (HBL.out w12) ?_)
      rintro x w12' ⟨rfl, rfl⟩
      obtain ⟨T1, hT1⟩ : ∃ T, decide (s.data.toList[p2]? = some 125) = T := ⟨_, rfl⟩
      have HT1 := Hid.out (p := Hid _) hT1
      clear hT1 HBL
      go_upto_region 20 with (fail)
      go_cut [89] from 37 to 110 (fun p89 wx => w12 = wx ∧ p89 = .bool T1)
      case first =>
        by_cases hlt : p2 < s.size
        · cases T1
          · have hbe : ((s[p2].toNat : Int) == 125) = false := byte_no (byte_get s p2 hlt) (of_decide_eq_false HT1.out)
            go_wp2_with fail
            go_meet
            exact ⟨rfl, rfl⟩
          · have hbe : ((s[p2].toNat : Int) == 125) = true := byte_yes (byte_get s p2 hlt) (of_decide_eq_true HT1.out)
            go_wp2_with fail
            go_meet
            exact ⟨rfl, rfl⟩
        · cases T1
          · go_wp2_with fail
            go_meet
            exact ⟨rfl, rfl⟩
          · exact absurd (get_lt (of_decide_eq_true HT1.out)) (by rw [HL.out]; exact hlt)
      case rest =>
      obtain ⟨rfl, rfl⟩ := hcut
      cases T1
      case true =>
        have HF2 : Hid (manyV true s.data.toList val k = .ok (p2 + 1)) := by rw [Hid, HF.out, HRES.out, if_pos (of_decide_eq_true HT1.out)]
        have hlt : p2 < s.size := by have := get_lt (of_decide_eq_true HT1.out); rw [HL.out] at this; exact this
        obtain ⟨⟨x0, x1, x2, x3, x4, x5, x6, x7⟩, _⟩ := val_cells O12.out.Y
        obtain ⟨⟨c0, c1, c2, c3, c4, c5, c6, c7, c8, c9, c10⟩, f0, f1, f2, f3, f4, f5, f6, f7, f8, f9, f10⟩ := got_cells R12.out
        clear HRES HT1
        go_wp2_with fail
        refine got_fin rfl R12.out rfl B12.out (Nat.le_refl _) ⟨6, false, false, ⟨#[]⟩, 0, ⟨#[]⟩, (some ⟨g, 0, none⟩), ks'.length, cap, some ⟨gv, 0, none⟩, m + 1, cap2⟩ ((p2 : Int) + 1) 0 0 ?_
        rw [HF2.out]
        exact ⟨rfl, by omega⟩
      case false =>
      obtain ⟨T2, hT2⟩ : ∃ T, decide (s.data.toList[p2]? ≠ some 44) = T := ⟨_, rfl⟩
      have HT2 := Hid.out (p := Hid _) hT2
      have HRES2 : Hid (RES = if s.data.toList[p2]? = some 44 then manyS true s.data.toList val n (skip s.data.toList (p2 + 1)) ks' else .error (here s.data.toList p2)) := by rw [Hid, HRES.out, if_neg (of_decide_eq_false HT1.out)]
      clear hT2 HRES HT1
      go_upto_region 22 with (fail)
      go_cut [103] from 37 to 110 (fun p103 wx => w12 = wx ∧ p103 = .bool T2)
      case first =>
        by_cases hlt : p2 < s.size
        · have hpz : decide ((s.size : Int) ≤ (p2 : Int)) = false := by rw [decide_eq_false_iff_not]; omega
          have hpn : decide (s.size ≤ p2) = false := by rw [decide_eq_false_iff_not]; omega
          cases T2
          · have hbe : ((s[p2].toNat : Int) != 44) = false := byte_ney (byte_get s p2 hlt) (Decidable.of_not_not (of_decide_eq_false HT2.out))
            go_wp2_with fail
            go_meet
            exact ⟨rfl, rfl⟩
          · have hbe : ((s[p2].toNat : Int) != 44) = true := byte_nen (byte_get s p2 hlt) (of_decide_eq_true HT2.out)
            go_wp2_with fail
            go_meet
            exact ⟨rfl, rfl⟩
        · have hpz : decide ((s.size : Int) ≤ (p2 : Int)) = true := by rw [decide_eq_true_eq]; omega
          have hpn : decide (s.size ≤ p2) = true := by rw [decide_eq_true_eq]; omega
          cases T2
          · exact absurd (get_lt (Decidable.of_not_not (of_decide_eq_false HT2.out))) (by rw [HL.out]; exact hlt)
          · go_wp2_with fail
            go_meet
            exact ⟨rfl, rfl⟩
      case rest =>
      obtain ⟨rfl, rfl⟩ := hcut
      cases T2
      case true =>
        have HF2 : Hid (manyV true s.data.toList val k = .error (here s.data.toList p2)) := by rw [Hid, HF.out, HRES2.out, if_neg (of_decide_eq_true HT2.out)]
        clear HRES2 HT2
        go_wp2_with fail
        refine (rhere_any s p2 w12 (by omega) (by omega)).mono ?_
        rintro x wz ⟨az, enz, atz, ez, rfl, hrz, hbz⟩
        dsimp only [gVal]
        have Rz := kept_z R12.out hbz
        have Bz := Hid.out (p := Hid _) (B12.out.trans (hbz.mono B12.out.size))
        have HBz := Hid.out (p := Hid _) (GAtE.bad HF2.out rfl rfl hrz)
        clear hbz hrz
        obtain ⟨⟨c0, c1, c2, c3, c4, c5, c6, c7, c8, c9, c10⟩, f0, f1, f2, f3, f4, f5, f6, f7, f8, f9, f10⟩ := got_cells Rz.out
        go_wp2_with fail
        exact got_fin rfl Rz.out rfl Bz.out (Nat.le_refl _) az enz atz ez HBz.out
      case false =>
        have hq := Decidable.of_not_not (of_decide_eq_false HT2.out)
        have HF2 : Hid (RES = manyS true s.data.toList val n (skip s.data.toList (p2 + 1)) ks') := by rw [Hid, HRES2.out, if_pos hq]
        have hlt : p2 < s.size := by have := get_lt hq; rw [HL.out] at this; exact this
        clear hq HRES2 HT2
        go_wp2_with fail
        refine (rblanks_any s (p2 + 1) w12 (by omega) hlt).mono ?_
        rintro x w13 ⟨rfl, rfl⟩
        obtain ⟨p3, hp3⟩ : ∃ p3, skip s.data.toList (p2 + 1) = p3 := ⟨_, rfl⟩
        have hp31 : p2 + 1 ≤ p3 := by rw [← hp3]; exact skip_ge _ _
        have hp32 : p3 ≤ s.size := by have := skip_le s.data.toList (p2 + 1) (by rw [HL.out]; exact hlt); rw [HL.out, hp3] at this; exact this
        rw [hp3] at HF2 ⊢
        clear hp3
        go_wp2_with fail
        go_roundw
        case rel => exact ⟨p3, n, m + 1, ks', (some ⟨g, 0, none⟩), cap, some ⟨gv, 0, none⟩, cap2, rfl, hp32, by omega, by omega, O12.out, R12.out, B12.out, by omega, HF2.out⟩
        case measure => simp [intOf]; omega
end Go.Proofs.YtehffmcfmdjknaaGreatDoor.Jdec
