/- state.name, state.by. -/
import Derived.Test.YtehghladpnpcoaaGreatDoorZLsQ
import Derived.Test.YtehghladpnpcoaaGreatDoorZSoPE
import Derived.Test.YtehghladpnpcoaaGreatDoorZSoKE
import Derived.Deep.RegionHeld
set_option linter.unusedVariables false
set_option linter.unusedSimpArgs false
set_option maxRecDepth 100000
set_option maxHeartbeats 8000000
namespace Go.Proofs.YtehghladpnpcoaaGreatDoor.State
open Go.RowKit Go.Shelf Go.Proofs.YtehghladpnpcoaaGreatDoor.Utf Go.Proofs.YtehghladpnpcoaaGreatDoor.Strs Go.Proofs.YtehghladpnpcoaaGreatDoor.Addr
open Go.Proofs.YtehghladpnpcoaaGreatDoor.Jdec (IsTexts Turn infoStr gb_set gb_below gb_drew gb_refl)
theorem name_any (x : Pr) (w : World) : Calls Tryz.prog 42 #[.agg #[.string x.1, .string x.2]] w fun e w' => e = .returned (.string x.1) ∧ Below w.heap.size w w' := by
 obtain ⟨w1, hw1, V1, B1⟩ := pair_new w x.1 x.2
 have c0 := cell_of V1.out 0
 have c1 := cell_of V1.out 1
 go_enter Tryz.func42, Tryz.ntmps42
 go_wp2_with fail
 go_ret
 exact ⟨rfl, B1.out⟩
theorem less_ge_trans {x y z : List UInt8} (h1 : Op.bytesLess y x = false) (h2 : Op.bytesLess z y = false) : Op.bytesLess z x = false := by
 cases e : Op.bytesLess z x
 ·rfl
 ·have a1 := less_swap x y
  have a2 := less_swap y z
  rw [h1] at a1
  rw [h2] at a2
  have b1 : Op.bytesLess x y = true ∨ x = y := by
   cases c : Op.bytesLess x y
   ·rw [c] at a1; right; simpa using a1
   ·exact .inl rfl
  rcases b1 with b1 | rfl
  ·have := less_trans e b1
   rw [h2] at this
   cases this
  ·rw [h2] at e; cases e
section
variable {α : Type} (key : α → List UInt8)
def Wk (l : List α) : Prop := l.Pairwise fun x y => Op.bytesLess (key y) (key x) = false
def Stc (l : List α) : Prop := l.Pairwise fun x y => Op.bytesLess (key x) (key y) = true
def insK : List α → α → List α
 | [], x => [x]
 | y :: t, x => if Op.bytesLess (key x) (key y) then x :: y :: t else y :: insK t x
theorem insK_perm (l : List α) (x : α) : (insK key l x).Perm (x :: l) := by
 induction l with
 | nil => exact List.Perm.refl _
 | cons y t ih =>
  rw [insK]
  split
  ·exact List.Perm.refl _
  ·exact (ih.cons y).trans (List.Perm.swap x y t)
theorem less_asym {x y : List UInt8} (h : Op.bytesLess x y = true) : Op.bytesLess y x = false := by
 cases e : Op.bytesLess y x
 ·rfl
 ·have := less_trans h e
  rw [less_irrefl] at this
  cases this
theorem insK_sorted {l : List α} (x : α) (h : Wk key l) : Wk key (insK key l x) := by
 induction l with
 | nil => exact List.pairwise_singleton _ _
 | cons y t ih =>
  obtain ⟨h1, h2⟩ := List.pairwise_cons.1 h
  rw [insK]
  split
  ·rename_i hlt
   refine List.pairwise_cons.2 ⟨fun z hz => ?_, h⟩
   rcases List.mem_cons.1 hz with rfl | hz
   ·exact less_asym hlt
   ·exact less_ge_trans (less_asym hlt) (h1 z hz)
  ·rename_i hlt
   refine List.pairwise_cons.2 ⟨fun z hz => ?_, ih h2⟩
   rcases List.mem_cons.1 ((insK_perm key t x).mem_iff.1 hz) with rfl | hz
   ·simpa using hlt
   ·exact h1 z hz
theorem sortK_perm (l : List α) : (l.foldl (insK key) []).Perm l := by
 have : ∀ (l m : List α), (l.foldl (insK key) m).Perm (l ++ m) := by
  intro l
  induction l with
  | nil => intro m; exact List.Perm.refl _
  | cons x t ih =>
   intro m
   rw [List.foldl_cons]
   refine (ih _).trans ?_
   refine ((insK_perm key m x).append_left t).trans ?_
   exact List.perm_middle
 simpa using this l []
theorem sortK_sorted (l : List α) : Wk key (l.foldl (insK key) []) := by
 have : ∀ (l m : List α), Wk key m → Wk key (l.foldl (insK key) m) := by
  intro l
  induction l with
  | nil => intro m h; exact h
  | cons x t ih => intro m h; rw [List.foldl_cons]; exact ih _ (insK_sorted key x h)
 exact this l [] List.Pairwise.nil
variable {key}
theorem stc_iff {l : List α} (h : Wk key l) : Stc key l ↔ (l.map key).Nodup := by
 unfold List.Nodup
 rw [List.pairwise_map]
 constructor
 ·intro hs
  refine List.Pairwise.imp ?_ hs
  intro x y hxy e
  rw [e, less_irrefl] at hxy
  cases hxy
 ·intro hs
  have := List.Pairwise.and h hs
  refine this.imp ?_
  rintro x y ⟨h1, h2⟩
  have := less_swap (key y) (key x)
  rw [h1] at this
  rw [this]
  simpa using fun e : key y = key x => h2 e.symm
theorem stc_perm {l m : List α} (h : l.Perm m) (hl : Wk key l) (hm : Wk key m) : Stc key l ↔ Stc key m := by
 rw [stc_iff hl, stc_iff hm]
 exact (h.map key).nodup_iff
theorem stc_ext : ∀ {l m : List α}, l.Perm m → Stc key l → Stc key m → l = m
 | [], m, h, _, _ => (List.Perm.nil_eq h)
 | x :: t, [], h, _, _ => by simpa using h.length_eq
 | x :: t, y :: u, h, h1, h2 => by
  obtain ⟨a1, a2⟩ := List.pairwise_cons.1 h1
  obtain ⟨b1, b2⟩ := List.pairwise_cons.1 h2
  have e : x = y := by
   rcases List.mem_cons.1 (h.mem_iff.1 (List.mem_cons_self ..)) with e | hx
   ·exact e
   ·rcases List.mem_cons.1 (h.mem_iff.2 (List.mem_cons_self ..)) with e | hy
    ·exact e.symm
    ·have := less_asym (b1 x hx)
     rw [a1 y hy] at this
     cases this
  subst e
  rw [stc_ext (List.Perm.cons_inv h) a2 b2]
end
def keyP (x : Pr) : List UInt8 := x.1.data.toList
theorem insP_eq (l : List Pr) (x : Pr) : insP l x = insK keyP l x := by
 induction l with
 | nil => rfl
 | cons y t ih =>
  rw [insP, insK, ih]
  have e : ltB x.1 y.1 = Op.bytesLess (keyP x) (keyP y) := by unfold ltB keyP; rw [ByteArray.toList_eq, ByteArray.toList_eq]
  rw [e]
theorem attrsP_eq (l : List Pr) : attrsP l = l.foldl (insK keyP) [] := by
 unfold attrsP
 congr 1
 funext l x
 exact insP_eq l x
theorem attrsP_perm (l : List Pr) : (attrsP l).Perm l := by rw [attrsP_eq]; exact sortK_perm _ _
theorem attrsP_wk (l : List Pr) : Wk keyP (attrsP l) := by rw [attrsP_eq]; exact sortK_sorted _ _
theorem rising_stc (l : List Pr) : risingB l = true ↔ Stc keyP l := by
 induction l with
 | nil => simp [risingB, Stc]
 | cons x t ih =>
  unfold Stc at ih ⊢
  rw [List.pairwise_cons, ← ih]
  cases t with
  | nil => simp [risingB]
  | cons y t =>
   have e : ltB x.1 y.1 = Op.bytesLess (keyP x) (keyP y) := by unfold ltB keyP; rw [ByteArray.toList_eq, ByteArray.toList_eq]
   rw [risingB, Bool.and_eq_true, e]
   constructor
   ·rintro ⟨h1, h2⟩
    refine ⟨fun z hz => ?_, h2⟩
    rcases List.mem_cons.1 hz with rfl | hz
    ·exact h1
    ·exact less_trans h1 ((List.pairwise_cons.1 (ih.1 h2)).1 z hz)
   ·rintro ⟨h1, h2⟩
    exact ⟨h1 y (List.mem_cons_self ..), h2⟩
theorem rising_same {l g : List Pr} (hp : g.Perm l) (hw : Wk keyP g) : risingB g = risingB (attrsP l) ∧ (risingB g = true → g = attrsP l) := by
 have hpp : g.Perm (attrsP l) := hp.trans (attrsP_perm l).symm
 have hi : risingB g = true ↔ risingB (attrsP l) = true := by
  rw [rising_stc, rising_stc]; exact stc_perm hpp hw (attrsP_wk l)
 refine ⟨Bool.eq_iff_iff.2 hi, fun h => ?_⟩
 exact stc_ext hpp ((rising_stc _).1 h) ((rising_stc _).1 (hi.1 h))
structure Kd where
 s : ByteArray
 p : At
 r : Rec
def keyK (k : Kd) : List UInt8 := k.s.data.toList
def keyR (r : Rec) : List UInt8 := printA r.a
theorem insR_eq (l : List Rec) (x : Rec) : insR l x = insK keyR l x := by
 induction l with
 | nil => rfl
 | cons y t ih => rw [insR, insK, ih]; rfl
theorem sortR_eq (l : List Rec) : sortR l = (l.map tidy).foldl (insK keyR) [] := by
 unfold sortR
 congr 1
 funext l x
 exact insR_eq l x
theorem sortR_perm (l : List Rec) : (sortR l).Perm (l.map tidy) := by rw [sortR_eq]; exact sortK_perm _ _
theorem sortR_wk (l : List Rec) : Wk keyR (sortR l) := by rw [sortR_eq]; exact sortK_sorted _ _
structure Kept (r : Rec) (k : Kd) : Prop where
 es : k.s = ⟨(printA r.a).toArray⟩
 er : k.r = { r with attrs := k.r.attrs }
 em : k.r.attrs.Perm r.attrs
 ew : Wk keyP k.r.attrs
theorem Kept.key {r : Rec} {k : Kd} (h : Kept r k) : keyK k = keyR k.r := by
 unfold keyK keyR
 rw [h.es, h.er]
theorem Kept.tidy {r : Rec} {k : Kd} (h : Kept r k) : risingB k.r.attrs = risingB (tidy r).attrs ∧ (risingB k.r.attrs = true → k.r = State.tidy r) := by
 obtain ⟨h1, h2⟩ := rising_same h.em h.ew
 refine ⟨h1, fun hr => ?_⟩
 rw [h.er, h2 hr]
 rfl
theorem tidy_loose (r : Rec) : looseB (tidy r) = looseB r := by
 have e : (attrsP r.attrs).all pairB = r.attrs.all pairB := by
  rw [Bool.eq_iff_iff, List.all_eq_true, List.all_eq_true]
  exact ⟨fun h x hx => h x ((mem_attrsP _ _).2 hx), fun h x hx => h x ((mem_attrsP _ _).1 hx)⟩
 show (rightA r.a && (decide (badZ r.prov.data.toList < 0) && (decide (badZ r.id.data.toList < 0) && (attrsP r.attrs).all pairB))) = looseB r
 rw [e]; rfl
def okK (M : List Kd) : Prop := Stc keyK M ∧ ∀ k ∈ M, risingB k.r.attrs = true
theorem sort_both {lin : ByteArray} {n : Nat} {l : List Rec} {K M : List Kd} (hlin : badZ lin.data.toList < 0) (hl : ∀ r ∈ l, looseB r = true) (hlen : K.length = l.length) (hK : ∀ i (h : i < l.length) (h' : i < K.length), Kept l[i] K[i]) (hp : M.Perm K) (hw : Wk keyK M) : (rightS ⟨n, lin, sortR l⟩ = true ↔ okK M) ∧ (okK M → M.map (·.r) = sortR l) := by
 have hkey : ∀ k ∈ K, keyK k = keyR k.r := fun k hk => by
  obtain ⟨i, hi, rfl⟩ := List.getElem_of_mem hk
  exact (hK i (by omega) hi).key
 have hkeyM : ∀ k ∈ M, keyK k = keyR k.r := fun k hk => hkey k (hp.mem_iff.1 hk)
 have hmapk : M.map keyK = (M.map (·.r)).map keyR := by
  rw [List.map_map]
  exact List.map_congr_left fun k hk => hkeyM k hk
 have hKk : K.map keyK = (l.map tidy).map keyR := by
  apply List.ext_getElem
  ·simp [hlen]
  ·intro i h1 h2
   have hi : i < K.length := by simpa using h1
   have hi' : i < l.length := by omega
   simp only [List.getElem_map]
   have := (hK i hi' hi)
   rw [this.key]
   unfold keyR
   rw [this.er]
   rfl
 have hwr : Wk keyR (M.map (·.r)) := by
  unfold Wk at hw ⊢
  rw [List.pairwise_map]
  refine List.Pairwise.imp_of_mem ?_ hw
  intro x y hx hy h
  rw [← hkeyM x hx, ← hkeyM y hy]; exact h
 have hstc : Stc keyK M ↔ Stc keyR (sortR l) := by
  rw [stc_iff hw, stc_iff (sortR_wk l)]
  have e1 : (M.map keyK).Perm ((sortR l).map keyR) := by
   refine (hp.map keyK).trans ?_
   rw [hKk]
   exact ((sortR_perm l).map keyR).symm
  exact e1.nodup_iff
 have hris : (∀ k ∈ M, risingB k.r.attrs = true) ↔ ∀ x ∈ sortR l, risingB x.attrs = true := by
  constructor
  ·intro h x hx
   obtain ⟨y, hy, rfl⟩ := (mem_sortR l x).1 hx
   obtain ⟨i, hi, rfl⟩ := List.getElem_of_mem hy
   have hi' : i < K.length := by omega
   rw [← (hK i hi hi').tidy.1]
   exact h _ (hp.mem_iff.2 (List.getElem_mem hi'))
  ·intro h k hk
   obtain ⟨i, hi, rfl⟩ := List.getElem_of_mem (hp.mem_iff.1 hk)
   have hi' : i < l.length := by omega
   rw [(hK i hi' hi).tidy.1]
   exact h _ ((mem_sortR l _).2 ⟨_, List.getElem_mem hi', rfl⟩)
 have hsor : ∀ L : List Rec, Sorted L ↔ Stc keyR L := fun L => sorted_iff L
 have hiff : rightS ⟨n, lin, sortR l⟩ = true ↔ okK M := by
  rw [rightS_iff]
  constructor
  ·rintro ⟨_, hR⟩
   refine ⟨hstc.2 ((hsor _).1 hR.sorted), hris.2 fun x hx => ?_⟩
   obtain ⟨i, hi, rfl⟩ := List.getElem_of_mem hx
   have := hR.r i hi
   unfold recB at this
   rw [Bool.and_eq_true] at this
   exact this.2
  ·rintro ⟨h1, h2⟩
   refine ⟨hlin, rows_of (fun x hx => ?_) ((hsor _).2 (hstc.1 h1))⟩
   obtain ⟨y, hy, rfl⟩ := (mem_sortR l x).1 hx
   unfold recB
   rw [tidy_loose, hl y hy, hris.1 h2 _ hx]
   rfl
 refine ⟨hiff, fun hok => ?_⟩
 have hKr : K.map (·.r) = l.map tidy := by
  apply List.ext_getElem
  ·simp [hlen]
  ·intro i h1 h2
   have hi : i < K.length := by simpa using h1
   have hi' : i < l.length := by omega
   simp only [List.getElem_map]
   exact (hK i hi' hi).tidy.2 (hok.2 _ (hp.mem_iff.2 (List.getElem_mem hi)))
 have hpr : (M.map (·.r)).Perm (sortR l) := by
  refine (hp.map (·.r)).trans ?_
  rw [hKr]
  exact (sortR_perm l).symm
 refine stc_ext hpr ((stc_iff hwr).2 ?_) (hstc.1 hok.1)
 rw [← hmapk]
 exact (stc_iff hw).1 hok.1
open Go.Proofs.YtehghladpnpcoaaGreatDoor.Stable
theorem info_size {P : Program} {T : TypeId} {z : Option Value} {n b : Nat} (h : (P.info? T).map (fun i => (i.zero, i.size, i.bytes)) = some (z, n, b)) : (P.info? T).map (·.size) = some n := by
 cases hq : P.info? T with
 | none => simp [hq] at h
 | some i => simp [hq] at h; simp [h.2.1]
theorem elemP : Elem Tryz.prog 72 2 pairC :=
 ⟨⟨_, Tryz.underlying72, rfl⟩, info_size infoPair, fun _ => rfl, fun x v hv => by
  simp only [pairC, List.mem_cons, List.not_mem_nil, or_false] at hv
  rcases hv with rfl | rfl <;> rfl⟩
def encK (k : Kd) : List Value := [.string k.s, .slice k.p.pa k.r.a.path.length k.p.pc, .string k.r.a.type, .string k.r.a.name, .int .i64 k.r.a.key, .int .u64 k.r.a.place, .string k.r.a.word, .string k.r.prov, .string k.r.id, .slice k.p.ta k.r.attrs.length k.p.tc]
theorem infoKd : (Tryz.prog.info? 78).map (fun i => (i.zero, i.size, i.bytes)) = some (some (.agg #[.string ⟨#[]⟩, .slice none 0 0, .string ⟨#[]⟩, .string ⟨#[]⟩, .int .i64 0, .int .u64 0, .string ⟨#[]⟩, .string ⟨#[]⟩, .string ⟨#[]⟩, .slice none 0 0]), 10, 160) := by kernel_rfl
theorem elemK : Elem Tryz.prog 78 10 encK :=
 ⟨⟨_, Tryz.underlying78, rfl⟩, info_size infoKd, fun _ => rfl, fun x v hv => by
  simp only [encK, List.mem_cons, List.not_mem_nil, or_false] at hv
  rcases hv with rfl | rfl | rfl | rfl | rfl | rfl | rfl | rfl | rfl | rfl <;> rfl⟩
theorem lt_key {α : Type} (key : α → ByteArray) (x y : α) : decide (Lib.compareBytes (key x).data.toList (key y).data.toList < 0) = Op.bytesLess (key x).data.toList (key y).data.toList := by
 rcases cmp_cases (key x).data.toList (key y).data.toList with ⟨h1, h2, _⟩ | ⟨h1, h2, _⟩ | ⟨h1, h2, _⟩ <;> rw [h1, h2] <;> rfl
theorem weak_key {α : Type} (lt : α → α → Bool) (key : α → ByteArray) (h : ∀ x y, lt x y = Op.bytesLess (key x).data.toList (key y).data.toList) : Weak lt := by
 refine ⟨fun x y h1 => ?_, fun x y z h1 h2 => ?_⟩
 ·rw [h] at h1 ⊢; exact less_asym h1
 ·rw [h] at h1 h2 ⊢; exact less_ge_trans h1 h2
def nameP (x : Pr) : ByteArray := x.1
def nameK (k : Kd) : ByteArray := k.s
theorem ltP_key (x y : Pr) : ltOf (keyCmpP nameP) x y = Op.bytesLess (keyP x) (keyP y) := lt_key nameP x y
theorem ltK_key (x y : Kd) : ltOf (keyCmpK nameK) x y = Op.bytesLess (keyK x) (keyK y) := lt_key nameK x y
theorem keyP_any : Hid (∀ (x : Pr) (W : World), Calls Tryz.prog 42 #[.agg (pairC x).toArray] W fun e w' => e = .returned (.string (nameP x)) ∧ Below W.heap.size W w') := fun x W => name_any x W
theorem keyK_any : Hid (∀ (x : Kd) (W : World), Calls Tryz.prog 46 #[.agg (encK x).toArray] W fun e w' => e = .returned (.string (nameK x)) ∧ Below W.heap.size W w') := fun x w => by
 obtain ⟨w1, hw1⟩ : ∃ q, w.alloc (.cells (encK x).toArray 78) = q := ⟨_, rfl⟩
 have V1 : Hid (w1.heap[w.heap.size]? = some (.cells (encK x).toArray 78 (0, 0))) := by rw [← hw1]; exact heap_alloc_new _ _
 have B1 : Hid (Below w.heap.size w w1) := by rw [← hw1]; exact (Below.refl _ _).alloc (Nat.le_refl _) _
 have c0 : w1.cell? ⟨w.heap.size, 0, none⟩ = some (.string x.s) := cell_of V1.out 0
 obtain ⟨ax, hax⟩ : ∃ v, (encK x).toArray = v := ⟨_, rfl⟩
 rw [hax] at hw1 ⊢
 clear hax
 go_enter Tryz.func46, Tryz.ntmps46
 go_wp2_with fail
 go_ret
 exact ⟨rfl, B1.out⟩
theorem range_list {α : Type} (l : List α) (z : α) : (List.range l.length).map (fun i => l.getD i z) = l := by
 apply List.ext_getElem
 ·simp
 ·intro i h1 h2; simp [List.getD_eq_getElem?_getD, List.getElem?_eq_getElem h2]
theorem wk_range {α : Type} {key : α → List UInt8} {lt : α → α → Bool} (h : ∀ x y, lt x y = Op.bytesLess (key x) (key y)) {n : Nat} {g : Nat → α} (hs : SortedOn lt 0 n g) : Wk key ((List.range n).map g) := by
 unfold Wk
 rw [List.pairwise_map, List.pairwise_iff_getElem]
 intro i j hi hj hij
 simp only [List.length_range] at hi hj
 simp only [List.getElem_range]
 rw [← h]
 exact hs i j (Nat.zero_le _) (by omega) hj
theorem sortPairs_any (l : List Pr) (ta : Option Addr) (tc kb B : Nat) (w : World) (h : IsPairs w (PartT 72 B w) ta l) (hnil : l = [] → ta = none ∧ tc = 0) (hl : l.length ≤ 3000) (hk : KeyAtP w kb) : Calls Tryz.prog 40 #[.slice ta l.length tc, .func (.func 71) #[] #[.pointer (some ⟨kb, 0, none⟩)]] w fun e w' => (∃ v, e = .returned v) ∧ ∃ g : List Pr, g.Perm l ∧ Wk keyP g ∧ IsPairs w' (PartT 72 B w') ta g ∧ ∃ r, w.grownBy w' r ∧ ∀ b, r = some b → PartT 72 B w b := by
 by_cases h0 : l = []
 ·obtain ⟨rfl, rfl⟩ := hnil h0
  subst h0
  refine (sortNilP _ w).mono ?_
  rintro e w' ⟨he, rfl⟩
  exact ⟨he, [], List.Perm.refl _, List.Pairwise.nil, .inl rfl, none, gb_refl _ _, fun b hb => by cases hb⟩
 ·obtain ⟨b, o, rfl, hA, hb, hc⟩ := h.resolve_left h0
  obtain ⟨hBb, cs, hcs⟩ := hA
  have hne : kb ≠ b := fun e => by
   subst e
   have : some (Obj.cells #[.func (.func 42) #[] #[]] 75 (0, 0)) = some (.cells cs 72 (0, 0)) := hk.symm.trans hcs
   injection this with this
   injection this with _ this _
   exact absurd this (by decide)
  have hA : ArrG 72 2 pairC w b o l.length (fun i => l.getD i (⟨#[]⟩, ⟨#[]⟩)) := ⟨⟨cs, hcs⟩, fun i hi j v hv => by
   have hc2 := hc i hi
   simp only [List.getD_eq_getElem?_getD, List.getElem?_eq_getElem hi, Option.getD_some, pairC] at hv
   match j, hv with
   | 0, hv => simp at hv; rw [← hv]; exact hc2.1
   | 1, hv => simp at hv; rw [← hv]; exact hc2.2⟩
  refine (sortStableP_any elemP (weak_key _ nameP ltP_key) b o l.length kb tc _ w hA (cmpAtP elemP nameP keyP_any kb b w hk hne) hl).mono ?_
  rintro e w' ⟨he, g, hA', hM, hS, hG⟩
  refine ⟨he, (List.range l.length).map g, ?_, wk_range ltP_key hS, .inr ⟨b, o, rfl, ⟨hBb, hA'.h⟩, hA'.lt, fun i hi => ?_⟩, some b, hG, fun b' e => by injection e with e; subst e; exact ⟨hBb, cs, hcs⟩⟩
  ·have := hM.perm
   rw [PermF, range_list] at this
   exact this
  ·have hi' : i < l.length := by simpa using hi
   have h1 := hA'.c i hi' 0 (.string (g i).1) rfl
   have h2 := hA'.c i hi' 1 (.string (g i).2) rfl
   simp only [List.getElem_map, List.getElem_range]
   exact ⟨h1, h2⟩
theorem wpList_make_run {P : Program} {w w' : World} {ops : Array Oper} {rest : List Oper} {o : Oper} {a : Act} {Q : Exit → Act → World → Prop} {v' : Value} (v1 v2 : Value) (t : TypeId) (hr : (Instr.makeSlice t v1 v2).run P w = .ok v' w') (hgd : o.guard = none) (l c : Operand)
  (hop : o.op = Op.makeSlice t l c) (hl : a.eval l = v1) (hc : a.eval c = v2) (h : wpList P ops Q rest (a.put o.dst v') w') : wpList P ops Q (o :: rest) a w := by
 refine wpList_plain hgd fun K hK => ?_
 unfold Oper.wp
 simp [execOp, hop, hl, hc, hr, Result.andThen]
 exact hK _ _ h
theorem make_keys (w : World) (n : Nat) (hn : n ≤ 3000) : ∃ w', (Instr.makeSlice 68 (.int .i64 (n : Int)) (.int .i64 (n : Int))).run Tryz.prog w = .ok (.slice (some ⟨w.heap.size, 0, none⟩) n n) w' ∧ Hid (∃ cs, w'.heap[w.heap.size]? = some (.cells cs 78 (0, 0)) ∧ n * 10 ≤ cs.size) ∧ Hid (Below w.heap.size w w') := by
 obtain ⟨i0, hi, hz0, hz1, hz2⟩ := info_parts infoKd
 obtain ⟨w', h1, h2, h3⟩ := run_make_full (P := Tryz.prog) w w.heap.size 68 78 i0 _ 10 Tryz.underlying68 hi hz0 hz1 .i64 .i64 n (by rw [hz2]; omega) (by unfold maxLen; omega) (Nat.le_refl _)
 refine ⟨w', h1, ?_, h3.os, h3.tape, h3.output, h3.size, fun k hk => h3.block k hk (by simp)⟩
 have hl := h2.1
 rcases h2.2 with ⟨hv, _⟩ | ⟨g, cap, cur, hv, _, hg, hc, hx⟩
 ·cases hv
 ·injection hv with hv
  injection hv with hv
  injection hv with hv
  subst hv
  refine ⟨cur, hg, ?_⟩
  have := hx.2.1
  omega
theorem kd_new (w : World) (k : Kd) : ∃ w1, w.alloc (.cells #[.string k.s, .slice k.p.pa k.r.a.path.length k.p.pc, .string k.r.a.type, .string k.r.a.name, .int .i64 k.r.a.key, .int .u64 k.r.a.place, .string k.r.a.word, .string k.r.prov, .string k.r.id, .slice k.p.ta k.r.attrs.length k.p.tc] 78) = w1 ∧ Hid (w1.heap[w.heap.size]? = some (.cells (encK k).toArray 78 (0, 0))) ∧ Hid (Below w.heap.size w w1) :=
 ⟨_, rfl, heap_alloc_new _ _, (Below.refl _ _).alloc (Nat.le_refl _) _⟩
theorem below_sorted {X : Nat} {w0 w w' : World} {r : Option Nat} {B : Nat} (h : Below X w0 w) (hX : X ≤ B) (hw : X ≤ w.heap.size) (hg : w.grownBy w' r) (hr : ∀ b, r = some b → PartT 72 B w b) : Below X w0 w' :=
 h.grown hg hw (fun x hx => Nat.le_trans hX (hr x hx).1)
theorem rec_sorted {w w' : World} {r : Option Nat} {B xb : Nat} {cs : Array Value} (V : w.heap[xb]? = some (.cells cs 38 (0, 0))) (hg : w.grownBy w' r) (hr : ∀ b, r = some b → PartT 72 B w b) : w'.heap[xb]? = some (.cells cs 38 (0, 0)) :=
 (hg.block xb (heap_lt V) (fun e => by
  obtain ⟨_, cs', e2⟩ := hr xb e.symm
  rw [V] at e2
  injection e2 with e2
  injection e2 with _ e2 _
  exact absurd e2 (by decide))).trans V
theorem texts_sorted {w w' : World} {r : Option Nat} {B B2 : Nat} {a : Option Addr} {l : List ByteArray} (h : IsTexts w (PartT 9 B w) a l) (hg : w.grownBy w' r) (hr : ∀ b, r = some b → PartT 72 B2 w b) : IsTexts w' (PartT 9 B w') a l :=
 h.turn (partT_turn hg.size (Nat.le_refl _) (fun b hb hl => hg.block b hl (fun e => by
  obtain ⟨_, cs, e1⟩ := hb
  obtain ⟨_, cs', e2⟩ := hr b e.symm
  rw [e1] at e2
  injection e2 with e2
  injection e2 with _ e2 _
  exact absurd e2 (by decide))))
structure KI (s : Sta) (w7 : World) (bk i : Nat) (f : Nat → Kd) (wr : World) : Prop where
 h : ∃ cs, wr.heap[bk]? = some (.cells cs 78 (0, 0)) ∧ s.recs.length * 10 ≤ cs.size
 c : ∀ j, j < i → wr.rangeAt bk (0 + j * 10) (encK (f j))
 k : ∀ j (h : j < s.recs.length), j < i → Kept s.recs[j] (f j) ∧ IsRec wr (fun b => bk < b) (f j).p (f j).r
 g : w7.grownBy wr (some bk)
theorem KI.init {s : Sta} {w7 : World} {bk : Nat} (h : ∃ cs, w7.heap[bk]? = some (.cells cs 78 (0, 0)) ∧ s.recs.length * 10 ≤ cs.size) (f : Nat → Kd) : KI s w7 bk 0 f w7 :=
 ⟨h, fun j hj => by omega, fun j _ hj => by omega, gb_refl _ _⟩
theorem KI.there {s : Sta} {w7 wr w13 : World} {bk i : Nat} {f : Nat → Kd} (h : KI s w7 bk i f wr) (hi : i < s.recs.length) (hb : Below wr.heap.size wr w13) : w13.there bk (i * 10) 10 := fun j hj => by
 obtain ⟨cs, h1, h2⟩ := h.h
 have h3 := (hb.block _ (heap_lt h1)).trans h1
 refine ⟨?_, frozen_of h3 _⟩
 rw [cell_of h3]
 have : i * 10 + j < cs.size := by omega
 rw [Array.getElem?_eq_getElem this]; rfl
theorem KI.store {s : Sta} {w7 wr w13 : World} {bk i : Nat} {f : Nat → Kd} (h : KI s w7 bk i f wr) (hi : i < s.recs.length) (hb : Below wr.heap.size wr w13) (kd : Kd) :
  (Instr.storeAt 78 (.pointer (some ⟨bk, i * 10, none⟩)) (.agg (encK kd).toArray)).run Tryz.prog w13 = .ok () (w13.setCells bk (i * 10) (encK kd)) := store_mid elemK kd (h.there hi hb)
theorem KI.next {s : Sta} {w7 wr w13 : World} {bk i : Nat} {f : Nat → Kd} (h : KI s w7 bk i f wr) (hi : i < s.recs.length) (hb : Below wr.heap.size wr w13) (kd : Kd) (hk : Kept s.recs[i] kd) (hI : IsRec w13 (fun b => bk < b) kd.p kd.r) : KI s w7 bk (i + 1) (fun j => if j = i then kd else f j) (w13.setCells bk (i * 10) (encK kd)) := by
 obtain ⟨cs, h1, h2⟩ := h.h
 have h3 := (hb.block _ (heap_lt h1)).trans h1
 have hg := gb_many bk (encK kd) w13 (i * 10)
 have hth := h.there hi hb
 refine ⟨?_, fun j hj => ?_, fun j hj hji => ?_, (h.g.trans (gb_below hb _)).trans hg⟩
 ·obtain ⟨c', h4⟩ := heap_many (encK kd) w13 cs (i * 10) h3
  refine ⟨c', h4, ?_⟩
  rcases Nat.lt_or_ge (s.recs.length * 10) (c'.size + 1) with h5 | h5
  ·omega
  ·exfalso
   have h6 : ((w13.setCells bk (i * 10) (encK kd)).cell? ⟨bk, s.recs.length * 10 - 1, none⟩).isSome = true := by
    refine World.isSome_setCells bk (encK kd) (i * 10) w13 _ ?_
    rw [cell_of h3, Array.getElem?_eq_getElem (by omega)]; rfl
   rw [cell_of h4, Array.getElem?_eq_none (by omega)] at h6
   cases h6
 ·by_cases e : j = i
  ·subst e
   simp only [if_true, Nat.zero_add]
   exact World.rangeAt_setCells_same _ _ _ _ hth
  ·simp only [if_neg e]
   have hr : w13.rangeAt bk (0 + j * 10) (encK (f j)) := fun m v hv => by
    have := h.c j (by omega) m v hv
    rw [cell_blk (hb.block _ (heap_lt h1))]; exact this
   refine World.rangeAt_setCells_apart hr _ _ _ (.inr ?_)
   have := apart 10 0 j i e
   have l1 : (encK (f j)).length = 10 := rfl
   have l2 : (encK kd).length = 10 := rfl
   omega
 ·have turn : ∀ {p r}, IsRec w13 (fun b => bk < b) p r → IsRec (w13.setCells bk (i * 10) (encK kd)) (fun b => bk < b) p r := fun h => h.turn ⟨hg.size, fun b hb hl => ⟨hg.block b hl (fun e => by injection e with e; have h2 : bk < b := hb; omega), hb⟩⟩
  by_cases e : j = i
  ·subst e
   simp only [if_true]
   exact ⟨hk, turn hI⟩
  ·simp only [if_neg e]
   obtain ⟨k1, k2⟩ := h.k j hj (by omega)
   exact ⟨k1, turn (k2.turn ⟨hb.size, fun b hA hl => ⟨hb.block b hl, hA⟩⟩)⟩
theorem KI.arr {s : Sta} {w7 wr : World} {bk : Nat} {f : Nat → Kd} (h : KI s w7 bk s.recs.length f wr) : ArrG 78 10 encK wr bk 0 s.recs.length f := ⟨by obtain ⟨cs, h1, _⟩ := h.h; exact ⟨cs, h1⟩, fun i hi => h.c i hi⟩
theorem stc_adj {n : Nat} {g : Nat → Kd} (hs : SortedOn (ltOf (keyCmpK nameK)) 0 n g) (ha : ∀ j, j + 1 < n → (g j).s ≠ (g (j + 1)).s) : Stc keyK ((List.range n).map g) := by
 have hadj : ∀ j, j + 1 < n → Op.bytesLess (keyK (g j)) (keyK (g (j + 1))) = true := fun j hj => by
  have h1 := hs j (j + 1) (Nat.zero_le _) (by omega) hj
  rw [ltK_key] at h1
  have := less_swap (keyK (g (j + 1))) (keyK (g j))
  rw [h1] at this
  rw [this]
  simp only [Bool.false_or, Bool.not_eq_true', bnQ]
  intro e
  apply ha j hj
  unfold keyK at e
  have e2 := Array.ext' e.symm
  calc (g j).s = ⟨(g j).s.data⟩ := rfl
   _ = ⟨(g (j + 1)).s.data⟩ := by rw [e2]
 have key : ∀ d i, i + d + 1 < n → Op.bytesLess (keyK (g i)) (keyK (g (i + d + 1))) = true := by
  intro d
  induction d with
  | zero => intro i hi; exact hadj i hi
  | succ d ih => intro i hi; exact less_trans (ih i (by omega)) (hadj (i + d + 1) hi)
 unfold Stc
 rw [List.pairwise_map, List.pairwise_iff_getElem]
 intro i j hi hj hij
 simp only [List.length_range] at hi hj
 simp only [List.getElem_range]
 obtain ⟨d, rfl⟩ : ∃ d, j = i + d + 1 := ⟨j - i - 1, by omega⟩
 exact key d i hj
def OkTo (g : Nat → Kd) (i : Nat) : Prop := ∀ j, j < i → risingB (g j).r.attrs = true ∧ (0 < j → (g (j - 1)).s ≠ (g j).s)
theorem ok_all {n : Nat} {g : Nat → Kd} (hs : SortedOn (ltOf (keyCmpK nameK)) 0 n g) (h : OkTo g n) : okK ((List.range n).map g) :=
 ⟨stc_adj hs (fun j hj => by have := (h (j + 1) hj).2 (by omega); simpa using this), fun k hk => by
  obtain ⟨j, hj, rfl⟩ := List.mem_map.1 hk
  exact (h j (by simpa using hj)).1⟩
theorem not_ok {n i : Nat} {g : Nat → Kd} (hi : i < n) (h : risingB (g i).r.attrs = false ∨ (0 < i ∧ (g (i - 1)).s = (g i).s)) : ¬ okK ((List.range n).map g) := fun ⟨h1, h2⟩ => by
 rcases h with h | ⟨h0, h⟩
 ·have := h2 (g i) (List.mem_map.2 ⟨i, by simpa using hi, rfl⟩)
  rw [h] at this; cases this
 ·unfold Stc at h1
  rw [List.pairwise_map, List.pairwise_iff_getElem] at h1
  have := h1 (i - 1) i (by simp; omega) (by simpa using hi) (by omega)
  simp only [List.getElem_range] at this
  unfold keyK at this
  rw [h, less_irrefl] at this
  cases this
theorem sorted_tells {s : Sta} {w7 wr : World} {bk : Nat} {f g : Nat → Kd} (hlin : badZ s.lin.data.toList < 0) (hl : ∀ r ∈ s.recs, looseB r = true) (h : KI s w7 bk s.recs.length f wr) (hM : Mix s.recs.length 0 s.recs.length f g) (hs : SortedOn (ltOf (keyCmpK nameK)) 0 s.recs.length g) : (okK ((List.range s.recs.length).map g) → sortS s = (⟨s.serial, s.lin, (List.range s.recs.length).map fun j => (g j).r⟩, 0)) ∧ (¬ okK ((List.range s.recs.length).map g) → sortS s = (Sta.zero, 6)) := by
 obtain ⟨h1, h2⟩ := sort_both (n := s.serial) (K := (List.range s.recs.length).map f) (M := (List.range s.recs.length).map g) hlin hl (by simp) (fun i hi hi' => by simp only [List.getElem_map, List.getElem_range]; exact (h.k i hi hi).1) hM.perm (wk_range ltK_key hs)
 have e1 : (decide (badZ s.lin.data.toList < 0) && s.recs.all looseB) = true := by
  rw [Bool.and_eq_true, dtQ, List.all_eq_true]
  exact ⟨hlin, hl⟩
 unfold sortS
 rw [if_pos e1]
 refine ⟨fun hok => ?_, fun hno => ?_⟩
 ·rw [if_pos (h1.2 hok), ← h2 hok, List.map_map]; rfl
 ·rw [if_neg (fun h => hno (h1.1 h))]
end Go.Proofs.YtehghladpnpcoaaGreatDoor.State
