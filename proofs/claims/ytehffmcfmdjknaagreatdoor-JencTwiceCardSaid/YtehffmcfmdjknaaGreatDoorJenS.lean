/- Values with their keys in order, in plain Lean. -/
import Derived.Test.YtehffmcfmdjknaaGreatDoorJenD
import Derived.Lib.Bytealg
namespace Go.Proofs.YtehffmcfmdjknaaGreatDoor.Jdec
set_option linter.unusedVariables false
set_option linter.unusedSimpArgs false

theorem cmpB_self : ∀ a : List UInt8, Lib.compareBytes a a = 0
  | [] => rfl
  | x :: a => by rw [Lib.compareBytes, if_neg (UInt8.lt_irrefl x), if_neg (UInt8.lt_irrefl x)]; exact cmpB_self a
theorem cmpB_eq : ∀ a b : List UInt8, Lib.compareBytes a b = 0 → a = b
  | [], [], _ => rfl
  | [], _ :: _, h => by cases h
  | _ :: _, [], h => by cases h
  | x :: a, y :: b, h => by
    rw [Lib.compareBytes] at h
    split at h
    · cases h
    · split at h
      · cases h
      · rename_i h1 h2
        have : x = y := UInt8.le_antisymm (UInt8.not_lt.1 h2) (UInt8.not_lt.1 h1)
        rw [this, cmpB_eq a b h]
theorem cmpB_swap : ∀ a b : List UInt8, Lib.compareBytes b a = - Lib.compareBytes a b
  | [], [] => rfl
  | [], _ :: _ => rfl
  | _ :: _, [] => rfl
  | x :: a, y :: b => by
    rw [Lib.compareBytes, Lib.compareBytes]
    by_cases h1 : x < y
    · rw [if_neg (fun h => UInt8.lt_irrefl _ (UInt8.lt_trans h h1)), if_pos h1, if_pos h1]; rfl
    · by_cases h2 : y < x
      · rw [if_pos h2, if_neg h1, if_pos h2]
      · rw [if_neg h2, if_neg h1, if_neg h1, if_neg h2]; exact cmpB_swap a b
theorem cmpB_trans : ∀ a b c : List UInt8, Lib.compareBytes a b ≤ 0 → Lib.compareBytes b c ≤ 0 → Lib.compareBytes a c ≤ 0
  | [], _, [], _, _ => by simp [Lib.compareBytes]
  | [], _, _ :: _, _, _ => by simp [Lib.compareBytes]
  | _ :: _, [], _, h, _ => by simp [Lib.compareBytes] at h
  | _ :: _, _ :: _, [], _, h => by simp [Lib.compareBytes] at h
  | x :: a, y :: b, z :: c, h1, h2 => by
    rw [Lib.compareBytes] at h1 h2 ⊢
    by_cases e1 : x < z
    · rw [if_pos e1]; decide
    · rw [if_neg e1]
      by_cases p1 : x < y
      · by_cases p2 : z < y
        · rw [if_neg (fun h => UInt8.lt_irrefl _ (UInt8.lt_trans h p2)), if_pos p2] at h2; cases h2
        · have : x < z := UInt8.lt_of_lt_of_le p1 (UInt8.not_lt.1 p2)
          exact absurd this e1
      · rw [if_neg p1] at h1
        by_cases p2 : y < x
        · rw [if_pos p2] at h1; cases h1
        · rw [if_neg p2] at h1
          have exy : x = y := UInt8.le_antisymm (UInt8.not_lt.1 p2) (UInt8.not_lt.1 p1)
          subst exy
          rw [if_neg e1] at h2
          by_cases p3 : z < x
          · rw [if_pos p3] at h2; cases h2
          · rw [if_neg p3] at h2 ⊢
            exact cmpB_trans a b c h1 h2
/-- Does one text come ahead of another? -/
def blt (a b : ByteArray) : Bool := decide (Lib.compareBytes a.data.toList b.data.toList < 0)
theorem blt_irrefl (a : ByteArray) : blt a a = false := by simp [blt, cmpB_self]
theorem blt_no {a b : ByteArray} (h : blt b a = false) : Lib.compareBytes a.data.toList b.data.toList ≤ 0 := by
  rw [blt, decide_eq_false_iff_not, cmpB_swap] at h; omega
theorem blt_of {a b : ByteArray} (h : Lib.compareBytes a.data.toList b.data.toList ≤ 0) : blt b a = false := by
  rw [blt, decide_eq_false_iff_not, cmpB_swap]; omega
theorem blt_ntrans {a b c : ByteArray} (h1 : blt a b = false) (h2 : blt b c = false) : blt a c = false := blt_of (cmpB_trans _ _ _ (blt_no h2) (blt_no h1))
theorem blt_antisymm {a b : ByteArray} (h1 : blt a b = false) (h2 : blt b a = false) : a = b := by
  have e1 := blt_no h1
  have e2 := blt_no h2
  rw [cmpB_swap] at e1
  have := cmpB_eq a.data.toList b.data.toList (by omega)
  cases a; cases b
  simp only at this
  rw [Array.toList_inj.1 this]
theorem blt_asymm {a b : ByteArray} (h : blt a b = true) : blt b a = false := by
  rw [blt, decide_eq_true_eq] at h
  exact blt_of (by omega)
theorem blt_trans {a b c : ByteArray} (h1 : blt a b = true) (h2 : blt b c = true) : blt a c = true := by
  cases h : blt a c with
  | true => rfl
  | false =>
    have h3 := blt_ntrans h (blt_asymm h2)
    rw [h1] at h3; cases h3

/-- A key and its value. -/
abbrev Fld := ByteArray × JV
def fle (x y : Fld) : Bool := !blt y.1 x.1
mutual
/-- A value, all keys rising. -/
def JV.sort : JV → JV
  | .mk k i n d e s ks vs => if k = 6 then .mk k i n d e s (((ks.zip (sorts vs)).mergeSort fle).map (·.1)) (((ks.zip (sorts vs)).mergeSort fle).map (·.2))
    else .mk k i n d e s ks (sorts vs)
def sorts : List JV → List JV
  | [] => []
  | v :: t => v.sort :: sorts t
end
theorem sorts_map (vs : List JV) : sorts vs = vs.map JV.sort := by
  induction vs with
  | nil => rw [sorts]; rfl
  | cons v t ih => rw [sorts, ih]; rfl
theorem sort_other (k : Int) (i n : Bool) (d : ByteArray) (e : Int) (s : ByteArray) (ks : List ByteArray) (vs : List JV) (h : k ≠ 6) : (JV.mk k i n d e s ks vs).sort = .mk k i n d e s ks (vs.map JV.sort) := by rw [JV.sort, if_neg h, sorts_map]
/-- The fields of an object, its values sorted, in order. -/
def flds (ks : List ByteArray) (vs : List JV) : List Fld := (ks.zip vs).mergeSort fle
theorem sort_six (i n : Bool) (d : ByteArray) (e : Int) (s : ByteArray) (ks : List ByteArray) (vs : List JV) : (JV.mk 6 i n d e s ks vs).sort = .mk 6 i n d e s ((flds ks (vs.map JV.sort)).map (·.1)) ((flds ks (vs.map JV.sort)).map (·.2)) := by rw [JV.sort, if_pos rfl, sorts_map]; rfl
theorem fle_total (x y : Fld) : (fle x y || fle y x) = true := by
  unfold fle
  cases h : blt y.1 x.1 with
  | false => rfl
  | true => rw [blt_asymm h]; rfl
theorem fle_trans (x y z : Fld) (h1 : fle x y = true) (h2 : fle y z = true) : fle x z = true := by
  unfold fle at *
  rw [Bool.not_eq_true'] at *
  exact blt_ntrans h2 h1
theorem flds_perm (ks : List ByteArray) (vs : List JV) : (flds ks vs).Perm (ks.zip vs) := List.mergeSort_perm _ _
theorem flds_sorted (ks : List ByteArray) (vs : List JV) : (flds ks vs).Pairwise (fun x y => fle x y = true) := List.pairwise_mergeSort fle_trans fle_total _
/-- Lists in order whose keys are apart are one, if they hold the same. -/
theorem sorted_one : ∀ (a b : List Fld), a.Perm b → (a.map (·.1)).Nodup → a.Pairwise (fun x y => fle x y = true) → b.Pairwise (fun x y => fle x y = true) → a = b
  | [], b, h, _, _, _ => (List.Perm.eq_nil h.symm).symm
  | x :: a, [], h, _, _, _ => absurd h.length_eq (by simp)
  | x :: a, y :: b, h, hn, ha, hb => by
    have hxy : x = y := by
      have hx : x ∈ y :: b := h.subset (List.mem_cons_self ..)
      have hy : y ∈ x :: a := h.symm.subset (List.mem_cons_self ..)
      rcases List.mem_cons.1 hx with e | hx
      · exact e
      · rcases List.mem_cons.1 hy with e | hy
        · exact e.symm
        · have h1 := List.rel_of_pairwise_cons ha hy
          have h2 := List.rel_of_pairwise_cons hb hx
          unfold fle at h1 h2
          rw [Bool.not_eq_true'] at h1 h2
          have e := blt_antisymm h2 h1
          rw [List.map_cons, List.nodup_cons] at hn
          exact absurd (e ▸ List.mem_map_of_mem hy) hn.1
    subst hxy
    rw [List.map_cons, List.nodup_cons] at hn
    rw [sorted_one a b ((List.perm_cons x).1 h) hn.2 (List.Pairwise.of_cons ha) (List.Pairwise.of_cons hb)]
theorem zip_fst {ks : List ByteArray} {vs : List JV} (h : ks.length = vs.length) : (ks.zip vs).map (·.1) = ks := List.map_fst_zip (by omega)
theorem zip_snd {ks : List ByteArray} {vs : List JV} (h : ks.length = vs.length) : (ks.zip vs).map (·.2) = vs := List.map_snd_zip (by omega)
theorem flds_keys {ks : List ByteArray} {vs : List JV} (h : ks.length = vs.length) : ((flds ks vs).map (·.1)).Perm ks := by
  have := (flds_perm ks vs).map (·.1)
  rwa [zip_fst h] at this
theorem flds_vals {ks : List ByteArray} {vs : List JV} (h : ks.length = vs.length) : ((flds ks vs).map (·.2)).Perm vs := by
  have := (flds_perm ks vs).map (·.2)
  rwa [zip_snd h] at this
/-- What holds the same fields, in order, is them. -/
theorem flds_one {ks : List ByteArray} {vs : List JV} (h : ks.length = vs.length) (hn : ks.Nodup) (l : List Fld) (hp : l.Perm (ks.zip vs)) (hs : l.Pairwise (fun x y => fle x y = true)) : l = flds ks vs := by
  refine sorted_one l _ (hp.trans (flds_perm ks vs).symm) ?_ hs (flds_sorted ks vs)
  have := hp.map (·.1)
  rw [zip_fst h] at this
  exact this.symm.nodup hn
/-- Of fields in another order the sorted ones are the same. -/
theorem flds_turn {ks ks' : List ByteArray} {vs vs' : List JV} (h : ks.length = vs.length) (h' : ks'.length = vs'.length) (hn : ks.Nodup) (hp : (ks'.zip vs').Perm (ks.zip vs)) : flds ks' vs' = flds ks vs :=
  flds_one h hn _ ((flds_perm ks' vs').trans hp) (flds_sorted _ _)
theorem sort_turn {ks ks' : List ByteArray} {vs vs' : List JV} (i n : Bool) (d : ByteArray) (e : Int) (s : ByteArray) (h : ks.length = vs.length) (h' : ks'.length = vs'.length) (hn : ks.Nodup) (hp : (ks'.zip vs').Perm (ks.zip vs)) : (JV.mk 6 i n d e s ks' vs').sort = (JV.mk 6 i n d e s ks vs).sort := by
  have := flds_turn (vs := vs.map JV.sort) (vs' := vs'.map JV.sort) (by simpa using h) (by simpa using h') hn (by rw [List.zip_map_right, List.zip_map_right]; exact hp.map _)
  rw [sort_six, sort_six, this]

/-! What sorting keeps. -/
theorem masses_sum (vs : List JV) : masses vs = (vs.map JV.mass).sum := by
  induction vs with
  | nil => rw [masses_nil]; rfl
  | cons v t ih => rw [masses_cons, ih]; rfl
theorem masses_perm {a b : List JV} (h : a.Perm b) : masses a = masses b := by rw [masses_sum, masses_sum]; exact (h.map _).sum_nat
theorem deepNs_le (vs : List JV) (d : Nat) : deepNs vs ≤ d ↔ ∀ v ∈ vs, v.deepN ≤ d := by
  induction vs with
  | nil => rw [deepNs_nil]; simp
  | cons v t ih => rw [deepNs_cons, Nat.max_le, ih]; simp
theorem deepNs_perm {a b : List JV} (h : a.Perm b) : deepNs a = deepNs b :=
  Nat.le_antisymm ((deepNs_le a _).2 fun v hv => (deepNs_le b _).1 (Nat.le_refl _) v (h.subset hv)) ((deepNs_le b _).2 fun v hv => (deepNs_le a _).1 (Nat.le_refl _) v (h.symm.subset hv))
theorem goodq_mem {vs : List JV} : (∀ j (h : j < vs.length), GoodQ vs[j]) ↔ ∀ v ∈ vs, GoodQ v :=
  ⟨fun h v hv => by obtain ⟨j, hj, rfl⟩ := List.getElem_of_mem hv; exact h j hj, fun h j hj => h _ (List.getElem_mem hj)⟩
theorem fine_mem {vs : List JV} : (∀ j (h : j < vs.length), Fine vs[j]) ↔ ∀ v ∈ vs, Fine v :=
  ⟨fun h v hv => by obtain ⟨j, hj, rfl⟩ := List.getElem_of_mem hv; exact h j hj, fun h j hj => h _ (List.getElem_mem hj)⟩
theorem masses_map {vs : List JV} {f : JV → JV} (h : ∀ v ∈ vs, (f v).mass = v.mass) : masses (vs.map f) = masses vs := by
  rw [masses_sum, masses_sum, List.map_map]
  congr 1
  exact List.map_congr_left h
theorem deepNs_map {vs : List JV} {f : JV → JV} (h : ∀ v ∈ vs, (f v).deepN = v.deepN) : deepNs (vs.map f) = deepNs vs := by
  refine Nat.le_antisymm ((deepNs_le _ _).2 fun v hv => ?_) ((deepNs_le _ _).2 fun v hv => ?_)
  · obtain ⟨u, hu, rfl⟩ := List.mem_map.1 hv
    rw [h u hu]; exact (deepNs_le vs _).1 (Nat.le_refl _) u hu
  · rw [← h v hv]; exact (deepNs_le _ _).1 (Nat.le_refl _) _ (List.mem_map_of_mem hv)
theorem sort_keeps (t : JV) (hg : GoodQ t) : GoodQ t.sort ∧ t.sort.mass = t.mass ∧ t.sort.deepN = t.deepN ∧ (Fine t → Fine t.sort) := by
  induction hg with
  | mk k i n d e s ks vs O hk ih =>
    have hg' : ∀ v ∈ vs.map JV.sort, GoodQ v := fun v hv => by
      obtain ⟨u, hu, rfl⟩ := List.mem_map.1 hv
      obtain ⟨j, hj, rfl⟩ := List.getElem_of_mem hu
      exact (ih j hj).1
    have hm : masses (vs.map JV.sort) = masses vs := masses_map fun u hu => by
      obtain ⟨j, hj, rfl⟩ := List.getElem_of_mem hu
      exact (ih j hj).2.1
    have hd : deepNs (vs.map JV.sort) = deepNs vs := deepNs_map fun u hu => by
      obtain ⟨j, hj, rfl⟩ := List.getElem_of_mem hu
      exact (ih j hj).2.2.1
    have hf' : (∀ v ∈ vs, Fine v) → ∀ v ∈ vs.map JV.sort, Fine v := fun hf v hv => by
      obtain ⟨u, hu, rfl⟩ := List.mem_map.1 hv
      have hfu := hf u hu
      obtain ⟨j, hj, rfl⟩ := List.getElem_of_mem hu
      exact (ih j hj).2.2.2 hfu
    by_cases h6 : k = 6
    · subst h6
      have hl : ks.length = (vs.map JV.sort).length := by rw [List.length_map]; exact O.both rfl
      have pk := flds_keys hl
      have pv := flds_vals hl
      rw [sort_six]
      refine ⟨.mk _ _ _ _ _ _ _ _ ?_ (goodq_mem.2 fun v hv => hg' v (pv.subset hv)), ?_, ?_, fun hf => ?_⟩
      · obtain ⟨k1, k6, hi, hnum, htx, hkids, hnk, hr, hv, hb, hw, hap⟩ := O
        refine ⟨k1, k6, hi, hnum, htx, fun h => by omega, fun h => absurd rfl h, hr, hv, fun _ => by simp, fun x hx => hw x (pk.subset hx), pk.symm.nodup hap⟩
      · rw [mass_mk, mass_mk, masses_perm pv, hm, pk.length_eq]
      · rw [deepN_mk, deepN_mk, deepNs_perm pv, hd]
      · cases hf with
        | mk _ _ _ _ _ _ _ _ f1 f2 f3 f4 => exact .mk _ _ _ _ _ _ _ _ f1 f2 (fun x hx => f3 x (pk.subset hx)) (fine_mem.2 fun v hv => hf' (fine_mem.1 f4) v (pv.subset hv))
    · rw [sort_other _ _ _ _ _ _ _ _ h6]
      refine ⟨.mk _ _ _ _ _ _ _ _ (by rw [List.length_map]; exact O) (goodq_mem.2 hg'), by rw [mass_mk, mass_mk, hm], by rw [deepN_mk, deepN_mk, hd], fun hf => ?_⟩
      cases hf with
      | mk _ _ _ _ _ _ _ _ f1 f2 f3 f4 => exact .mk _ _ _ _ _ _ _ _ f1 f2 f3 (fine_mem.2 (hf' (fine_mem.1 f4)))
end Go.Proofs.YtehffmcfmdjknaaGreatDoor.Jdec
