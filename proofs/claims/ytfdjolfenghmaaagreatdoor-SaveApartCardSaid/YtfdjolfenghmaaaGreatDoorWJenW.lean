/- A value's print, in plain Lean. -/
import Derived.Test.YtfdjolfenghmaaaGreatDoorWJenG
import Derived.Test.YtfdjolfenghmaaaGreatDoorWJenN
set_option linter.unusedVariables false
set_option linter.unusedSimpArgs false
namespace Go.Proofs.YtfdjolfenghmaaaGreatDoor.Jdec
def lineP (wd : Bool) (dp : Nat) : List UInt8 := if wd then 10 :: List.replicate (2 * dp) 32 else []
def colonP (wd : Bool) : List UInt8 := if wd then [58, 32] else [58]
def firstP (obj : Bool) : List UInt8 := if obj then [123] else [91]
def lastP (obj : Bool) : List UInt8 := if obj then [125] else [93]
def keyP (wd obj : Bool) (ks : List ByteArray) (i : Nat) : List UInt8 := if obj then Quote.qprint (ks.getD i ⟨#[]⟩).data.toList ++ colonP wd else []
mutual
def JV.print (wd : Bool) (dp : Nat) : JV -> List UInt8
  | .mk k i n d e s ks vs =>
    if k = 1 then [110, 117, 108, 108]
    else if k = 2 then (if i then [116, 114, 117, 101] else [102, 97, 108, 115, 101])
    else if k = 3 then nprint n d.data.toList e
    else if k = 4 then Quote.qprint s.data.toList
    else if vs.length = 0 then firstP (decide (k = 6)) ++ lastP (decide (k = 6))
    else kidsP wd dp (decide (k = 6)) ks 0 vs ++ lineP wd dp ++ lastP (decide (k = 6))
def kidsP (wd : Bool) (dp : Nat) (obj : Bool) (ks : List ByteArray) (i : Nat) : List JV -> List UInt8
  | [] => []
  | v :: t => (if i = 0 then firstP obj else [44]) ++ lineP wd (dp + 1) ++ keyP wd obj ks i ++ v.print wd (dp + 1) ++ kidsP wd dp obj ks (i + 1) t
end
theorem kidsP_nil (wd : Bool) (dp : Nat) (obj : Bool) (ks : List ByteArray) (i : Nat) : kidsP wd dp obj ks i [] = [] := by rw [kidsP]
theorem kidsP_cons (wd : Bool) (dp : Nat) (obj : Bool) (ks : List ByteArray) (i : Nat) (v : JV) (t : List JV) : kidsP wd dp obj ks i (v :: t) = (if i = 0 then firstP obj else [44]) ++ lineP wd (dp + 1) ++ keyP wd obj ks i ++ v.print wd (dp + 1) ++ kidsP wd dp obj ks (i + 1) t := by rw [kidsP]
theorem print_mk (wd : Bool) (dp : Nat) (k : Int) (i n : Bool) (d : ByteArray) (e : Int) (s : ByteArray) (ks : List ByteArray) (vs : List JV) : (JV.mk k i n d e s ks vs).print wd dp =
    if k = 1 then [110, 117, 108, 108]
    else if k = 2 then (if i then [116, 114, 117, 101] else [102, 97, 108, 115, 101])
    else if k = 3 then nprint n d.data.toList e
    else if k = 4 then Quote.qprint s.data.toList
    else if vs.length = 0 then firstP (decide (k = 6)) ++ lastP (decide (k = 6))
    else kidsP wd dp (decide (k = 6)) ks 0 vs ++ lineP wd dp ++ lastP (decide (k = 6)) := by rw [JV.print]
theorem firstP_len (b : Bool) : (firstP b).length = 1 := by cases b <;> rfl
theorem lastP_len (b : Bool) : (lastP b).length = 1 := by cases b <;> rfl
theorem lineP_len (wd : Bool) (dp : Nat) : (lineP wd dp).length <= 2 * dp + 1 := by unfold lineP; split <;> simp
theorem colonP_len (wd : Bool) : (colonP wd).length <= 2 := by unfold colonP; split <;> simp
theorem qprint_len (l : List UInt8) : (Quote.qprint l).length <= 6 * l.length + 2 := by
  have := Quote.qps_len l;unfold Quote.qprint;rw [List.length_append, List.length_cons, List.length_singleton];omega
theorem keyP_len (wd obj : Bool) (ks : List ByteArray) (h : ∀ x ∈ ks, x.size <= 6000) (i : Nat) : (keyP wd obj ks i).length <= 36004 := by
  unfold keyP;split
  · have h1 := qprint_len (ks.getD i ⟨#[]⟩).data.toList;have h2 := colonP_len wd;have h3 : (ks.getD i ⟨#[]⟩).data.toList.length <= 6000 := by
      rw [List.getD_eq_getElem?_getD]
      cases hi : ks[i]? with
      | none => simp
      | some x => have := h x (List.mem_of_getElem? hi); simpa using this
    rw [List.length_append];omega
  · simp
theorem kidsP_len (wd : Bool) (dp : Nat) (hdp : dp <= 200) (obj : Bool) (ks : List ByteArray) (h : ∀ x ∈ ks, x.size <= 6000) : ∀ (vs : List JV) (i : Nat), (∀ v ∈ vs, (v.print wd (dp + 1)).length + 36500 <= v.mass * 80000) -> (kidsP wd dp obj ks i vs).length <= masses vs * 80000
  | [], i, _ => by rw [kidsP_nil]; simp
  | v :: t, i, hv => by
    have ih := kidsP_len wd dp hdp obj ks h t (i + 1) (fun u hu => hv u (List.mem_cons_of_mem _ hu));have h1 := hv v (List.mem_cons_self ..);have h2 := keyP_len wd obj ks h i;have h3 := lineP_len wd (dp + 1);have h4 : (if i = 0 then firstP obj else [44]).length = 1 := by split; exact firstP_len obj; rfl
    rw [kidsP_cons, masses_cons];simp only [List.length_append, h4]
    omega
theorem print_len (t : JV) (hg : GoodQ t) (wd : Bool) : Fine t -> ∀ dp, dp + t.deepN <= 200 -> (t.print wd dp).length + 36500 <= t.mass * 80000 := by
  induction hg with
  | mk k i n d e s ks vs O hk ih =>
    intro hf dp hdp
    have hb := right_bounds O.right;have hn := nprint_len n d.data.toList e hb.2.1 hb.2.2.1;have hq := qprint_len s.data.toList;have hl := lineP_len wd dp;rw [mass_mk];rw [deepN_mk] at hdp
    cases hf with
    | mk _ _ _ _ _ _ _ _ f1 f2 f3 f4 =>
      have hs : s.data.toList.length = s.size := by simp
      rw [print_mk];split
      · simp only [List.length_cons, List.length_nil]; omega
      · split
        · split <;> (simp only [List.length_cons, List.length_nil]; omega)
        · split
          · omega
          · split
            · omega
            · split
              · rw [List.length_append, firstP_len, lastP_len]; omega
              · rename_i h1 h2 h3 h4 h5
                have hk56 : k = 5 ∨ k = 6 := by have := O.k1; have := O.k6; omega
                rw [if_pos hk56] at hdp;have := kidsP_len wd dp (by omega) (decide (k = 6)) ks f3 vs 0 (fun v hv => by
                  obtain ⟨j, hj, rfl⟩ := List.getElem_of_mem hv;have hd := (deepNs_le vs (deepNs vs)).1 (Nat.le_refl _) _ (List.getElem_mem hj);exact ih j hj (f4 j hj) (dp + 1) (by omega))
                rw [List.length_append, List.length_append, lastP_len];omega
end Go.Proofs.YtfdjolfenghmaaaGreatDoor.Jdec
