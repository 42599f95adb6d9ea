/- lex.Same, Plain, Remarks, the reference's, and Texts. -/
import Derived.Test.YtbfkgddhpabioaaDoorLexParses
import Derived.Deep.Slices
import Derived.Deep.Fields
import Derived.ChangeSame
namespace Go.Proofs.YtbfkgddhpabioaaDoor.Lex
open Go.RowKit Go.Proofs.YtbfkgddhpabioaaDoor.Utf Go.Proofs.YtbfkgddhpabioaaDoor.Strs
set_option linter.unusedVariables false
set_option linter.unusedSimpArgs false
set_option maxRecDepth 100000

def kt (x : TokZ) : Int × ByteArray := (x.1, x.2.1)
def sameB (l l' : List TokZ) : Bool := decide (l.map kt = l'.map kt)


set_option maxHeartbeats 4000000 in
theorem rsame_any (v v' : Value) (l l' : List TokZ) (w : World) (h : IsToks w v l) (h' : IsToks w v' l') (hl : l.length ≤ 4611686018427387904) (hl' : l'.length ≤ 4611686018427387904) :
    Calls Tryd.prog 23 #[v, v'] w fun e w' => e = .returned (.bool (sameB l l')) ∧ Below w.heap.size w w' := by
  obtain ⟨a, c, rfl, ha⟩ := h
  obtain ⟨a', c', rfl, ha'⟩ := h'
  by_cases hne : l.length = l'.length
  · by_cases h0 : l = []
    · have h0' : l' = [] := by rw [h0] at hne; exact List.length_eq_zero_iff.1 hne.symm
      subst h0 h0'
      clear ha ha' hne
      go_enter Tryd.func23, Tryd.ntmps23
      go_wp2_with fail
      go_loop [5] (fun p => p = .int .i64 0) (fun p => 0)
      case atStart => rfl
      case round =>
        obtain rfl := hrel
        go_wp2_with fail
        go_ret
        exact ⟨rfl, Below.refl _ _⟩
    · obtain ⟨b, o, rfl, T⟩ := ha.resolve_left h0
      obtain ⟨b', o', rfl, T'⟩ := ha'.resolve_left (fun e => h0 (by rw [e] at hne; exact List.length_eq_zero_iff.1 hne))
      have HT := Hid.out (p := Hid _) T; clear T
      have HT' := Hid.out (p := Hid _) T'; clear T'
      have hz : ((l.length : Int) != (l'.length : Int)) = false := by rw [bne_eq_false_iff_eq]; omega
      have HN := Hid.out (p := Hid _) hne
      clear hne ha ha'
      go_enter Tryd.func23, Tryd.ntmps23
      go_wp2_with fail
      go_loopw [5] (fun p wr => ∃ i : Nat, p = .int .i64 i ∧ i ≤ l.length ∧ Hid (∀ j (h : j < l.length) (h2 : j < l'.length), j < i → kt l[j] = kt l'[j]) ∧ Hid (Below w.heap.size w wr)) (fun p _ => l.length - (intOf p).toNat)
      case atStart => exact ⟨0, rfl, Nat.zero_le _, fun j _ _ h => by omega, Below.refl _ _⟩
      case round =>
        obtain ⟨i, rfl, hi, hno, hB⟩ := hrel
        by_cases hlt : i < l.length
        · have hlt' : i < l'.length := by have := HN.out; omega
          have S := HT.out.stays hB.out
          have S' := HT'.out.stays hB.out
          have k1 : wr.cell? ⟨b, o + i * 3, none⟩ = some (.int .i64 l[i].1) := S.k i hlt
          have k2 : wr.cell? ⟨b, o + i * 3 + 1, none⟩ = some (.string l[i].2.1) := S.t i hlt
          have k3 : wr.cell? ⟨b, o + i * 3 + 2, none⟩ = some (.int .i64 l[i].2.2) := S.p i hlt
          have g1 : wr.cell? ⟨b', o' + i * 3, none⟩ = some (.int .i64 l'[i].1) := S'.k i hlt'
          have g2 : wr.cell? ⟨b', o' + i * 3 + 1, none⟩ = some (.string l'[i].2.1) := S'.t i hlt'
          have g3 : wr.cell? ⟨b', o' + i * 3 + 2, none⟩ = some (.int .i64 l'[i].2.2) := S'.p i hlt'
          have hbl : b < wr.heap.size := S.lt (by omega)
          have hbl' : b' < wr.heap.size := S'.lt (by omega)
          clear S S'
          obtain ⟨x, hx⟩ : ∃ x, l[i] = x := ⟨_, rfl⟩
          obtain ⟨y, hy⟩ : ∃ y, l'[i] = y := ⟨_, rfl⟩
          rw [hx] at k1 k2 k3
          rw [hy] at g1 g2 g3
          have HX := Hid.out (p := Hid _) hx; clear hx
          have HY := Hid.out (p := Hid _) hy; clear hy
          obtain ⟨x1, x2, x3⟩ := x
          obtain ⟨y1, y2, y3⟩ := y
          simp only at k1 k2 k3 g1 g2 g3
          have HBX : Hid (∀ n, Below w.heap.size w ((wr).drewN n)) := fun n => (hB.out).trans (below_drewN _ _ _)
          by_cases hq : x1 = y1 ∧ x2.toList = y2.toList
          · have HE : Hid (kt l[i] = kt l'[i]) := by
              rw [Hid, HX.out, HY.out]
              obtain ⟨h1, h2⟩ := hq
              rw [Lib.toList_data, Lib.toList_data] at h2
              have : x2 = y2 := by rw [Utf.str_of x2 _ rfl, Utf.str_of y2 _ rfl, h2]
              unfold kt; rw [h1, this]
            obtain ⟨h1, h2⟩ := hq
            have q1 : (x1 != y1) = false := by rw [bne_eq_false_iff_eq]; exact h1
            have q2 : (x2.toList != y2.toList) = false := by rw [bne_eq_false_iff_eq]; exact h2
            have q3 : (x2.toList == y2.toList) = true := by rw [beq_iff_eq]; exact h2
            have HF : Hid (∀ j (h : j < l.length) (h2 : j < l'.length), j < i + 1 → kt l[j] = kt l'[j]) := by
              intro j h h2 h3
              by_cases e : j = i
              · subst e; exact HE.out
              · exact hno.out j h h2 (by omega)
            clear h1 h2
            go_wp2_with fail
            go_quiet (fail)
            go_wp2_with fail
            go_roundw
            case rel => exact ⟨i + 1, by go_num, by omega, HF.out, HBX.out _⟩
            case measure => simp [intOf]; omega
          · have HF : Hid (sameB l l' = false) := by
              rw [Hid, sameB, decide_eq_false_iff_not]; intro e
              apply hq
              have h2 : (l.map kt)[i]'(by simpa using hlt) = (l'.map kt)[i]'(by simpa using hlt') := by simp only [e]
              rw [List.getElem_map, List.getElem_map, HX.out, HY.out] at h2
              unfold kt at h2
              injection h2 with h3 h4
              have h5 : x2 = y2 := h4
              exact ⟨h3, by rw [h5]⟩
            by_cases h1 : x1 = y1
            · have h2 : x2.toList ≠ y2.toList := fun e => hq ⟨h1, e⟩
              have q1 : (x1 != y1) = false := by rw [bne_eq_false_iff_eq]; exact h1
              have q2 : (x2.toList != y2.toList) = true := by rw [bne_iff_ne]; exact h2
              have q3 : (x2.toList == y2.toList) = false := by rw [beq_eq_false_iff_ne]; exact h2
              clear h1 h2 hq
              go_wp2_with fail
              go_quiet (fail)
              go_wp2_with fail
              go_ret
              exact ⟨by rw [HF.out]; rfl, HBX.out _⟩
            · have q1 : (x1 != y1) = true := by rw [bne_iff_ne]; exact h1
              clear h1 hq
              go_wp2_with fail
              go_quiet (fail)
              go_wp2_with fail
              go_ret
              exact ⟨by rw [HF.out]; rfl, HBX.out _⟩
        · have HF : Hid (sameB l l' = true) := by
            rw [Hid, sameB, decide_eq_true_eq]
            refine List.ext_getElem (by rw [List.length_map, List.length_map]; exact HN.out) (fun j h h2 => ?_)
            rw [List.getElem_map, List.getElem_map]
            rw [List.length_map] at h h2
            exact hno.out j h h2 (by omega)
          go_wp2_with fail
          go_ret
          exact ⟨by rw [HF.out]; rfl, hB.out⟩
  · have HF : Hid (sameB l l' = false) := by
      rw [Hid, sameB, decide_eq_false_iff_not]; intro e
      have := congrArg List.length e
      rw [List.length_map, List.length_map] at this
      exact hne this
    have hz : ((l.length : Int) != (l'.length : Int)) = true := by rw [bne_iff_ne]; omega
    clear hne ha ha'
    go_enter Tryd.func23, Tryd.ntmps23
    go_wp2_with fail
    go_ret
    exact ⟨by rw [HF.out]; rfl, Below.refl _ _⟩


set_option maxHeartbeats 4000000 in
theorem same_any (v v' : Value) (l l' : List TokZ) (w : World) (h : IsToks w v l) (h' : IsToks w v' l') (hl : l.length ≤ 4611686018427387904) (hl' : l'.length ≤ 4611686018427387904) :
    Calls Tryd.prog 29 #[v, v'] w fun e w' => e = .returned (.bool (sameB l l')) ∧ Below w.heap.size w w' := by
  obtain ⟨a, c, rfl, ha⟩ := h
  obtain ⟨a', c', rfl, ha'⟩ := h'
  by_cases hne : l.length = l'.length
  · by_cases h0 : l = []
    · have h0' : l' = [] := by rw [h0] at hne; exact List.length_eq_zero_iff.1 hne.symm
      subst h0 h0'
      clear ha ha' hne
      go_enter Tryd.func29, Tryd.ntmps29
      go_wp2_with fail
      go_loop [5, 6, 14] (fun _ _ p => p = .int .i64 0) (fun _ _ p => 0)
      case atStart => rfl
      case round =>
        obtain rfl := hrel
        go_wp2_with fail
        go_ret
        exact ⟨rfl, Below.refl _ _⟩
    · obtain ⟨b, o, rfl, T⟩ := ha.resolve_left h0
      obtain ⟨b', o', rfl, T'⟩ := ha'.resolve_left (fun e => h0 (by rw [e] at hne; exact List.length_eq_zero_iff.1 hne))
      have HT := Hid.out (p := Hid _) T; clear T
      have HT' := Hid.out (p := Hid _) T'; clear T'
      have hz : ((l.length : Int) != (l'.length : Int)) = false := by rw [bne_eq_false_iff_eq]; omega
      have HN := Hid.out (p := Hid _) hne
      clear hne ha ha'
      go_enter Tryd.func29, Tryd.ntmps29
      go_wp2_with fail
      go_loopw [5, 6, 14] (fun _ _ p wr => ∃ i : Nat, p = .int .i64 i ∧ i ≤ l.length ∧ Hid (∀ j (h : j < l.length) (h2 : j < l'.length), j < i → kt l[j] = kt l'[j]) ∧ Hid (Below w.heap.size w wr)) (fun _ _ p _ => l.length - (intOf p).toNat)
      case atStart => exact ⟨0, rfl, Nat.zero_le _, fun j _ _ h => by omega, Below.refl _ _⟩
      case round =>
        obtain ⟨i, rfl, hi, hno, hB⟩ := hrel
        by_cases hlt : i < l.length
        · have hlt' : i < l'.length := by have := HN.out; omega
          have S := HT.out.stays hB.out
          have S' := HT'.out.stays hB.out
          have k1 : wr.cell? ⟨b, o + i * 3, none⟩ = some (.int .i64 l[i].1) := S.k i hlt
          have k2 : wr.cell? ⟨b, o + i * 3 + 1, none⟩ = some (.string l[i].2.1) := S.t i hlt
          have k3 : wr.cell? ⟨b, o + i * 3 + 2, none⟩ = some (.int .i64 l[i].2.2) := S.p i hlt
          have g1 : wr.cell? ⟨b', o' + i * 3, none⟩ = some (.int .i64 l'[i].1) := S'.k i hlt'
          have g2 : wr.cell? ⟨b', o' + i * 3 + 1, none⟩ = some (.string l'[i].2.1) := S'.t i hlt'
          have g3 : wr.cell? ⟨b', o' + i * 3 + 2, none⟩ = some (.int .i64 l'[i].2.2) := S'.p i hlt'
          have hbl : b < wr.heap.size := S.lt (by omega)
          have hbl' : b' < wr.heap.size := S'.lt (by omega)
          clear S S'
          obtain ⟨x, hx⟩ : ∃ x, l[i] = x := ⟨_, rfl⟩
          obtain ⟨y, hy⟩ : ∃ y, l'[i] = y := ⟨_, rfl⟩
          rw [hx] at k1 k2 k3
          rw [hy] at g1 g2 g3
          have HX := Hid.out (p := Hid _) hx; clear hx
          have HY := Hid.out (p := Hid _) hy; clear hy
          obtain ⟨x1, x2, x3⟩ := x
          obtain ⟨y1, y2, y3⟩ := y
          simp only at k1 k2 k3 g1 g2 g3
          have HBX : Hid (∀ n, Below w.heap.size w ((wr.alloc (.cells #[.int .i64 x1, .string x2, .int .i64 x3] 49)).drewN n)) := fun n => (hB.out.alloc hB.out.size _).trans (below_drewN _ _ _)
          by_cases hq : x1 = y1 ∧ x2.toList = y2.toList
          · have HE : Hid (kt l[i] = kt l'[i]) := by
              rw [Hid, HX.out, HY.out]
              obtain ⟨h1, h2⟩ := hq
              rw [Lib.toList_data, Lib.toList_data] at h2
              have : x2 = y2 := by rw [Utf.str_of x2 _ rfl, Utf.str_of y2 _ rfl, h2]
              unfold kt; rw [h1, this]
            obtain ⟨h1, h2⟩ := hq
            have q1 : (x1 != y1) = false := by rw [bne_eq_false_iff_eq]; exact h1
            have q2 : (x2.toList != y2.toList) = false := by rw [bne_eq_false_iff_eq]; exact h2
            have q3 : (x2.toList == y2.toList) = true := by rw [beq_iff_eq]; exact h2
            have HF : Hid (∀ j (h : j < l.length) (h2 : j < l'.length), j < i + 1 → kt l[j] = kt l'[j]) := by
              intro j h h2 h3
              by_cases e : j = i
              · subst e; exact HE.out
              · exact hno.out j h h2 (by omega)
            clear h1 h2
            go_wp2_with fail
            go_quiet (fail)
            go_wp2_with fail
            go_roundw
            case rel => exact ⟨i + 1, by go_num, by omega, HF.out, HBX.out _⟩
            case measure => simp [intOf]; omega
          · have HF : Hid (sameB l l' = false) := by
              rw [Hid, sameB, decide_eq_false_iff_not]; intro e
              apply hq
              have h2 : (l.map kt)[i]'(by simpa using hlt) = (l'.map kt)[i]'(by simpa using hlt') := by simp only [e]
              rw [List.getElem_map, List.getElem_map, HX.out, HY.out] at h2
              unfold kt at h2
              injection h2 with h3 h4
              have h5 : x2 = y2 := h4
              exact ⟨h3, by rw [h5]⟩
            by_cases h1 : x1 = y1
            · have h2 : x2.toList ≠ y2.toList := fun e => hq ⟨h1, e⟩
              have q1 : (x1 != y1) = false := by rw [bne_eq_false_iff_eq]; exact h1
              have q2 : (x2.toList != y2.toList) = true := by rw [bne_iff_ne]; exact h2
              have q3 : (x2.toList == y2.toList) = false := by rw [beq_eq_false_iff_ne]; exact h2
              clear h1 h2 hq
              go_wp2_with fail
              go_quiet (fail)
              go_wp2_with fail
              go_ret
              exact ⟨by rw [HF.out]; rfl, HBX.out _⟩
            · have q1 : (x1 != y1) = true := by rw [bne_iff_ne]; exact h1
              clear h1 hq
              go_wp2_with fail
              go_quiet (fail)
              go_wp2_with fail
              go_ret
              exact ⟨by rw [HF.out]; rfl, HBX.out _⟩
        · have HF : Hid (sameB l l' = true) := by
            rw [Hid, sameB, decide_eq_true_eq]
            refine List.ext_getElem (by rw [List.length_map, List.length_map]; exact HN.out) (fun j h h2 => ?_)
            rw [List.getElem_map, List.getElem_map]
            rw [List.length_map] at h h2
            exact hno.out j h h2 (by omega)
          go_wp2_with fail
          go_ret
          exact ⟨by rw [HF.out]; rfl, hB.out⟩
  · have HF : Hid (sameB l l' = false) := by
      rw [Hid, sameB, decide_eq_false_iff_not]; intro e
      have := congrArg List.length e
      rw [List.length_map, List.length_map] at this
      exact hne this
    have hz : ((l.length : Int) != (l'.length : Int)) = true := by rw [bne_iff_ne]; omega
    clear hne ha ha'
    go_enter Tryd.func29, Tryd.ntmps29
    go_wp2_with fail
    go_ret
    exact ⟨by rw [HF.out]; rfl, Below.refl _ _⟩

end Go.Proofs.YtbfkgddhpabioaaDoor.Lex
/- lex.Plain, Remarks, the reference's, and Texts. -/
namespace Go.Proofs.YtbfkgddhpabioaaDoor.Lex
open Go.RowKit Go.Proofs.YtbfkgddhpabioaaDoor.Utf Go.Proofs.YtbfkgddhpabioaaDoor.Strs
set_option linter.unusedVariables false
set_option linter.unusedSimpArgs false
set_option maxRecDepth 100000

def cellsZ (x : TokZ) : List Value := [.int .i64 x.1, .string x.2.1, .int .i64 x.2.2]
/-- A row of tokens of one's own. -/
def RowZ (w : World) (B : Nat) (v : Value) (l : List TokZ) : Prop := w.ownsRow B 49 3 v l.length (l.flatMap cellsZ)
theorem RowZ.form {w : World} {B : Nat} {v : Value} {l : List TokZ} (h : RowZ w B v l) : ∃ a c, v = .slice a l.length c := by
  rcases h.2 with ⟨h1, h2⟩ | ⟨g, cap, cur, hv, _⟩
  · exact ⟨none, 0, by rw [h1, h2]⟩
  · exact ⟨_, _, hv⟩
theorem RowZ.nil (w : World) (B : Nat) : RowZ w B (.slice none 0 0) [] := World.ownsRow_nil _ _ _ _
theorem cellsZ_at (l : List TokZ) (i : Nat) (h : i < l.length) : (l.flatMap cellsZ)[i * 3]? = some (.int .i64 (l[i]'h).1) ∧ (l.flatMap cellsZ)[i * 3 + 1]? = some (.string (l[i]'h).2.1) ∧ (l.flatMap cellsZ)[i * 3 + 2]? = some (.int .i64 (l[i]'h).2.2) := by
  induction l generalizing i with
  | nil => simp at h
  | cons x l ih =>
    have e : (x :: l).flatMap cellsZ = cellsZ x ++ l.flatMap cellsZ := by simp
    rw [e]
    cases i with
    | zero => exact ⟨rfl, rfl, rfl⟩
    | succ i =>
      have := ih i (by simpa using h)
      have hl : (cellsZ x).length = 3 := rfl
      rw [List.getElem?_append_right (by rw [hl]; omega), List.getElem?_append_right (by rw [hl]; omega), List.getElem?_append_right (by rw [hl]; omega), hl]
      rw [show (i + 1) * 3 - 3 = i * 3 by omega, show (i + 1) * 3 + 1 - 3 = i * 3 + 1 by omega, show (i + 1) * 3 + 2 - 3 = i * 3 + 2 by omega]
      exact this
theorem RowZ.reads {w : World} {B : Nat} {v : Value} {l : List TokZ} (h : RowZ w B v l) : IsToks w v l := by
  obtain ⟨a, c, rfl⟩ := h.form
  refine ⟨a, c, rfl, ?_⟩
  by_cases hl : l = []
  · left; exact hl
  · right
    have h' : w.ownsRow B 49 3 (.slice a l.length c) l.length (l.flatMap cellsZ) := h
    rcases h'.2 with ⟨_, h0⟩ | ⟨g, cap, cur, hv, hBg, hg, _⟩
    · exact absurd (List.length_eq_zero_iff.1 h0) hl
    · injection hv with h1 h2 h3
      subst h1
      have hc := fun j u => World.ownsRow.cells h' (g := g) rfl j u
      have ad : ∀ j, ((⟨g, 0, none⟩ : Addr).add j) = ⟨g, j, none⟩ := fun j => by unfold Addr.add; split <;> simp_all
      refine ⟨g, 0, rfl, ⟨?_, ?_, ?_, fun _ => heap_lt hg⟩⟩
      all_goals
        intro i hi
        have hca := cellsZ_at l i hi
        simp only [Nat.zero_add]
      · rw [← ad]; exact hc _ _ hca.1
      · rw [← ad]; exact hc _ _ hca.2.1
      · rw [← ad]; exact hc _ _ hca.2.2
/-- A row of texts at a place. -/
structure Strs (w : World) (b o : Nat) (l : List ByteArray) : Prop where
  t : ∀ i (h : i < l.length), w.cell? ⟨b, o + i, none⟩ = some (.string l[i])
  lt : 0 < l.length → b < w.heap.size
def IsStrs (w : World) (v : Value) (l : List ByteArray) : Prop := ∃ a c, v = .slice a l.length c ∧ (l = [] ∨ ∃ b o, a = some ⟨b, o, none⟩ ∧ Strs w b o l)
theorem Strs.stays {w w' : World} {b o : Nat} {l : List ByteArray} (h : Strs w b o l) (hb : Below w.heap.size w w') : Strs w' b o l :=
  ⟨fun i hi => (World.cell?_of_block (hb.block b (h.lt (by omega)))).trans (h.t i hi), fun h0 => Nat.lt_of_lt_of_le (h.lt h0) hb.size⟩
theorem IsStrs.stays {w w' : World} {v : Value} {l : List ByteArray} (h : IsStrs w v l) (hb : Below w.heap.size w w') : IsStrs w' v l := by
  obtain ⟨a, c, hv, hl⟩ := h
  refine ⟨a, c, hv, ?_⟩
  rcases hl with hl | ⟨b, o, ha, ht⟩
  · exact .inl hl
  · exact .inr ⟨b, o, ha, ht.stays hb⟩
def RowS (w : World) (B : Nat) (v : Value) (l : List ByteArray) : Prop := w.ownsRow B 9 1 v l.length (l.map Value.string)
theorem RowS.form {w : World} {B : Nat} {v : Value} {l : List ByteArray} (h : RowS w B v l) : ∃ a c, v = .slice a l.length c := by
  rcases h.2 with ⟨h1, h2⟩ | ⟨g, cap, cur, hv, _⟩
  · exact ⟨none, 0, by rw [h1, h2]⟩
  · exact ⟨_, _, hv⟩
theorem RowS.nil (w : World) (B : Nat) : RowS w B (.slice none 0 0) [] := World.ownsRow_nil _ _ _ _
theorem RowS.reads {w : World} {B : Nat} {v : Value} {l : List ByteArray} (h : RowS w B v l) : IsStrs w v l := by
  obtain ⟨a, c, rfl⟩ := h.form
  refine ⟨a, c, rfl, ?_⟩
  by_cases hl : l = []
  · left; exact hl
  · right
    have h' : w.ownsRow B 9 1 (.slice a l.length c) l.length (l.map Value.string) := h
    rcases h'.2 with ⟨_, h0⟩ | ⟨g, cap, cur, hv, hBg, hg, _⟩
    · exact absurd (List.length_eq_zero_iff.1 h0) hl
    · injection hv with h1 h2 h3
      subst h1
      have hc := fun j u => World.ownsRow.cells h' (g := g) rfl j u
      have ad : ∀ j, ((⟨g, 0, none⟩ : Addr).add j) = ⟨g, j, none⟩ := fun j => by unfold Addr.add; split <;> simp_all
      refine ⟨g, 0, rfl, ⟨fun i hi => ?_, fun _ => heap_lt hg⟩⟩
      rw [Nat.zero_add, ← ad]
      exact hc _ _ (by rw [List.getElem?_map, List.getElem?_eq_getElem hi]; rfl)
theorem infoStr : (Tryd.prog.info? 9).map (fun i => (i.zero, i.size, i.bytes)) = some (some (.string ⟨#[]⟩), 1, 16) := by kernel_rfl

def kept (x : TokZ) : Bool := !(x.1 == 5 || x.1 == 6 || x.1 == 7)
def rem (x : TokZ) : Bool := x.1 == 6 || x.1 == 7
def plainZ (l : List TokZ) : List TokZ := l.filter kept
def remZ (l : List TokZ) : List ByteArray := (l.filter rem).map (·.2.1)
theorem take_at (l : List TokZ) (i : Nat) (h : i < l.length) : l.take (i + 1) = l.take i ++ [l[i]] := List.take_succ_eq_append_getElem h


set_option maxHeartbeats 4000000 in
theorem rplain_any (v : Value) (l : List TokZ) (w : World) (h : IsToks w v l) (hl : l.length ≤ 1048576) :
    Calls Tryd.prog 25 #[v] w fun e w' => ∃ u, e = .returned u ∧ RowZ w' w.heap.size u (plainZ l) ∧ Below w.heap.size w w' := by
  obtain ⟨i0, hi, hz0, hz1, hz2⟩ := info_parts infoTok
  have HI := Hid.out (p := Hid _) hi; clear hi
  obtain ⟨a, c, rfl, ha⟩ := h
  have HA : Hid (l = [] ∨ ∃ b o, a = some ⟨b, o, none⟩ ∧ Toks w b o l) := ha
  clear ha
  go_enter Tryd.func25, Tryd.ntmps25
  go_wp2_with fail
  go_loopw [3, 4] (fun r p wr => ∃ i : Nat, p = .int .i64 i ∧ i ≤ l.length ∧ Hid (RowZ wr w.heap.size r (plainZ (l.take i))) ∧ Hid (Below w.heap.size w wr)) (fun _ p _ => l.length - (intOf p).toNat)
  case atStart => exact ⟨0, rfl, Nat.zero_le _, RowZ.nil _ _, Below.refl _ _⟩
  case round =>
    obtain ⟨i, rfl, hil, hR, hB⟩ := hrel
    obtain ⟨ua, uc, rfl⟩ := hR.out.form
    by_cases hlt : i < l.length
    · obtain ⟨b, o, rfl, T0⟩ := HA.out.resolve_left (fun e => by rw [e] at hlt; simp at hlt)
      have S := T0.stays hB.out
      have k1 : wr.cell? ⟨b, o + i * 3, none⟩ = some (.int .i64 l[i].1) := S.k i hlt
      have k2 : wr.cell? ⟨b, o + i * 3 + 1, none⟩ = some (.string l[i].2.1) := S.t i hlt
      have k3 : wr.cell? ⟨b, o + i * 3 + 2, none⟩ = some (.int .i64 l[i].2.2) := S.p i hlt
      have hbl : b < wr.heap.size := S.lt (by omega)
      have hww : w.heap.size ≤ wr.heap.size := hB.out.size
      have hts : Hid (l.take (i + 1) = l.take i ++ [l[i]]) := take_at l i hlt
      obtain ⟨x, hx⟩ : ∃ x, l[i] = x := ⟨_, rfl⟩
      rw [hx] at k1 k2 k3 hts
      clear S T0 hx
      obtain ⟨x1, x2, x3⟩ := x
      simp only at k1 k2 k3
      have hn : Hid ((plainZ (l.take i)).length ≤ 1048576) := by
        unfold Hid plainZ
        have h1 := List.length_filter_le kept (l.take i)
        rw [List.length_take] at h1
        omega
      obtain ⟨n, hnn⟩ : ∃ n, (plainZ (l.take i)).length = n := ⟨_, rfl⟩
      rw [hnn] at hn
      have hown : wr.ownsRow w.heap.size 49 3 (.slice ua n uc) n ((plainZ (l.take i)).flatMap cellsZ) := by
        have := hR.out; unfold RowZ at this; rw [hnn] at this; exact this
      have HR2 : Hid (RowZ wr w.heap.size (.slice ua n uc) (plainZ (l.take i))) := by rw [← hnn]; exact hR.out
      rw [hnn]
      have HNN := Hid.out (p := Hid _) hnn
      clear hnn hR
      by_cases hk : kept (x1, x2, x3) = true
      · have HF : Hid (plainZ (l.take (i + 1)) = plainZ (l.take i) ++ [(x1, x2, x3)]) := by
          rw [Hid, hts.out]; unfold plainZ; rw [List.filter_append, List.filter_cons, if_pos hk]; simp
        have hk' : x1 ≠ 5 ∧ x1 ≠ 6 ∧ x1 ≠ 7 := by simpa [kept, and_assoc] using hk
        have q5 : (x1 == 5) = false := by rw [beq_eq_false_iff_ne]; exact hk'.1
        have q6 : (x1 == 6) = false := by rw [beq_eq_false_iff_ne]; exact hk'.2.1
        have q7 : (x1 == 7) = false := by rw [beq_eq_false_iff_ne]; exact hk'.2.2
        have r5 : (x1 != 5) = true := by rw [bne_iff_ne]; exact hk'.1
        have r6 : (x1 != 6) = true := by rw [bne_iff_ne]; exact hk'.2.1
        have r7 : (x1 != 7) = true := by rw [bne_iff_ne]; exact hk'.2.2
        clear hk hk'
        all_goals
          go_wp2_with (at_builtin; refine wpList_append_own _ rfl _ _ 41 rfl w.heap.size 49 i0 (.agg #[.int .i64 0, .string ⟨#[]⟩, .int .i64 0]) 3 32 Tryd.underlying41 HI hz0 hz1 hz2 rfl (by decide) _ _ _ rfl (hown.alloc _) ⟨wr.heap.size, 0, none⟩ 1 1 [.int .i64 x1, .string x2, .int .i64 x3] rfl rfl ?_ ?_ ?_ ?_ ?_ ?_)
          · intro j u hj
            match j, hj with
            | 0, hj => simp at hj; subst hj; simp [Addr.add]
            | 1, hj => simp at hj; subst hj; simp [Addr.add]
            | 2, hj => simp at hj; subst hj; simp [Addr.add]
          · intro u hu; simp at hu; rcases hu with rfl | rfl | rfl <;> rfl
          · unfold maxLen; have := hn.out; omega
          · have := hn.out; omega
          · simp; omega
          intro v' w4 hown' hgrow _
          have R4 : Hid (RowZ w4 w.heap.size v' (plainZ (l.take (i + 1)))) := by
            rw [HF.out]; unfold Hid RowZ
            rw [List.length_append, HNN.out]
            simpa [cellsZ] using hown'
          have B4 : Hid (Below w.heap.size w w4) := (hB.out.alloc hww _).grown hgrow (by simp; omega) (fun k hk => (hown.lt k hk).1)
          clear hown' hgrow
          go_wp2_with fail
          go_roundw
          case rel => exact ⟨i + 1, by go_num, by omega, R4.out, B4.out⟩
          case measure => simp [intOf]; omega
      · have HF : Hid (plainZ (l.take (i + 1)) = plainZ (l.take i)) := by
          rw [Hid, hts.out]; unfold plainZ; rw [List.filter_append, List.filter_cons, if_neg hk]; simp
        clear hown
        have hk' : x1 = 5 ∨ x1 = 6 ∨ x1 = 7 := by
          unfold kept at hk; simp at hk; omega
        clear hk
        rcases hk' with rfl | rfl | rfl
        all_goals
          go_wp2_with fail
          go_roundw
          case rel => exact ⟨i + 1, by go_num, by omega, by rw [HF.out]; exact HR2.out, hB.out⟩
          case measure => simp [intOf]; omega
    · have HF : Hid (l.take i = l) := List.take_of_length_le (by omega)
      go_wp2_with fail
      go_ret
      exact ⟨.slice ua (plainZ (l.take i)).length uc, rfl, Eq.mp (congrArg (fun z => RowZ wr w.heap.size (.slice ua (plainZ (l.take i)).length uc) (plainZ z)) HF.out) hR.out, hB.out⟩


set_option maxHeartbeats 4000000 in
theorem plain_any (v : Value) (l : List TokZ) (w : World) (h : IsToks w v l) (hl : l.length ≤ 1048576) :
    Calls Tryd.prog 24 #[v] w fun e w' => ∃ u, e = .returned u ∧ RowZ w' w.heap.size u (plainZ l) ∧ Below w.heap.size w w' := by
  obtain ⟨i0, hi, hz0, hz1, hz2⟩ := info_parts infoTok
  have HI := Hid.out (p := Hid _) hi; clear hi
  obtain ⟨a, c, rfl, ha⟩ := h
  have HA : Hid (l = [] ∨ ∃ b o, a = some ⟨b, o, none⟩ ∧ Toks w b o l) := ha
  clear ha
  go_enter Tryd.func24, Tryd.ntmps24
  go_wp2_with fail
  go_loopw [3, 8] (fun r p wr => ∃ i : Nat, p = .int .i64 i ∧ i ≤ l.length ∧ Hid (RowZ wr w.heap.size r (plainZ (l.take i))) ∧ Hid (Below w.heap.size w wr)) (fun _ p _ => l.length - (intOf p).toNat)
  case atStart => exact ⟨0, rfl, Nat.zero_le _, RowZ.nil _ _, Below.refl _ _⟩
  case round =>
    obtain ⟨i, rfl, hil, hR, hB⟩ := hrel
    obtain ⟨ua, uc, rfl⟩ := hR.out.form
    by_cases hlt : i < l.length
    · obtain ⟨b, o, rfl, T0⟩ := HA.out.resolve_left (fun e => by rw [e] at hlt; simp at hlt)
      have S := T0.stays hB.out
      have k1 : wr.cell? ⟨b, o + i * 3, none⟩ = some (.int .i64 l[i].1) := S.k i hlt
      have k2 : wr.cell? ⟨b, o + i * 3 + 1, none⟩ = some (.string l[i].2.1) := S.t i hlt
      have k3 : wr.cell? ⟨b, o + i * 3 + 2, none⟩ = some (.int .i64 l[i].2.2) := S.p i hlt
      have hbl : b < wr.heap.size := S.lt (by omega)
      have hww : w.heap.size ≤ wr.heap.size := hB.out.size
      have hts : Hid (l.take (i + 1) = l.take i ++ [l[i]]) := take_at l i hlt
      obtain ⟨x, hx⟩ : ∃ x, l[i] = x := ⟨_, rfl⟩
      rw [hx] at k1 k2 k3 hts
      clear S T0 hx
      obtain ⟨x1, x2, x3⟩ := x
      simp only at k1 k2 k3
      have hn : Hid ((plainZ (l.take i)).length ≤ 1048576) := by
        unfold Hid plainZ
        have h1 := List.length_filter_le kept (l.take i)
        rw [List.length_take] at h1
        omega
      obtain ⟨n, hnn⟩ : ∃ n, (plainZ (l.take i)).length = n := ⟨_, rfl⟩
      rw [hnn] at hn
      have hown : wr.ownsRow w.heap.size 49 3 (.slice ua n uc) n ((plainZ (l.take i)).flatMap cellsZ) := by
        have := hR.out; unfold RowZ at this; rw [hnn] at this; exact this
      have HR2 : Hid (RowZ wr w.heap.size (.slice ua n uc) (plainZ (l.take i))) := by rw [← hnn]; exact hR.out
      rw [hnn]
      have HNN := Hid.out (p := Hid _) hnn
      clear hnn hR
      by_cases hk : kept (x1, x2, x3) = true
      · have HF : Hid (plainZ (l.take (i + 1)) = plainZ (l.take i) ++ [(x1, x2, x3)]) := by
          rw [Hid, hts.out]; unfold plainZ; rw [List.filter_append, List.filter_cons, if_pos hk]; simp
        have hk' : x1 ≠ 5 ∧ x1 ≠ 6 ∧ x1 ≠ 7 := by simpa [kept, and_assoc] using hk
        have q5 : (x1 == 5) = false := by rw [beq_eq_false_iff_ne]; exact hk'.1
        have q6 : (x1 == 6) = false := by rw [beq_eq_false_iff_ne]; exact hk'.2.1
        have q7 : (x1 == 7) = false := by rw [beq_eq_false_iff_ne]; exact hk'.2.2
        have r5 : (x1 != 5) = true := by rw [bne_iff_ne]; exact hk'.1
        have r6 : (x1 != 6) = true := by rw [bne_iff_ne]; exact hk'.2.1
        have r7 : (x1 != 7) = true := by rw [bne_iff_ne]; exact hk'.2.2
        clear hk hk'
        all_goals
          go_wp2_with (at_builtin; refine wpList_append_own _ rfl _ _ 41 rfl w.heap.size 49 i0 (.agg #[.int .i64 0, .string ⟨#[]⟩, .int .i64 0]) 3 32 Tryd.underlying41 HI hz0 hz1 hz2 rfl (by decide) _ _ _ rfl ((hown.alloc _).alloc _) ⟨wr.heap.size + 1, 0, none⟩ 1 1 [.int .i64 x1, .string x2, .int .i64 x3] rfl rfl ?_ ?_ ?_ ?_ ?_ ?_)
          · intro j u hj
            match j, hj with
            | 0, hj => simp at hj; subst hj; simp [Addr.add]
            | 1, hj => simp at hj; subst hj; simp [Addr.add]
            | 2, hj => simp at hj; subst hj; simp [Addr.add]
          · intro u hu; simp at hu; rcases hu with rfl | rfl | rfl <;> rfl
          · unfold maxLen; have := hn.out; omega
          · have := hn.out; omega
          · simp; omega
          intro v' w4 hown' hgrow _
          have R4 : Hid (RowZ w4 w.heap.size v' (plainZ (l.take (i + 1)))) := by
            rw [HF.out]; unfold Hid RowZ
            rw [List.length_append, HNN.out]
            simpa [cellsZ] using hown'
          have B4 : Hid (Below w.heap.size w w4) := ((hB.out.alloc hww _).alloc (by simp; omega) _).grown hgrow (by simp; omega) (fun k hk => (hown.lt k hk).1)
          clear hown' hgrow
          go_wp2_with fail
          go_roundw
          case rel => exact ⟨i + 1, by go_num, by omega, R4.out, B4.out⟩
          case measure => simp [intOf]; omega
      · have HF : Hid (plainZ (l.take (i + 1)) = plainZ (l.take i)) := by
          rw [Hid, hts.out]; unfold plainZ; rw [List.filter_append, List.filter_cons, if_neg hk]; simp
        clear hown
        have hk' : x1 = 5 ∨ x1 = 6 ∨ x1 = 7 := by
          unfold kept at hk; simp at hk; omega
        clear hk
        rcases hk' with rfl | rfl | rfl
        all_goals
          go_wp2_with fail
          go_roundw
          case rel => exact ⟨i + 1, by go_num, by omega, by rw [HF.out]; exact World.ownsRow.alloc HR2.out _, hB.out.alloc hww _⟩
          case measure => simp [intOf]; omega
    · have HF : Hid (l.take i = l) := List.take_of_length_le (by omega)
      go_wp2_with fail
      go_ret
      exact ⟨.slice ua (plainZ (l.take i)).length uc, rfl, Eq.mp (congrArg (fun z => RowZ wr w.heap.size (.slice ua (plainZ (l.take i)).length uc) (plainZ z)) HF.out) hR.out, hB.out⟩


set_option maxHeartbeats 4000000 in
theorem rrems_any (v : Value) (l : List TokZ) (w : World) (h : IsToks w v l) (hl : l.length ≤ 1048576) :
    Calls Tryd.prog 28 #[v] w fun e w' => ∃ u, e = .returned u ∧ RowS w' w.heap.size u (remZ l) ∧ Below w.heap.size w w' := by
  obtain ⟨i0, hi, hz0, hz1, hz2⟩ := info_parts infoStr
  have HI := Hid.out (p := Hid _) hi; clear hi
  obtain ⟨a, c, rfl, ha⟩ := h
  have HA : Hid (l = [] ∨ ∃ b o, a = some ⟨b, o, none⟩ ∧ Toks w b o l) := ha
  clear ha
  go_enter Tryd.func28, Tryd.ntmps28
  go_wp2_with fail
  go_loopw [3, 4] (fun r p wr => ∃ i : Nat, p = .int .i64 i ∧ i ≤ l.length ∧ Hid (RowS wr w.heap.size r (remZ (l.take i))) ∧ Hid (Below w.heap.size w wr)) (fun _ p _ => l.length - (intOf p).toNat)
  case atStart => exact ⟨0, rfl, Nat.zero_le _, RowS.nil _ _, Below.refl _ _⟩
  case round =>
    obtain ⟨i, rfl, hil, hR, hB⟩ := hrel
    obtain ⟨ua, uc, rfl⟩ := hR.out.form
    by_cases hlt : i < l.length
    · obtain ⟨b, o, rfl, T0⟩ := HA.out.resolve_left (fun e => by rw [e] at hlt; simp at hlt)
      have S := T0.stays hB.out
      have k1 : wr.cell? ⟨b, o + i * 3, none⟩ = some (.int .i64 l[i].1) := S.k i hlt
      have k2 : wr.cell? ⟨b, o + i * 3 + 1, none⟩ = some (.string l[i].2.1) := S.t i hlt
      have k3 : wr.cell? ⟨b, o + i * 3 + 2, none⟩ = some (.int .i64 l[i].2.2) := S.p i hlt
      have hbl : b < wr.heap.size := S.lt (by omega)
      have hww : w.heap.size ≤ wr.heap.size := hB.out.size
      have hts : Hid (l.take (i + 1) = l.take i ++ [l[i]]) := take_at l i hlt
      obtain ⟨x, hx⟩ : ∃ x, l[i] = x := ⟨_, rfl⟩
      rw [hx] at k1 k2 k3 hts
      clear S T0 hx
      obtain ⟨x1, x2, x3⟩ := x
      simp only at k1 k2 k3
      have hn : Hid ((remZ (l.take i)).length ≤ 1048576) := by
        unfold Hid remZ
        have h1 := List.length_filter_le rem (l.take i)
        rw [List.length_take] at h1
        rw [List.length_map]; omega
      obtain ⟨n, hnn⟩ : ∃ n, (remZ (l.take i)).length = n := ⟨_, rfl⟩
      rw [hnn] at hn
      have hown : wr.ownsRow w.heap.size 9 1 (.slice ua n uc) n ((remZ (l.take i)).map Value.string) := by
        have := hR.out; unfold RowS at this; rw [hnn] at this; exact this
      have HR2 : Hid (RowS wr w.heap.size (.slice ua n uc) (remZ (l.take i))) := by rw [← hnn]; exact hR.out
      rw [hnn]
      have HNN := Hid.out (p := Hid _) hnn
      clear hnn hR
      by_cases hk : rem (x1, x2, x3) = true
      · have HF : Hid (remZ (l.take (i + 1)) = remZ (l.take i) ++ [x2]) := by
          rw [Hid, hts.out]; unfold remZ; rw [List.filter_append, List.filter_cons, if_pos hk]; simp
        have hk' : x1 = 6 ∨ x1 = 7 := by simpa [rem] using hk
        clear hk
        rcases hk' with rfl | rfl
        all_goals
          go_wp2_with (at_builtin; refine wpList_append_own _ rfl _ _ 26 rfl w.heap.size 9 i0 (.string ⟨#[]⟩) 1 16 Tryd.underlying26 HI hz0 hz1 hz2 rfl (by decide) _ _ _ rfl (hown.alloc _) ⟨wr.heap.size, 0, none⟩ 1 1 [.string x2] rfl rfl ?_ ?_ ?_ ?_ ?_ ?_)
          · intro j u hj
            match j, hj with
            | 0, hj => simp at hj; subst hj; simp [Addr.add]
          · intro u hu; simp at hu; subst hu; rfl
          · unfold maxLen; have := hn.out; omega
          · have := hn.out; omega
          · simp; omega
          intro v' w4 hown' hgrow _
          have R4 : Hid (RowS w4 w.heap.size v' (remZ (l.take (i + 1)))) := by
            rw [HF.out]; unfold Hid RowS
            rw [List.length_append, HNN.out]
            simpa  using hown'
          have B4 : Hid (Below w.heap.size w w4) := (hB.out.alloc hww _).grown hgrow (by simp; omega) (fun k hk => (hown.lt k hk).1)
          clear hown' hgrow
          go_wp2_with fail
          go_roundw
          case rel => exact ⟨i + 1, by go_num, by omega, R4.out, B4.out⟩
          case measure => simp [intOf]; omega
      · have HF : Hid (remZ (l.take (i + 1)) = remZ (l.take i)) := by
          rw [Hid, hts.out]; unfold remZ; rw [List.filter_append, List.filter_cons, if_neg hk]; simp
        clear hown
        have hk' : x1 ≠ 6 ∧ x1 ≠ 7 := by simpa [rem] using hk
        have q6 : (x1 == 6) = false := by rw [beq_eq_false_iff_ne]; exact hk'.1
        have q7 : (x1 == 7) = false := by rw [beq_eq_false_iff_ne]; exact hk'.2
        clear hk hk'
        all_goals
          go_wp2_with fail
          go_roundw
          case rel => exact ⟨i + 1, by go_num, by omega, by rw [HF.out]; exact HR2.out, hB.out⟩
          case measure => simp [intOf]; omega
    · have HF : Hid (l.take i = l) := List.take_of_length_le (by omega)
      go_wp2_with fail
      go_ret
      exact ⟨.slice ua (remZ (l.take i)).length uc, rfl, Eq.mp (congrArg (fun z => RowS wr w.heap.size (.slice ua (remZ (l.take i)).length uc) (remZ z)) HF.out) hR.out, hB.out⟩


set_option maxHeartbeats 4000000 in
theorem rems_any (v : Value) (l : List TokZ) (w : World) (h : IsToks w v l) (hl : l.length ≤ 1048576) :
    Calls Tryd.prog 27 #[v] w fun e w' => ∃ u, e = .returned u ∧ RowS w' w.heap.size u (remZ l) ∧ Below w.heap.size w w' := by
  obtain ⟨i0, hi, hz0, hz1, hz2⟩ := info_parts infoStr
  have HI := Hid.out (p := Hid _) hi; clear hi
  obtain ⟨a, c, rfl, ha⟩ := h
  have HA : Hid (l = [] ∨ ∃ b o, a = some ⟨b, o, none⟩ ∧ Toks w b o l) := ha
  clear ha
  go_enter Tryd.func27, Tryd.ntmps27
  go_wp2_with fail
  go_loopw [3, 8] (fun r p wr => ∃ i : Nat, p = .int .i64 i ∧ i ≤ l.length ∧ Hid (RowS wr w.heap.size r (remZ (l.take i))) ∧ Hid (Below w.heap.size w wr)) (fun _ p _ => l.length - (intOf p).toNat)
  case atStart => exact ⟨0, rfl, Nat.zero_le _, RowS.nil _ _, Below.refl _ _⟩
  case round =>
    obtain ⟨i, rfl, hil, hR, hB⟩ := hrel
    obtain ⟨ua, uc, rfl⟩ := hR.out.form
    by_cases hlt : i < l.length
    · obtain ⟨b, o, rfl, T0⟩ := HA.out.resolve_left (fun e => by rw [e] at hlt; simp at hlt)
      have S := T0.stays hB.out
      have k1 : wr.cell? ⟨b, o + i * 3, none⟩ = some (.int .i64 l[i].1) := S.k i hlt
      have k2 : wr.cell? ⟨b, o + i * 3 + 1, none⟩ = some (.string l[i].2.1) := S.t i hlt
      have k3 : wr.cell? ⟨b, o + i * 3 + 2, none⟩ = some (.int .i64 l[i].2.2) := S.p i hlt
      have hbl : b < wr.heap.size := S.lt (by omega)
      have hww : w.heap.size ≤ wr.heap.size := hB.out.size
      have hts : Hid (l.take (i + 1) = l.take i ++ [l[i]]) := take_at l i hlt
      obtain ⟨x, hx⟩ : ∃ x, l[i] = x := ⟨_, rfl⟩
      rw [hx] at k1 k2 k3 hts
      clear S T0 hx
      obtain ⟨x1, x2, x3⟩ := x
      simp only at k1 k2 k3
      have hn : Hid ((remZ (l.take i)).length ≤ 1048576) := by
        unfold Hid remZ
        have h1 := List.length_filter_le rem (l.take i)
        rw [List.length_take] at h1
        rw [List.length_map]; omega
      obtain ⟨n, hnn⟩ : ∃ n, (remZ (l.take i)).length = n := ⟨_, rfl⟩
      rw [hnn] at hn
      have hown : wr.ownsRow w.heap.size 9 1 (.slice ua n uc) n ((remZ (l.take i)).map Value.string) := by
        have := hR.out; unfold RowS at this; rw [hnn] at this; exact this
      have HR2 : Hid (RowS wr w.heap.size (.slice ua n uc) (remZ (l.take i))) := by rw [← hnn]; exact hR.out
      rw [hnn]
      have HNN := Hid.out (p := Hid _) hnn
      clear hnn hR
      by_cases hk : rem (x1, x2, x3) = true
      · have HF : Hid (remZ (l.take (i + 1)) = remZ (l.take i) ++ [x2]) := by
          rw [Hid, hts.out]; unfold remZ; rw [List.filter_append, List.filter_cons, if_pos hk]; simp
        have hk' : x1 = 6 ∨ x1 = 7 := by simpa [rem] using hk
        clear hk
        rcases hk' with rfl | rfl
        all_goals
          go_wp2_with (at_builtin; refine wpList_append_own _ rfl _ _ 26 rfl w.heap.size 9 i0 (.string ⟨#[]⟩) 1 16 Tryd.underlying26 HI hz0 hz1 hz2 rfl (by decide) _ _ _ rfl ((hown.alloc _).alloc _) ⟨wr.heap.size + 1, 0, none⟩ 1 1 [.string x2] rfl rfl ?_ ?_ ?_ ?_ ?_ ?_)
          · intro j u hj
            match j, hj with
            | 0, hj => simp at hj; subst hj; simp [Addr.add]
          · intro u hu; simp at hu; subst hu; rfl
          · unfold maxLen; have := hn.out; omega
          · have := hn.out; omega
          · simp; omega
          intro v' w4 hown' hgrow _
          have R4 : Hid (RowS w4 w.heap.size v' (remZ (l.take (i + 1)))) := by
            rw [HF.out]; unfold Hid RowS
            rw [List.length_append, HNN.out]
            simpa  using hown'
          have B4 : Hid (Below w.heap.size w w4) := ((hB.out.alloc hww _).alloc (by simp; omega) _).grown hgrow (by simp; omega) (fun k hk => (hown.lt k hk).1)
          clear hown' hgrow
          go_wp2_with fail
          go_roundw
          case rel => exact ⟨i + 1, by go_num, by omega, R4.out, B4.out⟩
          case measure => simp [intOf]; omega
      · have HF : Hid (remZ (l.take (i + 1)) = remZ (l.take i)) := by
          rw [Hid, hts.out]; unfold remZ; rw [List.filter_append, List.filter_cons, if_neg hk]; simp
        clear hown
        have hk' : x1 ≠ 6 ∧ x1 ≠ 7 := by simpa [rem] using hk
        have q6 : (x1 == 6) = false := by rw [beq_eq_false_iff_ne]; exact hk'.1
        have q7 : (x1 == 7) = false := by rw [beq_eq_false_iff_ne]; exact hk'.2
        clear hk hk'
        all_goals
          go_wp2_with fail
          go_roundw
          case rel => exact ⟨i + 1, by go_num, by omega, by rw [HF.out]; exact World.ownsRow.alloc HR2.out _, hB.out.alloc hww _⟩
          case measure => simp [intOf]; omega
    · have HF : Hid (l.take i = l) := List.take_of_length_le (by omega)
      go_wp2_with fail
      go_ret
      exact ⟨.slice ua (remZ (l.take i)).length uc, rfl, Eq.mp (congrArg (fun z => RowS wr w.heap.size (.slice ua (remZ (l.take i)).length uc) (remZ z)) HF.out) hR.out, hB.out⟩


set_option maxHeartbeats 4000000 in
theorem texts_any (v v' : Value) (l l' : List ByteArray) (w : World) (h : IsStrs w v l) (h' : IsStrs w v' l') (hl : l.length ≤ 4611686018427387904) (hl' : l'.length ≤ 4611686018427387904) :
    Calls Tryd.prog 26 #[v, v'] w fun e w' => e = .returned (.bool (decide (l = l'))) ∧ ∃ n, w' = w.drewN n := by
  obtain ⟨a, c, rfl, ha⟩ := h
  obtain ⟨a', c', rfl, ha'⟩ := h'
  by_cases hne : l.length = l'.length
  · by_cases h0 : l = []
    · have h0' : l' = [] := by rw [h0] at hne; exact List.length_eq_zero_iff.1 hne.symm
      subst h0 h0'
      clear ha ha' hne
      go_enter Tryd.func26, Tryd.ntmps26
      go_wp2_with fail
      go_loop [5] (fun p => p = .int .i64 0) (fun p => 0)
      case atStart => rfl
      case round =>
        obtain rfl := hrel
        go_wp2_with fail
        go_ret
        exact ⟨rfl, 0, rfl⟩
    · obtain ⟨b, o, rfl, T⟩ := ha.resolve_left h0
      obtain ⟨b', o', rfl, T'⟩ := ha'.resolve_left (fun e => h0 (by rw [e] at hne; exact List.length_eq_zero_iff.1 hne))
      have HT := Hid.out (p := Hid _) T; clear T
      have HT' := Hid.out (p := Hid _) T'; clear T'
      have hz : ((l.length : Int) != (l'.length : Int)) = false := by rw [bne_eq_false_iff_eq]; omega
      have HN := Hid.out (p := Hid _) hne
      clear hne ha ha'
      go_enter Tryd.func26, Tryd.ntmps26
      go_wp2_with fail
      go_loopw [5] (fun p wr => ∃ i n : Nat, p = .int .i64 i ∧ i ≤ l.length ∧ Hid (∀ j (h : j < l.length) (h2 : j < l'.length), j < i → l[j] = l'[j]) ∧ wr = w.drewN n) (fun p _ => l.length - (intOf p).toNat)
      case atStart => exact ⟨0, 0, rfl, Nat.zero_le _, fun j _ _ h => by omega, rfl⟩
      case round =>
        obtain ⟨i, n, rfl, hi, hno, rfl⟩ := hrel
        by_cases hlt : i < l.length
        · have hlt' : i < l'.length := by have := HN.out; omega
          have k2 : w.cell? ⟨b, o + i, none⟩ = some (.string l[i]) := HT.out.t i hlt
          have g2 : w.cell? ⟨b', o' + i, none⟩ = some (.string l'[i]) := HT'.out.t i hlt'
          obtain ⟨x2, hx⟩ : ∃ x, l[i] = x := ⟨_, rfl⟩
          obtain ⟨y2, hy⟩ : ∃ y, l'[i] = y := ⟨_, rfl⟩
          rw [hx] at k2
          rw [hy] at g2
          have HX := Hid.out (p := Hid _) hx; clear hx
          have HY := Hid.out (p := Hid _) hy; clear hy
          by_cases hq : x2.toList = y2.toList
          · have HE : Hid (l[i] = l'[i]) := by
              rw [Hid, HX.out, HY.out]
              rw [Lib.toList_data, Lib.toList_data] at hq
              rw [Utf.str_of x2 _ rfl, Utf.str_of y2 _ rfl, hq]
            have q2 : (x2.toList != y2.toList) = false := by rw [bne_eq_false_iff_eq]; exact hq
            have q3 : (x2.toList == y2.toList) = true := by rw [beq_iff_eq]; exact hq
            have HF : Hid (∀ j (h : j < l.length) (h2 : j < l'.length), j < i + 1 → l[j] = l'[j]) := by
              intro j h h2 h3
              by_cases e : j = i
              · subst e; exact HE.out
              · exact hno.out j h h2 (by omega)
            clear hq
            go_wp2_with fail
            go_quiet (fail)
            go_wp2_with fail
            go_roundw
            case rel => exact ⟨i + 1, _, by go_num, by omega, HF.out, rfl⟩
            case measure => simp [intOf]; omega
          · have HF : Hid (decide (l = l') = false) := by
              rw [Hid, decide_eq_false_iff_not]; intro e
              apply hq
              have h2 : l[i] = l'[i] := by subst e; rfl
              rw [HX.out, HY.out] at h2
              rw [h2]
            have q2 : (x2.toList != y2.toList) = true := by rw [bne_iff_ne]; exact hq
            have q3 : (x2.toList == y2.toList) = false := by rw [beq_eq_false_iff_ne]; exact hq
            clear hq
            go_wp2_with fail
            go_quiet (fail)
            go_wp2_with fail
            go_ret
            exact ⟨by rw [HF.out]; rfl, _, World.drewN_drewN _ _ _⟩
        · have HF : Hid (decide (l = l') = true) := by
            rw [Hid, decide_eq_true_eq]
            exact List.ext_getElem HN.out (fun j h h2 => hno.out j h h2 (by omega))
          go_wp2_with fail
          go_ret
          exact ⟨by rw [HF.out]; rfl, _, rfl⟩
  · have HF : Hid (decide (l = l') = false) := by
      rw [Hid, decide_eq_false_iff_not]; intro e; exact hne (by rw [e])
    have hz : ((l.length : Int) != (l'.length : Int)) = true := by rw [bne_iff_ne]; omega
    clear hne ha ha'
    go_enter Tryd.func26, Tryd.ntmps26
    go_wp2_with fail
    go_ret
    exact ⟨by rw [HF.out]; rfl, 0, rfl⟩

end Go.Proofs.YtbfkgddhpabioaaDoor.Lex
/- An argument that is a row of tokens, opened; tabulariumlaw11.LexParts. -/
namespace Go.Proofs.YtbfkgddhpabioaaDoor.Lex
open Go.RowKit Go.Proofs.YtbfkgddhpabioaaDoor.Utf Go.Proofs.YtbfkgddhpabioaaDoor.Strs
open Go.ChangeShapes Go.WideShapes Go.Deep
set_option linter.unusedVariables false
set_option linter.unusedSimpArgs false
set_option maxRecDepth 100000

theorem open_toks {H : Type} {enc : TypeId × Value → H} {W : World} {base : Nat} {v : Value} {d : DataW H} {p : List MemPlace} (hval : Value.okWide Tryd.prog W .any base 41 v) (h : DataW.Trod enc Tryd.prog W 0 (fun _ => true) true 41 v d p) :
    ∃ l : List TokZ, IsToks W v l ∧ l.length ≤ maxLen := by
  obtain ⟨a1, len, cap, rfl⟩ := okWide_slice Tryd.underlying41 hval
  obtain ⟨fuel, hf⟩ := h
  rcases Go.Deep.open_slice Tryd.underlying41 hf with ⟨hcs, hx⟩ | ⟨a, len', cap', m, n, D, Pl, hcs, hb, hl, hm, hmm, hx, hi⟩
  · simp [Value.cells] at hcs
    obtain ⟨rfl, rfl, rfl⟩ := hcs
    exact ⟨[], ⟨none, 0, rfl, .inl rfl⟩, Nat.zero_le _⟩
  · simp [Value.cells] at hcs
    obtain ⟨rfl, rfl, rfl⟩ := hcs
    have hC : Tryd.prog.cellsOf 49 = 3 := by kernel_rfl
    have ki : Tryd.prog.cellsOf 3 = 1 := by kernel_rfl
    have ks : Tryd.prog.cellsOf 9 = 1 := by kernel_rfl
    simp only [if_true] at hmm
    have el : ∀ i, ∃ x : TokZ, i < len → W.cell? (a.add (i * 3)) = some (.int .i64 x.1) ∧ W.cell? (a.add (i * 3 + 1)) = some (.string x.2.1) ∧ W.cell? (a.add (i * 3 + 2)) = some (.int .i64 x.2.2) := by
      intro i
      by_cases him : i < len
      · obtain ⟨cs', hc, ht'⟩ := hi i (by omega)
        rw [hC] at hc
        obtain ⟨ys, n', hn', hy, hlen, hyl, hg⟩ := DataW.trod_struct Tryd.underlying49 ht'
        obtain ⟨_, hcl, hat⟩ := World.cells?_some hc
        match cs', hcl, ys, hyl with
        | [c0, c1, c2], _, [y0, y1, y2], _ =>
          have g0 := hg 0 _ rfl
          have g1 := hg 1 _ rfl
          have g2 := hg 2 _ rfl
          simp [ki, ks] at g0 g1 g2
          obtain ⟨n0, e0, _, _⟩ := DataW.trod_int Tryd.underlying3 g0
          obtain ⟨n1, e1, _, _⟩ := DataW.trod_string Tryd.underlying9 g1
          obtain ⟨n2, e2, _, _⟩ := DataW.trod_int Tryd.underlying3 g2
          simp at e0 e1 e2
          subst e0 e1 e2
          have h0 := hat 0 (by omega)
          have h1 := hat 1 (by omega)
          have h2 := hat 2 (by omega)
          rw [Go.Deep.add_add] at h0 h1 h2
          exact ⟨(n0, n1, n2), fun _ => ⟨h0, h1, h2⟩⟩
      · exact ⟨(0, ⟨#[]⟩, 0), fun h => absurd h him⟩
    let X : Nat → TokZ := fun i => (el i).choose
    have hX : ∀ i, i < len → W.cell? (a.add (i * 3)) = some (.int .i64 (X i).1) ∧ W.cell? (a.add (i * 3 + 1)) = some (.string (X i).2.1) ∧ W.cell? (a.add (i * 3 + 2)) = some (.int .i64 (X i).2.2) := fun i h => (el i).choose_spec h
    refine ⟨(List.range len).map X, ⟨some a, cap, by simp, ?_⟩, by simp; omega⟩
    rcases Nat.eq_zero_or_pos len with h0 | h0
    · left; subst h0; rfl
    · right
      obtain ⟨ab, ao, spot⟩ := a
      have hspot : spot = none := by simpa [Addr.add] using World.cell?_spot (hX 0 h0).1
      subst hspot
      have ad : ∀ j, ((⟨ab, ao, none⟩ : Addr).add j) = ⟨ab, ao + j, none⟩ := fun j => by unfold Addr.add; split <;> simp_all
      refine ⟨ab, ao, rfl, ⟨fun i hi => ?_, fun i hi => ?_, fun i hi => ?_, fun _ => ?_⟩⟩
      · have hi' : i < len := by simpa using hi
        have := (hX i hi').1
        rw [ad] at this
        simpa using this
      · have hi' : i < len := by simpa using hi
        have := (hX i hi').2.1
        rw [ad] at this
        simpa [Nat.add_assoc] using this
      · have hi' : i < len := by simpa using hi
        have := (hX i hi').2.2
        rw [ad] at this
        simpa [Nat.add_assoc] using this
      · have := (hX 0 h0).1
        rw [ad] at this
        unfold World.cell? at this
        cases hq : W.heap[ab]? with
        | none => simp [hq] at this
        | some o => exact heap_lt hq
end Go.Proofs.YtbfkgddhpabioaaDoor.Lex
