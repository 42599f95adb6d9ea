/- An argument that is a row of bytes, opened; JdecBlanks at any arguments. -/
import Derived.Deep.Slices
import Derived.Deep.Fields
import Derived.ChangeSame
import Derived.Test.YtbfkgddhpabioaaDoorTabs
import Derived.Test.YtbfkgddhpabioaaDoorJdecT
import Derived.Test.YtbfkgddhpabioaaDoorJdecBlanks
namespace Go.Proofs.YtbfkgddhpabioaaDoor
open Go.RowKit Go.ChangeShapes Go.WideShapes Go.Deep
set_option linter.unusedVariables false
set_option linter.unusedSimpArgs false
set_option maxRecDepth 100000

theorem jdecBlanksTabs {w : World} (h : laidMetH Tryd.prog Rows.jdecBlanksRow.laid w) : Jdec.JTabs w := by
  obtain ⟨ps, hv, _⟩ := (show laidMet Tryd.prog Rows.jdecBlanksRow.laid w from h)
  exact ⟨sizes_of (laid_at hv _ _ (.tail _ (.head _))), steps_of (laid_at hv _ _ (.tail _ (.tail _ (.head _))))⟩
theorem Jdec.open_bytes {H : Type} {enc : TypeId × Value → H} {W : World} {base : Nat} {v : Value} {d : DataW H} {p : List MemPlace} (hval : Value.okWide Tryd.prog W .any base 22 v) (h : DataW.Trod enc Tryd.prog W 0 (fun _ => true) true 22 v d p) :
    ∃ l : List UInt8, IsBts W v l ∧ l.length ≤ maxLen := by
  obtain ⟨a1, len, cap, rfl⟩ := okWide_slice Tryd.underlying22 hval
  obtain ⟨fuel, hf⟩ := h
  rcases Go.Deep.open_slice Tryd.underlying22 hf with ⟨hcs, hx⟩ | ⟨a, len', cap', m, n, D, Pl, hcs, hb, hl, hm, hmm, hx, hi⟩
  · simp [Value.cells] at hcs
    obtain ⟨rfl, rfl, rfl⟩ := hcs
    exact ⟨[], ⟨none, 0, rfl, .inl rfl⟩, Nat.zero_le _⟩
  · simp [Value.cells] at hcs
    obtain ⟨rfl, rfl, rfl⟩ := hcs
    have hC : Tryd.prog.cellsOf 5 = 1 := by kernel_rfl
    simp only [if_true] at hmm
    have el : ∀ i, ∃ x : UInt8, i < len → W.cell? (a.add i) = some (.int .u8 (x.toNat : Int)) := by
      intro i
      by_cases him : i < len
      · obtain ⟨cs', hc, ht'⟩ := hi i (by omega)
        rw [hC] at hc
        obtain ⟨_, hcl, hat⟩ := World.cells?_some hc
        match cs', hcl with
        | [c0], _ =>
          obtain ⟨n0, e0, _, hwf⟩ := DataW.trod_int Tryd.underlying5 ht'
          simp at e0
          subst e0
          have h0 := hat 0 (by omega)
          rw [Go.Deep.add_add] at h0
          simp at h0
          have hw := byte_of hwf
          refine ⟨UInt8.ofNat n0.toNat, fun _ => ?_⟩
          rw [show ((UInt8.ofNat n0.toNat).toNat : Int) = n0 by rw [UInt8.toNat_ofNat']; omega]
          exact h0
      · exact ⟨0, fun h => absurd h him⟩
    let X : Nat → UInt8 := fun i => (el i).choose
    have hX : ∀ i, i < len → W.cell? (a.add i) = some (.int .u8 ((X i).toNat : Int)) := fun i h => (el i).choose_spec h
    refine ⟨(List.range len).map X, ⟨some a, cap, by simp, ?_⟩, by simp; omega⟩
    rcases Nat.eq_zero_or_pos len with h0 | h0
    · left; subst h0; rfl
    · right
      obtain ⟨ab, ao, spot⟩ := a
      have hspot : spot = none := by simpa [Addr.add] using World.cell?_spot (hX 0 h0)
      subst hspot
      have ad : ∀ j, ((⟨ab, ao, none⟩ : Addr).add j) = ⟨ab, ao + j, none⟩ := fun j => by unfold Addr.add; split <;> simp_all
      refine ⟨ab, ao, rfl, ⟨fun i hi => ?_, fun _ => ?_⟩⟩
      · have hi' : i < len := by simpa using hi
        have := hX i hi'
        rw [ad] at this
        simpa using this
      · have := hX 0 h0
        rw [ad] at this
        unfold World.cell? at this
        cases hq : W.heap[ab]? with
        | none => simp [hq] at this
        | some o => exact heap_lt hq
end Go.Proofs.YtbfkgddhpabioaaDoor
