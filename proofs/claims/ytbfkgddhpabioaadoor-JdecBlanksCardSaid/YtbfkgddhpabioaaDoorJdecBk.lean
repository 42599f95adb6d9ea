/- tabulariumlaw09.blanks. -/
import Derived.Test.YtbfkgddhpabioaaDoorJdecE
namespace Go.Proofs.YtbfkgddhpabioaaDoor.Jdec
open Go.RowKit Go.Proofs.YtbfkgddhpabioaaDoor.Strs
set_option linter.unusedVariables false
set_option linter.unusedSimpArgs false
set_option maxRecDepth 100000

/-- A row of bytes in memory. -/
structure Bts (w : World) (b o : Nat) (l : List UInt8) : Prop where
  t : ∀ i (h : i < l.length), w.cell? ⟨b, o + i, none⟩ = some (.int .u8 (l[i].toNat : Int))
  lt : 0 < l.length → b < w.heap.size
def IsBts (w : World) (v : Value) (l : List UInt8) : Prop := ∃ a c, v = .slice a l.length c ∧ (l = [] ∨ ∃ b o, a = some ⟨b, o, none⟩ ∧ Bts w b o l)
theorem IsBts.stays {w w' : World} {v : Value} {l : List UInt8} (h : IsBts w v l) (hb : Below w.heap.size w w') : IsBts w' v l := by
  obtain ⟨a, c, hv, hl⟩ := h
  refine ⟨a, c, hv, ?_⟩
  rcases hl with hl | ⟨b, o, ha, ht⟩
  · exact .inl hl
  · exact .inr ⟨b, o, ha, ⟨fun i hi => (World.cell?_of_block (hb.block b (ht.lt (by omega)))).trans (ht.t i hi), fun h0 => Nat.lt_of_lt_of_le (ht.lt h0) hb.size⟩⟩
theorem blank_one (a x : ByteArray) (h : ∀ c ∈ a.data.toList, blankJ c = true) (hx : ∀ c ∈ x.data.toList, blankJ c = true) : ∀ c ∈ (a ++ x).data.toList, blankJ c = true := by
  intro c hc
  have : c ∈ a.data.toList ++ x.data.toList := by simpa using hc
  rcases List.mem_append.1 this with h1 | h1
  · exact h c h1
  · exact hx c h1
set_option maxHeartbeats 2000000 in
theorem lblanks_any (v : Value) (l : List UInt8) (w : World) (h : IsBts w v l) (hl : l.length ≤ 1000000) :
    Calls Tryd.prog 12 #[v] w fun x w' => ∃ d : ByteArray, x = .returned (.string d) ∧ d.size = l.length ∧ (∀ c ∈ d.data.toList, blankJ c = true) ∧ w = w' := by
  obtain ⟨a, c, rfl, ha⟩ := h
  have HA := Hid.out (p := Hid _) ha
  clear ha
  go_enter Tryd.func12, Tryd.ntmps12
  go_wp2_with fail
  go_loop [3, 8] (fun p3 p8 => ∃ (i : Nat) (s : ByteArray), i ≤ l.length ∧ p8 = .int .i64 i ∧ p3 = .string s ∧ Hid (s.size = i) ∧ Hid (∀ c ∈ s.data.toList, blankJ c = true)) (fun _ p8 => l.length - (intOf p8).toNat)
  case atStart => exact ⟨0, _, Nat.zero_le _, rfl, rfl, rfl, fun c hc => by simp at hc⟩
  case round =>
    obtain ⟨i, s, hi, rfl, rfl, hS, hC⟩ := hrel
    by_cases hlt : i < l.length
    · obtain ⟨b, o, rfl, T⟩ := HA.out.resolve_left (fun e => by rw [e] at hlt; simp at hlt)
      have x0 := T.t i hlt
      generalize l[i].toNat = m at *
      have hss : s.size ≤ 1000000 := by rw [hS.out]; omega
      obtain ⟨r, hr⟩ : ∃ r, m % 4 = r := ⟨_, rfl⟩
      have hr4 : r < 4 := by omega
      have q1 : (m : Int) % 4 = (r : Int) := by omega
      have q2 : (m : Int).tmod 4 = (r : Int) := by rw [Int.tmod_eq_emod_of_nonneg (by omega)]; exact q1
      clear hr T
      rcases (show r = 0 ∨ r = 1 ∨ r = 2 ∨ r = 3 by omega) with rfl | rfl | rfl | rfl
      all_goals
        go_wp2_with fail
        go_round
        case rel => exact ⟨i + 1, _, by omega, by go_num, rfl, (by rw [Hid, ByteArray.size_append, hS.out]; rfl), blank_one _ _ hC.out (by decide)⟩
        case measure => simp [intOf]; omega
    · have he : i = l.length := by omega
      have HI := Hid.out (p := Hid _) he
      clear he
      go_wp2_with fail
      go_ret
      exact ⟨s, rfl, by rw [hS.out, HI.out], by simpa using hC.out, rfl⟩
end Go.Proofs.YtbfkgddhpabioaaDoor.Jdec
