/- jdec.Parse. -/
import Derived.Test.YtehffmcfmdjknaaDoorJdecD
import Derived.Laws.StructEq
namespace Go.Proofs.YtehffmcfmdjknaaDoor.Jdec
open Go.RowKit Go.Proofs.YtehffmcfmdjknaaDoor.Strs
set_option linter.unusedVariables false
set_option linter.unusedSimpArgs false
set_option maxRecDepth 100000

/-- What Parse tells. -/
def PPost (l : List UInt8) (w : World) (x : Ending) (w' : World) : Prop :=
  ∃ a : Raw, x = .returned (.tuple #[a.val, .int .i64 (parse l).2.1, .int .i64 (parse l).2.2]) ∧ IsV w' (fun j => w.heap.size ≤ j) a (parse l).1 ∧ Below w.heap.size w w'
theorem res3 {F : Func} {p q r : Tmp} (hr : F.results = #[.cell p 27, .tmp q, .tmp r]) (tm : Array Value) {w' : World} {b : Nat} {a : Raw}
    (hb : w'.heap[b]? = some (.cells a.arr 27 (0, 0))) (hp : tm.getD p undef = .pointer (some ⟨b, 0, none⟩)) :
    (results F tm).run Tryd.prog w' = .ok (.tuple #[a.val, tm.getD q undef, tm.getD r undef]) w' := by
  have hp' : tm[p]?.getD undef = .pointer (some ⟨b, 0, none⟩) := by simpa using hp
  have hl := run_loadVar_row (P := Tryd.prog) w' b _ 27 _ _ _ hb Tryd.underlying27 rfl infoVal
  simp [results, hr, hp', asAddr, hl]
  rfl
theorem parse_below {w w2 : World} {a : Raw} (hb : w2.heap[w.heap.size]? = some (.cells a.arr 27 (0, 0))) (B : Below w.heap.size w w2) {x0 x1 x2 x3 x4 x5 x6 x7 : Value} :
    Below w.heap.size w ((((((((w2.setCell ⟨w.heap.size, 0, none⟩ x0).setCell ⟨w.heap.size, 1, none⟩ x1).setCell ⟨w.heap.size, 2, none⟩ x2).setCell ⟨w.heap.size, 3, none⟩ x3).setCell ⟨w.heap.size, 4, none⟩ x4).setCell ⟨w.heap.size, 5, none⟩ x5).setCell ⟨w.heap.size, 6, none⟩ x6).setCell ⟨w.heap.size, 7, none⟩ x7) := by
  have G := gb8 w2 w.heap.size x0 x1 x2 x3 x4 x5 x6 x7
  exact ⟨G.os.trans B.os, G.tape.trans B.tape, G.output.trans B.output, Nat.le_trans B.size G.size, fun k hk => (G.block k (Nat.lt_of_lt_of_le hk B.size) (by simp; omega)).trans (B.block k hk)⟩
theorem parse_fin {F : Func} {p q r : Tmp} (hr : F.results = #[.cell p 27, .tmp q, .tmp r]) {tm : Array Value} {a c : Raw} {w w2 : World} {R : Ending → World → Prop}
    (hb : w2.heap[w.heap.size]? = some (.cells a.arr 27 (0, 0))) (hp : tm.getD p undef = .pointer (some ⟨w.heap.size, 0, none⟩)) (B : Below w.heap.size w w2)
    (hR : R (.returned (.tuple #[c.val, tm.getD q undef, tm.getD r undef])) ((((((((w2.setCell ⟨w.heap.size, 0, none⟩ (.int .i64 c.kind)).setCell ⟨w.heap.size, 1, none⟩ (.bool c.is)).setCell ⟨w.heap.size, 2, none⟩ (.bool c.neg)).setCell ⟨w.heap.size, 3, none⟩ (.string c.dig)).setCell ⟨w.heap.size, 4, none⟩ (.int .i64 c.exp)).setCell ⟨w.heap.size, 5, none⟩ (.string c.str)).setCell ⟨w.heap.size, 6, none⟩ (.slice c.ka c.kn c.kc)).setCell ⟨w.heap.size, 7, none⟩ (.slice c.va c.vn c.vc))) :
    bodyPost Tryd.prog F R Exit.ret { tmps := tm, defers := [] }
    ((((((((w2.setCell ⟨w.heap.size, 0, none⟩ (.int .i64 c.kind)).setCell ⟨w.heap.size, 1, none⟩ (.bool c.is)).setCell ⟨w.heap.size, 2, none⟩ (.bool c.neg)).setCell ⟨w.heap.size, 3, none⟩ (.string c.dig)).setCell ⟨w.heap.size, 4, none⟩ (.int .i64 c.exp)).setCell ⟨w.heap.size, 5, none⟩ (.string c.str)).setCell ⟨w.heap.size, 6, none⟩ (.slice c.ka c.kn c.kc)).setCell ⟨w.heap.size, 7, none⟩ (.slice c.va c.vn c.vc)) :=
  bodyPost_ret (res3 hr tm (set8 hb c) hp) rfl hR

theorem parse_fin2 {F : Func} {p q r : Tmp} (hr : F.results = #[.cell p 27, .tmp q, .tmp r]) {tm : Array Value} {a : Raw} {w' : World} {b : Nat} {R : Ending → World → Prop}
    (hb : w'.heap[b]? = some (.cells a.arr 27 (0, 0))) (hp : tm.getD p undef = .pointer (some ⟨b, 0, none⟩)) (hR : R (.returned (.tuple #[a.val, tm.getD q undef, tm.getD r undef])) w') :
    bodyPost Tryd.prog F R Exit.ret { tmps := tm, defers := [] } w' := bodyPost_ret (res3 hr tm hb hp) rfl hR
theorem drew_heap (w : World) : w.drew.heap = w.heap := rfl
theorem parse_fin_d {F : Func} {p q r : Tmp} (hr : F.results = #[.cell p 27, .tmp q, .tmp r]) {tm : Array Value} {a c : Raw} {w w2 : World} {R : Ending → World → Prop}
    (hb : w2.heap[w.heap.size]? = some (.cells a.arr 27 (0, 0))) (hp : tm.getD p undef = .pointer (some ⟨w.heap.size, 0, none⟩))
    (hR : R (.returned (.tuple #[c.val, tm.getD q undef, tm.getD r undef])) (World.drew ((((((((w2.setCell ⟨w.heap.size, 0, none⟩ (.int .i64 c.kind)).setCell ⟨w.heap.size, 1, none⟩ (.bool c.is)).setCell ⟨w.heap.size, 2, none⟩ (.bool c.neg)).setCell ⟨w.heap.size, 3, none⟩ (.string c.dig)).setCell ⟨w.heap.size, 4, none⟩ (.int .i64 c.exp)).setCell ⟨w.heap.size, 5, none⟩ (.string c.str)).setCell ⟨w.heap.size, 6, none⟩ (.slice c.ka c.kn c.kc)).setCell ⟨w.heap.size, 7, none⟩ (.slice c.va c.vn c.vc)))) :
    bodyPost Tryd.prog F R Exit.ret { tmps := tm, defers := [] } (World.drew ((((((((w2.setCell ⟨w.heap.size, 0, none⟩ (.int .i64 c.kind)).setCell ⟨w.heap.size, 1, none⟩ (.bool c.is)).setCell ⟨w.heap.size, 2, none⟩ (.bool c.neg)).setCell ⟨w.heap.size, 3, none⟩ (.string c.dig)).setCell ⟨w.heap.size, 4, none⟩ (.int .i64 c.exp)).setCell ⟨w.heap.size, 5, none⟩ (.string c.str)).setCell ⟨w.heap.size, 6, none⟩ (.slice c.ka c.kn c.kc)).setCell ⟨w.heap.size, 7, none⟩ (.slice c.va c.vn c.vc))) :=
  bodyPost_ret (res3 hr tm (b := w.heap.size) (a := c) (by rw [drew_heap]; exact set8 hb c) hp) rfl hR
end Go.Proofs.YtehffmcfmdjknaaDoor.Jdec
/- tabulariumref08.Same of nothing; tabulariumlaw09.wakes. -/
namespace Go.Proofs.YtehffmcfmdjknaaDoor.Jdec
open Go.RowKit Go.Proofs.YtehffmcfmdjknaaDoor.Strs
set_option linter.unusedVariables false
set_option linter.unusedSimpArgs false
set_option maxRecDepth 100000

@[go_sem] theorem eqNum (a c : Bool) (b d : Int) (s t : ByteArray) (w : World) : (Op.equalIn 10000 23 (.agg #[.bool a, .string s, .int .i64 b]) (.agg #[.bool c, .string t, .int .i64 d])).run Tryd.prog w = .ok (a == c && (s.toList == t.toList && b == d)) w := by
  have u3 := Tryd.underlying3
  have u9 := Tryd.underlying9
  have u4 := Tryd.underlying4
  have hS : Tryd.prog.underlying 23 = some (.struct (Tryd.prog.fieldsOf 23)) := by kernel_rfl
  have hp : Tryd.prog.stoodInHeld 23 = false := by kernel_rfl
  rw [show (10000 : Nat) = 9999 + 1 from rfl, run_equalIn_agg w 9999 23 _ _ hS hp]
  simp only [Program.fieldsOf, Tryd.underlying23]
  go_simp
  by_cases h1 : a = c <;> by_cases h2 : s.toList = t.toList <;> by_cases h3 : b = d <;> simp [h1, h2, h3]
theorem zero_words {w : World} {A : Nat → Prop} {a : Raw} (h : IsV w A a JV.zero) : ∃ ka va kc vc, a = Raw.mk 0 false false ⟨#[]⟩ 0 ⟨#[]⟩ ka 0 kc va 0 vc := by
  generalize hz : JV.zero = z at h
  cases h with
  | mk _ keys kids f h1 h2 h3 h4 h5 =>
    unfold JV.zero at hz
    injection hz with e1 e2 e3 e4 e5 e6 e7 e8
    subst e7 e8
    obtain ⟨kd, is, ng, dg, ex, st, ka, kn, kc, va, vn, vc⟩ := a
    simp only [List.length_nil] at h1 h2
    simp only at e1 e2 e3 e4 e5 e6
    subst e1 e2 e3 e4 e5 e6 h1 h2
    exact ⟨_, _, _, _, rfl⟩
def kindOf : JV → Int
  | .mk k _ _ _ _ _ _ _ => k
theorem kind_words {w : World} {A : Nat → Prop} {a : Raw} {t : JV} (h : IsV w A a t) : a.kind = kindOf t := by
  cases h; rfl
theorem wake1 : kindOf (parse [123, 34, 97, 34, 58, 91, 49, 44, 50, 93, 125]).1 = 6 ∧ (parse [123, 34, 97, 34, 58, 91, 49, 44, 50, 93, 125]).2 = (-1, 0) := by decide +kernel
theorem wake2 : (parse [91, 49, 44, 93]).2 = (3, 3) := by decide +kernel
theorem wake3 : (parse [123, 34, 97, 34, 58, 49, 44, 34, 97, 34, 58, 50, 125]).2 = (7, 6) := by decide +kernel
end Go.Proofs.YtehffmcfmdjknaaDoor.Jdec
