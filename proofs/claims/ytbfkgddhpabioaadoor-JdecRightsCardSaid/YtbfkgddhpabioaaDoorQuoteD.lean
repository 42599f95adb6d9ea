/- quote.Scan's deferred closure. -/
import Derived.Test.YtbfkgddhpabioaaDoorQuoteP
import Derived.Recover
namespace Go.Proofs.YtbfkgddhpabioaaDoor.Quote
open Go.RowKit Go.Proofs.YtbfkgddhpabioaaDoor.Utf
set_option linter.unusedVariables false
set_option linter.unusedSimpArgs false
set_option maxRecDepth 100000

theorem scan1_idle (a b c : Addr) (w : World) :
    CallsD Tryd.prog 91 #[.pointer (some a), .pointer (some b), .pointer (some c)] .returning w fun e u' w' => e = .returned (.tuple #[]) ∧ u' = .returning ∧ w = w' := by
  refine callsD_of_wpS Tryd.func91 rfl fun c₀ cs hu => ?_
  simp only [Tryd.ntmps91, List.size_toArray, List.length_cons, List.length_nil, Nat.reduceAdd, Nat.reduceSub, Array.replicate_succ, Array.replicate_zero, List.push_toArray, List.append_toArray, List.nil_append, List.cons_append]
  apply wpS_seq
  apply wpS_region
  simp [wpOpsS, go_sem, recoverD, hu, Exit.thenS]
  refine wpS_of_wp ?_
  go_wp2
  cases c₀
  simp_all [bodyPostS, results, Tryd.results91, go_sem]

theorem scan1_caught (b0 : Nat) (k : Nat) (v0 v1 v2 : Value) (w : World) (h0 : w.heap[b0]? = some (.cells #[v0] 9 (0, 0))) (h1 : w.heap[b0 + 1]? = some (.cells #[v1] 3 (0, 0))) (h2 : w.heap[b0 + 2]? = some (.cells #[v2] 30 (0, 0))) :
    CallsD Tryd.prog 91 #[.pointer (some ⟨b0, 0, none⟩), .pointer (some ⟨b0 + 1, 0, none⟩), .pointer (some ⟨b0 + 2, 0, none⟩)] (.panicking (thrown k)) w fun e u' w' =>
      e = .returned (.tuple #[]) ∧ u' = .panicking [{ v := .iface 103 (.agg #[.int .i64 k]), recovered := true }] ∧ Below b0 w w' ∧
      w'.heap[b0]? = some (.cells #[.string ⟨#[]⟩] 9 (0, 0)) ∧ w'.heap[b0 + 1]? = some (.cells #[.int .i64 0] 3 (0, 0)) ∧ w'.heap[b0 + 2]? = some (.cells #[.int .i64 k] 30 (0, 0)) := by
  have hta : ∀ (v : Value) (w : World), (Instr.typeAssert (.iface 103 v) 20 103 true).run Tryd.prog w = .ok (.tuple #[v, .bool true]) w := fun v w => by
    simp [Instr.typeAssert, run_underlying Tryd.underlying103, go_sem, Result.andThen]
  have c0 := cell_of h0 0
  have c1 := cell_of h1 0
  have c2 := cell_of h2 0
  have f0 := frozen_of h0 0
  have f1 := frozen_of h1 0
  have f2 := frozen_of h2 0
  have l0 := heap_lt h0
  have l1 := heap_lt h1
  have l2 := heap_lt h2
  have H0 := Hid.out (p := Hid _) h0; clear h0
  have H1 := Hid.out (p := Hid _) h1; clear h1
  have H2 := Hid.out (p := Hid _) h2; clear h2
  refine callsD_of_wpS Tryd.func91 rfl fun c₀ cs hu => ?_
  rw [thrown] at hu
  simp only [Tryd.ntmps91, List.size_toArray, List.length_cons, List.length_nil, Nat.reduceAdd, Nat.reduceSub, Array.replicate_succ, Array.replicate_zero, List.push_toArray, List.append_toArray, List.nil_append, List.cons_append]
  apply wpS_seq
  apply wpS_region
  simp [wpOpsS, go_sem, recoverD, hu, Exit.thenS]
  refine wpS_of_wp ?_
  go_wp2
  go_region
  all_goals go_wp2
  refine ⟨rfl, _, rfl, .tuple #[], results_none rfl _ _ _, rfl, rfl, ?_, ?_, ?_, ?_⟩
  · refine Below.drew (Below.alloc (Below.setCell (Below.setCell (Below.setCell (Below.refl b0 w) ?_ _) ?_ _) ?_ _) ?_ _)
    · exact Nat.le_refl _
    · show b0 ≤ b0 + 1; omega
    · show b0 ≤ b0 + 2; omega
    · simp; omega
  · exact heap_alloc_old (heap_set_other (heap_set_other (heap_set_same H0.out _) (by omega) _) (by omega) _)
  · exact heap_alloc_old (heap_set_other (heap_set_same (heap_set_other H1.out (by omega) _) _) (by omega) _)
  · exact heap_alloc_old (heap_set_same (heap_set_other (heap_set_other H2.out (by omega) _) (by omega) _) _)
end Go.Proofs.YtbfkgddhpabioaaDoor.Quote
