/-
  No cell of these rows narrows 'for every input' (looked for: loops, veiled, ifaces, maps, wideKeys, modest, calm, conditions, laid).
  DERIVED. THE GIVEN ROWS OF THIS SEAT. 4 by the template 'for every input the law returns true; each argument reads behind the call as it read before'; 0 by the template 'total and deterministic' (their statements: YtckpdpmjgkjefaaTotals.lean).
  GIVEN WITH THE SEED: the statements are not yours to turn. If you find one false, say at which input.
  Laid BY PROGRAM, IN A SANDBOX (cutbox-rows.mjs): the forced cells as the released guide's own fill.sh prints them over the translation ca819af6f94da0c1… (all of the seat's roots in one cut). By AI agents, Wed Nov 11 2026. No macro, syntax, notation, axiom, sorry.
-/
import Derived.Test.YtckpdpmjgkjefaaChecked
import GoSem.Claim
import GoSem.ClaimJoined
import GoSem.ClaimMapViews
import Derived.JoinedTies
import Derived.KernelRfl
namespace Go.Proofs.Ytckpdpmjgkjefaa
/- THE CELL 'sum', in the pinned program and in every row, IS THE sha256 OF THE DUMP (.gsa) THAT YtckpdpmjgkjefaaProg.lean LOADS. Nothing in Lean hashes anything: it is a label: what it is worth is what the hold of that sum in a sandbox is worth. -/
noncomputable def Try.pinned : Pinned := { name := "ytckpdpmjgkjefaa", sum := "ca819af6f94da0c1fe3d05eba8e9ff4cc9437defe35c639d79e4c6895c24be7f", checked := Try.checked }
namespace Rows
def none {H : Type} : Left H := { results := [], args := [] }

/-- 'tabulariumlaw01.MeterJoins': WHATEVER THE INPUT: true; the input reads as it did. -/
def meterJoinsSpec : ChangeSpec := { name := "meterJoins", fn := fun _ => fun
  | [d1, d2, d3] => { results := [.lit (.bool true)], args := [d1, d2, d3] }
  | _ => none }
def meterJoinsRow : OpenClaim := { program := "ytckpdpmjgkjefaa", sum := "ca819af6f94da0c1fe3d05eba8e9ff4cc9437defe35c639d79e4c6895c24be7f", func := "tabularium/tabulariumlaw01.MeterJoins", spec := "meterJoins", inPlace := ["sync/atomic.StorePointer", "sync/atomic.LoadPointer", "sync/atomic.CompareAndSwapPointer"], apart := false }
def MeterJoinsSaid : Prop := meterJoinsRow.holds Try.pinned (OpenSpec.ofChange meterJoinsSpec)

/-- ITS FALSE NEIGHBOUR: 'it returns false'. Refute it at one input. -/
def meterJoinsWrong : ChangeSpec := { name := "meterJoins", fn := fun _ => fun
  | [d1, d2, d3] => { results := [.lit (.bool false)], args := [d1, d2, d3] }
  | _ => none }
def MeterJoinsWrongFalsely : Prop := meterJoinsRow.holds Try.pinned (OpenSpec.ofChange meterJoinsWrong)

/-- 'tabulariumlaw01.MeterBack': WHATEVER THE INPUT: true; the input reads as it did. -/
def meterBackSpec : ChangeSpec := { name := "meterBack", fn := fun _ => fun
  | [d1, d2, d3] => { results := [.lit (.bool true)], args := [d1, d2, d3] }
  | _ => none }
def meterBackRow : OpenClaim := { program := "ytckpdpmjgkjefaa", sum := "ca819af6f94da0c1fe3d05eba8e9ff4cc9437defe35c639d79e4c6895c24be7f", func := "tabularium/tabulariumlaw01.MeterBack", spec := "meterBack", inPlace := ["sync/atomic.StorePointer", "sync/atomic.LoadPointer", "sync/atomic.CompareAndSwapPointer"], apart := false }
def MeterBackSaid : Prop := meterBackRow.holds Try.pinned (OpenSpec.ofChange meterBackSpec)

/-- ITS FALSE NEIGHBOUR: 'it returns false'. Refute it at one input. -/
def meterBackWrong : ChangeSpec := { name := "meterBack", fn := fun _ => fun
  | [d1, d2, d3] => { results := [.lit (.bool false)], args := [d1, d2, d3] }
  | _ => none }
def MeterBackWrongFalsely : Prop := meterBackRow.holds Try.pinned (OpenSpec.ofChange meterBackWrong)

/-- 'tabulariumlaw01.MeterActs': WHATEVER THE INPUT: true; the input reads as it did. -/
def meterActsSpec : ChangeSpec := { name := "meterActs", fn := fun _ => fun
  | [d1, d2] => { results := [.lit (.bool true)], args := [d1, d2] }
  | _ => none }
def meterActsRow : OpenClaim := { program := "ytckpdpmjgkjefaa", sum := "ca819af6f94da0c1fe3d05eba8e9ff4cc9437defe35c639d79e4c6895c24be7f", func := "tabularium/tabulariumlaw01.MeterActs", spec := "meterActs", inPlace := ["sync/atomic.StorePointer", "sync/atomic.LoadPointer", "sync/atomic.CompareAndSwapPointer"], apart := false }
def MeterActsSaid : Prop := meterActsRow.holds Try.pinned (OpenSpec.ofChange meterActsSpec)

/-- ITS FALSE NEIGHBOUR: 'it returns false'. Refute it at one input. -/
def meterActsWrong : ChangeSpec := { name := "meterActs", fn := fun _ => fun
  | [d1, d2] => { results := [.lit (.bool false)], args := [d1, d2] }
  | _ => none }
def MeterActsWrongFalsely : Prop := meterActsRow.holds Try.pinned (OpenSpec.ofChange meterActsWrong)

/-- 'tabulariumlaw01.MeterBounds': WHATEVER THE INPUT: true; the input reads as it did. -/
def meterBoundsSpec : ChangeSpec := { name := "meterBounds", fn := fun _ => fun
  | [d1, d2] => { results := [.lit (.bool true)], args := [d1, d2] }
  | _ => none }
def meterBoundsRow : OpenClaim := { program := "ytckpdpmjgkjefaa", sum := "ca819af6f94da0c1fe3d05eba8e9ff4cc9437defe35c639d79e4c6895c24be7f", func := "tabularium/tabulariumlaw01.MeterBounds", spec := "meterBounds", inPlace := ["sync/atomic.StorePointer", "sync/atomic.LoadPointer", "sync/atomic.CompareAndSwapPointer"], apart := false }
def MeterBoundsSaid : Prop := meterBoundsRow.holds Try.pinned (OpenSpec.ofChange meterBoundsSpec)

/-- ITS FALSE NEIGHBOUR: 'it returns false'. Refute it at one input. -/
def meterBoundsWrong : ChangeSpec := { name := "meterBounds", fn := fun _ => fun
  | [d1, d2] => { results := [.lit (.bool false)], args := [d1, d2] }
  | _ => none }
def MeterBoundsWrongFalsely : Prop := meterBoundsRow.holds Try.pinned (OpenSpec.ofChange meterBoundsWrong)

/- THE SECOND FORM. 'bulk': how many values and letters a reading holds, each counted each time it is reached (what is shared counts as often as it is met; a slice's spare places count too). A statement '..UptoSaid' is the law's where the arguments, and the package variables that the reading takes, are together of bulk at most 1048576: NARROWER than '..Said'. Prove '..Said' where nothing that the law and all that it calls make is longer than what came in: it says more and counts as full. Else prove '..UptoSaid'. A law counts once. -/
mutual
def uptoBulk {H : Type} : DataW H → Nat
  | .lit (.string bytes) => bytes.length + 1
  | .lit _ => 1
  | .nil => 1
  | .ptr d => uptoBulk d + 1
  | .slice elems spare => uptoBulkAll elems + uptoBulkAll spare + 1
  | .agg parts => uptoBulkAll parts + 1
  | .iface _ d => uptoBulk d + 1
  | .map entries => uptoBulkEntries entries + 1
  | .held _ => 1
def uptoBulkAll {H : Type} : List (DataW H) → Nat
  | [] => 0
  | d :: r => uptoBulk d + uptoBulkAll r
def uptoBulkEntries {H : Type} : List (Lit × DataW H) → Nat
  | [] => 0
  | x :: r => uptoBulkEntry x + uptoBulkEntries r
def uptoBulkEntry {H : Type} : Lit × DataW H → Nat
  | (.string bytes, d) => bytes.length + uptoBulk d + 1
  | (_, d) => uptoBulk d + 1
 end
def uptoSmall : (H : Type) → List (DataW H) → Bool := fun _ ds => decide (uptoBulkAll ds ≤ 1048576)
def OpenSpec.upto (s : _root_.Go.ChangeSpec) : _root_.Go.OpenSpec := { _root_.Go.OpenSpec.ofChange s with cond := some uptoSmall }

/-- 'tabulariumlaw01.MeterJoins', WHERE WHAT IT READS IS OF BULK AT MOST 1048576: true; the input reads as it did. -/
def meterJoinsUptoRow : OpenClaim := { program := "ytckpdpmjgkjefaa", sum := "ca819af6f94da0c1fe3d05eba8e9ff4cc9437defe35c639d79e4c6895c24be7f", func := "tabularium/tabulariumlaw01.MeterJoins", spec := "meterJoins", inPlace := ["sync/atomic.StorePointer", "sync/atomic.LoadPointer", "sync/atomic.CompareAndSwapPointer"], apart := false, narrowed := true }
def MeterJoinsUptoSaid : Prop := meterJoinsUptoRow.holds Try.pinned (OpenSpec.upto meterJoinsSpec)

/-- 'tabulariumlaw01.MeterBack', WHERE WHAT IT READS IS OF BULK AT MOST 1048576: true; the input reads as it did. -/
def meterBackUptoRow : OpenClaim := { program := "ytckpdpmjgkjefaa", sum := "ca819af6f94da0c1fe3d05eba8e9ff4cc9437defe35c639d79e4c6895c24be7f", func := "tabularium/tabulariumlaw01.MeterBack", spec := "meterBack", inPlace := ["sync/atomic.StorePointer", "sync/atomic.LoadPointer", "sync/atomic.CompareAndSwapPointer"], apart := false, narrowed := true }
def MeterBackUptoSaid : Prop := meterBackUptoRow.holds Try.pinned (OpenSpec.upto meterBackSpec)

/-- 'tabulariumlaw01.MeterActs', WHERE WHAT IT READS IS OF BULK AT MOST 1048576: true; the input reads as it did. -/
def meterActsUptoRow : OpenClaim := { program := "ytckpdpmjgkjefaa", sum := "ca819af6f94da0c1fe3d05eba8e9ff4cc9437defe35c639d79e4c6895c24be7f", func := "tabularium/tabulariumlaw01.MeterActs", spec := "meterActs", inPlace := ["sync/atomic.StorePointer", "sync/atomic.LoadPointer", "sync/atomic.CompareAndSwapPointer"], apart := false, narrowed := true }
def MeterActsUptoSaid : Prop := meterActsUptoRow.holds Try.pinned (OpenSpec.upto meterActsSpec)

/-- 'tabulariumlaw01.MeterBounds', WHERE WHAT IT READS IS OF BULK AT MOST 1048576: true; the input reads as it did. -/
def meterBoundsUptoRow : OpenClaim := { program := "ytckpdpmjgkjefaa", sum := "ca819af6f94da0c1fe3d05eba8e9ff4cc9437defe35c639d79e4c6895c24be7f", func := "tabularium/tabulariumlaw01.MeterBounds", spec := "meterBounds", inPlace := ["sync/atomic.StorePointer", "sync/atomic.LoadPointer", "sync/atomic.CompareAndSwapPointer"], apart := false, narrowed := true }
def MeterBoundsUptoSaid : Prop := meterBoundsUptoRow.holds Try.pinned (OpenSpec.upto meterBoundsSpec)

end Rows
end Go.Proofs.Ytckpdpmjgkjefaa
