/- A world whose listed variables hold what the row lists. -/
import Derived.Test.YtbfkgddhpabioaaDoorRows
import Derived.WalkKit
import Derived.Deep.DeepHandedRow
namespace Go.Proofs.YtbfkgddhpabioaaDoor
/-- The cells of plain data. -/
def flatD : Nat → DataW Unit → List Value
  | 0, _ => []
  | n + 1, .agg l => l.flatMap (flatD n)
  | _, .lit (.int k z) => [.int k z]
  | _, .lit (.string b) => [.string ⟨b.toArray⟩]
  | _, .lit (.bool b) => [.bool b]
  | _, _ => []
def fill (d : DataW Unit) : Obj → Obj
  | .cells _ t fr => .cells (flatD 8 d).toArray t fr
  | o => o
end Go.Proofs.YtbfkgddhpabioaaDoor
