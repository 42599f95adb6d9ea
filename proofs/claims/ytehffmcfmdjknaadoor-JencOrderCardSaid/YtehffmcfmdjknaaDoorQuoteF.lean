/- quote.reader: next and fail. -/
import Derived.Test.YtehffmcfmdjknaaDoorFrame
import Derived.Test.YtehffmcfmdjknaaDoorUtfW
import Derived.Deep.DeepCutAuto
import Derived.WalkSmall
namespace Go.Proofs.YtehffmcfmdjknaaDoor.Quote
open Go.RowKit
set_option linter.unusedVariables false
set_option linter.unusedSimpArgs false
set_option maxRecDepth 100000

end Go.Proofs.YtehffmcfmdjknaaDoor.Quote
/- quote.reader: four. -/
namespace Go.Proofs.YtehffmcfmdjknaaDoor.Quote
open Go.RowKit Go.Proofs.YtehffmcfmdjknaaDoor.Utf
set_option linter.unusedVariables false
set_option linter.unusedSimpArgs false
set_option maxRecDepth 100000

theorem or16 (n d : Nat) (D : Int) (hD : D = d) (hn : n < 1048576) (hd : d < 16) : bits .or .i64 ((n : Int) * 16) D = ((n * 16 + d : Nat) : Int) := by
  subst hD
  rw [show ((n : Int) * 16) = ((n * 16 : Nat) : Int) by omega, Bits.or_nat _ _ (by omega) (by omega)]
  have := Nat.shiftLeft_add_eq_or_of_lt (i := 4) (b := d) (by omega) n
  rw [Nat.shiftLeft_eq] at this
  exact congrArg _ this.symm
theorem int_i64 {a b : Int} (h : a = b) : Value.int .i64 a = Value.int .i64 b := by rw [h]

theorem drop_cons (s : ByteArray) (p : Nat) (h : p < s.size) : s.data.toList.drop p = s[p] :: s.data.toList.drop (p + 1) := by
  rw [List.drop_eq_getElem_cons (by simpa using h)]; rfl
theorem drop_end (s : ByteArray) (p : Nat) (h : s.size ≤ p) : s.data.toList.drop p = [] := List.drop_eq_nil_of_le (by simpa using h)

/-- What 'four' comes to, the place being carried. -/
def fourR (src : ByteArray) (p : Nat) (out : List UInt8) : Except Nat (Value × Nat × List UInt8) :=
  match four 4 0 (src.data.toList.drop p) with
  | .error k => .error k
  | .ok n => .ok (.int .i64 n, p + 4, out)

end Go.Proofs.YtehffmcfmdjknaaDoor.Quote
/- quote.reader: number and escape. -/
namespace Go.Proofs.YtehffmcfmdjknaaDoor.Quote
open Go.RowKit Go.Proofs.YtehffmcfmdjknaaDoor.Utf
set_option linter.unusedVariables false
set_option linter.unusedSimpArgs false
set_option maxRecDepth 100000

/-- What 'number' comes to. -/
def numberR (src : ByteArray) (p : Nat) (out : List UInt8) : Except Nat (Value × Nat × List UInt8) :=
  match number (src.data.toList.drop p) with
  | .error k => .error k
  | .ok (o, n) => .ok (.tuple #[], p + n, out ++ o)
end Go.Proofs.YtehffmcfmdjknaaDoor.Quote
/- quote.reader: escape. -/
namespace Go.Proofs.YtehffmcfmdjknaaDoor.Quote
open Go.RowKit Go.Proofs.YtehffmcfmdjknaaDoor.Utf
set_option linter.unusedVariables false
set_option linter.unusedSimpArgs false
set_option maxRecDepth 100000

/-- What 'escape' comes to. -/
def escapeR (src : ByteArray) (p : Nat) (out : List UInt8) : Except Nat (Value × Nat × List UInt8) :=
  match escape (src.data.toList.drop p) with
  | .error k => .error k
  | .ok (o, n) => .ok (.tuple #[], p + n, out ++ o)

end Go.Proofs.YtehffmcfmdjknaaDoor.Quote
