/- jdec.Deepest, tabulariumref09.Deepest: how deep brackets stand. (Written by gen/rigd.py.) -/
import Derived.Test.YtehffmcfmdjknaaGreatDoorRigB
import Derived.Test.YtehffmcfmdjknaaGreatDoorJdecL
namespace Go.Proofs.YtehffmcfmdjknaaGreatDoor.Jdec
open Go.RowKit Go.Proofs.YtehffmcfmdjknaaGreatDoor.Strs
set_option linter.unusedVariables false
set_option linter.unusedSimpArgs false
set_option maxRecDepth 100000

theorem byte_n {c : UInt8} {n : Nat} (hn : n < 256) (h : (c.toNat : Int) = (n : Int)) : c = UInt8.ofNat n := UInt8.toNat_inj.1 (by rw [UInt8.toNat_ofNat']; omega)
theorem byte_nn {c : UInt8} {n : Nat} (h : (c.toNat : Int) ≠ (n : Int)) : c ≠ UInt8.ofNat n ∨ 256 ≤ n := by
  by_cases h2 : 256 ≤ n
  · exact .inr h2
  · exact .inl fun e => h (by rw [e, UInt8.toNat_ofNat']; omega)
theorem at_byte {s : ByteArray} {k : Nat} (h : k < s.size) : s.data.toList.drop k = s[k] :: s.data.toList.drop (k + 1) := at_cons (byte_get s k h)

end Go.Proofs.YtehffmcfmdjknaaGreatDoor.Jdec
