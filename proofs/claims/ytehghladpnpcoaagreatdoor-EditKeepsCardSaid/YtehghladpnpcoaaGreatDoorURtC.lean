/- How deep brackets stand, in plain Lean; and how deep what is read is. -/
import Derived.Test.YtehghladpnpcoaaGreatDoorUJdecU
import Derived.Test.YtehghladpnpcoaaGreatDoorURefD
import Derived.Test.YtehghladpnpcoaaGreatDoorUJenF
import Derived.Laws.StructEq
import Derived.Lib.Bytealg
import Derived.Lib.LaidTab
import Derived.Lib.ItoaLen
import Derived.Lib.Repeat
import Derived.Shelf.Unicode.PredsPay
set_option linter.unusedVariables false
set_option linter.unusedSimpArgs false
set_option maxRecDepth 100000
namespace Go.Proofs.YtehghladpnpcoaaGreatDoor.Jdec
end Go.Proofs.YtehghladpnpcoaaGreatDoor.Jdec
namespace Go.Proofs.YtehghladpnpcoaaGreatDoor.Utf
open Quote
inductive Txt : List UInt8 -> Prop where
 | nil : Txt []
 | scal (c : Nat) (l : List UInt8) : scalarB c = true -> Txt l -> Txt (put c ++ l)
end Go.Proofs.YtehghladpnpcoaaGreatDoor.Utf
namespace Go.Proofs.YtehghladpnpcoaaGreatDoor.Jdec
open Utf (Txt)
structure OwnP (N : Nat) (k : Int) (is neg : Bool) (dig : ByteArray) (exp : Int) (str : ByteArray) (keys : List ByteArray) (n : Nat) : Prop where
 k1 : 1 <= k
 k6 : k <= 6
 is : k ≠ 2 -> is = false
 num : k ≠ 3 -> neg = false /\ dig = ⟨#[]⟩ /\ exp = 0
 text : k ≠ 4 -> str = ⟨#[]⟩
 kids : k < 5 -> n = 0
 noKeys : k ≠ 6 -> keys = []
 right : Num.right neg dig.data.toList exp = true
 valid : Txt str.data.toList
 size : str.size <= N
 both : k = 6 -> keys.length = n
 words : ∀ x ∈ keys, Txt x.data.toList /\ x.size <= N
 apart : keys.Nodup
inductive Good (N : Nat) : JV -> Prop where
 | mk (k : Int) (i n : Bool) (d : ByteArray) (e : Int) (s : ByteArray) (ks : List ByteArray) (vs : List JV) : OwnP N k i n d e s ks vs.length -> (∀ j (h : j < vs.length), Good N vs[j]) -> Good N (.mk k i n d e s ks vs)
open Go.RowKit Strs
def Pow10 (w : World) : Prop := Lib.TabIs Tryz.prog w "internal/strconv.uint64pow10" .u64 Lib.pow10Tab
theorem Pow10.stays {w w' : World} (T : Pow10 w) (h : Below w.heap.size w w') : Pow10 w' := TabIs_below (g := 2) (by kernel_rfl) T h
def colonP (wd : Bool) : List UInt8 := if wd then [58, 32] else [58]
def keyP (wd obj : Bool) (ks : List ByteArray) (i : Nat) : List UInt8 := if obj then Quote.qprint (ks.getD i ⟨#[]⟩).data.toList ++ colonP wd else []
end Go.Proofs.YtehghladpnpcoaaGreatDoor.Jdec
namespace Go.Proofs.YtehghladpnpcoaaGreatDoor.Quote
open Utf
end Go.Proofs.YtehghladpnpcoaaGreatDoor.Quote
namespace Go.Proofs.YtehghladpnpcoaaGreatDoor.Num
open Go.Lib (decDigits)
end Go.Proofs.YtehghladpnpcoaaGreatDoor.Num
namespace Go.Proofs.YtehghladpnpcoaaGreatDoor.Jdec
end Go.Proofs.YtehghladpnpcoaaGreatDoor.Jdec
namespace Go.Proofs.YtehghladpnpcoaaGreatDoor.Num
end Go.Proofs.YtehghladpnpcoaaGreatDoor.Num
namespace Go.Proofs.YtehghladpnpcoaaGreatDoor.Jdec
end Go.Proofs.YtehghladpnpcoaaGreatDoor.Jdec
