/- tabulariumref08.whole, Right of any value. -/
import Derived.Test.YtehffmcfmdjknaaGreatDoorJenB
namespace Go.Proofs.YtehffmcfmdjknaaGreatDoor.Jdec
open Go.RowKit Go.Proofs.YtehffmcfmdjknaaGreatDoor.Strs
set_option linter.unusedVariables false
set_option linter.unusedSimpArgs false
set_option maxRecDepth 100000

/-- Right, all of it. -/
inductive GoodQ : JV → Prop where
  | mk (k : Int) (i n : Bool) (d : ByteArray) (e : Int) (s : ByteArray) (ks : List ByteArray) (vs : List JV) : OwnQ k i n d e s ks vs.length → (∀ j (h : j < vs.length), GoodQ vs[j]) → GoodQ (.mk k i n d e s ks vs)
theorem BPost.to {P : Prop} {w : World} {x : Ending} {w' : World} (h : BPost P w x w') : ∃ b, x = .returned (.bool b) ∧ (b = true → P) ∧ Below w.heap.size w w' := h

theorem held_small {N : Nat} {t : JV} (h : Held N t) : Small N t := by
  induction h with
  | mk k i n d e s ks vs h1 h2 h3 h4 h5 h6 ih => exact .mk k i n d e s ks vs h3 h4 ih

end Go.Proofs.YtehffmcfmdjknaaGreatDoor.Jdec
