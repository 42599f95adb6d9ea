/- tree.plain of whatever is right. -/
import Derived.Test.YtehffmcfmdjknaaGreatDoorJenH
namespace Go.Proofs.YtehffmcfmdjknaaGreatDoor.Jdec
open Go.RowKit Go.Proofs.YtehffmcfmdjknaaGreatDoor.Strs
set_option linter.unusedVariables false
set_option linter.unusedSimpArgs false
set_option maxRecDepth 100000

theorem plain_any (k : Int) (is ng : Bool) (d : ByteArray) (e : Int) (s : ByteArray) (ks : List ByteArray) (n : Nat) (O : OwnQ k is ng d e s ks n) (hs : s.size ≤ 2000) (hks : ks.length ≤ 3000) (hz : ∀ x ∈ ks, x.size ≤ 2000) (ka va : Option Addr) (kc vc : Nat) (A : Nat → Prop) (w : World) (T : Utf.Sizes w) (ht : IsTexts w A ka ks) :
    Calls Tryz.prog 56 #[(Raw.mk k is ng d e s ka ks.length kc va n vc).val] w fun e w' => e = .returned (.bool true) ∧ Below w.heap.size w w' := by
  obtain ⟨k1, k6, hi, hnum, htx, hkids, hnk, hr, hv, hb, hw, hap⟩ := O
  rcases (show k = 1 ∨ k = 2 ∨ k = 3 ∨ k = 4 ∨ k = 5 ∨ k = 6 by omega) with rfl | rfl | rfl | rfl | rfl | rfl
  · obtain ⟨rfl, rfl, rfl⟩ := hnum (by decide)
    obtain rfl := hi (by decide)
    obtain rfl := htx (by decide)
    obtain rfl := hkids (by decide)
    obtain rfl := hnk (by decide)
    exact plain_k1 ka va kc vc A w T
  · obtain ⟨rfl, rfl, rfl⟩ := hnum (by decide)
    obtain rfl := htx (by decide)
    obtain rfl := hkids (by decide)
    obtain rfl := hnk (by decide)
    exact plain_k2 ka va kc vc A w T is
  · obtain rfl := hi (by decide)
    obtain rfl := htx (by decide)
    obtain rfl := hkids (by decide)
    obtain rfl := hnk (by decide)
    exact plain_k3 ka va kc vc A w T ng d e hr
  · obtain ⟨rfl, rfl, rfl⟩ := hnum (by decide)
    obtain rfl := hi (by decide)
    obtain rfl := hkids (by decide)
    obtain rfl := hnk (by decide)
    exact plain_k4 ka va kc vc A w T s hv (by omega)
  · obtain ⟨rfl, rfl, rfl⟩ := hnum (by decide)
    obtain rfl := hi (by decide)
    obtain rfl := htx (by decide)
    obtain rfl := hnk (by decide)
    exact plain_k5 ka va kc vc A w T n
  · obtain ⟨rfl, rfl, rfl⟩ := hnum (by decide)
    obtain rfl := hi (by decide)
    obtain rfl := htx (by decide)
    obtain rfl := hb rfl
    exact plain_k6 ka va kc vc A w T ks ht hks hz hw hap
end Go.Proofs.YtehffmcfmdjknaaGreatDoor.Jdec
