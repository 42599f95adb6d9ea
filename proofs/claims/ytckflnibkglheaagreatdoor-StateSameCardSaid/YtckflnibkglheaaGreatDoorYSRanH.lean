/- A region that draws its order, in a round of a range over a function: walked as outside of one. -/
import Derived.Deep.RegionHeld3
import Derived.OrdersIn
import Derived.ControlIn
import Derived.RangeFuncCalls
namespace Go.Proofs.YtckflnibkglheaaGreatDoor.Ran
open Go
set_option linter.unusedVariables false
section
variable {P : Program} {ops : Array Oper} {Q : Exit → Act → World → Prop}
theorem rowsIn_wide {n : Nat} {row : String} {args : Array Value} {w : World} {R : Value → World → Prop} (h : Rows P row args w R) : RowsIn Fence.wide n P row args w R :=
 fun c cs _ => let ⟨v, w', r, s⟩ := h c cs; ⟨v, w', r, stepsIn_wide.2 s⟩
theorem wpOp_round {l n : Nat} {i : Nat} {K K' : Act → World → Prop} {a : Act} {w : World} (hL : ¬ LetsOut Q) (hd : ∀ (o : Oper), ops[i]? = some o → ∀ c, o.op ≠ .defer c) (hK : ∀ a w, K a w → K' a w) (h : wpOp P ops Q i K a w) :
  wpOpIn (Fence.wide.inRound l) n P ops Q i K' a w := by
 unfold wpOp at h
 unfold wpOpIn
 split
 ·rename_i ho
  rw [ho] at h
  exact hK _ _ h
 ·rename_i o ho
  simp only [ho] at h
  split
  ·rename_i hw
   simp only [hw, if_true] at h
   rcases h with h | h
   ·unfold Oper.wp at h
    unfold Oper.wpIn
    refine ⟨fun _ _ => trivial, ?_⟩
    rw [Oper.semAt_eq _ _ _ (hd o ho)]
    generalize (execOp a.eval o).run P w = r at *
    cases r with
    | ok x w' =>
     cases x <;> simp only [Oper.upon, Oper.uponIn] at h ⊢
     case value => exact hK _ _ h
     case skip => exact hK _ _ h
     case defer => exact hK _ _ h
     case enter => exact ⟨(fun hx => by cases hx), CallsIn.mono (CallsIn.inRound l (callsIn_wide.2 h)) (fun e w'' he => by cases e <;> first | exact hK _ _ he | exact he)⟩
     case row => exact ⟨(fun hx => by cases hx), RowsIn.mono (R := fun v w'' => K (a.put o.dst v) w'') (F := Fence.wide.inRound l) (rowsIn_wide h) (fun _ _ he => hK _ _ he)⟩
    | halt x w' => cases x <;> simp only [Oper.upon, Oper.uponIn] at h ⊢ <;> exact h
   ·exact absurd h.2 hL
  ·rename_i hw
   simp only [hw] at h
   exact ⟨fun _ _ => trivial, hK _ _ h⟩
theorem wpAny_round {l n : Nat} {md : Region.Mode} (hL : ¬ LetsOut Q) (hd : ∀ (i : Nat) (o : Oper), ops[i]? = some o → ∀ c, o.op ≠ .defer c) : ∀ (fuel : Nat) (listed : Array Bool) (a : Act) (w : World), wpAny P md ops Q fuel listed a w → wpAnyIn (Fence.wide.inRound l) n P md ops Q fuel listed a w
 | 0, _, _, _, h => h
 | fuel + 1, _, _, _, h => ⟨h.1, fun i hi => wpOp_round hL (hd i) (fun a' w' h' => wpAny_round hL hd fuel _ a' w' h') (h.2 i hi)⟩
def noDefer (ops : Array Oper) : Bool := ops.all fun o => match o.op with | .defer _ => false | _ => true
theorem noDefer_spec (h : noDefer ops = true) (i : Nat) (o : Oper) (ho : ops[i]? = some o) (c : Call) : o.op ≠ .defer c := by
 intro e
 have h1 : (match o.op with | .defer _ => false | _ => true) = true := (Array.all_eq_true'.1 h) o (Array.mem_of_getElem? ho)
 rw [e] at h1
 cases h1
/-- The beginning: from the world behind the draw; what S speaks of is kept. -/
theorem wpIn_region_held_drew {S : World → Prop} {l n : Nat} {id : Nat} {a : Act} {w : World} (hL : ¬ LetsOut Q) (hm : P.follows .mixedOrders = true) (hd : noDefer ops = true) (hS : S w.drew)
  (h : S w.drew → wpAnyH P .any ops Q S ops.size (Array.replicate ops.size false) a w.drew) : (Code.region id ops true).wpIn (Fence.wide.inRound l) n P Q a w :=
 wpIn_region_any hm (wpAny_round hL (noDefer_spec hd) _ _ _ _ (wpAny_of_held _ _ _ _ (h hS)))
/-- Nothing but going on. -/
def calmQ (Q : Exit → Act → World → Prop) : Exit → Act → World → Prop
 | .normal, a, w => Q .normal a w
 | _, _, _ => False
theorem wp_calm {c : Code} {a : Act} {w : World} (h : c.wp P (calmQ Q) a w) : c.wp P Q a w := wpIn_wide.1 (wpIn_mono (wpIn_wide (n := 0).2 h) (fun e a w h => by cases e <;> first | exact h | exact h.elim))
end
end Go.Proofs.YtckflnibkglheaaGreatDoor.Ran
