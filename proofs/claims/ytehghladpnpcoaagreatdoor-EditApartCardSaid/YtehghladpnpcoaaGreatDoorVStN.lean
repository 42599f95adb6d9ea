/- state.search. -/
import Derived.Test.YtehghladpnpcoaaGreatDoorVStJ
set_option linter.unusedVariables false
set_option linter.unusedSimpArgs false
set_option maxRecDepth 100000
set_option maxHeartbeats 16000000
namespace Go.Proofs.YtehghladpnpcoaaGreatDoor.State
open Go.RowKit Go.Shelf Go.Proofs.YtehghladpnpcoaaGreatDoor.Utf Go.Proofs.YtehghladpnpcoaaGreatDoor.Strs Go.Proofs.YtehghladpnpcoaaGreatDoor.Addr
open Go.Proofs.YtehghladpnpcoaaGreatDoor.Jdec (IsTexts Turn infoStr gb_set gb_below gb_refl)
theorem less_trans {x y z : List UInt8} (h1 : Op.bytesLess x y = true) (h2 : Op.bytesLess y z = true) : Op.bytesLess x z = true := by
 rw [bytesLess_eq, dtQ] at *
 exact List.lt_trans h1 h2
theorem less_irrefl (x : List UInt8) : Op.bytesLess x x = false := by
 rw [bytesLess_eq, dfQ]
 exact List.lt_irrefl x
def Sorted (l : List Rec) : Prop := ∀ i j (hi : i < l.length) (hj : j < l.length), i < j → Op.bytesLess (printA l[i].a) (printA l[j].a) = true
structure Place (l : List Rec) (t : List UInt8) (i : Nat) : Prop where
 n : i ≤ l.length
 lo : ∀ m (h : m < l.length), m < i → Op.bytesLess (printA l[m].a) t = true
 hi : ∀ m (h : m < l.length), i ≤ m → Op.bytesLess (printA l[m].a) t = false
theorem RecsAt.nil (w : World) (a : Option Addr) : RecsAt w a [] := ⟨.inl rfl, by simp, fun r h => by cases h⟩
def Is (l : List Rec) (t : List UInt8) (i : Nat) : Prop := ∃ h : i < l.length, printA l[i].a = t
theorem one_rec {w : World} {b : Nat} {p : At} {r : Rec} (h : w.heap[b]? = some (.cells (recArr p r) 38 (0, 0))) (hI : IsRec w (fun _ => True) p r) (hs : Small r) : RecsAt w (some ⟨b, 0, none⟩) [r] := by
 refine ⟨.inr ⟨b, 0, rfl, trivial, heap_lt h, fun _ => p, fun i hi => ?_⟩, by simp, fun x hx => by rw [List.mem_singleton.1 hx]; exact hs⟩
 obtain rfl : i = 0 := by simpa using hi
 refine ⟨fun j u hu => ?_, hI⟩
 rw [Nat.zero_mul, Nat.zero_add, cell_of h j]
 exact hu
theorem rec_ok (r : Rec) (p : At) (w : World) (h : IsRec w (fun _ => True) p r) (hs : Small r) (T : TabsA w) (b : Bool) (hb : recB r = b) : Hid (Calls Tryz.prog 14 #[.agg #[.slice p.pa r.a.path.length p.pc, .string r.a.type, .string r.a.name, .int .i64 r.a.key, .int .u64 r.a.place, .string r.a.word, .string r.prov, .string r.id, .slice p.ta r.attrs.length p.tc]] w fun e w' => e = .returned (.bool b) ∧ Below w.heap.size w w') := by
 rw [← hb]
 exact record_any r p w h hs T
def Next (l : List Rec) (t : List UInt8) (i nx : Nat) : Prop := (Is l t i ∧ nx = i + 1) ∨ (¬ Is l t i ∧ nx = i)
end Go.Proofs.YtehghladpnpcoaaGreatDoor.State
