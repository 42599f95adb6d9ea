/- jdec's table of ways; what all readers of values lean on; ends wherever the parser stands. -/
import Derived.Test.YtbfkgddhpabioaaDoorJdecC
namespace Go.Proofs.YtbfkgddhpabioaaDoor.Jdec
open Go.RowKit Go.Proofs.YtbfkgddhpabioaaDoor.Strs
set_option linter.unusedVariables false
set_option linter.unusedSimpArgs false
set_option maxRecDepth 100000

/-- With what the values of a way begin. -/
def wayS : Nat → ByteArray
  | 0 => ⟨#[34]⟩
  | 1 => ⟨#[45, 48, 49, 50, 51, 52, 53, 54, 55, 56, 57]⟩
  | 2 => ⟨#[123]⟩
  | 3 => ⟨#[91]⟩
  | 4 => ⟨#[116]⟩
  | 5 => ⟨#[102]⟩
  | _ => ⟨#[110]⟩
/-- The function that reads them. -/
def wayF : Nat → FuncId
  | 0 => 38
  | 1 => 39
  | 2 => 40
  | 3 => 41
  | 4 => 42
  | 5 => 43
  | _ => 44
def waysArr : Array Value := #[.string (wayS 0), .func (.func (wayF 0)) #[] #[], .string (wayS 1), .func (.func (wayF 1)) #[] #[], .string (wayS 2), .func (.func (wayF 2)) #[] #[], .string (wayS 3), .func (.func (wayF 3)) #[] #[],
  .string (wayS 4), .func (.func (wayF 4)) #[] #[], .string (wayS 5), .func (.func (wayF 5)) #[] #[], .string (wayS 6), .func (.func (wayF 6)) #[] #[]]
theorem ways_any (w : World) :
    Calls Tryd.prog 30 #[] w fun x w' => x = .returned (.slice (some ⟨w.heap.size, 0, none⟩) 7 7) ∧ w' = w.alloc (.cells waysArr 67) := by
  go_enter Tryd.func30, Tryd.ntmps30
  go_wp2_with fail
  go_ret
  exact ⟨rfl, rfl⟩
/-- The table, in a block of its own. -/
structure Ways (w : World) (V : Value) (P : Nat) (vb : Nat) : Prop where
  form : V = .slice (some ⟨vb, 0, none⟩) 7 7
  ne : vb ≠ P
  lt : vb < w.heap.size
  at_ : ∀ i, i < 7 → w.cell? ⟨vb, i * 2, none⟩ = some (.string (wayS i)) ∧ w.cell? ⟨vb, i * 2 + 1, none⟩ = some (.func (.func (wayF i)) #[] #[])
theorem ways_at {w : World} {b : Nat} {T : TypeId} {fr : Nat × Nat} (h : w.heap[b]? = some (.cells waysArr T fr)) : ∀ i, i < 7 → w.cell? ⟨b, i * 2, none⟩ = some (.string (wayS i)) ∧ w.cell? ⟨b, i * 2 + 1, none⟩ = some (.func (.func (wayF i)) #[] #[]) := by
  intro i hi
  rw [cell_of h, cell_of h]
  match i, hi with
  | 0, _ => exact ⟨rfl, rfl⟩
  | 1, _ => exact ⟨rfl, rfl⟩
  | 2, _ => exact ⟨rfl, rfl⟩
  | 3, _ => exact ⟨rfl, rfl⟩
  | 4, _ => exact ⟨rfl, rfl⟩
  | 5, _ => exact ⟨rfl, rfl⟩
  | 6, _ => exact ⟨rfl, rfl⟩
/-- What the readers of values lean on. -/
structure Env (w : World) (P : Nat) (V : Value) : Prop where
  z : Utf.Sizes w
  m : Num.Steps w
  nz : 3 ≠ P
  nm : 0 ≠ P
  v : ∃ vb, Ways w V P vb
theorem Env.kept {w w' : World} {P : Nat} {V : Value} (h : Env w P V) (g : w.grownBy w' (some P)) : Env w' P V := by
  obtain ⟨vb, hv⟩ := h.v
  have hb : w'.heap[vb]? = w.heap[vb]? := g.block vb hv.lt (by simpa using hv.ne)
  exact ⟨h.z.kept (g.block _ h.z.lt (by simpa using h.nz)), h.m.kept (g.block _ h.m.lt (by simpa using h.nm)), h.nz, h.nm, vb,
    hv.form, hv.ne, Nat.lt_of_lt_of_le hv.lt g.size, fun i hi => ⟨(World.cell?_of_block hb).trans (hv.at_ i hi).1, (World.cell?_of_block hb).trans (hv.at_ i hi).2⟩⟩

/-- The parser stands at a place, or has met an error. -/
def SAt (P : Nat) (s : ByteArray) (V : Value) (w : World) : Except Er Nat → Prop
  | .ok q => q ≤ s.size ∧ Psr w P s q V 0 0
  | .error y => y.2 ≠ 0 ∧ ∃ q, q ≤ s.size ∧ Psr w P s q V y.1 y.2
theorem SAt.kept {P : Nat} {s : ByteArray} {V : Value} {w w' : World} {r : Except Er Nat} {b : Option Nat} (h : SAt P s V w r) (g : w.grownBy w' b) (hb : some P ≠ b) : SAt P s V w' r := by
  cases r with
  | ok q => exact ⟨h.1, h.2.kept g hb⟩
  | error y => obtain ⟨h0, q, h1, h2⟩ := h; exact ⟨h0, q, h1, h2.kept g hb⟩
/-- On, unless an error was met. -/
def onE {α : Type} (r : Except Er Nat) (f : Nat → Except Er α) : Except Er α :=
  match r with
  | .ok q => f q
  | .error y => .error y
theorem SAt.state {P : Nat} {s : ByteArray} {V : Value} {w : World} {r : Except Er Nat} (h : SAt P s V w r) :
    ∃ q b e, q ≤ s.size ∧ Psr w P s q V b e ∧ ((e = 0 ∧ b = 0 ∧ r = .ok q) ∨ (e ≠ 0 ∧ r = .error (b, e))) := by
  cases r with
  | ok q => exact ⟨q, 0, 0, h.1, h.2, .inl ⟨rfl, rfl, rfl⟩⟩
  | error y => obtain ⟨h0, q, h1, h2⟩ := h; exact ⟨q, y.1, y.2, h1, h2, .inr ⟨h0, rfl⟩⟩
theorem ends_all (P : Nat) (s : ByteArray) (V : Value) (c : UInt8) (w : World) (r : Except Er Nat) (hs : s.size ≤ 1099511627776) (h : SAt P s V w r) :
    Calls Tryd.prog 62 #[.pointer (some ⟨P, 0, none⟩), .int .u8 c.toNat] w fun x w' => ∃ g, x = .returned (.bool g) ∧ w.grownBy w' (some P) ∧ EndsAt P s V g w' (onE r (ends s.data.toList c)) := by
  cases r with
  | ok q => exact ends_any P s q V c w hs h.1 h.2
  | error y =>
    obtain ⟨h0, q, h1, h2⟩ := h
    refine (ends_err P s q V y.1 y.2 c w hs h1 h0 h2).mono ?_
    rintro x w' ⟨rfl, g, q', h3, h4⟩
    exact ⟨false, rfl, g, rfl, q', h3, h4⟩
theorem blanks_all (P : Nat) (s : ByteArray) (V : Value) (w : World) (r : Except Er Nat) (hs : s.size ≤ 1099511627776) (h : SAt P s V w r) :
    Calls Tryd.prog 31 #[.pointer (some ⟨P, 0, none⟩)] w fun x w' => x = .returned (.tuple #[]) ∧ w.grownBy w' (some P) ∧ SAt P s V w' (onE r (fun q => .ok (skip s.data.toList q))) := by
  have hl : s.data.toList.length = s.size := by simp
  obtain ⟨q, b, e, h1, h2, h3⟩ := h.state
  refine (blanks_any P s q V b e w hs h1 h2).mono ?_
  rintro x w' ⟨rfl, hp, g⟩
  have hq := skip_le s.data.toList q (by omega)
  rw [hl] at hq
  refine ⟨rfl, g, ?_⟩
  rcases h3 with ⟨rfl, rfl, rfl⟩ | ⟨he, rfl⟩
  · exact ⟨hq, hp⟩
  · exact ⟨he, _, hq, hp⟩
/-- A byte that must be there. -/
def must (l : List UInt8) (c : UInt8) (q : Nat) : Except Er Nat := if l[q]? = some c then .ok (q + 1) else .error (here l q)
theorem is_all (P : Nat) (s : ByteArray) (V : Value) (c : UInt8) (w : World) (r : Except Er Nat) (hs : s.size ≤ 1099511627776) (h : SAt P s V w r) :
    Calls Tryd.prog 60 #[.pointer (some ⟨P, 0, none⟩), .int .u8 c.toNat] w fun x w' => ∃ g, x = .returned (.bool g) ∧ w.grownBy w' (some P) ∧
      ((g = true ∧ ∃ q, r = .ok q ∧ s.data.toList[q]? = some c ∧ SAt P s V w' (.ok (q + 1))) ∨ (g = false ∧ SAt P s V w' r ∧ ∀ q, r = .ok q → s.data.toList[q]? ≠ some c)) := by
  have hl : s.data.toList.length = s.size := by simp
  obtain ⟨q, b, e, h1, h2, h3⟩ := h.state
  refine (is_any P s q V b e c w hs h1 h2).mono ?_
  rintro x w' ⟨rfl, hp, g⟩
  refine ⟨_, rfl, g, ?_⟩
  rcases h3 with ⟨rfl, rfl, rfl⟩ | ⟨he, rfl⟩
  · by_cases hc : s.data.toList[q]? = some c
    · have hB : isB s.data.toList q 0 c = true := by rw [isB, decide_eq_true_eq]; exact ⟨rfl, hc⟩
      rw [hB, if_pos rfl] at hp
      exact .inl ⟨hB, q, rfl, hc, by have := get_lt hc; rw [hl] at this; exact this, hp⟩
    · have hB : isB s.data.toList q 0 c = false := by rw [isB, decide_eq_false_iff_not]; exact fun h => hc h.2
      rw [hB] at hp
      exact .inr ⟨hB, ⟨h1, hp⟩, fun q' hq' => by injection hq' with hq'; rw [← hq']; exact hc⟩
  · have hB : isB s.data.toList q e c = false := by rw [isB, decide_eq_false_iff_not]; exact fun h => he h.1
    rw [hB] at hp
    exact .inr ⟨hB, ⟨he, q, h1, hp⟩, fun q' hq' => by cases hq'⟩
theorem wrong_all (P : Nat) (s : ByteArray) (V : Value) (w : World) (r : Except Er Nat) (h : SAt P s V w r) :
    Calls Tryd.prog 46 #[.pointer (some ⟨P, 0, none⟩)] w fun x w' => x = .returned (.tuple #[]) ∧ w.grownBy w' (some P) ∧ SAt P s V w' (onE r (fun q => .error (here s.data.toList q))) := by
  have hl : s.data.toList.length = s.size := by simp
  obtain ⟨q, b, e, h1, h2, h3⟩ := h.state
  refine (wrong_any P s q V b e w h2).mono ?_
  rintro x w' ⟨rfl, hp, g⟩
  refine ⟨rfl, g, ?_⟩
  rcases h3 with ⟨rfl, rfl, rfl⟩ | ⟨he, rfl⟩
  · exact ⟨(here_ok s.data.toList q (by omega)).2, q, h1, hp⟩
  · rw [failB, if_neg he, failE, if_neg he] at hp
    exact ⟨he, q, h1, hp⟩
end Go.Proofs.YtbfkgddhpabioaaDoor.Jdec
