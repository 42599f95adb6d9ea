/- jdec's table of ways; what all readers of values lean on; ends wherever the parser stands. -/
import Derived.Test.YtehffmcfmdjknaaGreatDoorJdecE
import Derived.Deep.AppendLies
import Derived.Deep.RegionLaw
import Derived.Maps.OwnSet
import Derived.Maps.OwnOps
namespace Go.Proofs.YtehffmcfmdjknaaGreatDoor.Jdec
open Go.RowKit Go.Proofs.YtehffmcfmdjknaaGreatDoor.Strs
set_option linter.unusedVariables false
set_option linter.unusedSimpArgs false
set_option maxRecDepth 100000

/-- With what the values of a way begin. -/
def wayS : Nat → ByteArray
  | 0 => ⟨#[34]⟩
  | 1 => ⟨#[45, 48, 49, 50, 51, 52, 53, 54, 55, 56, 57]⟩
  | 2 => ⟨#[123]⟩
  | 3 => ⟨#[91]⟩
  | 4 => ⟨#[116]⟩
  | 5 => ⟨#[102]⟩
  | _ => ⟨#[110]⟩
/-- The function that reads them. -/
def wayF : Nat → FuncId
  | 0 => 44
  | 1 => 45
  | 2 => 46
  | 3 => 47
  | 4 => 48
  | 5 => 49
  | _ => 50
def waysArr : Array Value := #[.string (wayS 0), .func (.func (wayF 0)) #[] #[], .string (wayS 1), .func (.func (wayF 1)) #[] #[], .string (wayS 2), .func (.func (wayF 2)) #[] #[], .string (wayS 3), .func (.func (wayF 3)) #[] #[],
  .string (wayS 4), .func (.func (wayF 4)) #[] #[], .string (wayS 5), .func (.func (wayF 5)) #[] #[], .string (wayS 6), .func (.func (wayF 6)) #[] #[]]
theorem ways_any (w : World) :
    Calls Tryz.prog 28 #[] w fun x w' => x = .returned (.slice (some ⟨w.heap.size, 0, none⟩) 7 7) ∧ w' = w.alloc (.cells waysArr 87) := by
  go_enter Tryz.func28, Tryz.ntmps28
  go_wp2_with fail
  go_ret
  exact ⟨rfl, rfl⟩
/-- The table, in a block of its own. -/
structure Ways (w : World) (V : Value) (P : Nat) (vb : Nat) : Prop where
  form : V = .slice (some ⟨vb, 0, none⟩) 7 7
  ne : vb ≠ P
  lt : vb < w.heap.size
  at_ : ∀ i, i < 7 → w.cell? ⟨vb, i * 2, none⟩ = some (.string (wayS i)) ∧ w.cell? ⟨vb, i * 2 + 1, none⟩ = some (.func (.func (wayF i)) #[] #[])
theorem ways_at {w : World} {b : Nat} {T : TypeId} {fr : Nat × Nat} (h : w.heap[b]? = some (.cells waysArr T fr)) : ∀ i, i < 7 → w.cell? ⟨b, i * 2, none⟩ = some (.string (wayS i)) ∧ w.cell? ⟨b, i * 2 + 1, none⟩ = some (.func (.func (wayF i)) #[] #[]) := by
  intro i hi
  rw [cell_of h, cell_of h]
  match i, hi with
  | 0, _ => exact ⟨rfl, rfl⟩
  | 1, _ => exact ⟨rfl, rfl⟩
  | 2, _ => exact ⟨rfl, rfl⟩
  | 3, _ => exact ⟨rfl, rfl⟩
  | 4, _ => exact ⟨rfl, rfl⟩
  | 5, _ => exact ⟨rfl, rfl⟩
  | 6, _ => exact ⟨rfl, rfl⟩
/-- What the readers of values lean on. -/
structure Env (w : World) (P : Nat) (V : Value) : Prop where
  z : Utf.Sizes w
  m : Num.Steps w
  nz : 2 ≠ P
  nm : 0 ≠ P
  v : ∃ vb, Ways w V P vb
theorem Env.kept {w w' : World} {P : Nat} {V : Value} (h : Env w P V) (g : w.grownBy w' (some P)) : Env w' P V := by
  obtain ⟨vb, hv⟩ := h.v
  have hb : w'.heap[vb]? = w.heap[vb]? := g.block vb hv.lt (by simpa using hv.ne)
  exact ⟨h.z.kept (g.block _ h.z.lt (by simpa using h.nz)), h.m.kept (g.block _ h.m.lt (by simpa using h.nm)), h.nz, h.nm, vb,
    hv.form, hv.ne, Nat.lt_of_lt_of_le hv.lt g.size, fun i hi => ⟨(World.cell?_of_block hb).trans (hv.at_ i hi).1, (World.cell?_of_block hb).trans (hv.at_ i hi).2⟩⟩

/-- The parser stands at a place, or has met an error. -/
def SAt (P : Nat) (s : ByteArray) (V : Value) (w : World) : Except Er Nat → Prop
  | .ok q => q ≤ s.size ∧ Psr w P s q V 0 0
  | .error y => y.2 ≠ 0 ∧ ∃ q, q ≤ s.size ∧ Psr w P s q V y.1 y.2
theorem SAt.kept {P : Nat} {s : ByteArray} {V : Value} {w w' : World} {r : Except Er Nat} {b : Option Nat} (h : SAt P s V w r) (g : w.grownBy w' b) (hb : some P ≠ b) : SAt P s V w' r := by
  cases r with
  | ok q => exact ⟨h.1, h.2.kept g hb⟩
  | error y => obtain ⟨h0, q, h1, h2⟩ := h; exact ⟨h0, q, h1, h2.kept g hb⟩
/-- On, unless an error was met. -/
def onE {α : Type} (r : Except Er Nat) (f : Nat → Except Er α) : Except Er α :=
  match r with
  | .ok q => f q
  | .error y => .error y
theorem SAt.state {P : Nat} {s : ByteArray} {V : Value} {w : World} {r : Except Er Nat} (h : SAt P s V w r) :
    ∃ q b e, q ≤ s.size ∧ Psr w P s q V b e ∧ ((e = 0 ∧ b = 0 ∧ r = .ok q) ∨ (e ≠ 0 ∧ r = .error (b, e))) := by
  cases r with
  | ok q => exact ⟨q, 0, 0, h.1, h.2, .inl ⟨rfl, rfl, rfl⟩⟩
  | error y => obtain ⟨h0, q, h1, h2⟩ := h; exact ⟨q, y.1, y.2, h1, h2, .inr ⟨h0, rfl⟩⟩
theorem ends_all (P : Nat) (s : ByteArray) (V : Value) (c : UInt8) (w : World) (r : Except Er Nat) (hs : s.size ≤ 1099511627776) (h : SAt P s V w r) :
    Calls Tryz.prog 74 #[.pointer (some ⟨P, 0, none⟩), .int .u8 c.toNat] w fun x w' => ∃ g, x = .returned (.bool g) ∧ w.grownBy w' (some P) ∧ EndsAt P s V g w' (onE r (ends s.data.toList c)) := by
  cases r with
  | ok q => exact ends_any P s q V c w hs h.1 h.2
  | error y =>
    obtain ⟨h0, q, h1, h2⟩ := h
    refine (ends_err P s q V y.1 y.2 c w hs h1 h0 h2).mono ?_
    rintro x w' ⟨rfl, g, q', h3, h4⟩
    exact ⟨false, rfl, g, rfl, q', h3, h4⟩
theorem blanks_all (P : Nat) (s : ByteArray) (V : Value) (w : World) (r : Except Er Nat) (hs : s.size ≤ 1099511627776) (h : SAt P s V w r) :
    Calls Tryz.prog 29 #[.pointer (some ⟨P, 0, none⟩)] w fun x w' => x = .returned (.tuple #[]) ∧ w.grownBy w' (some P) ∧ SAt P s V w' (onE r (fun q => .ok (skip s.data.toList q))) := by
  have hl : s.data.toList.length = s.size := by simp
  obtain ⟨q, b, e, h1, h2, h3⟩ := h.state
  refine (blanks_any P s q V b e w hs h1 h2).mono ?_
  rintro x w' ⟨rfl, hp, g⟩
  have hq := skip_le s.data.toList q (by omega)
  rw [hl] at hq
  refine ⟨rfl, g, ?_⟩
  rcases h3 with ⟨rfl, rfl, rfl⟩ | ⟨he, rfl⟩
  · exact ⟨hq, hp⟩
  · exact ⟨he, _, hq, hp⟩
/-- A byte that must be there. -/
def must (l : List UInt8) (c : UInt8) (q : Nat) : Except Er Nat := if l[q]? = some c then .ok (q + 1) else .error (here l q)
theorem is_all (P : Nat) (s : ByteArray) (V : Value) (c : UInt8) (w : World) (r : Except Er Nat) (hs : s.size ≤ 1099511627776) (h : SAt P s V w r) :
    Calls Tryz.prog 72 #[.pointer (some ⟨P, 0, none⟩), .int .u8 c.toNat] w fun x w' => ∃ g, x = .returned (.bool g) ∧ w.grownBy w' (some P) ∧
      ((g = true ∧ ∃ q, r = .ok q ∧ s.data.toList[q]? = some c ∧ SAt P s V w' (.ok (q + 1))) ∨ (g = false ∧ SAt P s V w' r ∧ ∀ q, r = .ok q → s.data.toList[q]? ≠ some c)) := by
  have hl : s.data.toList.length = s.size := by simp
  obtain ⟨q, b, e, h1, h2, h3⟩ := h.state
  refine (is_any P s q V b e c w hs h1 h2).mono ?_
  rintro x w' ⟨rfl, hp, g⟩
  refine ⟨_, rfl, g, ?_⟩
  rcases h3 with ⟨rfl, rfl, rfl⟩ | ⟨he, rfl⟩
  · by_cases hc : s.data.toList[q]? = some c
    · have hB : isB s.data.toList q 0 c = true := by rw [isB, decide_eq_true_eq]; exact ⟨rfl, hc⟩
      rw [hB, if_pos rfl] at hp
      exact .inl ⟨hB, q, rfl, hc, by have := get_lt hc; rw [hl] at this; exact this, hp⟩
    · have hB : isB s.data.toList q 0 c = false := by rw [isB, decide_eq_false_iff_not]; exact fun h => hc h.2
      rw [hB] at hp
      exact .inr ⟨hB, ⟨h1, hp⟩, fun q' hq' => by injection hq' with hq'; rw [← hq']; exact hc⟩
  · have hB : isB s.data.toList q e c = false := by rw [isB, decide_eq_false_iff_not]; exact fun h => he h.1
    rw [hB] at hp
    exact .inr ⟨hB, ⟨he, q, h1, hp⟩, fun q' hq' => by cases hq'⟩
theorem wrong_all (P : Nat) (s : ByteArray) (V : Value) (w : World) (r : Except Er Nat) (h : SAt P s V w r) :
    Calls Tryz.prog 52 #[.pointer (some ⟨P, 0, none⟩)] w fun x w' => x = .returned (.tuple #[]) ∧ w.grownBy w' (some P) ∧ SAt P s V w' (onE r (fun q => .error (here s.data.toList q))) := by
  have hl : s.data.toList.length = s.size := by simp
  obtain ⟨q, b, e, h1, h2, h3⟩ := h.state
  refine (wrong_any P s q V b e w h2).mono ?_
  rintro x w' ⟨rfl, hp, g⟩
  refine ⟨rfl, g, ?_⟩
  rcases h3 with ⟨rfl, rfl, rfl⟩ | ⟨he, rfl⟩
  · exact ⟨(here_ok s.data.toList q (by omega)).2, q, h1, hp⟩
  · rw [failB, if_neg he, failE, if_neg he] at hp
    exact ⟨he, q, h1, hp⟩
end Go.Proofs.YtehffmcfmdjknaaGreatDoor.Jdec
/- jdec's parser: lists. -/
namespace Go.Proofs.YtehffmcfmdjknaaGreatDoor.Jdec
open Go.RowKit Go.Proofs.YtehffmcfmdjknaaGreatDoor.Strs
set_option linter.unusedVariables false
set_option linter.unusedSimpArgs false
set_option maxRecDepth 100000

theorem infoKid : (Tryz.prog.info? 29).map (fun i => (i.zero, i.size, i.bytes)) = some (some (.agg #[.int .i64 0, .bool false, .bool false, .string ⟨#[]⟩, .int .i64 0, .string ⟨#[]⟩, .slice none 0 0, .slice none 0 0]), 8, 112) := by kernel_rfl
/-- The value that lies so deep is read so. -/
def ValC (P : Nat) (s : ByteArray) (V : Value) (dp : Int) (val : Val) : Prop :=
  ∀ (k : Nat) (w : World), k ≤ s.size → Psr w P s k V 0 0 → Env w P V → Calls Tryz.prog 30 #[.pointer (some ⟨P, 0, none⟩), .int .i64 dp] w (VPost P s V (val k) w)
/-- The list's own state. -/
def LSt (P : Nat) (s : ByteArray) (V : Value) (w : World) (val : Val) (acc : List JV) (RES : Except Er (List JV × Nat)) : Prop :=
  (∃ k n, k ≤ s.size ∧ acc.length ≤ k ∧ Psr w P s k V 0 0 ∧ s.size - k < n ∧ RES = items s.data.toList val n k acc) ∨ (∃ q y, q ≤ s.size ∧ Psr w P s q V y.1 y.2 ∧ y.2 ≠ 0 ∧ RES = .error y)
def lmeas (s : ByteArray) (P : Nat) (w : World) : Nat := if intOf ((w.cell? ⟨P, 4, none⟩).getD undef) = 0 then s.size + 2 - (intOf ((w.cell? ⟨P, 1, none⟩).getD undef)).toNat else 0

theorem lmeas_run {P : Nat} {s : ByteArray} {V : Value} {w : World} {k : Nat} (h : Psr w P s k V 0 0) : lmeas s P w = s.size + 2 - k := by
  unfold lmeas; rw [h.c4, h.c1]; simp [intOf]
theorem lmeas_bad {P : Nat} {s : ByteArray} {V : Value} {w : World} {k b e : Nat} (h : Psr w P s k V b e) (he : e ≠ 0) : lmeas s P w = 0 := by
  unfold lmeas; rw [h.c4]; simp [intOf, he]
/-- Where a value ends. -/
def vpos (r : Except Er (JV × Nat)) : Except Er Nat :=
  match r with
  | .ok x => .ok x.2
  | .error y => .error y
theorem vpos_at {P : Nat} {s : ByteArray} {V : Value} {w' : World} {t : JV} {val : Val} {k : Nat} (hvo : ValOk s.data.toList val) (hk : k ≤ s.size) (h : VAt P s V w' t (val k)) : SAt P s V w' (vpos (val k)) := by
  have hl : s.data.toList.length = s.size := by simp
  have f := hvo k (by omega)
  cases hv : val k with
  | ok x =>
    obtain ⟨t', q⟩ := x
    rw [hv] at h
    have := (f.ok _ hv).2
    rw [hl] at this
    exact ⟨this, h.2⟩
  | error y =>
    rw [hv] at h
    exact ⟨(f.err _ hv).2, h⟩
/-- A round of the list. -/
theorem LSt.next {P : Nat} {s : ByteArray} {V : Value} {val : Val} {kk n : Nat} {acc : List JV} {RES : Except Er (List JV × Nat)} {w' w'' : World} {t : JV} {g : Bool} (hvo : ValOk s.data.toList val) (hkk : kk ≤ s.size) (hacc : acc.length ≤ kk) (hn : s.size - kk < n)
    (hres : RES = items s.data.toList val n kk acc) (hat : VAt P s V w' t (val kk)) (he : EndsAt P s V g w'' (onE (vpos (val kk)) (ends s.data.toList 93))) :
    (g = true → ∃ q, RES = .ok (acc ++ [t], q) ∧ Psr w'' P s q V 0 0) ∧ (g = false → LSt P s V w'' val (acc ++ [t]) RES ∧ lmeas s P w'' < s.size + 2 - kk) := by
  have hl : s.data.toList.length = s.size := by simp
  have f := hvo kk (by omega)
  obtain ⟨n, rfl⟩ : ∃ m, n = m + 1 := ⟨n - 1, by omega⟩
  rw [items] at hres
  cases hv : val kk with
  | error y =>
    rw [hv] at hres he
    obtain ⟨rfl, q, hq, hp⟩ := he
    have hy := (f.err _ hv).2
    exact ⟨fun h => (by cases h), fun _ => ⟨.inr ⟨q, y, hq, hp, hy, hres⟩, by rw [lmeas_bad hp hy]; omega⟩⟩
  | ok x =>
    obtain ⟨t', q⟩ := x
    rw [hv] at hres he hat
    obtain ⟨rfl, _⟩ := hat
    have f1 := f.ok _ hv
    simp only [hl] at f1
    have f2 := ends_fits s.data.toList 93 q (by omega)
    simp only at hres
    have he : EndsAt P s V g w'' (ends s.data.toList 93 q) := he
    cases hx : ends s.data.toList 93 q with
    | error y =>
      rw [hx] at hres he
      obtain ⟨rfl, q', hq, hp⟩ := he
      have hy := (f2.err _ hx).2
      exact ⟨fun h => (by cases h), fun _ => ⟨.inr ⟨q', y, hq, hp, hy, hres⟩, by rw [lmeas_bad hp hy]; omega⟩⟩
    | ok z =>
      obtain ⟨b, r⟩ := z
      rw [hx] at hres he
      obtain ⟨rfl, hp⟩ := he
      have f3 := f2.ok _ hx
      simp only [hl] at f3
      cases g
      · refine ⟨fun h => (by cases h), fun _ => ⟨.inl ⟨r, n, by omega, ?_, hp, by omega, hres⟩, by rw [lmeas_run hp]; omega⟩⟩
        rw [List.length_append, List.length_singleton]; omega
      · exact ⟨fun _ => ⟨r, hres, hp⟩, fun h => (by cases h)⟩
def listR (r : Except Er (List JV × Nat)) : Except Er (JV × Nat) :=
  match r with
  | .error x => .error x
  | .ok (vs, r) => .ok (listOf vs, r)
theorem list_eq (l : List UInt8) (val : Val) (p : Nat) : list l val p = if l[skip l (p + 1)]? = some 93 then .ok (listOf [], skip l (p + 1) + 1) else listR (items l val (l.length + 1) (skip l (p + 1)) []) := rfl
/-- A list's words. -/
def lraw (va : Option Addr) (vn vc : Nat) : Raw := ⟨5, false, false, ⟨#[]⟩, 0, ⟨#[]⟩, none, 0, 0, va, vn, vc⟩
theorem list_is {w : World} {B : Nat} {va : Option Addr} {vc : Nat} {ts : List JV} (h : Kids w B (.slice va ts.length vc) ts) : IsV w (fun j => B ≤ j) (lraw va ts.length vc) (listOf ts) := by
  obtain ⟨_, f, h1, h2⟩ := h.isV
  exact .mk (lraw va ts.length vc) [] ts f rfl rfl (.inl rfl) h1 h2
/-- A value with its parts is told. -/
theorem full_fin {F : Func} {p : Tmp} (hr : F.results = #[.cell p 29]) {tm : Array Value} {a : Raw} {P : Nat} {s : ByteArray} {V : Value} {w w2 : World}
    (hb : w2.heap[w.heap.size]? = some (.cells a.arr 29 (0, 0))) (hp : tm.getD p undef = .pointer (some ⟨w.heap.size, 0, none⟩)) (g : w.grownBy w2 (some P)) (hP : P < w.heap.size)
    (c : Raw) (t : JV) (hi : IsV w2 (fun j => w.heap.size + 1 ≤ j) c t) (r : Except Er (JV × Nat)) (hv : VAt P s V w2 t r) :
    bodyPost Tryz.prog F (VPost P s V r w) Exit.ret { tmps := tm, defers := [] }
    ((((((((w2.setCell ⟨w.heap.size, 0, none⟩ (.int .i64 c.kind)).setCell ⟨w.heap.size, 1, none⟩ (.bool c.is)).setCell ⟨w.heap.size, 2, none⟩ (.bool c.neg)).setCell ⟨w.heap.size, 3, none⟩ (.string c.dig)).setCell ⟨w.heap.size, 4, none⟩ (.int .i64 c.exp)).setCell ⟨w.heap.size, 5, none⟩ (.string c.str)).setCell ⟨w.heap.size, 6, none⟩ (.slice c.ka c.kn c.kc)).setCell ⟨w.heap.size, 7, none⟩ (.slice c.va c.vn c.vc)) := by
  have h8 := set8 hb c
  have G8 := gb8 w2 w.heap.size (.int .i64 c.kind) (.bool c.is) (.bool c.neg) (.string c.dig) (.int .i64 c.exp) (.string c.str) (.slice c.ka c.kn c.kc) (.slice c.va c.vn c.vc)
  refine val_ret (a := c) hr h8 hp ?_
  refine ⟨_, _, rfl, hi.turn ⟨G8.size, fun b hA hlt => ⟨G8.block b hlt (fun e => by injection e with e; omega), by show w.heap.size ≤ b; omega⟩⟩, gb_new g G8 (Nat.le_refl _), hv.kept G8 (by omega)⟩
/-- What an append to the row leaves, the row's slice in a block of its own. -/
theorem kid_put {w5 w6 : World} {b : Nat} {va : Option Addr} {vc g cap : Nat} {acc : List JV} {a : Raw} {t : JV} {rs : List Raw} (o : Obj) (k1 : rs.length = acc.length)
    (k2 : w5.ownsRow (b + 1) 29 8 (.slice va acc.length vc) acc.length (rs.flatMap Raw.cells))
    (k3 : ∀ i (h : i < rs.length) (h' : i < acc.length), IsV w5 (fun j => b + 1 ≤ j ∧ some j ≠ (Value.slice va acc.length vc).ownBlock) rs[i] acc[i])
    (hiv : IsV w5 (fun j => b + 1 ≤ j ∧ some j ≠ (Value.slice va acc.length vc).ownBlock) a t)
    (hown : w6.ownsRow (b + 1) 29 8 (.slice (some ⟨g, 0, none⟩) (acc.length + 1) cap) (acc.length + 1) (rs.flatMap Raw.cells ++ a.cells)) (hgrow : (w5.alloc o).grownBy w6 (Value.slice va acc.length vc).ownBlock)
    (hat : (Value.slice va acc.length vc).ownBlock = some g ∨ g = w5.heap.size + 1) : Kids w6 (b + 1) (.slice (some ⟨g, 0, none⟩) (acc ++ [t]).length cap) (acc ++ [t]) := by
  have T : ∀ {A : Nat → Prop}, Turn w5 (w5.alloc o) A A := fun {A} => Turn.grown (World.grownBy_alloc _ _ none) (fun b _ => by simp)
  have := Kids.snoc (w := w5.alloc o) (r := a) (t := t) rs k1 (k2.alloc o) (fun i h h' => (k3 i h h').turn T) (hiv.turn T) hown hgrow (by
    rcases hat with h | h
    · left; rw [h]; rfl
    · right; rw [h]; simp [Value.ownBlock])
  rw [List.length_append]; exact this

/-- Behind the value's call. -/
theorem kid_call {wr w6 : World} {b P k : Nat} {s : ByteArray} {V : Value} {va : Option Addr} {vc : Nat} {r : Raw} {acc : List JV} {a : Raw} {t : JV} {T : TypeId} (hK : Kids wr (b + 1) (.slice va acc.length vc) acc) (hY : wr.heap[b]? = some (.cells r.arr T (0, 0)))
    (hp : Psr wr P s k V 0 0) (hiv : IsV w6 (fun j => wr.drew.heap.size ≤ j) a t) (g : wr.drew.grownBy w6 (some P)) (hP : P < b) :
    ∃ rs : List Raw, Hid (rs.length = acc.length) ∧ Hid (w6.ownsRow (b + 1) 29 8 (.slice va acc.length vc) acc.length (rs.flatMap Raw.cells)) ∧
      Hid ((∀ i (h : i < rs.length) (h' : i < acc.length), IsV w6 (fun j => b + 1 ≤ j ∧ some j ≠ (Value.slice va acc.length vc).ownBlock) rs[i] acc[i]) ∧ IsV w6 (fun j => b + 1 ≤ j ∧ some j ≠ (Value.slice va acc.length vc).ownBlock) a t) := by
  have hb : b < wr.heap.size := heap_lt hY
  have hown : ∀ j, (Value.slice va acc.length vc).ownBlock = some j → j < wr.heap.size := by
    intro j hj
    obtain ⟨rs, h1, h2, h3⟩ := hK
    exact (h2.lt j hj).2
  obtain ⟨rs, h1, h2, h3⟩ := (hK.kept (gb_drew wr 1 none) (by simp)).kept g (by intro k hk; injection hk with hk; omega)
  refine ⟨rs, h1, h2, h3, hiv.turn ⟨Nat.le_refl _, fun j hj hlt => ⟨rfl, ?_, fun e => ?_⟩⟩⟩
  · have hj : wr.heap.size ≤ j := hj
    omega
  · have hj : wr.heap.size ≤ j := hj
    have := hown j e.symm
    omega
theorem call_keeps {wr w6 : World} {b P : Nat} {r : Raw} {T : TypeId} (hY : wr.heap[b]? = some (.cells r.arr T (0, 0))) (g : wr.drew.grownBy w6 (some P)) (hP : P < b) : Hid (w6.heap[b]? = some (.cells r.arr T (0, 0))) := by
  have : w6.heap[b]? = wr.drew.heap[b]? := g.block b (heap_lt hY) (by simp; omega)
  exact this.trans hY

theorem kid_ne {w : World} {b n : Nat} {v : Value} {xs : List Value} (h : w.ownsRow (b + 1) 29 8 v n xs) : some b ≠ v.ownBlock := by
  intro e
  have := (h.lt b e.symm).1
  omega

theorem kid_far {w w' : World} {b : Nat} {x o : Obj} {row : Option Nat} (h : w.heap[b]? = some x) (hg : (w.alloc o).grownBy w' row) (hne : some b ≠ row) : Hid (w'.heap[b]? = some x) := by
  have hb := heap_lt h
  rw [Hid, hg.block b (by simp; omega) hne]
  exact heap_alloc_old h

theorem kid_below {w w' : World} {b n : Nat} {o : Obj} {v u : Value} {xs : List Value} (hg : (w.alloc o).grownBy w' v.ownBlock) (h : w.ownsRow (b + 1) 29 8 v n xs) (hb : b < w.heap.size) {j : Nat} {c : Nat} (hj : b ≤ j) : Below b w (w'.setCell ⟨j, c, none⟩ u) :=
  (((Below.refl b w).alloc (by omega) _).grown hg (by simp; omega) (fun k hk => by have := (h.lt k hk).1; omega)).setCell (p := ⟨j, c, none⟩) hj _
theorem SAt.below {P b : Nat} {s : ByteArray} {V : Value} {w w' : World} {r : Except Er Nat} (h : SAt P s V w r) (g : Below b w w') (hb : P < b) : SAt P s V w' r := by
  have k : ∀ {q x e}, Psr w P s q V x e → Psr w' P s q V x e := fun h => ⟨(g.block P hb).trans h.blk⟩
  cases r with
  | ok q => exact ⟨h.1, k h.2⟩
  | error y => obtain ⟨h0, q, h1, h2⟩ := h; exact ⟨h0, q, h1, k h2⟩

theorem gb_keeps {w w' : World} {b P : Nat} {x : Obj} (h : w.heap[b]? = some x) (g : w.grownBy w' (some P)) (hP : P < b) : Hid (w'.heap[b]? = some x) := by
  rw [Hid, g.block b (heap_lt h) (by simp; omega)]; exact h

set_option maxHeartbeats 8000000 in
theorem list_any (P : Nat) (s : ByteArray) (k : Nat) (V : Value) (dp : Nat) (val : Val) (w : World) (hs : s.size ≤ 2147483648) (hk : k < s.size) (hdp : dp ≤ 64) (h : Psr w P s k V 0 0) (E : Env w P V)
    (hval : ValC P s V ((dp : Int) + 1) val) (hvo : ValOk s.data.toList val) :
    Calls Tryz.prog 47 #[.pointer (some ⟨P, 0, none⟩), .int .i64 dp] w (VPost P s V (list s.data.toList val k) w) := by
  obtain ⟨i0, hi, hz0, hz1, hz2⟩ := info_parts infoKid
  have HI := Hid.out (p := Hid _) hi; clear hi
  have HZ := Hid.out (p := Hid _) hz0; clear hz0
  have HP : Hid (P < w.heap.size) := h.lt
  have HE := Hid.out (p := Hid _) E; clear E
  have HV : Hid (ValC P s V ((dp : Int) + 1) val) := hval
  have HVO : Hid (ValOk s.data.toList val) := hvo
  clear hval hvo
  have hl : s.data.toList.length = s.size := by simp
  obtain ⟨q0, hq0⟩ : ∃ q0, skip s.data.toList (k + 1) = q0 := ⟨_, rfl⟩
  have hqs : q0 ≤ s.size := by have := skip_le s.data.toList (k + 1) (by omega); omega
  have hbl := fun w h => blanks_any P s (k + 1) V 0 0 w (by omega) (by omega) h
  rw [hq0] at hbl
  obtain ⟨RES, hRES⟩ : ∃ RES, items s.data.toList val (s.size + 1) q0 [] = RES := ⟨_, rfl⟩
  have HL : Hid (list s.data.toList val k = if s.data.toList[q0]? = some 93 then .ok (listOf [], q0 + 1) else listR RES) := by rw [Hid, list_eq, hq0, hl, hRES]
  have HB := Hid.out (p := Hid _) hbl
  have HR := Hid.out (p := Hid _) hRES
  clear hbl hq0 hl hRES
  obtain ⟨w1, hw1, P1, G1, Z1, B1, S1⟩ := res_new w P s k V 0 0 h
  clear h
  have c1 := P1.out.c1
  have f1 := P1.out.f 1
  have hn1 : P < w1.heap.size := P1.out.lt
  have hdw : IntKind.i64.wrap ((dp : Int) + 1) = (dp : Int) + 1 := IntWalk.i64_in _ (by omega)
  go_enter Tryz.func47, Tryz.ntmps47
  go_wp2_with fail
  obtain ⟨b2, hb2⟩ : ∃ b2, w1.heap.size = b2 := ⟨_, rfl⟩
  obtain ⟨w3, hw3⟩ : ∃ w3, (w1.setCell ⟨P, 1, none⟩ (.int .i64 ((k : Int) + 1))).alloc (.cells #[.int .i64 5, .bool false, .bool false, .string ⟨#[]⟩, .int .i64 0, .string ⟨#[]⟩, .slice none 0 0, .slice none 0 0] 29) = w3 := ⟨_, rfl⟩
  have P3 : Hid (Psr w3 P s (k + 1) V 0 0) := by rw [← hw3]; exact (P1.out.set1 (k + 1)).kept (World.grownBy_alloc _ _ none) (by simp)
  have g3 : w1.grownBy w3 (some P) := by rw [← hw3]; exact (gb_set _ _ _ _).trans (World.grownBy_alloc _ _ _)
  have G3 : Hid (w.grownBy w3 (some P)) := G1.out.trans g3
  have Z3 := Hid.out (p := Hid _) (res_kept Z1.out g3 HP.out)
  have Y3 : Hid (w3.heap[b2]? = some (.cells (lraw none 0 0).arr 29 (0, 0))) := by
    have e : (w1.setCell ⟨P, 1, none⟩ (.int .i64 ((k : Int) + 1))).heap.size = w1.heap.size := by simp [World.setCell]
    rw [← hw3, ← hb2, ← e]
    exact heap_alloc_new _ _
  have hbR : b2 = w.heap.size + 1 := by rw [← hb2]; exact S1.out
  have HbR := Hid.out (p := Hid _) hbR
  rw [hw3, hb2]
  clear hw3 hb2 hbR hw1 c1 f1 hn1 g3 P1 G1 Z1 B1 S1
  refine (Calls.mono (HB.out w3 P3.out) ?_)
  rintro x w4 ⟨rfl, p4, g4⟩
  have P4 := Hid.out (p := Hid _) p4
  have G4 := Hid.out (p := Hid _) (G3.out.trans g4)
  have Z4 := Hid.out (p := Hid _) (res_kept Z3.out g4 HP.out)
  have Y4 : Hid (w4.heap[b2]? = some (.cells (lraw none 0 0).arr 29 (0, 0))) := by
    rw [Hid, g4.block _ (heap_lt Y3.out) (by have := HP.out; have := HbR.out; simp; omega)]; exact Y3.out
  clear p4 g4 P3 G3 Z3 Y3
  go_wp2_with fail
  refine (is_any P s q0 V 0 0 93 w4 (by omega) hqs P4.out).mono ?_
  rintro x w5 ⟨rfl, p5, g5⟩
  have G5 := Hid.out (p := Hid _) (G4.out.trans g5)
  have Z5 := Hid.out (p := Hid _) (res_kept Z4.out g5 HP.out)
  have Y5 : Hid (w5.heap[b2]? = some (.cells (lraw none 0 0).arr 29 (0, 0))) := by
    rw [Hid, g5.block _ (heap_lt Y4.out) (by have := HP.out; have := HbR.out; simp; omega)]; exact Y4.out
  clear g5 P4 G4 Z4 Y4
  by_cases hc : s.data.toList[q0]? = some 93
  · have hB : isB s.data.toList q0 0 93 = true := by rw [isB, decide_eq_true_eq]; exact ⟨rfl, hc⟩
    rw [hB] at p5 ⊢
    have P5 : Hid (Psr w5 P s (q0 + 1) V 0 0) := p5
    have HF : Hid (list s.data.toList val k = .ok (listOf [], q0 + 1)) := by rw [Hid, HL.out, if_pos hc]
    obtain ⟨⟨z0, z1, z2, z3, z4, z5, z6, z7⟩, y0, y1, y2, y3, y4, y5, y6, y7⟩ := val_cells Z5.out
    obtain ⟨⟨x0, x1, x2, x3, x4, x5, x6, x7⟩, _⟩ := val_cells Y5.out
    clear p5 hB hc
    go_wp2_with fail
    refine bare_fin rfl Z5.out rfl G5.out HP.out 5 false false ⟨#[]⟩ 0 ⟨#[]⟩ _ ?_
    rw [HF.out]
    exact ⟨rfl, P5.out⟩
  · have hB : isB s.data.toList q0 0 93 = false := by rw [isB, decide_eq_false_iff_not]; exact fun h => hc h.2
    rw [hB] at p5 ⊢
    have P5 : Hid (Psr w5 P s q0 V 0 0) := p5
    have HF : Hid (list s.data.toList val k = listR RES) := by rw [Hid, HL.out, if_neg hc]
    clear p5 hB hc HL
    have hKn : Hid (Kids w5 (b2 + 1) (.slice none 0 0) []) := Kids.nil _ _
    have hLn : Hid (LSt P s V w5 val [] RES) := .inl ⟨q0, s.size + 1, hqs, Nat.zero_le _, P5.out, by omega, HR.out.symm⟩
    clear P5 HR
    go_wp2_with fail
    go_loopw [] (fun wr => ∃ (va : Option Addr) (vc : Nat) (acc : List JV), Hid (wr.heap[b2]? = some (.cells (lraw va acc.length vc).arr 29 (0, 0))) ∧ Hid (Kids wr (b2 + 1) (.slice va acc.length vc) acc) ∧ Hid (wr.heap[w.heap.size]? = some (.cells Raw.zero.arr 29 (0, 0))) ∧ Hid (w.grownBy wr (some P)) ∧ Hid (LSt P s V wr val acc RES)) (fun wr => lmeas s P wr)
    case atStart => exact ⟨none, 0, [], Y5.out, hKn.out, Z5.out, G5.out, hLn.out⟩
    case round =>
      obtain ⟨va, vc, acc, hY, hK, hZ, hG, hL⟩ := hrel
      rcases hL.out with ⟨kk, n, hkk, hacc, hp, hn, hres⟩ | ⟨q, y, hq, hp, hy0, hres⟩
      · have HPs := Hid.out (p := Hid _) hp
        have HRes := Hid.out (p := Hid _) hres
        have c4 := hp.c4
        have x7 : wr.cell? ⟨b2, 7, none⟩ = some (.slice va acc.length vc) := cell_of hY.out 7
        have m7 := frozen_of hY.out 7
        have hbw : b2 < wr.heap.size := heap_lt hY.out
        have PD : Hid (Psr wr.drew P s kk V 0 0) := hp.kept (gb_drew _ 1 none) (by simp)
        have ED : Hid (Env wr.drew P V) := (HE.out.kept hG.out).kept (gb_drew _ 1 _)
        clear hp hres hL
        go_wp2_with fail
        go_region_law
          ((first
            | (refine step_append_lies _ (by rfl) _ _ _ (by rfl) (b2 + 1) 29 i0 _ 8 112 Tryz.underlying27 HI.out HZ.out hz1 hz2 rfl (by omega) (.slice va acc.length vc) acc.length (rs.flatMap Raw.cells) (by rfl) (K2.out.alloc _)
                ⟨w6.heap.size, 0, none⟩ 1 1 a.cells (by rfl) (by rfl) (World.news_of_block (cs := a.arr) (t := 29) (fr := (0, 0)) (heap_alloc_new w6 _)) (by simp [Raw.cells, Value.oneCell'])
                (by omega) (by unfold maxLen; omega) (by omega) (by simp; omega) (w6.heap.size + 1) (by simp) ?_; intro g cap w7 hown hgrow hat7 hlt7; have hne : some b2 ≠ (Value.slice va acc.length vc).ownBlock := kid_ne K2.out; have Y7 := kid_far Y6.out hgrow hne; clear x7 m7; have x7 : w7.cell? ⟨b2, 7, none⟩ = some (.slice va acc.length vc) := cell_of Y7.out 7; have m7 := frozen_of Y7.out 7)
            | (go_simp; go_at_call 30; refine (Calls.mono (HV.out kk wr.drew hkk PD.out ED.out) ?_); rintro x w6 ⟨a, t, rfl, hiv, g6, hat⟩; dsimp only [Raw.val]; obtain ⟨rs, K1, K2, K3⟩ := kid_call hK.out hY.out HPs.out hiv g6 (by have := HP.out; have := HbR.out; omega); have Y6 := call_keeps hY.out g6 (by have := HP.out; have := HbR.out; omega); have G6 : Hid (w.grownBy w6 (some P)) := (hG.out.trans (gb_drew wr 1 _)).trans g6; have HAT := Hid.out (p := Hid _) hat; have hb6 : b2 < w6.heap.size := heap_lt Y6.out; have Z6 := call_keeps hZ.out g6 HP.out; clear hiv g6 hat x7 m7; have x7 : w6.cell? ⟨b2, 7, none⟩ = some (.slice va acc.length vc) := cell_of Y6.out 7; have m7 := frozen_of Y6.out 7)))
        all_goals
          obtain ⟨w8, hw8⟩ : ∃ w8, w7.setCell ⟨b2, 7, none⟩ (.slice (some ⟨g, 0, none⟩) (acc.length + 1) cap) = w8 := ⟨_, rfl⟩
          have hPb : P < b2 := by have := HP.out; have := HbR.out; omega
          have hRb : w.heap.size < b2 := by have := HbR.out; omega
          have B8 : Below b2 w6 w8 := by
            rw [← hw8]
            exact kid_below hgrow K2.out hb6 (Nat.le_refl _)
          have K8 : Hid (Kids w8 (b2 + 1) (.slice (some ⟨g, 0, none⟩) (acc ++ [t]).length cap) (acc ++ [t])) := by
            rw [← hw8]
            exact (kid_put _ K1.out K2.out K3.out.1 K3.out.2 hown hgrow hat7).kept (gb_set _ _ _ _) (by intro k hk; injection hk with hk; omega)
          have Y8 : Hid (w8.heap[b2]? = some (.cells (lraw (some ⟨g, 0, none⟩) (acc ++ [t]).length cap).arr 29 (0, 0))) := by
            rw [Hid, ← hw8, heap_set_same Y7.out]; simp [lraw, Raw.arr]
          have Z8 : Hid (w8.heap[w.heap.size]? = some (.cells Raw.zero.arr 29 (0, 0))) := by
            rw [Hid, B8.block _ hRb]; exact Z6.out
          have G8 : Hid (w.grownBy w8 (some P)) := ⟨B8.os.trans G6.out.os, B8.tape.trans G6.out.tape, B8.output.trans G6.out.output, Nat.le_trans G6.out.size B8.size, fun j hj hne => (B8.block j (by omega)).trans (G6.out.block j hj hne)⟩
          have S8 : Hid (SAt P s V w8 (vpos (val kk))) := (vpos_at HVO.out hkk HAT.out).below B8 hPb
          have HAT2 : Hid (VAt P s V w6 t (val kk)) := HAT.out
          rw [hw8]
          clear hw8 B8 hown hgrow hat7 hlt7 hne Y7 x7 m7 K1 K2 K3 Y6 G6 Z6 HAT hb6
          go_wp2_with fail
          refine (ends_all P s V 93 w8 _ (by omega) S8.out).mono ?_
          rintro x w9 ⟨gb, rfl, g9, he⟩
          obtain ⟨hT, hF⟩ := LSt.next HVO.out hkk hacc hn HRes.out HAT2.out he
          have Y9 := gb_keeps Y8.out g9 hPb
          have Z9 := gb_keeps Z8.out g9 HP.out
          have G9 := Hid.out (p := Hid _) (G8.out.trans g9)
          have K9 : Hid (Kids w9 (b2 + 1) (.slice (some ⟨g, 0, none⟩) (acc ++ [t]).length cap) (acc ++ [t])) := K8.out.kept g9 (by intro k hk; injection hk with hk; omega)
          clear he g9 S8 K8 Y8 Z8 G8
          cases gb
          · obtain ⟨hL9, hm⟩ := hF rfl
            have HL9 := Hid.out (p := Hid _) hL9
            have HM : Hid (lmeas s P w9 < lmeas s P wr) := by rw [Hid, lmeas_run HPs.out]; exact hm
            clear hT hF hL9 hm
            go_wp2_with fail
            go_roundw
            case rel => exact ⟨some ⟨g, 0, none⟩, cap, acc ++ [t], Y9.out, K9.out, Z9.out, G9.out, HL9.out⟩
            case measure => exact HM.out
          · obtain ⟨q, hq, hp9⟩ := hT rfl
            have HF2 : Hid (list s.data.toList val k = .ok (listOf (acc ++ [t]), q)) := by rw [Hid, HF.out, hq]; rfl
            have P9 := Hid.out (p := Hid _) hp9
            clear hT hF hq hp9
            generalize acc ++ [t] = ts at *
            obtain ⟨⟨z0, z1, z2, z3, z4, z5, z6, z7⟩, y0, y1, y2, y3, y4, y5, y6, y7⟩ := val_cells Z9.out
            obtain ⟨⟨x0, x1, x2, x3, x4, x5, x6, x7⟩, _⟩ := val_cells Y9.out
            go_wp2_with fail
            refine full_fin rfl Z9.out rfl G9.out HP.out (lraw (some ⟨g, 0, none⟩) ts.length cap) (listOf ts) ((list_is K9.out).turn (Turn.mono _ (fun j hj _ => by have := HbR.out; omega))) _ ?_
            rw [HF2.out]
            exact ⟨rfl, P9.out⟩
      · have qy : ((y.2 : Int) == 0) = false := by rw [beq_eq_false_iff_ne]; omega
        have c4 := hp.c4
        have HP9 := Hid.out (p := Hid _) hp
        have HF2 : Hid (list s.data.toList val k = .error y) := by rw [Hid, HF.out, hres]; rfl
        obtain ⟨⟨z0, z1, z2, z3, z4, z5, z6, z7⟩, y0, y1, y2, y3, y4, y5, y6, y7⟩ := val_cells hZ.out
        obtain ⟨⟨x0, x1, x2, x3, x4, x5, x6, x7⟩, _⟩ := val_cells hY.out
        clear hp hres hL hy0
        go_wp2_with fail
        refine full_fin rfl hZ.out rfl hG.out HP.out (lraw va acc.length vc) (listOf acc) ((list_is hK.out).turn (Turn.mono _ (fun j hj _ => by have := HbR.out; omega))) _ ?_
        rw [HF2.out]
        exact ⟨q, hq, HP9.out⟩
end Go.Proofs.YtehffmcfmdjknaaGreatDoor.Jdec
/- jdec's parser: keys, and the map of those seen. -/
namespace Go.Proofs.YtehffmcfmdjknaaGreatDoor.Jdec
open Go.RowKit Go.Maps Go.Proofs.YtehffmcfmdjknaaGreatDoor.Strs
set_option linter.unusedVariables false
set_option linter.unusedSimpArgs false
set_option maxRecDepth 100000

theorem zeroBool (w : World) : (zeroValue 4).run Tryz.prog w = .ok (.bool false) w := by kernel_rfl
theorem plainElem_bool_inv {H : Type} {P : Program} {e : TypeId} (he : P.underlying e = some .bool) {v : Value} {x : Bool} {ps : List MemPlace} (h : plainElem (H := H) P e v = some (.lit (.bool x), ps)) : v = .bool x := by
  unfold plainElem at h
  rw [he] at h
  cases v <;> simp at h
  rw [h.1]
theorem keyLaw : Keyed Tryz.prog 9 := string_keyed Tryz.underlying9
/-- The map at block M has the keys ks. -/
def Seen (w : World) (M n : Nat) (ks : List ByteArray) : Prop :=
  ∃ D : DataW Unit, w.ownsMap Tryz.prog 9 (plainElem Tryz.prog 4) M n D ∧ ∀ d : ByteArray, D.atKey (.string d.data.toList) (.lit (.bool false)) = .lit (.bool (ks.any (fun x => decide (x = d))))
theorem Seen.made (w : World) : Seen (w.alloc (.map #[] 0)) w.heap.size 0 [] := ⟨.map [], World.ownsMap_made _ _ _ _, fun d => rfl⟩
theorem Seen.kept {w w' : World} {M n : Nat} {ks : List ByteArray} {row : Option Nat} (h : Seen w M n ks) (g : w.grownBy w' row) (hM : some M ≠ row) : Seen w' M n ks := by
  obtain ⟨D, h1, h2⟩ := h
  exact ⟨D, h1.kept g hM, h2⟩
theorem key_of (d : ByteArray) (hd : d.size ≤ maxLen) : keyOf Tryz.prog 9 (.string d) = some (.string d.data.toList) := Go.WideMaps.keyOf_string_mk Tryz.underlying9 hd
theorem Seen.look {w : World} {M n : Nat} {ks : List ByteArray} (h : Seen w M n ks) (d : ByteArray) (hd : d.size ≤ maxLen) :
    (Instr.lookup 108 (.map (some M)) (.string d) false).run Tryz.prog w = .ok (.bool (ks.any (fun x => decide (x = d)))) w := by
  obtain ⟨D, h1, h2⟩ := h
  obtain ⟨v, ps, hrun, hv⟩ := h1.lookup keyLaw Tryz.underlying108 (zeroBool w) (plainElem_bool Tryz.underlying4 false) (key_of d hd)
  rw [h2 d] at hv
  rw [hrun, plainElem_bool_inv Tryz.underlying4 hv]
theorem Seen.put {w w' : World} {M n : Nat} {ks : List ByteArray} {d : ByteArray} {D : DataW Unit} (h0 : w.ownsMap Tryz.prog 9 (plainElem Tryz.prog 4) M n D) (h2 : ∀ d : ByteArray, D.atKey (.string d.data.toList) (.lit (.bool false)) = .lit (.bool (ks.any (fun x => decide (x = d)))))
    (h1 : w'.ownsMap Tryz.prog 9 (plainElem Tryz.prog 4) M (n + 1) (D.put (.string d.data.toList) (.lit (.bool true)))) : Seen w' M (n + 1) (ks ++ [d]) := by
  refine ⟨_, h1, fun d' => ?_⟩
  by_cases e : d = d'
  · subst e
    rw [atKey_put_same h0.isMap (by trivial)]
    simp
  · rw [atKey_put_other, h2 d']
    · simp [e]
    · intro h
      injection h with h
      apply e
      cases d; cases d'
      simp only [ByteArray.mk.injEq]
      exact (Array.toList_inj.1 h.symm)
end Go.Proofs.YtehffmcfmdjknaaGreatDoor.Jdec
/- jdec's parser: key. -/
namespace Go.Proofs.YtehffmcfmdjknaaGreatDoor.Jdec
open Go.RowKit Go.Maps Go.Proofs.YtehffmcfmdjknaaGreatDoor.Strs
set_option linter.unusedVariables false
set_option linter.unusedSimpArgs false
set_option maxRecDepth 100000

/-- What key leaves. -/
def KeyAt (P : Nat) (s : ByteArray) (V : Value) (M n : Nat) (ks : List ByteArray) (d : ByteArray) (w' : World) : Except Er (ByteArray × Nat) → Prop
  | .ok (d', q) => d = d' ∧ q ≤ s.size ∧ Psr w' P s q V 0 0 ∧ Seen w' M (n + 1) (ks ++ [d])
  | .error y => y.2 ≠ 0 ∧ ∃ q, q ≤ s.size ∧ Psr w' P s q V y.1 y.2
/-- What turned is the parser and the map. -/
def Two (w w' : World) (P M : Nat) : Prop := ∃ wm, w.grownBy wm (some P) ∧ wm.grownBy w' (some M) ∧ ∃ es c, w'.heap[M]? = some (.map es c)
theorem Seen.map {w : World} {M n : Nat} {ks : List ByteArray} (h : Seen w M n ks) : ∃ es c, w.heap[M]? = some (.map es c) := by
  obtain ⟨D, ⟨es, c, h, _⟩, _⟩ := h
  exact ⟨es, c, h⟩
def KPost (P : Nat) (s : ByteArray) (V : Value) (M n : Nat) (ks : List ByteArray) (k : Nat) (w : World) (x : Ending) (w' : World) : Prop :=
  ∃ d, x = .returned (.string d) ∧ d.size ≤ s.size ∧ Two w w' P M ∧ KeyAt P s V M n ks d w' (key s.data.toList ks k)

theorem key_none (P : Nat) (s : ByteArray) (k : Nat) (V : Value) (M n : Nat) (ks : List ByteArray) (w : World) (hs : s.size ≤ 2147483648) (hk : k ≤ s.size) (h : Psr w P s k V 0 0) (hS : Seen w M n ks) (hPM : P ≠ M) (hq : s.data.toList[k]? ≠ some 34) :
    Calls Tryz.prog 73 #[.pointer (some ⟨P, 0, none⟩), .map (some M)] w (KPost P s V M n ks k w) := by
  have HK : Hid (key s.data.toList ks k = .error (here s.data.toList k)) := by rw [Hid, key, if_neg hq]
  have HS : Hid (Seen w M n ks) := hS
  have HPM : Hid (P ≠ M) := hPM
  clear hS hPM
  have hok := here_ok s.data.toList k (by simpa using hk)
  have c0 := h.c0
  have c1 := h.c1
  have HH := Hid.out (p := Hid _) h; clear h
  have HO := Hid.out (p := Hid _) hok; clear hok
  by_cases hlt : k < s.size
  · have hne : s[k].toNat ≠ 34 := by
      intro e
      apply hq
      rw [byte_get s k hlt]
      exact congrArg some (UInt8.toNat_inj.1 (by simpa using e))
    have q : ((s[k].toNat : Int) != 34) = true := by rw [bne_iff_ne]; omega
    have q2 : decide ((s.size : Int) ≤ (k : Int)) = false := by rw [decide_eq_false_iff_not]; omega
    have q3 : decide (s.size ≤ k) = false := by rw [decide_eq_false_iff_not]; omega
    clear hq hne
    go_enter Tryz.func73, Tryz.ntmps73
    go_wp2_with fail
    refine (wrong_any P s k V 0 0 w HH.out).mono ?_
    rintro x w2 ⟨rfl, h2, g2⟩
    have H2 : Hid (Psr w2 P s k V (here s.data.toList k).1 (here s.data.toList k).2) := h2
    have G2 := Hid.out (p := Hid _) g2
    clear h2 g2
    go_wp2_with fail
    go_ret
    refine ⟨⟨#[]⟩, rfl, Nat.zero_le _, ⟨w2, G2.out, gb_refl _ _, (HS.out.kept G2.out (fun e => HPM.out (by injection e with e; exact e.symm))).map⟩, ?_⟩
    rw [HK.out]
    exact ⟨HO.out.2, k, hk, H2.out⟩
  · have q2 : decide ((s.size : Int) ≤ (k : Int)) = true := by rw [decide_eq_true_eq]; omega
    have q3 : decide (s.size ≤ k) = true := by rw [decide_eq_true_eq]; omega
    clear hq
    go_enter Tryz.func73, Tryz.ntmps73
    go_wp2_with fail
    refine (wrong_any P s k V 0 0 w HH.out).mono ?_
    rintro x w2 ⟨rfl, h2, g2⟩
    have H2 : Hid (Psr w2 P s k V (here s.data.toList k).1 (here s.data.toList k).2) := h2
    have G2 := Hid.out (p := Hid _) g2
    clear h2 g2
    go_wp2_with fail
    go_ret
    refine ⟨⟨#[]⟩, rfl, Nat.zero_le _, ⟨w2, G2.out, gb_refl _ _, (HS.out.kept G2.out (fun e => HPM.out (by injection e with e; exact e.symm))).map⟩, ?_⟩
    rw [HK.out]
    exact ⟨HO.out.2, k, hk, H2.out⟩

theorem quoted_small {s : ByteArray} {k q : Nat} {d : ByteArray} (h : quoted s.data.toList k = .ok (d, q)) : d.size ≤ s.size := by
  unfold quoted at h
  split at h
  · cases h
  · rename_i o n hn
    injection h with h
    injection h with h1 h2
    have := quote_fits hn
    rw [List.length_drop] at this
    have hl : s.data.toList.length = s.size := by simp
    rw [← h1]
    show o.toArray.size ≤ s.size
    rw [List.size_toArray]; omega

set_option maxHeartbeats 4000000 in
theorem key_some (P : Nat) (s : ByteArray) (k : Nat) (V : Value) (M n : Nat) (ks : List ByteArray) (w : World) (hs : s.size ≤ 2147483648) (hk : k ≤ s.size) (hn : n ≤ 2147483648) (h : Psr w P s k V 0 0) (T : Utf.Sizes w) (hS : Seen w M n ks) (hPM : P ≠ M) (hq : s.data.toList[k]? = some 34) :
    Calls Tryz.prog 73 #[.pointer (some ⟨P, 0, none⟩), .map (some M)] w (KPost P s V M n ks k w) := by
  have hl : s.data.toList.length = s.size := by simp
  have hlt : k < s.size := by have := get_lt hq; omega
  have hc : s[k].toNat = 34 := by
    rw [byte_get s k hlt] at hq
    injection hq with hq
    rw [hq]; rfl
  have q : ((s[k].toNat : Int) != 34) = false := by rw [hc]; rfl
  have q2 : decide ((s.size : Int) ≤ (k : Int)) = false := by rw [decide_eq_false_iff_not]; omega
  have q3 : decide (s.size ≤ k) = false := by rw [decide_eq_false_iff_not]; omega
  have HK : Hid (key s.data.toList ks k = match quoted s.data.toList k with
    | .error x => .error x
    | .ok (d, q) => if ks.any (fun x => decide (x = d)) then .error (k, 6) else .ok (d, q)) := by rw [Hid, key, if_pos hq]; rfl
  have hf := quoted_fits s.data.toList k (by omega)
  have HFt := Hid.out (p := Hid _) hf
  have c0 := h.c0
  have c1 := h.c1
  have HH := Hid.out (p := Hid _) h
  have HT := Hid.out (p := Hid _) T
  have HS : Hid (Seen w M n ks) := hS
  have HPM : Hid (P ≠ M) := hPM
  clear hf h T hS hq hc hl hPM
  go_enter Tryz.func73, Tryz.ntmps73
  go_wp2_with fail
  refine (quoted_any P s k V w (by omega) hk HH.out HT.out).mono ?_
  rintro x w2 ⟨d, rfl, g2, h2⟩
  have G2 := Hid.out (p := Hid _) g2
  have S2 : Hid (Seen w2 M n ks) := HS.out.kept g2 (fun e => HPM.out (by injection e with e; exact e.symm))
  have hds : d.size ≤ s.size := by
    cases hx : quoted s.data.toList k with
    | error y => rw [hx] at h2; rw [h2.1]; exact Nat.zero_le _
    | ok r =>
      obtain ⟨d', q'⟩ := r
      rw [hx] at h2
      rw [h2.1]; exact quoted_small hx
  have hlk := S2.out.look d (by unfold maxLen; omega)
  have hkey := key_of d (by unfold maxLen; omega)
  have H2 : Hid (QuotedAt P s V d w2 (quoted s.data.toList k)) := h2
  clear c0 c1 g2 h2
  generalize hB : ks.any (fun x => decide (x = d)) = B at *
  have HB := Hid.out (p := Hid _) hB
  clear hB
  have hcase : (∃ q', Hid (quoted s.data.toList k = .ok (d, q')) ∧ q' ≤ s.size ∧ Hid (Psr w2 P s q' V 0 0)) ∨ (∃ y q', Hid (quoted s.data.toList k = .error y) ∧ y.2 ≠ 0 ∧ q' ≤ s.size ∧ Hid (Psr w2 P s q' V y.1 y.2)) := by
    have h2 := H2.out
    have hl : s.data.toList.length = s.size := by simp
    cases hx : quoted s.data.toList k with
    | error y =>
      rw [hx] at h2
      obtain ⟨_, q', h3, h4⟩ := h2
      exact .inr ⟨y, q', rfl, (HFt.out.err _ hx).2, h3, h4⟩
    | ok r =>
      obtain ⟨d', q'⟩ := r
      rw [hx] at h2
      obtain ⟨rfl, h4⟩ := h2
      have := (HFt.out.ok _ hx).2
      rw [hl] at this
      exact .inl ⟨q', rfl, this, h4⟩
  clear H2 HFt
  rcases hcase with ⟨q', hx, hq', P2⟩ | ⟨y, q', hx, hy, hq', P2⟩
  · cases B
    · have HF : Hid (key s.data.toList ks k = .ok (d, q')) := by rw [Hid, HK.out, hx.out]; simp only [HB.out]; rfl
      obtain ⟨D, hD1, hD2⟩ := S2.out
      have HD1 : Hid (w2.ownsMap Tryz.prog 9 (plainElem Tryz.prog 4) M n D) := hD1
      have HD2 := Hid.out (p := Hid _) hD2
      clear hD1 hD2
      go_wp2_with (at_mapUpdate; refine wpList_mapUpdate_own _ rfl _ _ _ 108 rfl 9 4 keyLaw Tryz.underlying108 _ M n D rfl HD1.out (by unfold maxLen; omega) _ _ _ rfl rfl hkey _ [] (plainElem_bool Tryz.underlying4 true) ?_)
      intro w4 hown4 hgrow4
      have HS4 := Hid.out (p := Hid _) (Seen.put HD1.out HD2.out hown4)
      have P4 : Hid (Psr w4 P s q' V 0 0) := P2.out.kept hgrow4 (fun e => HPM.out (by injection e))
      have G4 := Hid.out (p := Hid _) hgrow4
      have M4 : Hid (∃ es c, w4.heap[M]? = some (.map es c)) := by obtain ⟨es, c, h, _⟩ := hown4; exact ⟨es, c, h⟩
      clear hown4 hgrow4
      go_wp2_with fail
      go_ret
      refine ⟨d, rfl, hds, ⟨w2, G2.out, G4.out, M4.out⟩, ?_⟩
      rw [HF.out]
      exact ⟨rfl, hq', P4.out, HS4.out⟩
    · have HF : Hid (key s.data.toList ks k = .error (k, 6)) := by rw [Hid, HK.out, hx.out]; simp only [HB.out]; rfl
      go_wp2_with fail
      refine (fail_any P s q' V 0 0 k 6 w2 P2.out).mono ?_
      rintro x w3 ⟨rfl, h3, g3⟩
      have P3 : Hid (Psr w3 P s q' V k 6) := h3
      have G3 := Hid.out (p := Hid _) (G2.out.trans g3)
      have S3 : Hid (Seen w3 M n ks) := S2.out.kept g3 (fun e => HPM.out (by injection e with e; exact e.symm))
      obtain ⟨D, hD1, hD2⟩ := S3.out
      have HD1 : Hid (w3.ownsMap Tryz.prog 9 (plainElem Tryz.prog 4) M n D) := hD1
      clear hD1 hD2 h3 g3 hlk
      go_wp2_with (at_mapUpdate; refine wpList_mapUpdate_own _ rfl _ _ _ 108 rfl 9 4 keyLaw Tryz.underlying108 _ M n D rfl HD1.out (by unfold maxLen; omega) _ _ _ rfl rfl hkey _ [] (plainElem_bool Tryz.underlying4 true) ?_)
      intro w4 hown4 hgrow4
      have P4 : Hid (Psr w4 P s q' V k 6) := P3.out.kept hgrow4 (fun e => HPM.out (by injection e))
      have G4 := Hid.out (p := Hid _) hgrow4
      have M4 : Hid (∃ es c, w4.heap[M]? = some (.map es c)) := by obtain ⟨es, c, h, _⟩ := hown4; exact ⟨es, c, h⟩
      clear hown4 hgrow4
      go_wp2_with fail
      go_ret
      refine ⟨d, rfl, hds, ⟨w3, G3.out, G4.out, M4.out⟩, ?_⟩
      rw [HF.out]
      exact ⟨by simp, q', hq', P4.out⟩
  · have HF : Hid (key s.data.toList ks k = .error y) := by rw [Hid, HK.out, hx.out]
    have HY : Hid (y.2 ≠ 0) := hy
    clear hy
    cases B
    · obtain ⟨D, hD1, hD2⟩ := S2.out
      have HD1 : Hid (w2.ownsMap Tryz.prog 9 (plainElem Tryz.prog 4) M n D) := hD1
      clear hD1 hD2
      go_wp2_with (at_mapUpdate; refine wpList_mapUpdate_own _ rfl _ _ _ 108 rfl 9 4 keyLaw Tryz.underlying108 _ M n D rfl HD1.out (by unfold maxLen; omega) _ _ _ rfl rfl hkey _ [] (plainElem_bool Tryz.underlying4 true) ?_)
      intro w4 hown4 hgrow4
      have P4 : Hid (Psr w4 P s q' V y.1 y.2) := P2.out.kept hgrow4 (fun e => HPM.out (by injection e))
      have G4 := Hid.out (p := Hid _) hgrow4
      have M4 : Hid (∃ es c, w4.heap[M]? = some (.map es c)) := by obtain ⟨es, c, h, _⟩ := hown4; exact ⟨es, c, h⟩
      clear hown4 hgrow4
      go_wp2_with fail
      go_ret
      refine ⟨d, rfl, hds, ⟨w2, G2.out, G4.out, M4.out⟩, ?_⟩
      rw [HF.out]
      exact ⟨HY.out, q', hq', P4.out⟩
    · go_wp2_with fail
      refine (fail_any P s q' V y.1 y.2 k 6 w2 P2.out).mono ?_
      rintro x w3 ⟨rfl, h3, g3⟩
      have P3 : Hid (Psr w3 P s q' V y.1 y.2) := by rw [failB, if_neg HY.out, failE, if_neg HY.out] at h3; exact h3
      have G3 := Hid.out (p := Hid _) (G2.out.trans g3)
      have S3 : Hid (Seen w3 M n ks) := S2.out.kept g3 (fun e => HPM.out (by injection e with e; exact e.symm))
      obtain ⟨D, hD1, hD2⟩ := S3.out
      have HD1 : Hid (w3.ownsMap Tryz.prog 9 (plainElem Tryz.prog 4) M n D) := hD1
      clear hD1 hD2 h3 g3 hlk
      go_wp2_with (at_mapUpdate; refine wpList_mapUpdate_own _ rfl _ _ _ 108 rfl 9 4 keyLaw Tryz.underlying108 _ M n D rfl HD1.out (by unfold maxLen; omega) _ _ _ rfl rfl hkey _ [] (plainElem_bool Tryz.underlying4 true) ?_)
      intro w4 hown4 hgrow4
      have P4 : Hid (Psr w4 P s q' V y.1 y.2) := P3.out.kept hgrow4 (fun e => HPM.out (by injection e))
      have G4 := Hid.out (p := Hid _) hgrow4
      have M4 : Hid (∃ es c, w4.heap[M]? = some (.map es c)) := by obtain ⟨es, c, h, _⟩ := hown4; exact ⟨es, c, h⟩
      clear hown4 hgrow4
      go_wp2_with fail
      go_ret
      refine ⟨d, rfl, hds, ⟨w3, G3.out, G4.out, M4.out⟩, ?_⟩
      rw [HF.out]
      exact ⟨HY.out, q', hq', P4.out⟩
theorem key_any (P : Nat) (s : ByteArray) (k : Nat) (V : Value) (M n : Nat) (ks : List ByteArray) (w : World) (hs : s.size ≤ 2147483648) (hk : k ≤ s.size) (hn : n ≤ 2147483648) (h : Psr w P s k V 0 0) (T : Utf.Sizes w) (hS : Seen w M n ks) (hPM : P ≠ M) :
    Calls Tryz.prog 73 #[.pointer (some ⟨P, 0, none⟩), .map (some M)] w (KPost P s V M n ks k w) := by
  by_cases hq : s.data.toList[k]? = some 34
  · exact key_some P s k V M n ks w hs hk hn h T hS hPM hq
  · exact key_none P s k V M n ks w hs hk h hS hPM hq
end Go.Proofs.YtehffmcfmdjknaaGreatDoor.Jdec
/- jdec's parser: an object in the making. -/
namespace Go.Proofs.YtehffmcfmdjknaaGreatDoor.Jdec
open Go.RowKit Go.Maps Go.Proofs.YtehffmcfmdjknaaGreatDoor.Strs
set_option linter.unusedVariables false
set_option linter.unusedSimpArgs false
set_option maxRecDepth 100000

/-- A row of values whose parts lie in A's blocks. -/
def KidsA (w : World) (B : Nat) (A : Nat → Prop) (v : Value) (ts : List JV) : Prop :=
  ∃ rs : List Raw, rs.length = ts.length ∧ w.ownsRow B 29 8 v ts.length (rs.flatMap Raw.cells) ∧
    ∀ i (h : i < rs.length) (h' : i < ts.length), IsV w (fun b => A b ∧ some b ≠ v.ownBlock) rs[i] ts[i]
theorem KidsA.turn {w w' : World} {B : Nat} {A A' : Nat → Prop} {v : Value} {ts : List JV} {row : Option Nat} (h : KidsA w B A v ts) (hg : w.grownBy w' row) (h1 : v.ownBlock = none ∨ v.ownBlock ≠ row) (h2 : ∀ b, A b → b < w.heap.size → some b ≠ row ∧ A' b) : KidsA w' B A' v ts := by
  obtain ⟨rs, k1, k2, k3⟩ := h
  refine ⟨rs, k1, k2.kept hg h1, fun i hi hi' => (k3 i hi hi').turn ⟨hg.size, fun b hb hlt => ?_⟩⟩
  obtain ⟨h3, h4⟩ := h2 b hb.1 hlt
  exact ⟨hg.block b hlt h3, h4, hb.2⟩
theorem KidsA.kids {w : World} {B : Nat} {A : Nat → Prop} {v : Value} {ts : List JV} (h : KidsA w B A v ts) (hA : ∀ b, A b → B ≤ b) : Kids w B v ts := by
  obtain ⟨rs, k1, k2, k3⟩ := h
  exact ⟨rs, k1, k2, fun i hi hi' => (k3 i hi hi').turn (Turn.mono w (fun b hb _ => ⟨hA b hb.1, hb.2⟩))⟩
theorem KidsA.snoc {w w' : World} {B : Nat} {A : Nat → Prop} {v v' : Value} {ts : List JV} {r : Raw} {t : JV} (rs : List Raw) (h1 : rs.length = ts.length) (h2 : w.ownsRow B 29 8 v ts.length (rs.flatMap Raw.cells))
    (h3 : ∀ i (h : i < rs.length) (h' : i < ts.length), IsV w (fun b => A b ∧ some b ≠ v.ownBlock) rs[i] ts[i]) (hr : IsV w (fun b => A b ∧ some b ≠ v.ownBlock) r t)
    (hown : w'.ownsRow B 29 8 v' (ts.length + 1) (rs.flatMap Raw.cells ++ r.cells)) (hg : w.grownBy w' v.ownBlock) (hl : v'.ownBlock = v.ownBlock ∨ v'.ownBlock = some w.heap.size) : KidsA w' B A v' (ts ++ [t]) := by
  have T : Turn w w' (fun b => A b ∧ some b ≠ v.ownBlock) (fun b => A b ∧ some b ≠ v'.ownBlock) := ⟨hg.size, fun b hb hlt => ⟨hg.block b hlt hb.2, hb.1, by
    rcases hl with e | e
    · rw [e]; exact hb.2
    · rw [e]; intro x; injection x with x; omega⟩⟩
  refine ⟨rs ++ [r], by simp [h1], by simpa using hown, fun i hi hi' => ?_⟩
  by_cases hlt : i < rs.length
  · rw [List.getElem_append_left hlt, List.getElem_append_left (by omega)]
    exact (h3 i hlt (by omega)).turn T
  · have he : i = rs.length := by simp at hi; omega
    subst he
    have e1 : (rs ++ [r])[rs.length] = r := by simp
    have e2 : (ts ++ [t])[rs.length]'(by simp [h1]) = t := by simp [← h1]
    rw [e1, e2]
    exact hr.turn T
/-- Rows of other elements lie elsewhere. -/
theorem rows_ne {w : World} {B B' e e' size size' n n' : Nat} {v v' : Value} {xs xs' : List Value} (h : w.ownsRow B e size v n xs) (h' : w.ownsRow B' e' size' v' n' xs') (hne : e ≠ e') : v.ownBlock = none ∨ v.ownBlock ≠ v'.ownBlock := by
  rcases h.2 with ⟨rfl, _⟩ | ⟨g, cap, cur, rfl, _, hgg, _⟩
  · exact .inl rfl
  · rcases h'.2 with ⟨rfl, _⟩ | ⟨g', cap', cur', rfl, _, hgg', _⟩
    · exact .inr (by simp [Value.ownBlock])
    · refine .inr fun he => ?_
      simp only [Value.ownBlock, Option.some.injEq] at he
      subst he
      rw [hgg] at hgg'
      simp only [Option.some.injEq, Obj.cells.injEq] at hgg'
      exact hne hgg'.2.1
theorem row_map {w : World} {B e size n M : Nat} {v : Value} {xs : List Value} (h : w.ownsRow B e size v n xs) (hM : ∃ es c, w.heap[M]? = some (.map es c)) : some M ≠ v.ownBlock := by
  obtain ⟨es, c, hm⟩ := hM
  rcases h.2 with ⟨rfl, _⟩ | ⟨g, cap, cur, rfl, _, hgg, _⟩
  · simp [Value.ownBlock]
  · intro he
    simp only [Value.ownBlock, Option.some.injEq] at he
    subst he
    rw [hgg] at hm
    simp at hm
/-- An object's words. -/
def oraw (ka : Option Addr) (kn kc : Nat) (va : Option Addr) (vn vc : Nat) : Raw := ⟨6, false, false, ⟨#[]⟩, 0, ⟨#[]⟩, ka, kn, kc, va, vn, vc⟩
/-- The blocks that an object's values may lie in. -/
def OA (b M : Nat) (v : Value) (j : Nat) : Prop := b + 1 ≤ j ∧ j ≠ M ∧ some j ≠ v.ownBlock
/-- An object in the making at block b, its map of keys at block M. -/
structure OB (w : World) (b M m : Nat) (ok : Prop) (ks : List ByteArray) (vs : List JV) (ka : Option Addr) (kc : Nat) (va : Option Addr) (vc : Nat) : Prop where
  Y : w.heap[b]? = some (.cells (oraw ka ks.length kc va vs.length vc).arr 29 (0, 0))
  K : w.ownsRow (b + 1) 9 1 (.slice ka ks.length kc) ks.length (ks.map Value.string)
  V : KidsA w (b + 1) (OA b M (.slice ka ks.length kc)) (.slice va vs.length vc) vs
  bM : b < M
  mp : ∃ es c, w.heap[M]? = some (.map es c)
  S : ok → Seen w M m ks
section
variable {w w' w7 : World} {b M m : Nat} {ok : Prop} {ks : List ByteArray} {vs : List JV} {ka va : Option Addr} {kc vc : Nat}
theorem OB.lt (h : OB w b M m ok ks vs ka kc va vc) : b < w.heap.size := heap_lt h.Y
theorem OB.kept {row : Option Nat} (h : OB w b M m ok ks vs ka kc va vc) (g : w.grownBy w' row) (hr : ∀ k, row = some k → k < b) : OB w' b M m ok ks vs ka kc va vc := by
  have hb := h.bM
  have hMl : M < w.heap.size := by obtain ⟨es, c, hm⟩ := h.mp; exact heap_lt hm
  have hne : ∀ k, b ≤ k → some k ≠ row := fun k hk e => by have := hr k e.symm; omega
  have hown : ∀ {e size n : Nat} {v : Value} {xs : List Value}, w.ownsRow (b + 1) e size v n xs → (v.ownBlock = none ∨ v.ownBlock ≠ row) := by
    intro e size n v xs hx
    cases hv : v.ownBlock with
    | none => exact .inl rfl
    | some k =>
      have := (hx.lt k hv).1
      exact .inr (hne k (by omega))
  refine ⟨(g.block b h.lt (hne b (Nat.le_refl _))).trans h.Y, h.K.kept g (hown h.K), ?_, hb, ?_, fun x => (h.S x).kept g (hne M (by omega))⟩
  · have hV := h.V
    obtain ⟨rs, k1, k2, k3⟩ := h.V
    exact hV.turn g (hown k2) (fun j hj _ => ⟨hne j (by have := hj.1; omega), hj⟩)
  · obtain ⟨es, c, hm⟩ := h.mp
    exact ⟨es, c, (g.block M hMl (hne M (by omega))).trans hm⟩
theorem OB.keptM (h : OB w b M m ok ks vs ka kc va vc) (g : w.grownBy w' (some M)) (hm : ∃ es c, w'.heap[M]? = some (.map es c)) : OB w' b M m False ks vs ka kc va vc := by
  have hb := h.bM
  have hown : ∀ {e size n : Nat} {v : Value} {xs : List Value}, w.ownsRow (b + 1) e size v n xs → (v.ownBlock = none ∨ v.ownBlock ≠ some M) := fun hx => .inr (fun e => row_map hx h.mp e.symm)
  refine ⟨(g.block b h.lt (by simp; omega)).trans h.Y, h.K.kept g (hown h.K), ?_, hb, hm, fun x => x.elim⟩
  have hV := h.V
  obtain ⟨rs, k1, k2, k3⟩ := h.V
  exact hV.turn g (hown k2) (fun j hj _ => ⟨by have := hj.2.1; simpa using this, hj⟩)
/-- A key more. -/
theorem OB.key {m' g cap : Nat} {d : ByteArray} {o : Obj} {ok' : Prop} (h : OB w b M m ok ks vs ka kc va vc) (hseen : ok' → Seen w M m' (ks ++ [d]))
    (hown : w7.ownsRow (b + 1) 9 1 (.slice (some ⟨g, 0, none⟩) (ks.length + 1) cap) (ks.length + 1) (ks.map Value.string ++ [.string d])) (hgrow : (w.alloc o).grownBy w7 (Value.slice ka ks.length kc).ownBlock)
    (hat : (Value.slice ka ks.length kc).ownBlock = some g ∨ g = w.heap.size + 1) :
    OB (w7.setCell ⟨b, 6, none⟩ (.slice (some ⟨g, 0, none⟩) (ks.length + 1) cap)) b M m' ok' (ks ++ [d]) vs (some ⟨g, 0, none⟩) cap va vc ∧ Below b w (w7.setCell ⟨b, 6, none⟩ (.slice (some ⟨g, 0, none⟩) (ks.length + 1) cap)) := by
  have hb := h.bM
  have hlt := h.lt
  have hMl : M < w.heap.size := by obtain ⟨es, c, hm⟩ := h.mp; exact heap_lt hm
  have hKo : ∀ j, (Value.slice ka ks.length kc).ownBlock = some j → b + 1 ≤ j := fun j hj => (h.K.lt j hj).1
  have hbo : some b ≠ (Value.slice ka ks.length kc).ownBlock := fun e => by have := hKo b e.symm; omega
  have hMo : some M ≠ (Value.slice ka ks.length kc).ownBlock := row_map h.K h.mp
  have Y7 : w7.heap[b]? = some (.cells (oraw ka ks.length kc va vs.length vc).arr 29 (0, 0)) := (hgrow.block b (by simp; omega) hbo).trans (heap_alloc_old h.Y)
  have hgb : b + 1 ≤ g := by
    rcases hat with e | e
    · exact hKo g e
    · omega
  have gs := gb_set w7 b 6 (.slice (some ⟨g, 0, none⟩) (ks.length + 1) cap)
  have hS : ∀ {n : Nat} {l : List ByteArray}, Seen w M n l → Seen (w7.setCell ⟨b, 6, none⟩ (.slice (some ⟨g, 0, none⟩) (ks.length + 1) cap)) M n l := fun hx => (((hx.kept (World.grownBy_alloc _ o none) (by simp)).kept hgrow hMo).kept gs (by simp; omega))
  refine ⟨⟨?_, ?_, ?_, hb, ?_, fun x => hS (hseen x)⟩, ?_⟩
  · rw [heap_set_same Y7]; simp [oraw, Raw.arr]
  · have := hown.kept gs (.inr (by simp [Value.ownBlock]; omega))
    simpa using this
  · obtain ⟨rs, k1, k2, k3⟩ := h.V
    have V1 : KidsA (w.alloc o) (b + 1) (fun j => OA b M (.slice ka ks.length kc) j ∧ j < w.heap.size) (.slice va vs.length vc) vs := KidsA.turn ⟨rs, k1, k2, k3⟩ (World.grownBy_alloc _ o none) (by cases h9 : (Value.slice va vs.length vc).ownBlock <;> simp) (fun j hj hl => ⟨by simp, hj, hl⟩)
    have V2 : KidsA w7 (b + 1) (OA b M (.slice (some ⟨g, 0, none⟩) (ks ++ [d]).length cap)) (.slice va vs.length vc) vs := V1.turn hgrow (rows_ne k2 h.K (by decide)) (fun j hj _ => by
      obtain ⟨⟨j1, j2, j3⟩, jl⟩ := hj
      refine ⟨j3, j1, j2, ?_⟩
      rcases hat with e | e
      · rw [e] at j3; exact j3
      · simp [Value.ownBlock]; omega)
    obtain ⟨rs, k1, k2, k3⟩ := V2
    exact KidsA.turn ⟨rs, k1, k2, k3⟩ gs (by
      cases hv : (Value.slice va vs.length vc).ownBlock with
      | none => exact .inl rfl
      | some k => have := (k2.lt k hv).1; exact .inr (by simp; omega)) (fun j hj _ => ⟨by have := hj.1; simp; omega, hj⟩)
  · obtain ⟨es, c, hm⟩ := h.mp
    exact ⟨es, c, (gs.block M (by have := hgrow.size; simp at this; omega) (by simp; omega)).trans ((hgrow.block M (by simp; omega) hMo).trans (heap_alloc_old hm))⟩
  · exact (((Below.refl b w).alloc (by omega) _).grown hgrow (by simp; omega) (fun k hk => by have := hKo k hk; omega)).setCell (p := ⟨b, 6, none⟩) (Nat.le_refl _) _
/-- A value more. -/
theorem OB.kid {g cap : Nat} {a : Raw} {t : JV} {o : Obj} {rs : List Raw} (h : OB w b M m ok ks vs ka kc va vc) (k1 : rs.length = vs.length) (k2 : w.ownsRow (b + 1) 29 8 (.slice va vs.length vc) vs.length (rs.flatMap Raw.cells))
    (k3 : ∀ i (h : i < rs.length) (h' : i < vs.length), IsV w (fun j => OA b M (.slice ka ks.length kc) j ∧ some j ≠ (Value.slice va vs.length vc).ownBlock) rs[i] vs[i])
    (hiv : IsV w (fun j => OA b M (.slice ka ks.length kc) j ∧ some j ≠ (Value.slice va vs.length vc).ownBlock) a t)
    (hown : w7.ownsRow (b + 1) 29 8 (.slice (some ⟨g, 0, none⟩) (vs.length + 1) cap) (vs.length + 1) (rs.flatMap Raw.cells ++ a.cells)) (hgrow : (w.alloc o).grownBy w7 (Value.slice va vs.length vc).ownBlock)
    (hat : (Value.slice va vs.length vc).ownBlock = some g ∨ g = w.heap.size + 1) :
    OB (w7.setCell ⟨b, 7, none⟩ (.slice (some ⟨g, 0, none⟩) (vs.length + 1) cap)) b M m ok ks (vs ++ [t]) ka kc (some ⟨g, 0, none⟩) cap ∧ Below b w (w7.setCell ⟨b, 7, none⟩ (.slice (some ⟨g, 0, none⟩) (vs.length + 1) cap)) := by
  have hb := h.bM
  have hlt := h.lt
  have hMl : M < w.heap.size := by obtain ⟨es, c, hm⟩ := h.mp; exact heap_lt hm
  have hVo : ∀ j, (Value.slice va vs.length vc).ownBlock = some j → b + 1 ≤ j := fun j hj => (k2.lt j hj).1
  have hbo : some b ≠ (Value.slice va vs.length vc).ownBlock := fun e => by have := hVo b e.symm; omega
  have hMo : some M ≠ (Value.slice va vs.length vc).ownBlock := row_map k2 h.mp
  have Y7 : w7.heap[b]? = some (.cells (oraw ka ks.length kc va vs.length vc).arr 29 (0, 0)) := (hgrow.block b (by simp; omega) hbo).trans (heap_alloc_old h.Y)
  have hgb : b + 1 ≤ g := by
    rcases hat with e | e
    · exact hVo g e
    · omega
  have gs := gb_set w7 b 7 (.slice (some ⟨g, 0, none⟩) (vs.length + 1) cap)
  have T : ∀ {A : Nat → Prop}, Turn w (w.alloc o) A A := fun {A} => Turn.grown (World.grownBy_alloc _ _ none) (fun b _ => by simp)
  have V7 := KidsA.snoc (w := w.alloc o) (A := OA b M (.slice ka ks.length kc)) (r := a) (t := t) rs k1 (k2.alloc o) (fun i h h' => (k3 i h h').turn T) (hiv.turn T) hown hgrow (by
    rcases hat with h | h
    · left; rw [h]; rfl
    · right; rw [h]; simp [Value.ownBlock])
  refine ⟨⟨?_, ?_, ?_, hb, ?_, fun x => (((h.S x).kept (World.grownBy_alloc _ o none) (by simp)).kept hgrow hMo).kept gs (by simp; omega)⟩, ?_⟩
  · rw [heap_set_same Y7]; simp [oraw, Raw.arr]
  · exact ((h.K.alloc o).kept hgrow (rows_ne h.K k2 (by decide))).kept gs (by
      cases hv : (Value.slice ka ks.length kc).ownBlock with
      | none => exact .inl rfl
      | some k => have := (h.K.lt k hv).1; exact .inr (by simp; omega))
  · have := V7.turn (A' := OA b M (.slice ka ks.length kc)) gs (.inr (by simp [Value.ownBlock]; omega)) (fun j hj _ => ⟨by have := hj.1; simp; omega, hj⟩)
    simpa using this
  · obtain ⟨es, c, hm⟩ := h.mp
    exact ⟨es, c, (gs.block M (by have := hgrow.size; simp at this; omega) (by simp; omega)).trans ((hgrow.block M (by simp; omega) hMo).trans (heap_alloc_old hm))⟩
  · exact (((Below.refl b w).alloc (by omega) _).grown hgrow (by simp; omega) (fun k hk => by have := hVo k hk; omega)).setCell (p := ⟨b, 7, none⟩) (Nat.le_refl _) _
/-- The object is read. -/
theorem OB.isV (h : OB w b M m ok ks vs ka kc va vc) : IsV w (fun j => b + 1 ≤ j) (oraw ka ks.length kc va vs.length vc) (objectOf ks vs) := by
  obtain ⟨_, f, h1, h2⟩ := (h.V.kids (fun j hj => hj.1)).isV
  refine .mk (oraw ka ks.length kc va vs.length vc) ks vs f rfl rfl ?_ h1 h2
  rcases h.K.2 with ⟨hx, h0⟩ | ⟨g, cap, cur, hx, hg, _⟩
  · exact .inl (List.length_eq_zero_iff.1 h0)
  · injection hx with x1 x2 x3
    refine .inr ⟨g, 0, x1, hg, (h.K.lt g (by rw [x1]; rfl)).2, fun i hi => ?_⟩
    have := h.K.cells (g := g) (by rw [x1]; rfl) i (.string ks[i]) (by simp [hi])
    rw [Addr.add_lit] at this
    exact this
end
end Go.Proofs.YtehffmcfmdjknaaGreatDoor.Jdec
