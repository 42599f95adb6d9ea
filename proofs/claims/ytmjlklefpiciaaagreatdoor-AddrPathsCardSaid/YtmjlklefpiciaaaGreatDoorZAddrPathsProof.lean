/-
  Proves Rows.AddrPathsCardSaid: for every input the Go function tabulariumlaw17.AddrPaths returns true and every argument reads afterwards as it read before.
  Conditions: those of the given row and its card (the listed variables hold what the program's text lays), no others.
-/
import Derived.Test.YtmjlklefpiciaaaGreatDoorCards
import Derived.Test.YtmjlklefpiciaaaGreatDoorTie
import Derived.Test.YtmjlklefpiciaaaGreatDoorZLift
import Derived.Test.YtmjlklefpiciaaaGreatDoorZAddrPathsFacts
import Derived.Test.YtmjlklefpiciaaaGreatDoorZLwQ
import Derived.Test.YtmjlklefpiciaaaGreatDoorZOpA
import Derived.Test.YtmjlklefpiciaaaGreatDoorZTabA
import Derived.Deep.DeepHandedRow
namespace Go.Proofs.YtmjlklefpiciaaaGreatDoor.addrPaths
open Go.ChangeShapes Go.WideShapes Go.ChangeAt Go.RowKit
set_option linter.unusedVariables false

set_option maxRecDepth 100000 in
theorem contract (H : Type) (enc : TypeId × Value → H) (W : World) (base : Nat) (args : Array Value) (ds gs : List (DataW H)) (before : List MemPlace)
    (hval0 : ∀ (j : Nat) t v, Tryz.f12.params[j]? = some t → args[j]? = some v → Value.okWide Tryz.prog W .any base t v)
    (hW : DataW.Whole enc Tryz.prog Tryz.f12.params.toList Rows.addrPathsSpec.vars false W args.toList ds gs before) (hL : laidMetH Tryz.prog Rows.addrPathsRow.laid W) (hS : W.ShapedOpen Tryz.prog) (hR0 : ((DataW.weightsEach Tryz.prog (Tryz.f12.params.toList ++ DataSpec.varTypes Tryz.prog (OpenSpec.ofChange Rows.addrPathsSpec).bare.plain) (ds ++ gs)).all fun x => decide (x ≤ reachBytes)) = true) :
    Calls Tryz.prog 12 args W fun e W' => ∃ v, e = .returned v ∧ Rows.addrPathsSpec.post enc Tryz.prog Tryz.f12 false true false false W args v W' := by
  have hval : ∀ (j : Nat) t v, Tryz.f12.params[j]? = some t → args[j]? = some v → Value.okWide Tryz.prog W .any base t v := hval0
  have hW' := hW
  obtain ⟨p, q, hA0, hV, rfl, hfz, hnd⟩ := hW
  have hA : DataW.TrodAll enc Tryz.prog W 0 (fun _ => true) true Tryz.f12.params.toList args.toList ds p := hA0
  have hT : Tryz.f12.params.toList.all (fun t => Tryz.prog.readableRec t && decide (t < Tryz.prog.types.size)) = true := by kernel_rfl
  rw [Tryz.params12] at hA hval hT
  have hA2 := hA
  obtain ⟨v0, vs0, d0, ds0, p0, q0, hargs, rfl, rfl, h0, r0⟩ := trodAll_cons hA
  obtain ⟨v1, vs1, d1, ds1, p1, q1, rfl, rfl, rfl, h1, r1⟩ := trodAll_cons r0
  obtain ⟨rfl, rfl, rfl⟩ := trodAll_nil r1
  obtain rfl : args = #[v0, v1] := by cases args; simp_all
  obtain ⟨rfl, rfl⟩ := trodVars_none hV
  rw [Tryz.params12] at hR0
  have hRR0 : ∀ n ∈ d0.weights Tryz.prog 29, n ≤ reachBytes := fun n hn => of_decide_eq_true (List.all_eq_true.1 hR0 n (by simp [DataW.weightsEach, hn]))
  obtain ⟨x0, w0⟩ := Addr.open_adr (hval 0 29 v0 rfl rfl) h0 hRR0
  obtain ⟨s1, rfl, _, _, w1⟩ := Go.ChangeMaps.open_string Tryz.underlying9 (hval 1 9 v1 rfl rfl) h1
  clear hA0 hval0
  have TB := TabA.tabsP hL hS
  refine ((fun v0 x0 w0 (s1 : ByteArray) (w1 : s1.size ≤ maxLen) (T : Addr.TabsP W) => Addr.addrPaths_arg v0 x0 s1 W w0 (by unfold maxLen at w1; omega) T) _ x0 w0 s1 w1 TB).mono fun e W' ⟨he, bel⟩ => ?_
  subst he
  exact ⟨_, rfl, _, _, _, [], _, [], hW', trodAll_mk1 (shut_bool Tryz.underlying4 _), trodAll_stays bel (fun t ht => (readable_of hT t ht).1) (fun t ht => (readable_of hT t ht).2) hA2, rfl, bel.frame _, fun h => by cases h⟩

/-- A world for the witness: the variables hold what their initialisers lay. -/
noncomputable def low : Nat := (World.holding Tryz.prog default ⟨#[], #[], []⟩).heap.size
noncomputable def laidWorld (os : Os) : World :=
  { World.holding Tryz.prog os ⟨#[], #[], []⟩ with heap := (((((((((((World.holding Tryz.prog os ⟨#[.cells #[.string ⟨#[118, 97, 108, 117, 101, 32, 111, 117, 116, 32, 111, 102, 32, 114, 97, 110, 103, 101]⟩] 218, .cells #[.string ⟨#[105, 110, 118, 97, 108, 105, 100, 32, 115, 121, 110, 116, 97, 120]⟩] 218], #[], []⟩).heap.modify 7 (fill Rows.laid_math_bits_deBruijn32tab)).modify 8 (fill Rows.laid_math_bits_deBruijn64tab)).modify 2 (fill Rows.laid_internal_strconv_uint64pow10)).modify 6 (fill Rows.laid_unicode_utf8_acceptRanges)).modify 4 (fun | .cells _ t fr => .cells #[.iface 216 (.pointer (some ⟨low, 0, none⟩))] t fr | o => o)).modify 3 (fun | .cells _ t fr => .cells #[.iface 216 (.pointer (some ⟨low + 1, 0, none⟩))] t fr | o => o)).modify 1 (fill Rows.laid_tabularium_utf_sizes)).modify 10 (fill Rows.laid_tabularium_num_steps)).modify 9 (fill Rows.laid_tabularium_lex_doubles)).modify 5 (fill Rows.laid_unicode_utf8_first)) }
theorem laid_met (os : Os) : laidMet Tryz.prog Rows.addrPathsRow.laid ((laidWorld os).forCall (fun _ _ => 0) ⟨#[], #[.agg #[.slice none 0 0, .string ⟨#[]⟩, .string ⟨#[]⟩, .int .i64 0, .int .u64 0, .string ⟨#[]⟩], .string ⟨#[]⟩], []⟩).memory :=
  laidMet_of_run' 8 (by kernel_rfl) (by kernel_rfl)
theorem reads (os : Os) {H : Type} (enc : TypeId × Value → H) : ∃ places, DataW.whole enc Tryz.prog ((laidWorld os).forCall (fun _ _ => 0) ⟨#[], #[.agg #[.slice none 0 0, .string ⟨#[]⟩, .string ⟨#[]⟩, .int .i64 0, .int .u64 0, .string ⟨#[]⟩], .string ⟨#[]⟩], []⟩).memory Tryz.f12.params.toList Rows.addrPathsSpec.vars false (#[.agg #[.slice none 0 0, .string ⟨#[]⟩, .string ⟨#[]⟩, .int .i64 0, .int .u64 0, .string ⟨#[]⟩], .string ⟨#[]⟩] : Array Value).toList 8 = some ([.agg [.nil, .lit (.string []), .lit (.string []), .lit (.int .i64 0), .lit (.int .u64 0), .lit (.string [])], .lit (.string [])], [], places) :=
  ⟨[], by kernel_rfl⟩

set_option maxRecDepth 100000 in
theorem lifted (os : Os) (started : os.Started) (H : Type) (enc : TypeId × Value → H) (F : Stop.Interp) :
    ReturnsInHanded {} Tryz.checked os 12 .any ((OpenSpec.ofChange Rows.addrPathsSpec).preRow enc Tryz.prog Tryz.f12 Rows.addrPathsRow.domain false Rows.addrPathsRow.laid) (((OpenSpec.ofChange Rows.addrPathsSpec).at F).post enc Tryz.prog Tryz.f12 false true false false) := by
  obtain ⟨places, hx⟩ := reads os enc
  refine returnsInHanded_of_row (C := Tryz.checked) (s := OpenSpec.ofChange Rows.addrPathsSpec) ownKnobs started (by kernel_rfl) Tryz.func12
    (witness_row_at (enc := enc) (C := Tryz.checked) false (laidWorld os) #[.agg #[.slice none 0 0, .string ⟨#[]⟩, .string ⟨#[]⟩, .int .i64 0, .int .u64 0, .string ⟨#[]⟩], .string ⟨#[]⟩] rfl (by kernel_rfl) (by kernel_rfl) (by kernel_rfl)
      (OpenSpec.preRow_of_cond 8 hx (by kernel_rfl) (fun k hk => by cases hk) (by kernel_rfl) (laid_met os))) ?_
  intro W base args ds gs before hval hW _ _ a3 hL hS _
  exact contract H enc W base args ds gs before hval hW hL hS a3

theorem said : Rows.AddrPathsSaid :=
  OpenClaim.holds_of_cond 12 Tryz.f12 rfl rfl rfl rfl rfl rfl rfl ⟨rfl, rfl, rfl, rfl, rfl⟩ rfl rfl rfl rfl rfl (by kernel_rfl) Tryz.func12 facts
    (of_decide_eq_true (by kernel_rfl)) (by unfold Func.isWrapper; first | (rw [if_pos (by decide +kernel)]; kernel_rfl) | (rw [if_neg (by decide +kernel)]; exact ⟨rfl, rfl⟩))
    (fun os started H enc _ F => by rw [OpenClaim.pre_eq_preRow]; exact lifted os started H enc F)

theorem plain (f : FuncId) (fn : Func) (hf : Tryz.pinned.checked.prog.funcNamed Rows.addrPathsRow.func = some f) (hfn : Tryz.pinned.checked.prog.funcs[f]? = some fn) :
    true = Tryz.pinned.checked.prog.looks [] ∧ ∀ (j : Nat) t, fn.params[j]? = some t → Tryz.pinned.checked.prog.wantsStandIn t = false := by
  obtain rfl : f = 12 := Option.some.inj ((show Tryz.prog.funcNamed Rows.addrPathsRow.func = some 12 by kernel_rfl).symm.trans hf) |>.symm
  obtain rfl : fn = Tryz.f12 := (Option.some.inj (Tryz.func12.symm.trans hfn)).symm
  refine ⟨by kernel_rfl, fun j t ht => ?_⟩
  rw [Tryz.params12] at ht
  have hm := Array.mem_of_getElem? ht
  simp only [List.mem_toArray, List.mem_cons, List.not_mem_nil, or_false] at hm
  rcases hm with rfl | rfl
  · exact (show Tryz.prog.wantsStandIn 29 = false by kernel_rfl)
  · exact (show Tryz.prog.wantsStandIn 9 = false by kernel_rfl)

/-- The tied card. -/
theorem proved : Rows.AddrPathsCardSaid :=
  Claim7.holds_tied_plain_at .later [] _ _ _ _ said (fun _ h => by cases h) (by kernel_rfl) (fun _ h => by cases h) addrPaths_row_tie rfl ⟨rfl, rfl⟩ (by kernel_rfl) rfl plain (by kernel_rfl)
#print axioms proved
end Go.Proofs.YtmjlklefpiciaaaGreatDoor.addrPaths
