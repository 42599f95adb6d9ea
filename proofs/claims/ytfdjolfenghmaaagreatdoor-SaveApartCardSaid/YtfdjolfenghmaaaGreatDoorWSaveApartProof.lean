/-
  Proves Rows.SaveApartCardSaid: for every input the Go function tabulariumlaw23.SaveApart returns true and every argument reads afterwards as it read before.
  Conditions: those of the given row and its card (the listed variables hold what the program's text lays), no others.
-/
import Derived.Test.YtfdjolfenghmaaaGreatDoorCards
import Derived.Test.YtfdjolfenghmaaaGreatDoorTie
import Derived.Test.YtfdjolfenghmaaaGreatDoorWSaveApartFacts
import Derived.Test.YtfdjolfenghmaaaGreatDoorWSaveApartGoes
import Derived.Test.YtfdjolfenghmaaaGreatDoorWTabV
import Derived.Deep.DeepHandedRow
set_option linter.unusedVariables false
set_option maxRecDepth 100000
namespace Go.Proofs.YtfdjolfenghmaaaGreatDoor.saveApart
open Go.ChangeShapes Go.WideShapes Go.ChangeAt Go.RowKit
theorem contract (H : Type) (enc : TypeId × Value -> H) (W : World) (base : Nat) (args : Array Value) (ds gs : List (DataW H)) (before : List MemPlace)
    (hval0 : ∀ (j : Nat) t v, Tryz.f3.params[j]? = some t -> args[j]? = some v -> Value.okWide Tryz.prog W .any base t v)
    (hW : DataW.Whole enc Tryz.prog Tryz.f3.params.toList Rows.saveApartSpec.vars false W args.toList ds gs before) (hL : laidMetH Tryz.prog Rows.saveApartRow.laid W) (hS : W.ShapedOpen Tryz.prog) (hR0 : ((DataW.weightsEach Tryz.prog (Tryz.f3.params.toList ++ DataSpec.varTypes Tryz.prog (OpenSpec.ofChange Rows.saveApartSpec).bare.plain) (ds ++ gs)).all fun x => decide (x <= reachBytes)) = true) :
    Calls Tryz.prog 3 args W fun e W' => ∃ v, e = .returned v /\ Rows.saveApartSpec.post enc Tryz.prog Tryz.f3 false true false false W args v W' := by
  have hval : ∀ (j : Nat) t v, Tryz.f3.params[j]? = some t -> args[j]? = some v -> Value.okWide Tryz.prog W .any base t v := hval0;have hW' := hW;obtain ⟨p, q, hA0, hV, rfl, hfz, hnd⟩ := hW;have hA : DataW.TrodAll enc Tryz.prog W 0 (fun _ => true) true Tryz.f3.params.toList args.toList ds p := hA0;have hT : Tryz.f3.params.toList.all (fun t => Tryz.prog.readableRec t && decide (t < Tryz.prog.types.size)) = true := by kernel_rfl
  rw [Tryz.params3] at hA hval hT;have hA2 := hA;obtain ⟨v0, vs0, d0, ds0, p0, q0, hargs, rfl, rfl, h0, r0⟩ := trodAll_cons hA;obtain ⟨v1, vs1, d1, ds1, p1, q1, rfl, rfl, rfl, h1, r1⟩ := trodAll_cons r0;obtain ⟨rfl, rfl, rfl⟩ := trodAll_nil r1;obtain rfl : args = #[v0, v1] := by cases args; simp_all
  obtain ⟨rfl, rfl⟩ := trodVars_none hV;rw [Tryz.params3] at hR0;have hRR0 : ∀ n ∈ d0.weights Tryz.prog 25, n <= reachBytes := fun n hn => of_decide_eq_true (List.all_eq_true.1 hR0 n (by simp [DataW.weightsEach, hn]));have hRR1 : ∀ n ∈ d1.weights Tryz.prog 25, n <= reachBytes := fun n hn => of_decide_eq_true (List.all_eq_true.1 hR0 n (by simp [DataW.weightsEach, hn]));obtain ⟨x0, w0⟩ := State.open_staC (hval 0 25 v0 rfl rfl) h0 hRR0;obtain ⟨x1, w1⟩ := State.open_staC (hval 1 25 v1 rfl rfl) h1 hRR1;clear hA0 hval0;have TB := TabV.tabsA hL hS;refine ((fun v0 x0 w0 v1 x1 w1 (T : Addr.TabsA W) => Save.saveApart_arg v0 x0 v1 x1 W w0 w1 T) _ x0 w0 _ x1 w1 TB).mono fun e W' ⟨he, bel⟩ => ?_;subst he;exact ⟨_, rfl, _, _, _, [], _, [], hW', trodAll_mk1 (shut_bool Tryz.underlying4 _), trodAll_stays bel (fun t ht => (readable_of hT t ht).1) (fun t ht => (readable_of hT t ht).2) hA2, rfl, bel.frame _, fun h => by cases h⟩
noncomputable def laidWorld (os : Os) : World :=
  { World.holding Tryz.prog os ⟨#[], #[], []⟩ with heap := (((((((((World.holding Tryz.prog os ⟨#[], #[], []⟩).heap.modify 3 (fill Rows.laid_math_bits_deBruijn32tab)).modify 4 (fill Rows.laid_math_bits_deBruijn64tab)).modify 2 (fill Rows.laid_internal_strconv_uint64pow10)).modify 6 (fill Rows.laid_unicode_utf8_acceptRanges)).modify 0 (fill Rows.laid_tabularium_utf_sizes)).modify 8 (fill Rows.laid_tabularium_num_steps)).modify 7 (fill Rows.laid_tabularium_lex_doubles)).modify 5 (fill Rows.laid_unicode_utf8_first)) }
theorem laid_met (os : Os) : laidMet Tryz.prog Rows.saveApartRow.laid ((laidWorld os).forCall (fun _ _ => 0) ⟨#[], #[.agg #[.int .u64 0, .string ⟨#[]⟩, .slice none 0 0], .agg #[.int .u64 0, .string ⟨#[]⟩, .slice none 0 0]], []⟩).memory :=
  laidMet_of_run' 8 (by kernel_rfl) (by kernel_rfl)
theorem reads (os : Os) {H : Type} (enc : TypeId × Value -> H) : ∃ places, DataW.whole enc Tryz.prog ((laidWorld os).forCall (fun _ _ => 0) ⟨#[], #[.agg #[.int .u64 0, .string ⟨#[]⟩, .slice none 0 0], .agg #[.int .u64 0, .string ⟨#[]⟩, .slice none 0 0]], []⟩).memory Tryz.f3.params.toList Rows.saveApartSpec.vars false (#[.agg #[.int .u64 0, .string ⟨#[]⟩, .slice none 0 0], .agg #[.int .u64 0, .string ⟨#[]⟩, .slice none 0 0]] : Array Value).toList 8 = some ([.agg [.lit (.int .u64 0), .lit (.string []), .nil], .agg [.lit (.int .u64 0), .lit (.string []), .nil]], [], places) :=
  ⟨[], by kernel_rfl⟩
theorem lifted (os : Os) (started : os.Started) (H : Type) (enc : TypeId × Value -> H) (F : Stop.Interp) : ReturnsInHanded {} Tryz.checked os 3 .any ((OpenSpec.ofChange Rows.saveApartSpec).preRow enc Tryz.prog Tryz.f3 Rows.saveApartRow.domain false Rows.saveApartRow.laid) (((OpenSpec.ofChange Rows.saveApartSpec).at F).post enc Tryz.prog Tryz.f3 false true false false) := by
  obtain ⟨places, hx⟩ := reads os enc;refine returnsInHanded_of_row (C := Tryz.checked) (s := OpenSpec.ofChange Rows.saveApartSpec) ownKnobs started (by kernel_rfl) Tryz.func3
    (witness_row_at (enc := enc) (C := Tryz.checked) false (laidWorld os) #[.agg #[.int .u64 0, .string ⟨#[]⟩, .slice none 0 0], .agg #[.int .u64 0, .string ⟨#[]⟩, .slice none 0 0]] rfl (by kernel_rfl) (by kernel_rfl) (by kernel_rfl)
      (OpenSpec.preRow_of_cond 8 hx (by kernel_rfl) (fun k hk => by cases hk) (by kernel_rfl) (laid_met os))) ?_
  intro W base args ds gs before hval hW _ _ a3 hL hS _
  exact contract H enc W base args ds gs before hval hW hL hS a3
theorem said : Rows.SaveApartSaid :=
  OpenClaim.holds_of_cond 3 Tryz.f3 rfl rfl rfl rfl rfl rfl rfl ⟨rfl, rfl, rfl, rfl, rfl⟩ rfl rfl rfl rfl rfl (by kernel_rfl) Tryz.func3 facts
    (of_decide_eq_true (by kernel_rfl)) (by unfold Func.isWrapper; first | (rw [if_pos (by decide +kernel)]; kernel_rfl) | (rw [if_neg (by decide +kernel)]; exact ⟨rfl, rfl⟩))
    (fun os started H enc _ F => by rw [OpenClaim.pre_eq_preRow]; exact lifted os started H enc F)
theorem plain (f : FuncId) (fn : Func) (hf : Tryz.pinned.checked.prog.funcNamed Rows.saveApartRow.func = some f) (hfn : Tryz.pinned.checked.prog.funcs[f]? = some fn) : true = Tryz.pinned.checked.prog.looks [] /\ ∀ (j : Nat) t, fn.params[j]? = some t -> Tryz.pinned.checked.prog.wantsStandIn t = false := by
  obtain rfl : f = 3 := Option.some.inj ((show Tryz.prog.funcNamed Rows.saveApartRow.func = some 3 by kernel_rfl).symm.trans hf) |>.symm;obtain rfl : fn = Tryz.f3 := (Option.some.inj (Tryz.func3.symm.trans hfn)).symm;refine ⟨by kernel_rfl, fun j t ht => ?_⟩;rw [Tryz.params3] at ht;have hm := Array.mem_of_getElem? ht;simp only [List.mem_toArray, List.mem_cons, List.not_mem_nil, or_false] at hm
  rcases hm with rfl | rfl
  · exact (show Tryz.prog.wantsStandIn 25 = false by kernel_rfl)
  · exact (show Tryz.prog.wantsStandIn 25 = false by kernel_rfl)
theorem proved : Rows.SaveApartCardSaid :=
  Claim7.holds_tied_plain_at .later [] _ _ _ _ said (fun _ h => by cases h) g1 (fun _ h => by cases h) saveApart_row_tie rfl ⟨rfl, rfl⟩ g3 rfl plain g2
#print axioms proved
end Go.Proofs.YtfdjolfenghmaaaGreatDoor.saveApart
