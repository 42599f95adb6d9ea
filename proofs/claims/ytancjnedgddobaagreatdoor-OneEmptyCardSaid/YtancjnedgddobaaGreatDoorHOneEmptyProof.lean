/-
  Proves Rows.OneEmptyCardSaid: for every input the Go function tabulariumlaw19.OneEmpty returns true and every argument reads afterwards as it read before.
  Conditions: those of the given row and its card (the listed variables hold what the program's text lays), no others.
-/
import Derived.Test.YtancjnedgddobaaGreatDoorCards
import Derived.Test.YtancjnedgddobaaGreatDoorTie
import Derived.Test.YtancjnedgddobaaGreatDoorHOneEmptyGoes
import Derived.Test.YtancjnedgddobaaGreatDoorHOneEmptyFacts
import Derived.Test.YtancjnedgddobaaGreatDoorHOnY
import Derived.Test.YtancjnedgddobaaGreatDoorHTabOe
import Derived.Deep.DeepHandedRow
set_option linter.unusedVariables false
set_option maxRecDepth 100000
namespace Go.Proofs.YtancjnedgddobaaGreatDoor.oneEmpty
open Go.ChangeShapes Go.WideShapes Go.ChangeAt Go.RowKit
theorem contract (H:Type) (enc:TypeId × Value->H) (W:World) (base:Nat) (args:Array Value) (ds gs:List (DataW H)) (before:List MemPlace)
    (hval0:∀ (j:Nat) t v,Tryz.f6.params[j]?=some t->args[j]?=some v->Value.okWide Tryz.prog W .any base t v)
    (hW:DataW.Whole enc Tryz.prog Tryz.f6.params.toList Rows.oneEmptySpec.vars false W args.toList ds gs before) (hL:laidMetH Tryz.prog Rows.oneEmptyRow.laid W) (hS:W.ShapedOpen Tryz.prog)  :
    Calls Tryz.prog 6 args W fun e W'=>∃ v,e=.returned v/\Rows.oneEmptySpec.post enc Tryz.prog Tryz.f6 false true false false W args v W':=by
  have hval:∀ (j:Nat) t v,Tryz.f6.params[j]?=some t->args[j]?=some v->Value.okWide Tryz.prog W .any base t v:=hval0;have hW':=hW;obtain ⟨p,q,hA0,hV,rfl,hfz,hnd⟩:=hW;have hA:DataW.TrodAll enc Tryz.prog W 0 (fun _=>true) true Tryz.f6.params.toList args.toList ds p:=hA0;have hT:Tryz.f6.params.toList.all (fun t=>Tryz.prog.readableRec t && decide (t<Tryz.prog.types.size))=true:=by kernel_rfl
  rw [Tryz.params6] at hA hval hT;have hA2:=hA;obtain ⟨v0,vs0,d0,ds0,p0,q0,hargs,rfl,rfl,h0,r0⟩:=trodAll_cons hA;obtain ⟨rfl,rfl,rfl⟩:=trodAll_nil r0;obtain rfl:args=#[v0]:=by cases args;simp_all
  obtain ⟨rfl,rfl⟩:=trodVars_none hV;obtain ⟨a0,rfl,_,_,w0⟩:=open_int Tryz.underlying22 (hval 0 22 v0 rfl rfl) h0;clear hA0 hval0;have TB:=TabOe.tabsP hL hS;refine ((fun a0 w0 (T:Addr.TabsP W)=>One.oneEmpty_arg a0 W w0 T) a0 w0 TB).mono fun e W' ⟨he,bel⟩=>?_;subst he;exact ⟨_,rfl,_,_,_,[],_,[],hW',trodAll_mk1 (shut_bool Tryz.underlying4 _),trodAll_stays bel (fun t ht=>(readable_of hT t ht).1) (fun t ht=>(readable_of hT t ht).2) hA2,rfl,bel.frame _,fun h=>by cases h⟩
noncomputable def low:Nat:=(World.holding Tryz.prog default ⟨#[],#[],[]⟩).heap.size
noncomputable def laidWorld (os:Os):World:=
  { World.holding Tryz.prog os ⟨#[],#[],[]⟩ with heap:=(((((((((((World.holding Tryz.prog os ⟨#[.cells #[.string ⟨#[118,97,108,117,101,32,111,117,116,32,111,102,32,114,97,110,103,101]⟩] 301,.cells #[.string ⟨#[105,110,118,97,108,105,100,32,115,121,110,116,97,120]⟩] 301],#[],[]⟩).heap.modify 8 (fill Rows.laid_math_bits_deBruijn32tab)).modify 9 (fill Rows.laid_math_bits_deBruijn64tab)).modify 1 (fill Rows.laid_internal_strconv_uint64pow10)).modify 7 (fill Rows.laid_unicode_utf8_acceptRanges)).modify 5 (fun | .cells _ t fr=>.cells #[.iface 299 (.pointer (some ⟨low,0,none⟩))] t fr | o=>o)).modify 4 (fun | .cells _ t fr=>.cells #[.iface 299 (.pointer (some ⟨low+1,0,none⟩))] t fr | o=>o)).modify 2 (fill Rows.laid_tabularium_utf_sizes)).modify 3 (fill Rows.laid_tabularium_num_steps)).modify 10 (fill Rows.laid_tabularium_lex_doubles)).modify 6 (fill Rows.laid_unicode_utf8_first)) }
theorem laid_met (os:Os):laidMet Tryz.prog Rows.oneEmptyRow.laid ((laidWorld os).forCall (fun _ _=>0) ⟨#[],#[.int .u64 0],[]⟩).memory:=
  laidMet_of_run' 8 (by kernel_rfl) (by kernel_rfl)
theorem reads (os:Os) {H:Type} (enc:TypeId × Value->H):∃ places,DataW.whole enc Tryz.prog ((laidWorld os).forCall (fun _ _=>0) ⟨#[],#[.int .u64 0],[]⟩).memory Tryz.f6.params.toList Rows.oneEmptySpec.vars false (#[.int .u64 0]:Array Value).toList 8=some ([.lit (.int .u64 0)],[],places):=
  ⟨[],by kernel_rfl⟩
theorem lifted (os:Os) (started:os.Started) (H:Type) (enc:TypeId × Value->H) (F:Stop.Interp):ReturnsInHanded {} Tryz.checked os 6 .any ((OpenSpec.ofChange Rows.oneEmptySpec).preRow enc Tryz.prog Tryz.f6 Rows.oneEmptyRow.domain false Rows.oneEmptyRow.laid) (((OpenSpec.ofChange Rows.oneEmptySpec).at F).post enc Tryz.prog Tryz.f6 false true false false):=by
  obtain ⟨places,hx⟩:=reads os enc;refine returnsInHanded_of_row (C:=Tryz.checked) (s:=OpenSpec.ofChange Rows.oneEmptySpec) ownKnobs started (by kernel_rfl) Tryz.func6
    (witness_row_at (enc:=enc) (C:=Tryz.checked) false (laidWorld os) #[.int .u64 0] rfl (by kernel_rfl) (by kernel_rfl) (by kernel_rfl)
      (OpenSpec.preRow_of_cond 8 hx (by kernel_rfl) (fun k hk=>by cases hk) (by kernel_rfl) (laid_met os))) ?_
  intro W base args ds gs before hval hW _ _ a3 hL hS _
  exact contract H enc W base args ds gs before hval hW hL hS
theorem said:Rows.OneEmptySaid:=
  OpenClaim.holds_of_cond 6 Tryz.f6 rfl rfl rfl rfl rfl rfl rfl ⟨rfl,rfl,rfl,rfl,rfl⟩ rfl rfl rfl rfl rfl (by kernel_rfl) Tryz.func6 facts
    (of_decide_eq_true (by kernel_rfl)) (by unfold Func.isWrapper;first | (rw [if_pos (by decide +kernel)];kernel_rfl) | (rw [if_neg (by decide +kernel)];exact ⟨rfl,rfl⟩))
    (fun os started H enc _ F=>by rw [OpenClaim.pre_eq_preRow];exact lifted os started H enc F)
theorem plain (f:FuncId) (fn:Func) (hf:Tryz.pinned.checked.prog.funcNamed Rows.oneEmptyRow.func=some f) (hfn:Tryz.pinned.checked.prog.funcs[f]?=some fn):true=Tryz.pinned.checked.prog.looks []/\∀ (j:Nat) t,fn.params[j]?=some t->Tryz.pinned.checked.prog.wantsStandIn t=false:=by
  obtain rfl:f=6:=Option.some.inj ((show Tryz.prog.funcNamed Rows.oneEmptyRow.func=some 6 by kernel_rfl).symm.trans hf) |>.symm;obtain rfl:fn=Tryz.f6:=(Option.some.inj (Tryz.func6.symm.trans hfn)).symm;refine ⟨by kernel_rfl,fun j t ht=>?_⟩;rw [Tryz.params6] at ht;obtain rfl:t=22:=by simpa using Array.mem_of_getElem? ht
  exact (show Tryz.prog.wantsStandIn 22=false by kernel_rfl)
theorem proved:Rows.OneEmptyCardSaid:=
  Claim7.holds_tied_plain_at .later [] _ _ _ _ said (fun _ h=>by cases h) g1 (fun _ h=>by cases h) oneEmpty_row_tie rfl ⟨rfl,rfl⟩ g3 rfl plain g2
#print axioms proved
end Go.Proofs.YtancjnedgddobaaGreatDoor.oneEmpty
