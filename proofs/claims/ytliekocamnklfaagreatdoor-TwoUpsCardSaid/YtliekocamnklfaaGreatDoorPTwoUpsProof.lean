/-
  Proves Rows.TwoUpsCardSaid: for every input the Go function tabulariumlaw20.TwoUps returns true and every argument reads afterwards as it read before.
  Conditions: those of the given row and its card (the listed variables hold what the program's text lays), no others.
-/
import Derived.Test.YtliekocamnklfaaGreatDoorCards
import Derived.Test.YtliekocamnklfaaGreatDoorTie
import Derived.Test.YtliekocamnklfaaGreatDoorPTwoUpsGoes
import Derived.Test.YtliekocamnklfaaGreatDoorPTwoUpsFacts
import Derived.Test.YtliekocamnklfaaGreatDoorPTvO
import Derived.Test.YtliekocamnklfaaGreatDoorPTabTu
import Derived.Deep.DeepHandedRow
set_option linter.unusedVariables false
set_option maxRecDepth 100000
namespace Go.Proofs.YtliekocamnklfaaGreatDoor.twoUps
open Go.ChangeShapes Go.WideShapes Go.ChangeAt Go.RowKit
theorem contract (H:Type) (enc:TypeId × Value->H) (W:World) (base:Nat) (args:Array Value) (ds gs:List (DataW H)) (before:List MemPlace)
    (hval0:∀ (j:Nat) t v,Tryz.f5.params[j]?=some t->args[j]?=some v->Value.okWide Tryz.prog W .any base t v)
    (hW:DataW.Whole enc Tryz.prog Tryz.f5.params.toList Rows.twoUpsSpec.vars false W args.toList ds gs before) (hL:laidMetH Tryz.prog Rows.twoUpsRow.laid W) (hS:W.ShapedOpen Tryz.prog) (hR0:((DataW.weightsEach Tryz.prog (Tryz.f5.params.toList++DataSpec.varTypes Tryz.prog (OpenSpec.ofChange Rows.twoUpsSpec).bare.plain) (ds++gs)).all fun x=>decide (x<=reachBytes))=true) :
    Calls Tryz.prog 5 args W fun e W'=>∃ v,e=.returned v/\Rows.twoUpsSpec.post enc Tryz.prog Tryz.f5 false true false false W args v W':=by
  have hval:∀ (j:Nat) t v,Tryz.f5.params[j]?=some t->args[j]?=some v->Value.okWide Tryz.prog W .any base t v:=hval0;have hW':=hW;obtain ⟨p,q,hA0,hV,rfl,hfz,hnd⟩:=hW;have hA:DataW.TrodAll enc Tryz.prog W 0 (fun _=>true) true Tryz.f5.params.toList args.toList ds p:=hA0;have hT:Tryz.f5.params.toList.all (fun t=>Tryz.prog.readableRec t && decide (t<Tryz.prog.types.size))=true:=by kernel_rfl
  rw [Tryz.params5] at hA hval hT;have hA2:=hA;obtain ⟨v0,vs0,d0,ds0,p0,q0,hargs,rfl,rfl,h0,r0⟩:=trodAll_cons hA;obtain ⟨rfl,rfl,rfl⟩:=trodAll_nil r0;obtain rfl:args=#[v0]:=by cases args;simp_all
  obtain ⟨rfl,rfl⟩:=trodVars_none hV;rw [Tryz.params5] at hR0;have hRR0:∀ n∈d0.weights Tryz.prog 29,n<=reachBytes:=fun n hn=>of_decide_eq_true (List.all_eq_true.1 hR0 n (by simp [DataW.weightsEach,hn]));obtain ⟨x0,w0⟩:=Jdec.open_arg (hval 0 29 v0 rfl rfl) h0 hRR0;clear hA0 hval0;have TB:=TabTu.tabsP hL hS;refine ((fun (u0:Value) (x0:Jdec.JV) (w0:∃ ra:Jdec.Raw,u0=ra.val/\Jdec.IsV W (fun _=>True) ra x0/\Jdec.Held Jdec.rb x0) (T:Addr.TabsP W)=>One.twoUps_arg u0 x0 W w0 T) _ x0 w0 TB).mono fun e W' ⟨he,bel⟩=>?_;subst he;exact ⟨_,rfl,_,_,_,[],_,[],hW',trodAll_mk1 (shut_bool Tryz.underlying4 _),trodAll_stays bel (fun t ht=>(readable_of hT t ht).1) (fun t ht=>(readable_of hT t ht).2) hA2,rfl,bel.frame _,fun h=>by cases h⟩
noncomputable def low:Nat:=(World.holding Tryz.prog default ⟨#[],#[],[]⟩).heap.size
noncomputable def laidWorld (os:Os):World:=
  { World.holding Tryz.prog os ⟨#[],#[],[]⟩ with heap:=(((((((((((World.holding Tryz.prog os ⟨#[.cells #[.string ⟨#[118,97,108,117,101,32,111,117,116,32,111,102,32,114,97,110,103,101]⟩] 273,.cells #[.string ⟨#[105,110,118,97,108,105,100,32,115,121,110,116,97,120]⟩] 273],#[],[]⟩).heap.modify 8 (fill Rows.laid_math_bits_deBruijn32tab)).modify 9 (fill Rows.laid_math_bits_deBruijn64tab)).modify 1 (fill Rows.laid_internal_strconv_uint64pow10)).modify 7 (fill Rows.laid_unicode_utf8_acceptRanges)).modify 4 (fun | .cells _ t fr=>.cells #[.iface 271 (.pointer (some ⟨low,0,none⟩))] t fr | o=>o)).modify 3 (fun | .cells _ t fr=>.cells #[.iface 271 (.pointer (some ⟨low+1,0,none⟩))] t fr | o=>o)).modify 5 (fill Rows.laid_tabularium_utf_sizes)).modify 2 (fill Rows.laid_tabularium_num_steps)).modify 10 (fill Rows.laid_tabularium_lex_doubles)).modify 6 (fill Rows.laid_unicode_utf8_first)) }
theorem laid_met (os:Os):laidMet Tryz.prog Rows.twoUpsRow.laid ((laidWorld os).forCall (fun _ _=>0) ⟨#[],#[.agg #[.int .i64 0,.bool false,.bool false,.string ⟨#[]⟩,.int .i64 0,.string ⟨#[]⟩,.slice none 0 0,.slice none 0 0]],[]⟩).memory:=
  laidMet_of_run' 8 (by kernel_rfl) (by kernel_rfl)
theorem reads (os:Os) {H:Type} (enc:TypeId × Value->H):∃ places,DataW.whole enc Tryz.prog ((laidWorld os).forCall (fun _ _=>0) ⟨#[],#[.agg #[.int .i64 0,.bool false,.bool false,.string ⟨#[]⟩,.int .i64 0,.string ⟨#[]⟩,.slice none 0 0,.slice none 0 0]],[]⟩).memory Tryz.f5.params.toList Rows.twoUpsSpec.vars false (#[.agg #[.int .i64 0,.bool false,.bool false,.string ⟨#[]⟩,.int .i64 0,.string ⟨#[]⟩,.slice none 0 0,.slice none 0 0]]:Array Value).toList 8=some ([.agg [.lit (.int .i64 0),.lit (.bool false),.agg [.lit (.bool false),.lit (.string []),.lit (.int .i64 0)],.lit (.string []),.nil,.nil]],[],places):=
  ⟨[],by kernel_rfl⟩
theorem lifted (os:Os) (started:os.Started) (H:Type) (enc:TypeId × Value->H) (F:Stop.Interp):ReturnsInHanded {} Tryz.checked os 5 .any ((OpenSpec.ofChange Rows.twoUpsSpec).preRow enc Tryz.prog Tryz.f5 Rows.twoUpsRow.domain false Rows.twoUpsRow.laid) (((OpenSpec.ofChange Rows.twoUpsSpec).at F).post enc Tryz.prog Tryz.f5 false true false false):=by
  obtain ⟨places,hx⟩:=reads os enc;refine returnsInHanded_of_row (C:=Tryz.checked) (s:=OpenSpec.ofChange Rows.twoUpsSpec) ownKnobs started (by kernel_rfl) Tryz.func5
    (witness_row_at (enc:=enc) (C:=Tryz.checked) false (laidWorld os) #[.agg #[.int .i64 0,.bool false,.bool false,.string ⟨#[]⟩,.int .i64 0,.string ⟨#[]⟩,.slice none 0 0,.slice none 0 0]] rfl (by kernel_rfl) (by kernel_rfl) (by kernel_rfl)
      (OpenSpec.preRow_of_cond 8 hx (by kernel_rfl) (fun k hk=>by cases hk) (by kernel_rfl) (laid_met os))) ?_
  intro W base args ds gs before hval hW _ _ a3 hL hS _
  exact contract H enc W base args ds gs before hval hW hL hS a3
theorem said:Rows.TwoUpsSaid:=
  OpenClaim.holds_of_cond 5 Tryz.f5 rfl rfl rfl rfl rfl rfl rfl ⟨rfl,rfl,rfl,rfl,rfl⟩ rfl rfl rfl rfl rfl (by kernel_rfl) Tryz.func5 facts
    (of_decide_eq_true (by kernel_rfl)) (by unfold Func.isWrapper;first | (rw [if_pos (by decide +kernel)];kernel_rfl) | (rw [if_neg (by decide +kernel)];exact ⟨rfl,rfl⟩))
    (fun os started H enc _ F=>by rw [OpenClaim.pre_eq_preRow];exact lifted os started H enc F)
theorem plain (f:FuncId) (fn:Func) (hf:Tryz.pinned.checked.prog.funcNamed Rows.twoUpsRow.func=some f) (hfn:Tryz.pinned.checked.prog.funcs[f]?=some fn):true=Tryz.pinned.checked.prog.looks []/\∀ (j:Nat) t,fn.params[j]?=some t->Tryz.pinned.checked.prog.wantsStandIn t=false:=by
  obtain rfl:f=5:=Option.some.inj ((show Tryz.prog.funcNamed Rows.twoUpsRow.func=some 5 by kernel_rfl).symm.trans hf) |>.symm;obtain rfl:fn=Tryz.f5:=(Option.some.inj (Tryz.func5.symm.trans hfn)).symm;refine ⟨by kernel_rfl,fun j t ht=>?_⟩;rw [Tryz.params5] at ht;obtain rfl:t=29:=by simpa using Array.mem_of_getElem? ht
  exact (show Tryz.prog.wantsStandIn 29=false by kernel_rfl)
theorem proved:Rows.TwoUpsCardSaid:=
  Claim7.holds_tied_plain_at .later [] _ _ _ _ said (fun _ h=>by cases h) g1 (fun _ h=>by cases h) twoUps_row_tie rfl ⟨rfl,rfl⟩ g3 rfl plain g2
#print axioms proved
end Go.Proofs.YtliekocamnklfaaGreatDoor.twoUps
