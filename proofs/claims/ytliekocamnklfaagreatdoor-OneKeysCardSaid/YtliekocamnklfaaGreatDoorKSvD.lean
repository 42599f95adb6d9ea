/- Short forms of the laws of a region that draws its order, walked operation by operation. -/
import Derived.Test.YtliekocamnklfaaGreatDoorKSvB
import Derived.Test.YtliekocamnklfaaGreatDoorKJenK
import Derived.Test.YtliekocamnklfaaGreatDoorKJenM
import Derived.Deep.RegionHeld3
import Derived.Maps.AppendAt
set_option linter.unusedVariables false
namespace Go.Proofs.YtliekocamnklfaaGreatDoor
open Go Go.RowKit
theorem nz:(∀ (a:Act) (d:Tmp) (v:Value),a.put (some d) v={ a with tmps:=a.tmps.setIfInBounds d v })/\(∀ (a:Act) (v:Value),a.put none v=a) ∧
    (∀ (l:List Value) (i:Nat) (v:Value),l.toArray.setIfInBounds i v=(l.set i v).toArray)/\(∀ (x:Value) (l:List Value) (v:Value),(x::l).set 0 v=v::l)/\(∀ (x:Value) (l:List Value) (n:Nat) (v:Value),(x::l).set (n+1) v=x::l.set n v) ∧
    (∀ (l:List Bool) (i:Nat) (v:Bool),l.toArray.setIfInBounds i v=(l.set i v).toArray)/\(∀ (x:Bool) (l:List Bool) (v:Bool),(x::l).set 0 v=v::l)/\(∀ (x:Bool) (l:List Bool) (n:Nat) (v:Bool),(x::l).set (n+1) v=x::l.set n v) ∧
    (∀ (l:List Oper) (i:Nat) (h:i<l.toArray.size),l.toArray[i]=l[i]'(by simpa using h))/\(∀ (x:Oper) (l:List Oper) (i:Nat) (h:i+1<(x::l).length),(x::l)[i+1]=l[i]'(by simpa using h))/\(∀ (x:Oper) (l:List Oper) (h:0<(x::l).length),(x::l)[0]=x):=
  ⟨fun _ _ _=>rfl,fun _ _=>rfl,fun _ _ _=>by simp,fun _ _ _=>rfl,fun _ _ _ _=>rfl,fun _ _ _=>by simp,fun _ _ _=>rfl,fun _ _ _ _=>rfl,fun _ _ _=>by simp,fun _ _ _ _=>rfl,fun _ _ _=>rfl⟩
section
variable {P:Program} {ops:Array Oper} {Q:Exit->Act->World->Prop} {md:Region.Mode} {S:World->Prop}
def mayTake (md:Region.Mode) (ops:Array Oper) (listed:Array Bool) (i:Nat):Bool:=Region.noSelect ops && (Region.free md ops listed i && (Region.ready md ops listed).contains i)
theorem tv (i:Nat) (v:Value) {oi:Oper} {fuel:Nat} {listed:Array Bool} {a:Act} {w:World}
    (hy:∀ w,S w->(execOp a.eval oi).run P w=.ok (.value v) w) (h:wpAnyH P md ops Q S fuel (listed.setIfInBounds i true) (a.put oi.dst v) w)
    (hi:ops[i]?=some oi:=by rfl) (hc:mayTake md ops listed i=true:=by kernel_rfl) (hQ:∀ c a w,Q (.panic c) (a.put oi.dst v) w->Q (.panic c) a w:=by exact fun _ _ _ h=>h)
    (hw:Region.wanted oi (yielded ops a.tmps)=true:=by rfl) (hS:S w:=by assumption):wpAnyH P md ops Q S (fuel+1) listed a w:=by
  unfold mayTake at hc;rw [Bool.and_eq_true,Bool.and_eq_true] at hc;exact wpAnyH_take hi hc.1 hc.2.1 hc.2.2 hQ (.inl ⟨hw,hy⟩) hS h
theorem tk (i:Nat) {v:Value} {oi:Oper} {fuel:Nat} {listed:Array Bool} {a:Act} {w:World}
    (h:wpAnyH P md ops Q S fuel (listed.setIfInBounds i true) (a.put oi.dst v) w)
    (hi:ops[i]?=some oi:=by rfl) (hc:mayTake md ops listed i=true:=by kernel_rfl)
    (hw:Region.wanted oi (yielded ops a.tmps)=true:=by rfl) (hS:S w:=by assumption)
    (hy:∀ w,S w->(execOp a.eval oi).run P w=.ok (.value v) w:=by intro w hs;clear hs;go_simp <;> with_reducible rfl)
    (hQ:∀ c a w,Q (.panic c) (a.put oi.dst v) w->Q (.panic c) a w:=by exact fun _ _ _ h=>h):wpAnyH P md ops Q S (fuel+1) listed a w:=
  tv i v hy h hi hc hQ hw hS
theorem tn (i:Nat) {oi:Oper} {fuel:Nat} {listed:Array Bool} {a:Act} {w:World}
    (h:wpAnyH P md ops Q S fuel (listed.setIfInBounds i true) (a.put oi.dst undef) w)
    (hi:ops[i]?=some oi:=by rfl) (hc:mayTake md ops listed i=true:=by kernel_rfl) (hQ:∀ c a w,Q (.panic c) (a.put oi.dst undef) w->Q (.panic c) a w:=by exact fun _ _ _ h=>h)
    (hw:Region.wanted oi (yielded ops a.tmps)=false:=by rfl) (hS:S w:=by assumption):wpAnyH P md ops Q S (fuel+1) listed a w:=by
  unfold mayTake at hc;rw [Bool.and_eq_true,Bool.and_eq_true] at hc;exact wpAnyH_take hi hc.1 hc.2.1 hc.2.2 hQ (.inr ⟨hw,rfl⟩) hS h
theorem rd (i:Nat) {o:Oper} {fuel:Nat} {listed:Array Bool} {a:Act} {w:World}
    (h:∀ K':Act->World->Prop,Shut (∀ a w,S w->(S w->wpAnyH P md ops Q S fuel (listed.setIfInBounds i true) a w)->K' a w)->if Region.wanted o (yielded ops a.tmps)=true then Oper.wp P o a w K' Q else K' (a.put o.dst undef) w)
    (hr:Region.ready md ops listed=[i]:=by kernel_rfl) (ho:ops[i]?=some o:=by rfl):wpAnyH P md ops Q S (fuel+1) listed a w:=
  wpAnyH_ready hr (by simp) (AllReadyH.cons ho h AllReadyH.nil)
end
structure Tag (n:Nat) (p:Prop):Prop where
  out:p
theorem wof {n:Nat} {w c:World} {p:World->Prop} (D:Hid (Below n w c)) (h:∀ c,p c):p c:=h c
section
variable {P:Program} {ops:Array Oper} {Q:Exit->Act->World->Prop} {md:Region.Mode} {S:World->Prop}
theorem consT {fuel:Nat} {listed:Array Bool} {a:Act} {w:World} {i:Nat} {o:Oper} {rs:List Nat}
    (h:Tag i (∀ K':Act->World->Prop,Shut (∀ a w,S w->(S w->wpAnyH P md ops Q S fuel (listed.setIfInBounds i true) a w)->K' a w)->if Region.wanted o (yielded ops a.tmps)=true then Oper.wp P o a w K' Q else K' (a.put o.dst undef) w))
    (hs:AllReadyH P md ops Q S fuel listed a w rs) (ho:ops[i]?=some o:=by rfl):AllReadyH P md ops Q S fuel listed a w (i::rs):=AllReadyH.cons ho h.out hs
theorem rdT (rs:List Nat) {fuel:Nat} {listed:Array Bool} {a:Act} {w:World} (hr:decide (Region.ready md ops listed=rs)=true) (hne:rs≠[])
    (h:AllReadyH P md ops Q S fuel listed a w rs):wpAnyH P md ops Q S (fuel+1) listed a w:=wpAnyH_ready (of_decide_eq_true hr) hne h
theorem tkT (i:Nat) {v:Value} {oi:Oper} {fuel:Nat} {listed:Array Bool} {a:Act} {w:World} (hc:mayTake md ops listed i=true)
    (h:wpAnyH P md ops Q S fuel (listed.setIfInBounds i true) (a.put oi.dst v) w)
    (hi:ops[i]?=some oi:=by rfl)
    (hw:Region.wanted oi (yielded ops a.tmps)=true:=by rfl) (hS:S w:=by assumption)
    (hy:∀ w,S w->(execOp a.eval oi).run P w=.ok (.value v) w:=by intro w hs;clear hs;go_simp <;> with_reducible rfl)
    (hQ:∀ c a w,Q (.panic c) (a.put oi.dst v) w->Q (.panic c) a w:=by exact fun _ _ _ h=>h):wpAnyH P md ops Q S (fuel+1) listed a w:=
  tv i v hy h hi hc hQ hw hS
theorem dnT {fuel:Nat} {listed:Array Bool} {a:Act} {w:World} (hr:decide (Region.ready md ops listed=[])=true) (h:Q .normal a w):wpAnyH P md ops Q S fuel listed a w:=
  wpAnyH_done (of_decide_eq_true hr) h fuel
end
section
variable {P:Program} {ops:Array Oper} {Q:Exit->Act->World->Prop} {md:Region.Mode} {S:World->Prop}
theorem oper_val {o:Oper} {a:Act} {w w':World} {v:Value} {K:Act->World->Prop} (hr:(execOp a.eval o).run P w=.ok (.value v) w') (h:K (a.put o.dst v) w'):Oper.wp P o a w K Q:=by
  unfold Oper.wp;rw [hr];exact h
theorem oper_skip {o:Oper} {a:Act} {w w':World} {K:Act->World->Prop} (hr:(execOp a.eval o).run P w=.ok .skip w') (h:K (a.put o.dst undef) w'):Oper.wp P o a w K Q:=by
  unfold Oper.wp;rw [hr];exact h
theorem oper_call {o:Oper} {a:Act} {w:World} {f:FuncId} {args:Array Value} {K:Act->World->Prop} {R:Ending->World->Prop} (hr:(execOp a.eval o).run P w=.ok (.enter f args) w) (hc:Calls P f args w R) (h:∀ e w',R e w'->∃ v,e=.returned v/\K (a.put o.dst v) w'):Oper.wp P o a w K Q:=by
  unfold Oper.wp;rw [hr];refine hc.mono fun e w' k=>?_;obtain ⟨v,rfl,hk⟩:=h e w' k;exact hk
theorem exec_load {op:Oper} {ρ:Operand->Value} {w:World} {ty:TypeId} {x:Operand} (ho:op.op=.load ty x) {p V:Value} (hx:ρ x=p) (h:(Instr.loadAt ty p).run P w=.ok V w):(execOp ρ op).run P w=.ok (.value V) w:=by
  unfold execOp;simp only [ho,hx,Sem.run_bind,h,Result.andThen_ok]
  rfl
theorem exec_store {op:Oper} {ρ:Operand->Value} {w w':World} {ty:TypeId} {x y:Operand} (ho:op.op=.store ty x y) {p V:Value} (hx:ρ x=p) (hy:ρ y=V) (h:(Instr.storeAt ty p V).run P w=.ok () w'):(execOp ρ op).run P w=.ok .skip w':=by
  unfold execOp;simp only [ho,hx,hy,Sem.run_bind,h,Result.andThen_ok]
  rfl
theorem exec_fn {op:Oper} {ρ:Operand->Value} {w:World} {f:FuncId} {xs:Array Operand} {ts:Array TypeId} (ho:op.op=.call { callee:=.value (.func f),args:=xs,argTypes:=ts }) (hf:ρ (.func f)=.func (.func f) #[] #[]) (he:∀ args w,(callFunc f args).run P w=.ok (.enter f args) w) {args:Array Value} (ha:xs.map ρ=args):(execOp ρ op).run P w=.ok (.enter f args) w:=by
  unfold execOp;simp [ho,ha,hf,resolve,invoke,he,Deferred.ofValue]
end
end Go.Proofs.YtliekocamnklfaaGreatDoor
set_option linter.unusedSimpArgs false
set_option maxRecDepth 100000
set_option maxHeartbeats 4000000
namespace Go.Proofs.YtliekocamnklfaaGreatDoor.Save
open Go.RowKit Go.Shelf Utf Strs Go.Proofs.YtliekocamnklfaaGreatDoor.Addr Go.Proofs.YtliekocamnklfaaGreatDoor.State
open Jdec (Raw JV IsV IsTexts Turn gb_set gb8 set8 val_ret val_cells own_new)
def strR (s:ByteArray):Raw:=⟨4,false,false,⟨#[]⟩,0,s,none,0,0,none,0,0⟩
def objR (ka:Option Addr) (kn kc:Nat) (va:Option Addr) (vn vc:Nat):Raw:=⟨6,false,false,⟨#[]⟩,0,⟨#[]⟩,ka,kn,kc,va,vn,vc⟩
def lstR (va:Option Addr) (vn vc:Nat):Raw:=⟨5,false,false,⟨#[]⟩,0,⟨#[]⟩,none,0,0,va,vn,vc⟩
theorem strR_is (w:World) (A:Nat->Prop) (s:ByteArray):IsV w A (strR s) (strV s):=IsV.bare w A 4 false false ⟨#[]⟩ 0 s none none 0 0
theorem infoNum:(Tryz.prog.info? 25).map (·.size)=some 3:=by kernel_rfl
theorem num_ret {F:Func} {p:Tmp} (hr:F.results=#[.cell p 25]) {tm:Array Value} {x y z:Value} {R:Ending->World->Prop} {w':World} {b:Nat}
    (hb:w'.heap[b]?=some (.cells #[x,y,z] 25 (0,0))) (hp:tm.getD p undef=.pointer (some ⟨b,0,none⟩)) (hR:R (.returned (.agg #[x,y,z])) w') :
    bodyPost Tryz.prog F R Exit.ret { tmps:=tm,defers:=[] } w':=
  bodyPost_ret (results_cell_row hr tm w' b _ _ _ _ hp hb Tryz.underlying25 rfl infoNum) rfl hR
theorem num_new (w:World):∃ w1,w.alloc (.cells #[.bool false,.string ⟨#[]⟩,.int .i64 0] 25)=w1/\Hid (w1.heap[w.heap.size]?=some (.cells #[.bool false,.string ⟨#[]⟩,.int .i64 0] 25 (0,0)))/\Hid (Below w.heap.size w w1):=
  ⟨_,rfl,heap_alloc_new _ _,(Below.refl _ _).alloc (Nat.le_refl _) _⟩
theorem set3n {w:World} {b:Nat} {x y z:Value} {T:TypeId} (h:w.heap[b]?=some (.cells #[x,y,z] T (0,0))) (a c d:Value):(((w.setCell ⟨b,0,none⟩ a).setCell ⟨b,1,none⟩ c).setCell ⟨b,2,none⟩ d).heap[b]?=some (.cells #[a,c,d] T (0,0)):=by
  rw [heap_set_same (heap_set_same (heap_set_same h (i:=0) a) (i:=1) c) (i:=2) d];simp
theorem ofD_empty {n:Nat} {q:ByteArray} (hq:(⟨(Lib.trimRightB (Lib.decDigits n) 48).toArray⟩:ByteArray)=q) (b:Bool) (hb:q.toList.isEmpty=b):(b=true->ofD n=[])/\(b=false->ofD n≠[]):=by
  rw [ByteArray.toList_eq,<-hq] at hb;simp only [] at hb
  unfold ofD
  cases b with
  | true=>exact ⟨fun _=>List.isEmpty_iff.1 hb,fun h=>by cases h⟩
  | false=>exact ⟨(fun h=>by cases h),fun _ e=>by rw [e] at hb;cases hb⟩
def OfPost (n:Nat) (w:World) (e:Ending) (w':World):Prop:=e=.returned (.agg #[.bool false,.string ⟨(ofN n).1.toArray⟩,.int .i64 ((ofN n).2:Nat)])/\Below w.heap.size w w'
theorem OfPost.to {n:Nat} {w w':World} {e:Ending} (h:OfPost n w e w'):∃ (d:ByteArray) (x:Nat),e=.returned (.agg #[.bool false,.string d,.int .i64 x])/\Hid ((⟨(ofN n).1.toArray⟩:ByteArray)=d/\(ofN n).2=x)/\Hid (Below w.heap.size w w'):=⟨_,_,h.1,⟨rfl,rfl⟩,h.2⟩
theorem of_any (n:Nat) (hn:n<18446744073709551616) (w:World) (htab:Jdec.Pow10 w):Hid (Calls Tryz.prog 65 #[.int .u64 n] w (OfPost n w)):=by
  show Calls _ _ _ _ _;obtain ⟨w1,hw1,V1,B1⟩:=num_new w;have HT:=Hid.out (p:=Hid _) (htab.stays B1.out);have HF:=Hid.out (p:=Hid _) (formatUint_any n hn w1 HT.out);obtain ⟨d,hd⟩:∃ d:ByteArray,(⟨(Lib.decDigits n).toArray⟩:ByteArray)=d:=⟨_,rfl⟩;obtain ⟨q,hq⟩:∃ q:ByteArray,(⟨(Lib.trimRightB (Lib.decDigits n) 48).toArray⟩:ByteArray)=q:=⟨_,rfl⟩;have hl:=digits_le 19 n (by omega);have hds:d.size=(Lib.decDigits n).length:=by rw [<-hd,Lib.size_mk]
  have hqs:q.size=(ofD n).length:=by rw [<-hq,Lib.size_mk];rfl
  have hle:(ofD n).length<=(Lib.decDigits n).length:=by
    have:=congrArg List.length (trim_split (Lib.decDigits n) 48);rw [List.length_append] at this;unfold ofD;omega
  rw [hd] at HF;have HTR:Hid (∀ W:World,Calls Tryz.prog 109 #[.string d,.string ⟨#[48]⟩] W fun e w'=>e=.returned (.string q)/\W=w'):=fun W=>by
    have:=Tryz.strings_TrimRight_one d 48 (by decide) W (by omega);rw [show d.data.toList=Lib.decDigits n by rw [<-hd],hq] at this;exact this.mono fun e w' h=>⟨h.1,h.2.symm⟩
  obtain ⟨x,hx⟩:∃ x:Nat,x=d.size-q.size:=⟨_,rfl⟩;have hx2:(d.size:Int)-(q.size:Int)=(x:Int):=by omega
  have hx3:IntKind.i64.wrap (x:Int)=(x:Int):=IntWalk.i64_in _ (by omega);obtain ⟨b,hb⟩:∃ b,q.toList.isEmpty=b:=⟨_,rfl⟩;have HE:=Hid.out (p:=Hid _) (ofD_empty hq b hb);have HQ:Hid (ofN n=if b=true then ([],0) else (q.data.toList,x)):=by
    unfold ofN Hid
    cases b with
    | true=>rw [if_pos (HE.out.1 rfl),if_pos rfl]
    | false=>
      rw [if_neg (HE.out.2 rfl),if_neg (by decide)];refine Prod.ext ?_ ?_
      · show ofD n=_;rw [<-hq];rfl
      · show (Lib.decDigits n).length-(ofD n).length=x;omega
  clear hd hq hds hqs hle hl hx HE htab;obtain ⟨⟨z0,z1,z2⟩,f0,f1,f2⟩:(w1.cell? ⟨w.heap.size,0,none⟩=some (.bool false)/\w1.cell? ⟨w.heap.size,1,none⟩=some (.string ⟨#[]⟩)/\w1.cell? ⟨w.heap.size,2,none⟩=some (.int .i64 0))/\w1.frozen? ⟨w.heap.size,0,none⟩=false/\w1.frozen? ⟨w.heap.size,1,none⟩=false/\w1.frozen? ⟨w.heap.size,2,none⟩=false:=⟨⟨cell_of V1.out 0,cell_of V1.out 1,cell_of V1.out 2⟩,frozen_of V1.out 0,frozen_of V1.out 1,frozen_of V1.out 2⟩;clear z0 z1 z2 f0 f1 f2;go_enter Tryz.func65,Tryz.ntmps65
  go_wp2_with fail
  refine (Calls.mono HF.out ?_);rintro z w2 ⟨rfl,h2⟩;have B2:Hid (Below w.heap.size w w2):=B1.out.trans (h2.mono B1.out.size);have V2:Hid (w2.heap[w.heap.size]?=some (.cells #[.bool false,.string ⟨#[]⟩,.int .i64 0] 25 (0,0))):=(h2.block _ (heap_lt V1.out)).trans V1.out;clear h2 hw1;go_wp2_with fail
  refine (Calls.mono (HTR.out w2) ?_);rintro z w3 ⟨rfl,rfl⟩;have z0:=cell_of V2.out 0;have z1:=cell_of V2.out 1;have z2:=cell_of V2.out 2;have f0:=frozen_of V2.out 0;have f1:=frozen_of V2.out 1;have f2:=frozen_of V2.out 2
  cases b with
  | true=>
    go_wp2_with fail
    refine num_ret (b:=w.heap.size) rfl (set3n V2.out _ _ _) rfl ?_;refine ⟨?_,B2.out.grown (((gb_set _ _ _ _).trans (gb_set _ _ _ _)).trans (gb_set _ _ _ _)) B2.out.size (fun x hx=>by injection hx with hx;omega)⟩;rw [HQ.out];rfl
  | false=>
    go_wp2_with fail
    refine num_ret (b:=w.heap.size) rfl (set3n V2.out _ _ _) rfl ?_;refine ⟨?_,B2.out.grown (((gb_set _ _ _ _).trans (gb_set _ _ _ _)).trans (gb_set _ _ _ _)) B2.out.size (fun x hx=>by injection hx with hx;omega)⟩;rw [HQ.out];rfl
open Jdec (Raw JV IsV IsTexts Turn gb_set gb_below gb8 set8 val_ret val_cells own_new infoKid flat_cells_len flat_cells_at listOf objectOf row_setCells setL_mid)
/-! ## strings.Join -/
theorem bel {w a b:World} (h:Hid (Below w.heap.size w a)) (e:Hid (Below a.heap.size a b)):Hid (Below w.heap.size w b):=h.out.trans (e.out.mono h.out.size)
theorem hst {w a:World} {b:Nat} {o:Obj} (h:Hid (w.heap[b]?=some o)) (e:Hid (Below w.heap.size w a)):Hid (a.heap[b]?=some o):=(e.out.block _ (heap_lt h.out)).trans h.out
/-! ## Rows of values -/
theorem cells_one (r:Raw):∀ u∈r.cells,u.oneCell'=true:=by
  intro u hu
  simp only [Raw.cells,List.mem_cons,List.mem_nil_iff,or_false] at hu
  rcases hu with rfl | rfl | rfl | rfl | rfl | rfl | rfl | rfl <;> rfl
theorem cell_add (b o j:Nat):(⟨b,o,none⟩:Addr).add j=⟨b,o+j,none⟩:=by unfold Addr.add;split <;> simp_all
end Go.Proofs.YtliekocamnklfaaGreatDoor.Save
