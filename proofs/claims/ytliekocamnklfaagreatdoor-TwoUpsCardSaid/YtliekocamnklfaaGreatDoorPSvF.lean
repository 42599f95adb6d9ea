/- A region that draws its order, an operation a line: what an operation's run is stands in the line, and nothing is laid out anew. -/
import Derived.Test.YtliekocamnklfaaGreatDoorPOnU
import Derived.Test.YtliekocamnklfaaGreatDoorPOnY
import Derived.Test.YtliekocamnklfaaGreatDoorPRegI
import Derived.Test.YtliekocamnklfaaGreatDoorPOnG
import Derived.Great.BuildSlice
import Derived.Deep.CutBlock
set_option linter.unusedVariables false
namespace Go.Proofs.YtliekocamnklfaaGreatDoor
open Go Go.RowKit
section
variable {P:Program} {ops:Array Oper} {Q:Exit->Act->World->Prop} {md:Region.Mode} {S:World->Prop}
theorem oper_val {o:Oper} {a:Act} {w w':World} {v:Value} {K:Act->World->Prop} (hr:(execOp a.eval o).run P w=.ok (.value v) w') (h:K (a.put o.dst v) w'):Oper.wp P o a w K Q:=by
  unfold Oper.wp;rw [hr];exact h
theorem oper_skip {o:Oper} {a:Act} {w w':World} {K:Act->World->Prop} (hr:(execOp a.eval o).run P w=.ok .skip w') (h:K (a.put o.dst undef) w'):Oper.wp P o a w K Q:=by
  unfold Oper.wp;rw [hr];exact h
theorem oper_call {o:Oper} {a:Act} {w:World} {f:FuncId} {args:Array Value} {K:Act->World->Prop} {R:Ending->World->Prop} (hr:(execOp a.eval o).run P w=.ok (.enter f args) w) (hc:Calls P f args w R) (h:∀ e w',R e w'->∃ v,e=.returned v/\K (a.put o.dst v) w'):Oper.wp P o a w K Q:=by
  unfold Oper.wp;rw [hr];refine hc.mono fun e w' k=>?_;obtain ⟨v,rfl,hk⟩:=h e w' k;exact hk
theorem exec_load {op:Oper} {ρ:Operand->Value} {w:World} {ty:TypeId} {x:Operand} (ho:op.op=.load ty x) {p V:Value} (hx:ρ x=p) (h:(Instr.loadAt ty p).run P w=.ok V w):(execOp ρ op).run P w=.ok (.value V) w:=by
  unfold execOp;simp only [ho,hx,Sem.run_bind,h,Result.andThen_ok]
  rfl
theorem exec_store {op:Oper} {ρ:Operand->Value} {w w':World} {ty:TypeId} {x y:Operand} (ho:op.op=.store ty x y) {p V:Value} (hx:ρ x=p) (hy:ρ y=V) (h:(Instr.storeAt ty p V).run P w=.ok () w'):(execOp ρ op).run P w=.ok .skip w':=by
  unfold execOp;simp only [ho,hx,hy,Sem.run_bind,h,Result.andThen_ok]
  rfl
theorem exec_fn {op:Oper} {ρ:Operand->Value} {w:World} {f:FuncId} {xs:Array Operand} {ts:Array TypeId} (ho:op.op=.call { callee:=.value (.func f),args:=xs,argTypes:=ts }) (hf:ρ (.func f)=.func (.func f) #[] #[]) (he:∀ args w,(callFunc f args).run P w=.ok (.enter f args) w) {args:Array Value} (ha:xs.map ρ=args):(execOp ρ op).run P w=.ok (.enter f args) w:=by
  unfold execOp;simp [ho,ha,hf,resolve,invoke,he,Deferred.ofValue]
end
end Go.Proofs.YtliekocamnklfaaGreatDoor
set_option linter.unusedSimpArgs false
set_option maxRecDepth 100000
namespace Go.Proofs.YtliekocamnklfaaGreatDoor.One
open Go.RowKit Strs Jdec Save Go.Proofs.YtliekocamnklfaaGreatDoor.Addr
theorem run_cells8 {w:World} {g o:Nat} {z:Raw} (K:CellsAt w g o z):(Instr.loadAt 29 (.pointer (some ⟨g,o,none⟩))).run Tryz.prog w=.ok z.val w:=by
  obtain ⟨e0,e1,e2,e3,e4,e5,e6,e7⟩:=K.eight
  go_simp <;> rfl
theorem run_str {w:World} {b o:Nat} {x:ByteArray} (h:w.cell? ⟨b,o,none⟩=some (.string x)):(Instr.loadAt 9 (.pointer (some ⟨b,o,none⟩))).run Tryz.prog w=.ok (.string x) w:=by
  go_simp <;> rfl
theorem run_store8 {w:World} {b:Nat} {z:Raw} (h:w.heap[b]?=some (.cells z.arr 29 (0,0))) (c:Raw):(Instr.storeAt 29 (.pointer (some ⟨b,0,none⟩)) c.val).run Tryz.prog w=.ok () ((((((((w.setCell ⟨b,0,none⟩ (.int .i64 c.kind)).setCell ⟨b,1,none⟩ (.bool c.is)).setCell ⟨b,2,none⟩ (.bool c.neg)).setCell ⟨b,3,none⟩ (.string c.dig)).setCell ⟨b,4,none⟩ (.int .i64 c.exp)).setCell ⟨b,5,none⟩ (.string c.str)).setCell ⟨b,6,none⟩ (.slice c.ka c.kn c.kc)).setCell ⟨b,7,none⟩ (.slice c.va c.vn c.vc)):=by
  obtain ⟨⟨v0,v1,v2,v3,v4,v5,v6,v7⟩,y0,y1,y2,y3,y4,y5,y6,y7⟩:=val_cells h;unfold Raw.val
  go_simp <;> rfl
section
variable {P:Program} {ops:Array Oper} {Q:Exit->Act->World->Prop} {md:Region.Mode} {S:World->Prop}
end
abbrev Ft:=(Nat->Prop)->Value->World->Prop
def FC (u:Value):Ft:=fun _ v _=>v=u
def FV (A:Nat->Prop) (t:JV):Ft:=fun C v w=>∃ z:Raw,v=z.val/\IsV w (fun b=>A b∨C b) z t
def FT (ks:List ByteArray):Ft:=fun C v w=>∃ b,v=.slice (some ⟨b,0,none⟩) ks.length ks.length/\C b/\IsTexts w C (some ⟨b,0,none⟩) ks
def FK (A:Nat->Prop) (ts:List JV):Ft:=fun C v w=>∃ (b:Nat) (L:List (Raw × JV)),L.map (·.2)=ts/\v=.slice (some ⟨b,0,none⟩) ts.length ts.length/\C b ∧
  w.heap[b]?=some (.cells ((L.map (·.1)).flatMap Raw.cells).toArray 29 (0,0))/\∀ x∈L,IsV w (fun b=>A b∨C b) x.1 x.2
def FB:Ft:=fun C v w=>∃ b,v=.pointer (some ⟨b,0,none⟩)/\C b/\w.heap[b]?=some (.cells Raw.zero.arr 29 (0,0))
class OldA (B:Nat) (A:Nat->Prop):Prop where
  old:∀ b,A b->b<B
theorem grew_turn {E A:Nat->Prop} {w w':World} (g:Grew E w w') (h:∀ b,A b->¬ E b):Turn w w' A A:=⟨g.size,fun b hb hl=>⟨g.block b hl (h b hb),hb⟩⟩
class Stab (B:Nat) (f:Ft):Prop where
  st:∀ C v w w' E,f C v w->Grew E w w'->(∀ b,C b∨b<B->¬ E b)->f C v w'
instance {B:Nat} {u:Value}:Stab B (FC u):=⟨fun _ _ _ _ _ h _ _=>h⟩
instance {B:Nat} {A:Nat->Prop} {t:JV} [OldA B A]:Stab B (FV A t):=⟨fun _ _ _ _ _ ⟨z,h1,h2⟩ g e=>⟨z,h1,h2.turn (grew_turn g fun b hb=>e b (hb.elim (fun h=>.inr (OldA.old b h)) .inl))⟩⟩
instance {B:Nat} {ks:List ByteArray}:Stab B (FT ks):=⟨fun _ _ _ _ _ ⟨b,h1,h2,h3⟩ g e=>⟨b,h1,h2,h3.turn (grew_turn g fun b hb=>e b (.inl hb))⟩⟩
instance {B:Nat} {A:Nat->Prop} {ts:List JV} [OldA B A]:Stab B (FK A ts):=⟨fun _ _ _ _ _ ⟨b,L,h1,h2,h3,h4,h5⟩ g e=>⟨b,L,h1,h2,h3,(g.block _ (heap_lt h4) (e b (.inl h3))).trans h4,fun x hx=>(h5 x hx).turn (grew_turn g fun b hb=>e b (hb.elim (fun h=>.inr (OldA.old b h)) .inl))⟩⟩
instance {B:Nat}:Stab B FB:=⟨fun _ _ _ _ _ ⟨b,h1,h2,h3⟩ g e=>⟨b,h1,h2,(g.block _ (heap_lt h3) (e b (.inl h2))).trans h3⟩⟩
class AllSt (B:Nat) (l:List Ft):Prop where
  st:∀ f∈l,Stab B f
instance {B:Nat}:AllSt B []:=⟨fun _ h=>by cases h⟩
instance {B:Nat} {f:Ft} {l:List Ft} [Stab B f] [AllSt B l]:AllSt B (f::l):=⟨fun g hg=>by
  rcases List.mem_cons.1 hg with rfl | h
  · infer_instance
  · exact AllSt.st g h⟩
def ofL (l:List Ft) (i:Nat):Ft:=l.getD i (fun _ _ _=>True)
theorem ofL_st (B:Nat) (l:List Ft) [AllSt B l] (i:Nat) (C:Nat->Prop) (v:Value) (w w':World) (E:Nat->Prop) (h:ofL l i C v w) (g:Grew E w w') (e:∀ b,C b∨b<B->¬ E b) (hB:B<=w.heap.size):ofL l i C v w':=by
  unfold ofL at *;rw [List.getD_eq_getElem?_getD] at *
  cases hi:l[i]? with
  | none=>trivial
  | some f=>
    rw [hi] at h;exact (AllSt.st (B:=B) f (List.mem_of_getElem? hi)).st C v w w' E h g e
theorem run_kids (T:TypeId) (hT:Tryz.prog.underlying T=some (.slice 29)) (zs:List Raw) (h0:zs≠[]) (hle:zs.length<=100) (w:World):(Instr.buildSlice T zs.length ((zs.map Raw.val).zipIdx.map fun x=>(x.2,x.1)).toArray).run Tryz.prog w=.ok (.slice (some ⟨w.heap.size,0,none⟩) zs.length zs.length) (w.alloc (.cells (zs.flatMap Raw.cells).toArray 29)):=by
  have hpos:=List.length_pos_iff.2 h0;obtain ⟨ie,hie,hs,z,hz⟩:∃ ie,Tryz.prog.info? 29=some ie/\ie.size=8/\∃ z,ie.zero=some z:=⟨_,rfl,rfl,_,rfl⟩;obtain ⟨r,hr,hrs,hrk⟩:=Great.fill_dense (s:=8) (by omega) (zs.map Raw.val) 0 ((Array.range (zs.length*8)).map (z.cells[· % z.cells.size]!)) (fun v hv=>by obtain ⟨q,_,rfl⟩:=List.mem_map.1 hv;rfl) (by simp);refine run_buildSlice w T _ _ _ _ ie z hT hie hz (by rw [hs];omega) (by rw [hs];omega) ?_;rw [hs];refine hr.trans (congrArg some (Array.ext_getElem? fun k=>?_));rw [hrk];simp only [List.length_map,Nat.zero_add,Nat.zero_mul,Nat.zero_le,true_and,Nat.sub_zero,List.getElem?_toArray]
  by_cases hk:k<zs.length*8
  · have hd:k / 8<zs.length:=by omega
    rw [if_pos hk,List.getElem?_map,List.getElem?_eq_getElem hd];have h8:=flat8_at zs (k / 8) hd (k % 8) (Nat.mod_lt _ (by omega));rw [show k / 8*8+k % 8=k by omega] at h8;rw [h8];simp only [Option.map_some,Option.bind_some]
    exact List.getElem?_toArray
  · rw [if_neg hk,List.getElem?_eq_none (by rw [flat_cells_len];omega),Array.getElem?_eq_none (by simp;omega)]
theorem run_obj (ka:Option Addr) (n c:Nat) (va:Option Addr) (m d:Nat) (w:World):(Instr.build 29 #[(0,.int .i64 6),(4,.slice ka n c),(5,.slice va m d)]).run Tryz.prog w=.ok (objR ka n c va m d).val w:=by
  go_simp <;> rfl
theorem run_box (w:World):(Instr.alloc 29 true (.tuple #[])).run Tryz.prog w=.ok (.pointer (some ⟨w.heap.size,0,none⟩)) (w.alloc (.cells Raw.zero.arr 29)):=by
  go_simp <;> rfl
section
variable {P:Program} {ops:Array Oper} {Q:Exit->Act->World->Prop} {F:Nat->Ft} {eats:Nat->Nat->Bool} {box:Nat->Bool} {w0:World} {a0:Act} {i:Nat} {o:Oper}
theorem rest_at {a a0:Act} (R:∀ s,freeOf ops s=true->a.tmps[s]?=a0.tmps[s]?) (s:Nat) (hf:freeOf ops s=true) {v:Value} (hv:a0.tmps[s]?=some v):a.eval (.tmp s)=v:=by
  show a.tmps.getD s undef=v;rw [Array.getD_eq_getD_getElem?,R s hf,hv]
  rfl
theorem dep_at {a:Act} {w:World} {K:Nat->Nat->Prop} (D:∀ d,mayUse ops eats i d=true->F d (K d) (valAt ops a d) w) (d s:Nat) (h:(mayUse ops eats i d && slotOf ops d == some s)=true):F d (K d) (a.eval (.tmp s)) w:=by
  rw [Bool.and_eq_true,beq_iff_eq] at h;have:=D d h.1;unfold valAt at this;rw [h.2] at this;exact this
theorem args1 {ρ:Operand->Value} {x:Operand} {u:Value} (h:ρ x=u):#[x].map ρ=#[u]:=by simp [h]
theorem args2 {ρ:Operand->Value} {x y:Operand} {u v:Value} (h:ρ x=u) (k:ρ y=v):#[x,y].map ρ=#[u,v]:=by simp [h,k]
theorem alln {α:Type} {p:α->Prop}:∀ x∈([]:List α),p x:=fun x h=>by cases h
theorem allc {α:Type} {p:α->Prop} {a:α} {l:List α} (h:p a) (hs:∀ x∈l,p x):∀ x∈a::l,p x:=fun x hx=>by
  rcases List.mem_cons.1 hx with rfl | hx
  · exact h
  · exact hs x hx
theorem sC (u:Value) (hF:F i=FC u) (hl:∀ v,laid o v=v)
    (h:∀ (a:Act) (w:World) (K:Nat->Nat->Prop),Below w0.heap.size w0 w->(∀ s,freeOf ops s=true->a.tmps[s]?=a0.tmps[s]?)->(∀ d,mayUse ops eats i d=true->F d (K d) (valAt ops a d) w)->(execOp a.eval o).run P w=.ok (.value u) w) :
    StepOf P ops Q F eats box w0 a0 i o:=fun a w K B R D N=>oper_val (h a w K B R D) ⟨u,fun _=>False,rfl,Grew.below (Below.refl _ _),by rw [hF,hl];exact rfl,fun b hb=>hb.elim⟩
theorem sT (ks:List ByteArray) (T:TypeId) (hF:F i=FT ks) (hl:∀ v,laid o v=v)
    (hr:∀ (a:Act) (w:World),(execOp a.eval o).run P w=.ok (.value (.slice (some ⟨w.heap.size,0,none⟩) ks.length ks.length)) (w.alloc (.cells (ks.map Value.string).toArray T))) :
    StepOf P ops Q F eats box w0 a0 i o:=fun a w K B R D N=>oper_val (hr a w) ⟨_,fun b=>b=w.heap.size,rfl,Grew.below ((Below.refl _ _).alloc (Nat.le_refl _) _),by
      rw [hF,hl];exact ⟨w.heap.size,rfl,rfl,.inr ⟨w.heap.size,0,rfl,rfl,by simp,fun j hj=>by rw [cell_of (heap_alloc_new w _)];simp [hj]⟩⟩,fun b hb=>.inl ⟨by omega,by subst hb;simp⟩⟩
theorem sS (u:Value) (hF:F i=FC u) (hl:∀ v,laid o v=v)
    (h:∀ (a:Act) (w:World) (K:Nat->Nat->Prop),Below w0.heap.size w0 w->(∀ s,freeOf ops s=true->a.tmps[s]?=a0.tmps[s]?)->(∀ d,mayUse ops eats i d=true->F d (K d) (valAt ops a d) w) →
      ∃ f args,(execOp a.eval o).run P w=.ok (.enter f args) w/\Calls P f args w fun e w'=>e=.returned u/\Below w.heap.size w w') :
    StepOf P ops Q F eats box w0 a0 i o:=fun a w K B R D N=>by
  obtain ⟨f,args,hr,hc⟩:=h a w K B R D;exact oper_call hr hc fun e w' ⟨he,hb⟩=>⟨u,he,u,fun _=>False,rfl,Grew.below hb,by rw [hF,hl];exact rfl,fun b hb=>hb.elim⟩
theorem sV (A:Nat->Prop) (t:JV) (hF:F i=FV A t) (hl:∀ v,laid o v=v)
    (h:∀ (a:Act) (w:World) (K:Nat->Nat->Prop),Below w0.heap.size w0 w->(∀ s,freeOf ops s=true->a.tmps[s]?=a0.tmps[s]?)->(∀ d,mayUse ops eats i d=true->F d (K d) (valAt ops a d) w) →
      ∃ f args A',(execOp a.eval o).run P w=.ok (.enter f args) w/\Calls P f args w (ValP t A' w)/\∀ b,A' b->A b∨w.heap.size<=b) :
    StepOf P ops Q F eats box w0 a0 i o:=fun a w K B R D N=>by
  obtain ⟨f,args,A',hr,hc,hA⟩:=h a w K B R D;refine oper_call hr hc fun e w' ⟨z,he,hi,hb⟩=>⟨_,he,_,fun b=>w.heap.size<=b/\b<w'.heap.size,rfl,Grew.below hb,?_,fun b hb=>.inl hb⟩;rw [hF,hl];exact ⟨z,rfl,hi.turn (Turn.mono w' fun b h1 h2=>(hA b h1).imp id fun h=>⟨h,h2⟩)⟩
theorem kids_got {A:Nat->Prop} {a:Act} {w:World} {K:Nat->Nat->Prop} (D:∀ d,mayUse ops eats i d=true->F d (K d) (valAt ops a d) w):∀ (ds:List (Nat × JV)),(∀ d∈ds,mayUse ops eats i d.1=true/\F d.1=FV A d.2) →
    ∃ L:List (Raw × JV),L.map (·.2)=ds.map (·.2)/\ds.map (fun d=>valAt ops a d.1)=L.map (fun x=>x.1.val)/\∀ x∈L,IsV w (fun b=>A b∨∃ d∈ds,K d.1 b) x.1 x.2
  | [],_=>⟨[],rfl,rfl,fun x h=>by cases h⟩
  | d::ds,h=>by
    obtain ⟨L,h1,h2,h3⟩:=kids_got D ds fun x hx=>h x (List.mem_cons_of_mem _ hx);obtain ⟨hh,hF⟩:=h d List.mem_cons_self;have hd:=D d.1 hh;rw [hF] at hd;obtain ⟨z,hz,hi⟩:=hd;refine ⟨(z,d.2)::L,by rw [List.map_cons,List.map_cons,h1],by rw [List.map_cons,List.map_cons,h2,hz],fun x hx=>?_⟩;rcases List.mem_cons.1 hx with rfl | hx
    · exact hi.turn (Turn.mono w fun b hb _=>hb.imp id fun hb=>⟨d,List.mem_cons_self,hb⟩)
    · exact (h3 x hx).turn (Turn.mono w fun b hb _=>hb.imp id fun ⟨q,hq,hb⟩=>⟨q,List.mem_cons_of_mem _ hq,hb⟩)
theorem sK {Q:Exit->Act->World->Prop} (A:Nat->Prop) (ds:List (Nat × JV)) (T:TypeId) (parts:Array (Nat × Operand)) (ho:o.op=.buildSlice T ds.length parts) (hT:Tryz.prog.underlying T=some (.slice 29))
    (hF:F i=FK A (ds.map (·.2))) (hl:∀ v,laid o v=v) (hd:∀ d∈ds,mayUse ops eats i d.1=true/\F d.1=FV A d.2) (hb:∀ d∈ds,box d.1=false) (hbi:box i=false) (h0:ds≠[]) (hle:ds.length<=100)
    (hp:∀ a:Act,(parts.map fun (i,x)=>(i,a.eval x))=((ds.map fun d=>valAt ops a d.1).zipIdx.map fun x=>(x.2,x.1)).toArray):StepOf Tryz.prog ops Q F eats box w0 a0 i o:=fun a w K B R D N=>by
  obtain ⟨L,h1,h2,h3⟩:=kids_got (A:=A) D ds hd;have hlen:(L.map (·.1)).length=ds.length:=by rw [List.length_map,<-List.length_map (f:=fun x:Raw × JV=>x.2),h1,List.length_map]
  have hr:(execOp a.eval o).run Tryz.prog w=.ok (.value (.slice (some ⟨w.heap.size,0,none⟩) ds.length ds.length)) (w.alloc (.cells ((L.map (·.1)).flatMap Raw.cells).toArray 29)):=by
    have hk:=run_kids T hT (L.map (·.1)) (fun e=>by rw [e] at hlen;exact h0 (List.length_eq_zero_iff.1 hlen.symm)) (by omega) w;rw [hlen] at hk;have hpa:=hp a;rw [h2,show L.map (fun x=>x.1.val)=(L.map (·.1)).map Raw.val by rw [List.map_map];rfl] at hpa;unfold execOp;simp only [ho,hpa,Sem.run_bind,hk,Result.andThen_ok]
    rfl
  refine oper_val hr ⟨_,fun b=>b=w.heap.size∨∃ d∈ds,K d.1 b,rfl,Grew.below ((Below.refl _ _).alloc (Nat.le_refl _) _),?_,fun b hb'=>?_⟩
  · rw [hF,hl];exact ⟨w.heap.size,L,h1,by rw [List.length_map],.inl rfl,heap_alloc_new _ _,fun x hx=>((h3 x hx).turn (Turn.mono w fun b hb _=>hb.imp id .inr)).behind ((Below.refl _ _).alloc (Nat.le_refl _) _)⟩
  · rcases hb' with rfl | ⟨d,hd',hb'⟩
    · exact .inl ⟨by omega,by simp⟩
    · exact .inr ⟨d.1,(hd d hd').1,.inr ⟨hbi,hb d hd'⟩,hb'⟩
theorem sO {Q:Exit->Act->World->Prop} (A:Nat->Prop) (ks:List ByteArray) (ts:List JV) (dk dv:Nat) (hk:F dk=FT ks) (hv:F dv=FK A ts) (parts:Array (Nat × Operand)) (ho:o.op=.build 29 parts)
    (hF:F i=FV A (objectOf ks ts)) (hl:∀ v,laid o v=v) (hd:(mayUse ops eats i dk && mayUse ops eats i dv && !box dk && !box dv && !box i)=true)
    (hp:∀ a:Act,(parts.map fun (i,x)=>(i,a.eval x))=#[(0,.int .i64 6),(4,valAt ops a dk),(5,valAt ops a dv)]):StepOf Tryz.prog ops Q F eats box w0 a0 i o:=fun a w K B R D N=>by
  simp only [Bool.and_eq_true,Bool.not_eq_true'] at hd
  obtain ⟨⟨⟨⟨d1,d2⟩,b1⟩,b2⟩,b3⟩:=hd;have k1:=D dk d1;have k2:=D dv d2;rw [hk] at k1;rw [hv] at k2;obtain ⟨kb,e1,c1,T1⟩:=k1;obtain ⟨vb,L,rfl,e2,c2,V2,I2⟩:=k2;have hpa:=hp a;rw [e1,e2] at hpa;have hr:(execOp a.eval o).run Tryz.prog w=.ok (.value (objR (some ⟨kb,0,none⟩) ks.length ks.length (some ⟨vb,0,none⟩) (L.map (·.2)).length (L.map (·.2)).length).val) w:=by
    unfold execOp;simp only [ho,hpa,Sem.run_bind,run_obj,Result.andThen_ok]
    rfl
  refine oper_val hr ⟨_,fun b=>K dk b∨K dv b,rfl,Grew.below (Below.refl _ _),?_,fun b hb=>.inr ?_⟩
  · rw [hF,hl];exact ⟨_,rfl,obj_is L (Hid.out (p:=Hid _) (T1.turn (Turn.mono w fun _ _ _=>trivial))) (Hid.out (p:=Hid _) V2) (.inr (.inl c1)) (.inr (.inr c2)) (fun x hx=>(I2 x hx).turn (Turn.mono w fun b hb _=>hb.imp id .inr)) _ _ rfl (List.length_map ..)⟩
  · rcases hb with hb | hb
    · exact ⟨dk,d1,.inr ⟨b3,b1⟩,hb⟩
    · exact ⟨dv,d2,.inr ⟨b3,b2⟩,hb⟩
theorem sB {Q:Exit->Act->World->Prop} (ho:o.op=.alloc 29) (hF:F i=FB) (hl:∀ v,laid o v=v):StepOf Tryz.prog ops Q F eats box w0 a0 i o:=fun a w K B R D N=>by
  have hr:(execOp a.eval o).run Tryz.prog w=.ok (.value (.pointer (some ⟨w.heap.size,0,none⟩))) (w.alloc (.cells Raw.zero.arr 29)):=by
    unfold execOp;simp only [ho,Sem.run_bind,run_box,Result.andThen_ok]
    rfl
  refine oper_val hr ⟨_,fun b=>b=w.heap.size,rfl,Grew.below ((Below.refl _ _).alloc (Nat.le_refl _) _),?_,fun b hb=>.inl ⟨by omega,by subst hb;simp⟩⟩;rw [hF,hl];exact ⟨w.heap.size,rfl,rfl,heap_alloc_new _ _⟩
theorem exec_move {ρ:Operand->Value} {w:World} {x:Operand} (ho:o.op=.move x) {V:Value} (hx:ρ x=V):(execOp ρ o).run P w=.ok (.value V) w:=by
  unfold execOp;simp only [ho,hx]
  rfl
theorem exec_field {ρ:Operand->Value} {w:World} {s:TypeId} {f:Nat} {x:Operand} (ho:o.op=.fieldAddr s x f) {p V:Value} (hx:ρ x=p) (h:(Instr.fieldAt s p f).run P w=.ok V w):(execOp ρ o).run P w=.ok (.value V) w:=by
  unfold execOp;simp only [ho,hx,Sem.run_bind,h,Result.andThen_ok]
  rfl
theorem exec_index {ρ:Operand->Value} {w:World} {t:TypeId} {x y:Operand} (ho:o.op=.indexAddr t x y) {p q V:Value} (hx:ρ x=p) (hy:ρ y=q) (h:(Instr.indexAt t p q).run P w=.ok V w):(execOp ρ o).run P w=.ok (.value V) w:=by
  unfold execOp;simp only [ho,hx,hy,Sem.run_bind,h,Result.andThen_ok]
  rfl
theorem reg_last {id:Nat} (l:List Ft) (es:List (Nat × Nat)) (bx:List Nat) (n:Nat) (G:(Nat->Value)->Act->Act) {on:Oper} [AllSt w0.heap.size l] (hG:∀ u A,patch ops u A=G u A) (hm:P.follows .mixedOrders=true) (hc:okOps ops a0.tmps.size=true)
    (hl:(decide (n<ops.size) && (List.range ops.size).all fun i=>i == n || (under ops ops.size (depsOf ops n)).contains i || decide (ops.size<=n))=true) (hbx:(es.all fun e=>bx.contains e.2 && e.1 != e.2)=true)
    (steps:StepsFrom P ops Q (ofL l) (fun i d=>es.contains (i,d)) (fun i=>bx.contains i) w0 a0 n 0)
    (fin:∀ (u:Nat->Value) (w:World) (K:Nat->Nat->Prop) (a:Act),a=G u a0->(∀ i s,slotOf ops i=some s->a.eval (.tmp s)=u i)->Below w0.heap.size w0 w->(∀ i,i<ops.size->i≠n->(∀ j,j<ops.size->j≠n->es.contains (j,i)=false)->ofL l i (K i) (u i) w) →
      (∀ i b,i<ops.size->i≠n->K i b->w0.heap.size<=b/\b<w.heap.size)->(∀ i j b,i<ops.size->j<ops.size->i≠n->j≠n->(∀ k,k<ops.size->k≠n->es.contains (k,i)=false/\es.contains (k,j)=false)->bx.contains i=true->i≠j->K i b->¬ K j b)->on.wp P a w (fun a' w'=>Q .normal a' w') Q) (hon:ops[n]?=some on:=by rfl) :
    (Code.region id ops true).wp P Q a0 w0:=by
  rw [List.all_eq_true] at hbx;have hbx':∀ i d,es.contains (i,d)=true->bx.contains d=true/\i≠d:=fun i d h=>by
    have:=hbx (i,d) (by simpa using h);rw [Bool.and_eq_true,bne_iff_ne] at this;exact this
  rw [Bool.and_eq_true] at hl;refine region_core (ofL l) (fun i d=>es.contains (i,d)) (fun i=>bx.contains i) n hm hc hl.2 hbx' (ofL_st _ l) steps (fun o ho a w K ha B D N1 N2=>?_) (fun h=>?_)
  · rw [hon] at ho;injection ho with e
    subst e;exact fin (valAt ops a) w K a (by rw [<-hG];exact ha) (fun i s h=>by unfold valAt;rw [h];rfl) B D N1 N2
  · rw [hon] at h;cases h
end
theorem run_slice7 {w:World} {b:Nat} {z:Raw} (h:w.heap[b]?=some (.cells z.arr 29 (0,0))):(Instr.loadAt 27 (.pointer (some ⟨b,7,none⟩))).run Tryz.prog w=.ok (.slice z.va z.vn z.vc) w:=by
  obtain ⟨⟨e0,e1,e2,e3,e4,e5,e6,e7⟩,_⟩:=val_cells h
  go_simp <;> rfl
theorem run_at {g o k n c:Nat} (T:TypeId) (hT:Tryz.prog.underlying T=some (.slice 29)) (hk:k<n) (w:World):(Instr.indexAt T (.slice (some ⟨g,o,none⟩) n c) (.int .i64 k)).run Tryz.prog w=.ok (.pointer (some ⟨g,o+k*8,none⟩)) w:=by
  obtain ⟨ie,hie,hs⟩:∃ ie,Tryz.prog.info? 29=some ie/\ie.size=8:=⟨_,rfl,rfl⟩;have h1:(0:Int)<=k/\(k:Int)<n:=⟨by omega,by omega⟩;simp [Instr.indexAt,asIntOf,run_underlying hT,sizeOf,typeInfo,hie,hs,h1,hk,Addr.add]
end Go.Proofs.YtliekocamnklfaaGreatDoor.One
namespace Go.Proofs.YtliekocamnklfaaGreatDoor.Save
open Go.RowKit Go.Shelf Utf Strs Go.Proofs.YtliekocamnklfaaGreatDoor.Addr
open Jdec (Raw JV IsV IsTexts Turn gb_set gb_below gb_refl gb8 set8 val_ret val_cells own_new KidsA listOf objectOf set6 set7 row_kept inB infoStr)
theorem wp_append_run {P:Program} {w w':World} {o:Oper} {a:Act} {K:Act->World->Prop} {Q:Exit->Act->World->Prop} {v':Value} (v1 v2:Value) (t:TypeId) (hr:(Builtin.append_ #[t,t] o.type #[v1,v2]).run P w=.ok v' w') (s x:Operand)
    (ho:o.op=.call { callee:=.builtin .append,args:=#[s,x],argTypes:=#[t,t] }) (hs:a.eval s=v1) (hx:a.eval x=v2) (h:K (a.put o.dst v') w'):Oper.wp P o a w K Q:=by
  unfold Oper.wp;simp [execOp,ho,resolve,invoke,builtin,hs,hx,hr,Result.andThen]
  exact h
end Go.Proofs.YtliekocamnklfaaGreatDoor.Save
