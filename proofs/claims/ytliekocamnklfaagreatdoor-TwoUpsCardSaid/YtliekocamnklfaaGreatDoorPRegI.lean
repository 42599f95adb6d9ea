/- A region that draws its order, told operation by operation: what each one yields from what it hangs on, whatever has come up. -/
import Derived.Orders
import Derived.Below
set_option linter.unusedVariables false
namespace Go.Proofs.YtliekocamnklfaaGreatDoor
open Go Go.RowKit
theorem count_on:∀ (l:List Bool) (i:Nat),l[i]?=some false->(l.set i true).count false+1=l.count false
  | [],_,h=>by simp at h
  | b::l,0,h=>by
    simp only [List.getElem?_cons_zero,Option.some.injEq] at h
    subst h;simp
  | b::l,i+1,h=>by
    have:=count_on l i (by simpa using h);rw [List.set_cons_succ,List.count_cons,List.count_cons];omega
theorem count_none:∀ (l:List Bool),l.count false=0->∀ i,i<l.length->l[i]?=some true
  | [],_,i,h=>by simp at h
  | b::l,h0,i,h=>by
    rw [List.count_cons] at h0;have hb:b=true:=by cases b <;> simp at h0 ⊢
    cases i with
    | zero=>simp [hb]
    | succ i=>simpa using count_none l (by omega) i (by simpa using h)
def okOps (ops:Array Oper) (n:Nat):Bool:=
  (List.range ops.size).all fun i=>match ops[i]? with
    | none=>true
    | some o=>o.guard.isNone && (o.after.all fun e=>e.on<i) && (match o.dst with
      | none=>true
      | some s=>decide (s<n) && (List.range ops.size).all fun j=>i == j || (match ops[j]? with
        | some o'=>o'.dst != some s
        | none=>true))
def hangsOn (ops:Array Oper) (i d:Nat):Bool:=match ops[i]? with
  | some o=>o.after.any fun e=>Region.binds .any e && e.on == d
  | none=>false
def slotOf (ops:Array Oper) (i:Nat):Option Tmp:=match ops[i]? with
  | some o=>o.dst
  | none=>none
def valAt (ops:Array Oper) (a:Act) (i:Nat):Value:=match slotOf ops i with
  | some s=>a.tmps.getD s undef
  | none=>undef
def freeOf (ops:Array Oper) (s:Nat):Bool:=(List.range ops.size).all fun i=>slotOf ops i != some s
def patch (ops:Array Oper) (u:Nat->Value) (a:Act):Act:=(List.range ops.size).foldl (fun b i=>b.put (slotOf ops i) (u i)) a
section
variable {P:Program} {ops:Array Oper} {Q:Exit->Act->World->Prop}
theorem wpAny_kept {md:Region.Mode} (I:Array Bool->Act->World->Prop) (hz:∀ L a w,I L a w->L.size=ops.size)
    (hlt:∀ (i:Nat) (o:Oper),ops[i]?=some o->∀ e∈o.after,e.on<i)
    (hd:∀ L a w,I L a w->(∀ i,i<ops.size->L[i]?=some true)->Q .normal a w)
    (hs:∀ L a w i o,I L a w->ops[i]?=some o->L[i]?=some false->(∀ e∈o.after,Region.binds md e=true->L[e.on]?=some true)->wpOp P ops Q i (I (L.setIfInBounds i true)) a w) :
    ∀ fuel L a w,I L a w->L.toList.count false<=fuel->wpAny P md ops Q fuel L a w:=by
  have hall:∀ L:Array Bool,L.size=ops.size->Region.ready md ops L=[]->∀ i,i<ops.size->L[i]?=some true:=by
    intro L hL hr i
    induction i using Nat.strongRecOn with
    | ind i ih=>
      intro hi
      have hiL:i<L.size:=by omega
      rw [Array.getElem?_eq_getElem hiL]
      cases hb:L[i] with
      | true=>rfl
      | false=>
        exfalso
        have hmem:i∈Region.ready md ops L:=by
          unfold Region.ready;rw [List.mem_filter];refine ⟨List.mem_range.2 hi,?_⟩;rw [Array.getElem?_eq_getElem hi];simp only [Option.map_some,Option.getD_some,Bool.and_eq_true,Array.getD_eq_getD_getElem?,Array.getElem?_eq_getElem hiL,hb,Array.all_eq_true_iff_forall_mem,Bool.or_eq_true]
          refine ⟨by simp,fun e he=>.inr ?_⟩;have he':=hlt i _ (Array.getElem?_eq_getElem hi) e he;rw [ih e.on he' (by omega)]
          rfl
        rw [hr] at hmem;simp at hmem
  intro fuel
  induction fuel with
  | zero=>
    intro L a w hI hc
    have hL:=hz _ _ _ hI;have h1:∀ i,i<ops.size->L[i]?=some true:=fun i hi=>by
      rw [<-Array.getElem?_toList];exact count_none L.toList (by omega) i (by simpa [hL] using hi)
    refine ⟨?_,hd _ _ _ hI h1⟩;unfold Region.ready;rw [List.filter_eq_nil_iff];intro i hi
    rw [List.mem_range] at hi;simp [Array.getD_eq_getD_getElem?,h1 i hi]
  | succ fuel ih=>
    intro L a w hI hc
    have hL:=hz _ _ _ hI;refine ⟨fun h=>hd _ _ _ hI (hall L hL h),fun i hi=>?_⟩;unfold Region.ready at hi;rw [List.mem_filter,List.mem_range] at hi;obtain ⟨hi,h1⟩:=hi;have hiL:i<L.size:=by omega
    rw [Array.getElem?_eq_getElem hi] at h1;simp only [Option.map_some,Option.getD_some,Bool.and_eq_true,Array.getD_eq_getD_getElem?,Array.getElem?_eq_getElem hiL,Array.all_eq_true_iff_forall_mem,Bool.or_eq_true,Bool.not_eq_true',Option.getD_some] at h1
    obtain ⟨hb,he⟩:=h1;have hf:L[i]?=some false:=by rw [Array.getElem?_eq_getElem hiL,hb]
    refine wpOp_mono (fun a w h=>ih _ _ _ h ?_) (hs L a w i _ hI (Array.getElem?_eq_getElem hi) hf fun e hem hbd=>?_)
    · have:=count_on L.toList i (by rw [Array.getElem?_toList];exact hf);rw [Array.toList_setIfInBounds];omega
    · rcases he e hem with h | h
      · rw [hbd] at h;cases h
      · cases hx:L[e.on]? with
        | none=>rw [hx] at h;cases h
        | some b=>rw [hx] at h;exact congrArg some h
theorem put_tmps (a:Act) (d:Option Tmp) (v:Value) (s:Nat):(a.put d v).tmps[s]?=if d=some s/\s<a.tmps.size then some v else a.tmps[s]?:=by
  cases d with
  | none=>simp [Act.put]
  | some d=>
    simp only [Act.put,Array.getElem?_setIfInBounds,Option.some.injEq]
    by_cases h:d=s
    · subst h;by_cases hs:d<a.tmps.size
      · simp [hs]
      · simp [hs]
    · simp [h]
theorem put_size (a:Act) (d:Option Tmp) (v:Value):(a.put d v).tmps.size=a.tmps.size:=by cases d <;> simp [Act.put]
theorem put_defers (a:Act) (d:Option Tmp) (v:Value):(a.put d v).defers=a.defers:=by cases d <;> rfl
theorem patch_get (a b:Act) (s:Nat) (hs:s<a.tmps.size):∀ (l:List Nat) (c:Act),c.tmps.size=a.tmps.size->(c.tmps[s]?=a.tmps[s]?∨∃ i∈l,slotOf ops i=some s) →
    (l.foldl (fun b i=>b.put (slotOf ops i) (valAt ops a i)) c).tmps[s]?=a.tmps[s]?
  | [],c,_,h=>by
    rcases h with h | ⟨_,h,_⟩
    · exact h
    · cases h
  | i::l,c,hz,h=>by
    rw [List.foldl_cons];refine patch_get a b s hs l _ (by rw [put_size,hz]) ?_;rw [put_tmps];by_cases hi:slotOf ops i=some s
    · refine .inl ?_;rw [if_pos ⟨hi,by omega⟩];simp [valAt,hi,Array.getElem?_eq_getElem hs,Array.getD_eq_getD_getElem?]
    · rw [if_neg (fun k=>hi k.1)];rcases h with h | ⟨j,hj,hjs⟩
      · exact .inl h
      · rcases List.mem_cons.1 hj with rfl | hj
        · exact absurd hjs hi
        · exact .inr ⟨j,hj,hjs⟩
theorem patch_frame:∀ (l:List Nat) (u:Nat->Value) (c:Act),(l.foldl (fun b i=>b.put (slotOf ops i) (u i)) c).tmps.size=c.tmps.size/\(l.foldl (fun b i=>b.put (slotOf ops i) (u i)) c).defers=c.defers
  | [],_,_=>⟨rfl,rfl⟩
  | i::l,u,c=>by
    obtain ⟨h1,h2⟩:=patch_frame l u (c.put (slotOf ops i) (u i));rw [List.foldl_cons];exact ⟨by rw [h1,put_size],by rw [h2,put_defers]⟩
theorem act_patch {a a0:Act} (hz:a.tmps.size=a0.tmps.size) (hd:a.defers=a0.defers) (hr:∀ s,freeOf ops s=true->a.tmps[s]?=a0.tmps[s]?):a=patch ops (valAt ops a) a0:=by
  obtain ⟨f1,f2⟩:=patch_frame (ops:=ops) (List.range ops.size) (valAt ops a) a0;have ht:(patch ops (valAt ops a) a0).tmps=a.tmps:=by
    refine Array.ext_getElem? fun s=>?_;by_cases hs:s<a.tmps.size
    · refine patch_get (ops:=ops) a a s hs _ a0 hz.symm ?_
      cases hf:freeOf ops s with
      | true=>exact .inl (hr s hf).symm
      | false=>
        refine .inr ?_;unfold freeOf at hf;rw [List.all_eq_false] at hf;obtain ⟨i,hi,h⟩:=hf;exact ⟨i,hi,by simpa using h⟩
    · have hp:(patch ops (valAt ops a) a0).tmps.size=a0.tmps.size:=f1;rw [Array.getElem?_eq_none (by omega),Array.getElem?_eq_none (by omega)]
  obtain ⟨t,d⟩:=a;show _=patch ops _ a0;have hd':(patch ops (valAt ops ⟨t,d⟩) a0).defers=d:=f2.trans hd.symm;generalize patch ops (valAt ops ⟨t,d⟩) a0=p at *;obtain ⟨pt,pd⟩:=p;simp only at ht hd'
  rw [ht,hd']
structure Grew (E:Nat->Prop) (w w':World):Prop where
  os:w'.os=w.os
  tape:w'.tape=w.tape
  output:w'.output=w.output
  size:w.heap.size<=w'.heap.size
  block:∀ k,k<w.heap.size->¬ E k->w'.heap[k]?=w.heap[k]?
theorem Grew.below {E:Nat->Prop} {w w':World} (h:Below w.heap.size w w'):Grew E w w':=⟨h.os,h.tape,h.output,h.size,fun k hk _=>h.block k hk⟩
theorem Grew.keeps {E:Nat->Prop} {w w':World} {B:Nat} (h:Grew E w w') (hB:B<=w.heap.size) (hE:∀ b,b<B->¬ E b):Below B w w':=⟨h.os,h.tape,h.output,h.size,fun k hk=>h.block k (by omega) (hE k hk)⟩
def mayUse (ops:Array Oper) (eats:Nat->Nat->Bool) (i d:Nat):Bool:=hangsOn ops i d && (List.range ops.size).all fun j=>j == i || !eats j d
def Live (eats:Nat->Nat->Bool) (L:Array Bool) (i:Nat):Prop:=∀ j,L[j]?=some true->eats j i=false
structure Kept (ops:Array Oper) (F:Nat->(Nat->Prop)->Value->World->Prop) (eats:Nat->Nat->Bool) (box:Nat->Bool) (w0:World) (a0:Act) (L:Array Bool) (a:Act) (w:World) (K:Nat->Nat->Prop):Prop where
  tsize:a.tmps.size=a0.tmps.size
  defers:a.defers=a0.defers
  rest:∀ s,freeOf ops s=true->a.tmps[s]?=a0.tmps[s]?
  below:Below w0.heap.size w0 w
  fact:∀ i,L[i]?=some true->Live eats L i->F i (K i) (valAt ops a i) w
  own:∀ i b,L[i]?=some true->K i b->w0.heap.size<=b/\b<w.heap.size
  lone:∀ i j b,L[i]?=some true->L[j]?=some true->Live eats L i->Live eats L j->box i=true->i≠j->K i b->¬ K j b
def laid (o:Oper) (v:Value):Value:=match o.dst with
  | some _=>v
  | none=>undef
def StepOf (P:Program) (ops:Array Oper) (Q:Exit->Act->World->Prop) (F:Nat->(Nat->Prop)->Value->World->Prop) (eats:Nat->Nat->Bool) (box:Nat->Bool) (w0:World) (a0:Act) (i:Nat) (o:Oper):Prop:=
  ∀ (a:Act) (w:World) (K:Nat->Nat->Prop),Below w0.heap.size w0 w->(∀ s,freeOf ops s=true->a.tmps[s]?=a0.tmps[s]?) →
    (∀ d,mayUse ops eats i d=true->F d (K d) (valAt ops a d) w)->(∀ d b,hangsOn ops i d=true->K d b->w0.heap.size<=b/\b<w.heap.size) →
    o.wp P a w (fun a' w'=>∃ v C,a'=a.put o.dst v/\Grew (fun b=>∃ d,mayUse ops eats i d=true/\eats i d=true/\K d b) w w'/\F i C (laid o v) w' ∧
      ∀ b,C b->(w.heap.size<=b/\b<w'.heap.size)∨∃ d,mayUse ops eats i d=true/\(eats i d=true∨(box i=false/\box d=false))/\K d b) Q
def StepsFrom (P:Program) (ops:Array Oper) (Q:Exit->Act->World->Prop) (F:Nat->(Nat->Prop)->Value->World->Prop) (eats:Nat->Nat->Bool) (box:Nat->Bool) (w0:World) (a0:Act) (l k:Nat):Prop:=
  ∀ i o,k<=i->i≠l->ops[i]?=some o->StepOf P ops Q F eats box w0 a0 i o
theorem StepsFrom.nil {F:Nat->(Nat->Prop)->Value->World->Prop} {eats:Nat->Nat->Bool} {box:Nat->Bool} {w0:World} {a0:Act} {l k:Nat} (h:decide (ops.size<=k)=true):StepsFrom P ops Q F eats box w0 a0 l k:=fun i o hi _ ho=>by
  have h:=of_decide_eq_true h;rw [Array.getElem?_eq_none (by omega)] at ho;cases ho
theorem StepsFrom.cons {F:Nat->(Nat->Prop)->Value->World->Prop} {eats:Nat->Nat->Bool} {box:Nat->Bool} {w0:World} {a0:Act} {l k:Nat} {o:Oper} (h:StepOf P ops Q F eats box w0 a0 k o) (hs:StepsFrom P ops Q F eats box w0 a0 l (k+1)) (ho:ops[k]?=some o:=by rfl):StepsFrom P ops Q F eats box w0 a0 l k:=fun i o' hi hl ho'=>by
  rcases Nat.lt_or_ge k i with hk | hk
  · exact hs i o' hk hl ho'
  · obtain rfl:i=k:=by omega
    rw [ho] at ho';injection ho' with e
    subst e;exact h
theorem StepsFrom.last {F:Nat->(Nat->Prop)->Value->World->Prop} {eats:Nat->Nat->Bool} {box:Nat->Bool} {w0:World} {a0:Act} {l:Nat} (hs:StepsFrom P ops Q F eats box w0 a0 l (l+1)):StepsFrom P ops Q F eats box w0 a0 l l:=fun i o hi hl ho=>hs i o (by omega) hl ho
theorem okOps_at {n i:Nat} {o:Oper} (h:okOps ops n=true) (ho:ops[i]?=some o):o.guard=none/\(∀ e∈o.after,e.on<i)/\∀ s,o.dst=some s->s<n/\∀ j,i≠j->slotOf ops j≠some s:=by
  have hi:i<ops.size:=by
    rcases Nat.lt_or_ge i ops.size with hi | hi
    · exact hi
    · rw [Array.getElem?_eq_none hi] at ho;cases ho
  unfold okOps at h;rw [List.all_eq_true] at h;have h1:=h i (List.mem_range.2 hi);rw [ho] at h1;simp only [Bool.and_eq_true,Array.all_eq_true_iff_forall_mem,decide_eq_true_eq,Option.isNone_iff_eq_none] at h1
  refine ⟨h1.1.1,h1.1.2,fun s hs=>?_⟩;have h2:=h1.2;rw [hs] at h2;simp only [Bool.and_eq_true,decide_eq_true_eq,List.all_eq_true] at h2
  refine ⟨h2.1,fun j hj hjs=>?_⟩;unfold slotOf at hjs
  cases hj':ops[j]? with
  | none=>rw [hj'] at hjs;cases hjs
  | some o'=>
    rw [hj'] at hjs;have hjl:j<ops.size:=by
      rcases Nat.lt_or_ge j ops.size with hi | hi
      · exact hi
      · rw [Array.getElem?_eq_none hi] at hj';cases hj'
    have h3:=h2.2 j (List.mem_range.2 hjl);rw [hj'] at h3;simp only [Bool.or_eq_true,beq_iff_eq,bne_iff_ne] at h3
    rcases h3 with h3 | h3
    · exact hj h3
    · exact h3 hjs
theorem val_put {j:Nat} {o:Oper} {a:Act} {v:Value} (h:∀ s,o.dst=some s->slotOf ops j≠some s):valAt ops (a.put o.dst v) j=valAt ops a j:=by
  unfold valAt
  cases hs:slotOf ops j with
  | none=>rfl
  | some s=>
    show (a.put o.dst v).tmps.getD s undef=a.tmps.getD s undef;rw [Array.getD_eq_getD_getElem?,Array.getD_eq_getD_getElem?,put_tmps,if_neg (fun k=>h s k.1 hs)]
def depsOf (ops:Array Oper) (i:Nat):List Nat:=match ops[i]? with
  | some o=>(o.after.toList.filter (Region.binds .any)).map (·.on)
  | none=>[]
def under (ops:Array Oper):Nat->List Nat->List Nat
  | 0,s=>s
  | n+1,s=>under ops n (s++s.flatMap (depsOf ops)).eraseDups
theorem under_on {L:Array Bool} (h:∀ i,L[i]?=some true->∀ d∈depsOf ops i,L[d]?=some true):∀ (n:Nat) (s:List Nat),(∀ i∈s,L[i]?=some true)->∀ i∈under ops n s,L[i]?=some true
  | 0,s,hs,i,hi=>hs i hi
  | n+1,s,hs,i,hi=>by
    refine under_on h n _ (fun j hj=>?_) i hi;rw [List.mem_eraseDups,List.mem_append] at hj;rcases hj with hj | hj
    · exact hs j hj
    · obtain ⟨k,hk,hj⟩:=List.mem_flatMap.1 hj;exact h k (hs k hk) j hj
theorem region_core {id:Nat} {a0:Act} {w0:World} (F:Nat->(Nat->Prop)->Value->World->Prop) (eats:Nat->Nat->Bool) (box:Nat->Bool) (l:Nat) (hm:P.follows .mixedOrders=true) (hc:okOps ops a0.tmps.size=true)
    (hl:((List.range ops.size).all fun i=>i == l || (under ops ops.size (depsOf ops l)).contains i || decide (ops.size<=l))=true)
    (hbx:∀ i d,eats i d=true->box d=true/\i≠d)
    (stab:∀ i C v w w' E,F i C v w->Grew E w w'->(∀ b,C b∨b<w0.heap.size->¬ E b)->w0.heap.size<=w.heap.size->F i C v w')
    (steps:StepsFrom P ops Q F eats box w0 a0 l 0)
    (fin:∀ o,ops[l]?=some o->∀ (a:Act) (w:World) (K:Nat->Nat->Prop),a=patch ops (valAt ops a) a0->Below w0.heap.size w0 w->(∀ i,i<ops.size->i≠l->(∀ j,j<ops.size->j≠l->eats j i=false)->F i (K i) (valAt ops a i) w) →
      (∀ i b,i<ops.size->i≠l->K i b->w0.heap.size<=b/\b<w.heap.size)->(∀ i j b,i<ops.size->j<ops.size->i≠l->j≠l->(∀ k,k<ops.size->k≠l->eats k i=false/\eats k j=false)->box i=true->i≠j->K i b->¬ K j b)->o.wp P a w (fun a' w'=>Q .normal a' w') Q)
    (hend:ops[l]?=none->∀ (a:Act) (w:World) (K:Nat->Nat->Prop),a=patch ops (valAt ops a) a0->Below w0.heap.size w0 w->(∀ i,i<ops.size->(∀ j,j<ops.size->eats j i=false)->F i (K i) (valAt ops a i) w) →
      (∀ i b,i<ops.size->K i b->w0.heap.size<=b/\b<w.heap.size)->(∀ i j b,i<ops.size->j<ops.size->(∀ k,k<ops.size->eats k i=false/\eats k j=false)->box i=true->i≠j->K i b->¬ K j b)->Q .normal a w) :
    (Code.region id ops true).wp P Q a0 w0:=by
  refine wp_region_any hm (wpAny_kept (fun L a w=>L.size=ops.size/\(∀ i,L[i]?=some true->∀ d∈depsOf ops i,L[d]?=some true) ∧
    ((L[l]?=some true/\Q .normal a w)∨(L[l]?≠some true/\∃ K,Kept ops F eats box w0 a0 L a w K))) (fun L a w h=>h.1) (fun i o ho=>(okOps_at hc ho).2.1) ?_ ?_ _ _ _ _ ⟨?_,?_,.inr ⟨?_,fun _ _=>False,?_⟩⟩ ?_)
  · intro L a w hI hall
    obtain ⟨hz,_,⟨_,h⟩ | ⟨hn,K,h⟩⟩:=hI
    · exact h
    · have hln:ops.size<=l:=by
        rcases Nat.lt_or_ge l ops.size with hi | hi
        · exact absurd (hall l hi) hn
        · exact hi
      have hin:∀ j,L[j]?=some true->j<ops.size:=fun j hj=>by
        rcases Nat.lt_or_ge j L.size with h | h
        · omega
        · rw [Array.getElem?_eq_none h] at hj;cases hj
      have:=hend (Array.getElem?_eq_none hln) a w K (act_patch h.tsize h.defers h.rest) h.below (fun i hi hn'=>h.fact i (hall i hi) fun j hj=>hn' j (hin j hj)) (fun i b hi=>h.own i b (hall i hi)) (fun i j b hi hj hk=>h.lone i j b (hall i hi) (hall j hj) (fun k hk'=>(hk k (hin k hk')).1) (fun k hk'=>(hk k (hin k hk')).2));exact this
  · intro L a w i o hI ho hf hdeps
    obtain ⟨hz,hdown,hI⟩:=hI;obtain ⟨hg,hlt,hdst⟩:=okOps_at hc ho;have hi:i<L.size:=by
      rcases Nat.lt_or_ge i L.size with hi | hi
      · exact hi
      · rw [Array.getElem?_eq_none hi] at hf;cases hf
    have hd':∀ d∈depsOf ops i,L[d]?=some true:=fun d hd=>by
      unfold depsOf at hd;rw [ho] at hd;simp only [List.mem_map,List.mem_filter,Array.mem_toList_iff] at hd
      obtain ⟨e,⟨he,hb⟩,rfl⟩:=hd;exact hdeps e he hb
    have hh:∀ d,hangsOn ops i d=true->L[d]?=some true:=fun d hd=>by
      unfold hangsOn at hd;rw [ho] at hd;simp only [Array.any_eq_true',Bool.and_eq_true,beq_iff_eq] at hd
      obtain ⟨e,he,hb,rfl⟩:=hd;exact hdeps e he hb
    have hget:∀ j,(L.setIfInBounds i true)[j]?=if i=j then some true else L[j]?:=fun j=>by
      rw [Array.getElem?_setIfInBounds];by_cases h:i=j
      · subst h;simp [hi]
      · simp [h]
    have hdown':∀ j,(L.setIfInBounds i true)[j]?=some true->∀ d∈depsOf ops j,(L.setIfInBounds i true)[d]?=some true:=fun j hj d hd=>by
      rw [hget] at hj ⊢;by_cases hid:i=d
      · rw [if_pos hid]
      · rw [if_neg hid];by_cases hij:i=j
        · subst hij;exact hd' d hd
        · rw [if_neg hij] at hj;exact hdown j hj d hd
    unfold wpOp;rw [ho];have hw:Region.wanted o (yielded ops a.tmps)=true:=by unfold Region.wanted;rw [hg]
    simp only [hw,if_true]
    refine .inl ?_;have hnl:L[l]?≠some true->∃ K,Kept ops F eats box w0 a0 L a w K:=by
      intro h
      rcases hI with ⟨h',_⟩ | ⟨_,h'⟩
      · exact absurd h' h
      · exact h'
    have hlu:∀ j,L[l]?=some true∨i=l->j<ops.size->l<ops.size->j≠l->L[j]?=some true:=by
      intro j hor hj hll hjl
      rw [List.all_eq_true] at hl;have h1:=hl j (List.mem_range.2 hj);simp only [Bool.or_eq_true,beq_iff_eq,decide_eq_true_eq] at h1
      rcases h1 with (h1 | h1) | h1
      · exact absurd h1 hjl
      · refine under_on hdown _ _ (fun k hk=>?_) j (by simpa using h1);rcases hor with hor | rfl
        · exact hdown l hor k hk
        · exact hd' k hk
      · omega
    have hil:i<ops.size:=by omega
    have hin:∀ j,L[j]?=some true->j<ops.size:=fun j hj=>by
      rcases Nat.lt_or_ge j L.size with h | h
      · omega
      · rw [Array.getElem?_eq_none h] at hj;cases hj
    have hmu:∀ d,mayUse ops eats i d=true->L[d]?=some true/\Live eats L d/\hangsOn ops i d=true:=fun d hd=>by
      unfold mayUse at hd;rw [Bool.and_eq_true,List.all_eq_true] at hd;refine ⟨hh d hd.1,fun j hj=>?_,hd.1⟩;have h1:=hd.2 j (List.mem_range.2 (hin j hj));simp only [Bool.or_eq_true,beq_iff_eq,Bool.not_eq_true'] at h1
      rcases h1 with h1 | h1
      · subst h1;rw [hf] at hj;cases hj
      · exact h1
    by_cases hx:L[l]?=some true
    · -- behind the last one nothing comes up
      exfalso
      have hll:l<ops.size:=by
        rcases Nat.lt_or_ge l L.size with h | h
        · omega
        · rw [Array.getElem?_eq_none h] at hx;cases hx
      by_cases hie:i=l
      · subst hie;rw [hx] at hf;cases hf
      · rw [hlu i (.inl hx) hil hll hie] at hf;cases hf
    · obtain ⟨K,hK⟩:=hnl hx;by_cases hie:i=l
      · subst hie;have hne:∀ k,L[k]?=some true->k≠i:=fun k hk e=>by subst e;rw [hf] at hk;cases hk
        have hall:=fun j=>hlu j (.inr rfl);have h1:=fin o ho a w K (act_patch hK.tsize hK.defers hK.rest) hK.below (fun j hj hjl hnj=>hK.fact j (hall j hj hil hjl) fun k hk=>hnj k (hin k hk) (hne k hk)) (fun j b hj hjl=>hK.own j b (hall j hj hil hjl)) (fun j k b hj hk hjl hkl hnk=>hK.lone j k b (hall j hj hil hjl) (hall k hk hil hkl) (fun m hm'=>(hnk m (hin m hm') (hne m hm')).1) (fun m hm'=>(hnk m (hin m hm') (hne m hm')).2));refine Oper.wp_mono (fun a' w' h=>⟨by simp [hz],hdown',.inl ⟨?_,h⟩⟩) h1;rw [hget,if_pos rfl]
      · have h1:=steps i o (Nat.zero_le _) hie ho a w K hK.below hK.rest (fun d hd=>hK.fact d (hmu d hd).1 (hmu d hd).2.1) (fun d b hd=>hK.own d b (hh d hd));refine Oper.wp_mono (fun a' w' h=>⟨by simp [hz],hdown',.inr ⟨?_,?_⟩⟩) h1
        · rw [hget,if_neg hie];exact hx
        · obtain ⟨v,C,rfl,hb,hF,hC⟩:=h;have hsz:=hK.below.size;have hval:∀ j,i≠j->valAt ops (a.put o.dst v) j=valAt ops a j:=fun j hj=>val_put fun s hs=>(hdst s hs).2 j hj;have hlist:∀ j,i≠j->(L.setIfInBounds i true)[j]?=some true->L[j]?=some true:=fun j hj h=>by rw [hget,if_neg hj] at h;exact h
          have hKi:∀ j,i≠j->(fun j=>if i=j then C else K j) j=K j:=fun j hj=>if_neg hj;have hliv:∀ j,i≠j->Live eats (L.setIfInBounds i true) j->Live eats L j/\eats i j=false:=fun j hj h=>⟨fun k hk=>h k (by rw [hget];split <;> simp [hk]),h i (by rw [hget,if_pos rfl])⟩;have hE0:∀ b,(∃ d,mayUse ops eats i d=true/\eats i d=true/\K d b)->w0.heap.size<=b:=fun b ⟨d,hd,_,h⟩=>(hK.own d b (hmu d hd).1 h).1;have hEj:∀ j b,i≠j->L[j]?=some true->Live eats L j->eats i j=false->K j b->¬ ∃ d,mayUse ops eats i d=true/\eats i d=true/\K d b:=fun j b hj h1 h2 h3 hjb ⟨d,hd,he,h⟩=>by
            have hdj:d≠j:=fun e=>by subst e;rw [h3] at he;cases he
            exact hK.lone d j b (hmu d hd).1 h1 (hmu d hd).2.1 h2 (hbx i d he).1 hdj h hjb
          refine ⟨fun j=>if i=j then C else K j,⟨by rw [put_size,hK.tsize],by rw [put_defers,hK.defers],fun s hs=>?_,hK.below.trans (hb.keeps hsz (fun b hb' he=>by have:=hE0 b he;omega)),fun j hj hlj=>?_,fun j b hj hjb=>?_,fun j k b hj hk hlj hlk hbx' hjk hjb=>?_⟩⟩
          · rw [put_tmps,if_neg,hK.rest s hs];rintro ⟨h1,_⟩;unfold freeOf at hs;rw [List.all_eq_true] at hs;have:=hs i (List.mem_range.2 hil);simp only [slotOf,ho,h1,bne_self_eq_false] at this
            cases this
          · by_cases hij:i=j
            · subst hij;have:valAt ops (a.put o.dst v) i=laid o v:=by
                cases hs:o.dst with
                | none=>simp [valAt,slotOf,ho,hs,laid]
                | some s=>
                  have hs1:=(hdst s hs).1;simp only [valAt,slotOf,ho,hs,laid,Array.getD_eq_getD_getElem?]
                  have:=put_tmps a (some s) v s;rw [if_pos ⟨rfl,by rw [hK.tsize];exact hs1⟩] at this;rw [this]
                  rfl
              simp only [if_true]
              rw [this];exact hF
            · simp only [if_neg hij]
              rw [hval j hij];obtain ⟨h1,h2⟩:=hliv j hij hlj;exact stab j _ _ _ _ _ (hK.fact j (hlist j hij hj) h1) hb (fun b hb'=>by
                rcases hb' with hb' | hb'
                · exact hEj j b hij (hlist j hij hj) h1 h2 hb'
                · exact fun he=>by have:=hE0 b he;omega) hsz
          · by_cases hij:i=j
            · subst hij;simp only [if_true] at hjb
              rcases hC b hjb with h | ⟨d,hd,_,h⟩
              · exact ⟨by omega,h.2⟩
              · have:=hK.own d b (hmu d hd).1 h;exact ⟨this.1,Nat.lt_of_lt_of_le this.2 hb.size⟩
            · simp only [if_neg hij] at hjb
              have:=hK.own j b (hlist j hij hj) hjb;exact ⟨this.1,Nat.lt_of_lt_of_le this.2 hb.size⟩
          · by_cases hij:i=j
            · subst hij;simp only [if_true] at hjb
              simp only [if_neg hjk]
              obtain ⟨h1,h2⟩:=hliv k hjk hlk;rcases hC b hjb with h | ⟨d,hd,he | ⟨h,_⟩,hdb⟩
              · intro hkb
                have:=hK.own k b (hlist k hjk hk) hkb;omega
              · intro hkb
                exact hEj k b hjk (hlist k hjk hk) h1 h2 hkb ⟨d,hd,he,hdb⟩
              · rw [h] at hbx';cases hbx'
            · simp only [if_neg hij] at hjb
              obtain ⟨h1,h2⟩:=hliv j hij hlj;by_cases hik:i=k
              · subst hik;simp only [if_true]
                intro hkb
                rcases hC b hkb with h | ⟨d,hd,he | ⟨_,hdb⟩,h⟩
                · have:=hK.own j b (hlist j hij hj) hjb;omega
                · exact hEj j b hij (hlist j hij hj) h1 h2 hjb ⟨d,hd,he,h⟩
                · have hjd:j≠d:=fun e=>by subst e;rw [hbx'] at hdb;cases hdb
                  exact hK.lone j d b (hlist j hij hj) (hmu d hd).1 h1 (hmu d hd).2.1 hbx' hjd hjb h
              · simp only [if_neg hik]
                obtain ⟨h3,h4⟩:=hliv k hik hlk;exact hK.lone j k b (hlist j hij hj) (hlist k hik hk) h1 h3 hbx' hjk hjb
  · simp
  · intro i hi
    exfalso
    rw [Array.getElem?_replicate] at hi;split at hi <;> simp at hi
  · intro h
    rw [Array.getElem?_replicate] at h;split at h <;> simp at h
  · refine ⟨rfl,rfl,fun _ _=>rfl,(Below.refl _ _).drew,fun i hi=>?_,fun i b hi=>?_,fun i j b hi=>?_⟩ <;> (exfalso;rw [Array.getElem?_replicate] at hi;split at hi <;> simp at hi)
  · simp
end
end Go.Proofs.YtliekocamnklfaaGreatDoor
