/- Rows that a drawn region appends to (RegI, RegV). -/
import Derived.Test.YtliekocamnklfaaGreatDoorKRegV
import Derived.Test.YtliekocamnklfaaGreatDoorKOkP
set_option linter.unusedVariables false
set_option linter.unusedSimpArgs false
set_option maxRecDepth 100000
namespace Go.Proofs.YtliekocamnklfaaGreatDoor.One
open Go.RowKit Strs Jdec Save Go.Proofs.YtliekocamnklfaaGreatDoor.Addr
theorem isv_w {w:World} {C D:Nat->Prop} {z:Raw} {t:JV} (h:Hid (IsV w D z t)) (hC:∀ b,D b->C b):Hid (IsV w C z t):=h.out.turn (Turn.mono w fun b hb _=>hC b hb)
def FR (B:Nat) (T:TypeId) (sz n:Nat) (xs:List Value):Ft:=fun C v w=>w.ownsRow B T sz v n xs/\∀ b,v.ownBlock=some b->C b
def FRz (B n:Nat) (pre:List Value) (t:JV):Ft:=fun C v w=>∃ z:Raw,w.ownsRow B 29 8 v n (pre++z.cells)/\(∀ b,v.ownBlock=some b->C b)/\IsV w C z t
theorem owns_grew {B:Nat} {T:TypeId} {sz n:Nat} {v:Value} {xs:List Value} {w w':World} {E:Nat->Prop} (h:w.ownsRow B T sz v n xs) (g:Grew E w w') (e:∀ b,v.ownBlock=some b->¬ E b):w'.ownsRow B T sz v n xs:=by
  obtain ⟨h1,h2⟩:=h;refine ⟨h1,?_⟩;rcases h2 with h2 | ⟨g',cap,cur,rfl,hb,hc,h3⟩
  · exact .inl h2
  · exact .inr ⟨g',cap,cur,rfl,hb,(g.block _ (heap_lt hc) (e _ rfl)).trans hc,h3⟩
instance {B B':Nat} {T:TypeId} {sz n:Nat} {xs:List Value}:Stab B' (FR B T sz n xs):=⟨fun _ _ _ _ _ ⟨h1,h2⟩ g e=>⟨owns_grew h1 g fun b hb=>e b (.inl (h2 b hb)),h2⟩⟩
instance {B B' n:Nat} {pre:List Value} {t:JV}:Stab B' (FRz B n pre t):=⟨fun _ _ _ _ _ ⟨z,h1,h2,h3⟩ g e=>⟨z,owns_grew h1 g fun b hb=>e b (.inl (h2 b hb)),h2,h3.turn (grew_turn g fun b hb=>e b (.inl hb))⟩⟩
theorem grown_grew {E:Nat->Prop} {w w':World} {row:Option Nat} (g:w.grownBy w' row) (h:∀ b,row=some b->E b):Grew E w w':=⟨g.os,g.tape,g.output,g.size,fun k hk hE=>g.block k hk fun e=>hE (h k e.symm)⟩
theorem app_texts {w:World} {B:Nat} {v:Value} {n m:Nat} {xs:List Value} (h:w.ownsRow B 9 1 v n xs) (ks:List ByteArray) (ad:Addr) (c:Nat) (hm:m=ks.length) (hn:∀ j u,(ks.map Value.string)[j]?=some u->w.cell? (ad.add j)=some u) (hs:n+m<=3000) (hB:B<=w.heap.size):∃ v' w',(Builtin.append_ #[26,26] 26 #[v,.slice (some ad) m c]).run Tryz.prog w=.ok v' w'/\w'.ownsRow B 9 1 v' (n+m) (xs++ks.map Value.string)/\w.grownBy w' v.ownBlock/\(v'.ownBlock=v.ownBlock∨v'.ownBlock=some w.heap.size):=by
  obtain ⟨i0,hi,hz0,hz1,hz2⟩:=info_parts infoStr;subst hm;obtain ⟨v',w',h1,h2,h3,_,h4⟩:=run_append_own_at (P:=Tryz.prog) w B 26 26 9 i0 (.string ⟨#[]⟩) 1 16 Tryz.underlying26 hi hz0 hz1 hz2 rfl (by decide) v n xs h ad ks.length c (ks.map Value.string) (by simp) hn (fun u hu=>by obtain ⟨x,_,rfl⟩:=List.mem_map.1 hu;rfl) (by unfold maxLen;omega) (by omega) hB;exact ⟨v',w',h1,h2,h3,h4⟩
theorem app_vals {w:World} {B:Nat} {v:Value} {n m:Nat} {xs:List Value} (h:w.ownsRow B 29 8 v n xs) (rs:List Raw) (ad:Addr) (c:Nat) (hm:m=rs.length) (hn:∀ j u,(rs.flatMap Raw.cells)[j]?=some u->w.cell? (ad.add j)=some u) (hs:n+m<=3000) (hB:B<=w.heap.size):∃ v' w',(Builtin.append_ #[27,27] 27 #[v,.slice (some ad) m c]).run Tryz.prog w=.ok v' w'/\w'.ownsRow B 29 8 v' (n+m) (xs++rs.flatMap Raw.cells)/\w.grownBy w' v.ownBlock/\(v'.ownBlock=v.ownBlock∨v'.ownBlock=some w.heap.size):=by
  obtain ⟨i0,hi,hz0,hz1,hz2⟩:=info_parts infoKid;subst hm;obtain ⟨v',w',h1,h2,h3,_,h4⟩:=run_append_own_at (P:=Tryz.prog) w B 27 27 29 i0 _ 8 112 Tryz.underlying27 hi hz0 hz1 hz2 rfl (by decide) v n xs h ad rs.length c (rs.flatMap Raw.cells) (flat_cells_len rs) hn (fun u hu=>by obtain ⟨r,_,hr⟩:=List.mem_flatMap.1 hu;exact cells_one r u hr) (by unfold maxLen;omega) (by omega) hB;exact ⟨v',w',h1,h2,h3,h4⟩
theorem num_bare (n:Nat) (w w':World) (A A':Nat->Prop) (z:Raw) (h:IsV w A z (numV n)):IsV w' A' z (numV n):=by
  unfold numV at *;obtain ⟨ka,kc,va,vc,rfl,_⟩:=h.parts;exact IsV.bare w' A' _ _ _ _ _ _ ka va kc vc
theorem run_slice1 {g o n c sz:Nat} (T e:TypeId) (hT:Tryz.prog.underlying T=some (.slice e)) {ie:TypeInfo} (hie:Tryz.prog.info? e=some ie) (hs:ie.size=sz) (h1:1<=n) (h2:n<=c) (h3:c<=maxLen) (hne:1<c) (w:World):(Instr.sliceAt T (.slice (some ⟨g,o,none⟩) n c) (some (.int .i64 1)) none none).run Tryz.prog w=.ok (.slice (some ⟨g,o+sz,none⟩) (n-1) (c-1)) w:=by
  have h4:¬ (c=1):=by omega
  have h5:¬ (c<n):=by omega
  have h6:¬ (n<1):=by omega
  have h7:(1:Int)<=n:=by omega
  have h8:(n:Int)<=c:=by omega
  simp [Instr.sliceAt,Instr.slice,run_underlying hT,Instr.sliceBounds,Instr.sliceBound,asIntOf,sizeOf,typeInfo,hie,hs,h4,h5,h6,h7,h8,Addr.add]
section
variable {ops:Array Oper} {Q:Exit->Act->World->Prop} {F:Nat->Ft} {eats:Nat->Nat->Bool} {box:Nat->Bool} {w0:World} {a0:Act} {i:Nat} {o:Oper}
theorem exec_slice {P:Program} {ρ:Operand->Value} {w:World} {t:TypeId} {x:Operand} {l h m:Option Operand} (ho:o.op=.slice t x l h m) {p V:Value} {lv hv mv:Option Value} (hx:ρ x=p) (hl:l.map ρ=lv) (hh:h.map ρ=hv) (hm:m.map ρ=mv) (hr:(Instr.sliceAt t p lv hv mv).run P w=.ok V w):(execOp ρ o).run P w=.ok (.value V) w:=by
  unfold execOp;simp only [ho,hx,hl,hh,hm,Sem.run_bind,hr,Result.andThen_ok]
  rfl
theorem exec_append {P:Program} {ρ:Operand->Value} {w w':World} {t:TypeId} {x y:Operand} (ho:o.op=.call { callee:=.builtin .append,args:=#[x,y],argTypes:=#[t,t] }) {ty:TypeId} (hty:o.type=ty) {v1 v2 V:Value} (hx:ρ x=v1) (hy:ρ y=v2) (hr:(Builtin.append_ #[t,t] ty #[v1,v2]).run P w=.ok V w'):(execOp ρ o).run P w=.ok (.value V) w':=by
  subst hty;unfold execOp;simp [ho,resolve,invoke,builtin,hx,hy,hr,Result.andThen]
theorem src_texts {a:Act} {s:Nat} {C:Nat->Prop} {w:World} {x:ByteArray} (h:FT [x] C (a.eval (.tmp s)) w):∃ ad c,a.eval (.tmp s)=.slice (some ad) 1 c/\∀ j u,([x].map Value.string)[j]?=some u->w.cell? (ad.add j)=some u:=by
  obtain ⟨b,e,_,T⟩:=h;refine ⟨⟨b,0,none⟩,1,e,fun j u hu=>?_⟩;rcases T with T | ⟨b',o',e1,_,_,hc⟩
  · cases T
  · injection e1 with e1;injection e1 with e1 e2
    subst e1 e2
    match j,hu with
    | 0,hu=>injection hu with hu;subst hu;rw [cell_add];exact hc 0 (by simp)
theorem sE {P:Program} (T e:TypeId) (sz:Nat) (ho:o.op=.buildSlice T 0 #[]) (hrun:∀ w:World,(Instr.buildSlice T 0 #[]).run P w=.ok (.slice (some ⟨w.heap.size,0,none⟩) 0 0) (w.alloc (.cells #[] e))) (hF:F i=FR w0.heap.size e sz 0 []) (hl:∀ v,laid o v=v):StepOf P ops Q F eats box w0 a0 i o:=fun a w K B R D N=>by
  have hr:(execOp a.eval o).run P w=.ok (.value (.slice (some ⟨w.heap.size,0,none⟩) 0 0)) (w.alloc (.cells #[] e)):=by
    unfold execOp;simp only [ho,Sem.run_bind]
    have h:=hrun w;simp only [List.map_toArray,List.map_nil] at *
    rw [h]
    rfl
  refine oper_val hr ⟨_,fun b=>b=w.heap.size,rfl,Grew.below ((Below.refl _ _).alloc (Nat.le_refl _) _),?_,fun b hb=>.inl ⟨by omega,by subst hb;simp⟩⟩;rw [hF,hl];exact ⟨⟨by simp,.inr ⟨w.heap.size,0,#[],rfl,B.size,heap_alloc_new _ _,Nat.le_refl _,by decide,by simp,by simp⟩⟩,fun b hb=>by injection hb with hb;exact hb.symm⟩
theorem sA {P:Program} (B0:Nat) (T e:TypeId) (sz n m:Nat) (xs news:List Value) (d s1:Nat) (x2:Operand) (ho:o.op=.call { callee:=.builtin .append,args:=#[.tmp s1,x2],argTypes:=#[T,T] }) (hty:o.type=T) (hB0:B0=w0.heap.size)
    (hFd:F d=FR B0 e sz n xs) (hF:F i=FR B0 e sz (n+m) (xs++news)) (hl:∀ v,laid o v=v) (hd:(mayUse ops eats i d && (eats i d && slotOf ops d == some s1))=true)
    (happ:∀ (w:World) (v:Value) (ad:Addr) (c:Nat),w.ownsRow B0 e sz v n xs->B0<=w.heap.size->(∀ j u,news[j]?=some u->w.cell? (ad.add j)=some u)->∃ v' w',(Builtin.append_ #[T,T] T #[v,.slice (some ad) m c]).run P w=.ok v' w'/\w'.ownsRow B0 e sz v' (n+m) (xs++news)/\w.grownBy w' v.ownBlock/\(v'.ownBlock=v.ownBlock∨v'.ownBlock=some w.heap.size))
    (src:∀ (a:Act) (w:World) (K:Nat->Nat->Prop),Below w0.heap.size w0 w->(∀ s,freeOf ops s=true->a.tmps[s]?=a0.tmps[s]?)->(∀ d,mayUse ops eats i d=true->F d (K d) (valAt ops a d) w)->∃ ad c,a.eval x2=.slice (some ad) m c/\∀ j u,news[j]?=some u->w.cell? (ad.add j)=some u) :
    StepOf P ops Q F eats box w0 a0 i o:=fun a w K B R D N=>by
  simp only [Bool.and_eq_true] at hd
  obtain ⟨d1,d2,d3⟩:=hd;have hrow:=dep_at D d s1 (by rw [Bool.and_eq_true];exact ⟨d1,d3⟩);rw [hFd] at hrow;obtain ⟨h1,h2⟩:=hrow;obtain ⟨ad,c,e2,hn⟩:=src a w K B R D;obtain ⟨v',w',hr,ho',hg,hb⟩:=happ w _ ad c h1 (by rw [hB0];exact B.size) hn;refine oper_val (exec_append ho hty rfl e2 hr) ⟨v',fun b=>v'.ownBlock=some b,rfl,grown_grew hg fun b hb=>⟨d,d1,d2,h2 b hb⟩,?_,fun b hb'=>?_⟩
  · rw [hF,hl];exact ⟨ho',fun b h=>h⟩
  · have hlt:=ho'.lt b hb';rcases hb with hb | hb
    · exact .inr ⟨d,d1,.inl d2,h2 b (by rw [<-hb];exact hb')⟩
    · rw [hb] at hb';injection hb' with hb'
      exact .inl ⟨by omega,hlt.2⟩
theorem sAz (B0 n:Nat) (pre:List Value) (t:JV) (d s1 d2 s2:Nat) (ho:o.op=.call { callee:=.builtin .append,args:=#[.tmp s1,.tmp s2],argTypes:=#[27,27] }) (hty:o.type=27) (hB0:B0=w0.heap.size) (hn:n<=2000) (hbare:∀ (w w':World) (A A':Nat->Prop) (z:Raw),IsV w A z t->IsV w' A' z t)
    (hFd:F d=FR B0 29 8 n pre) (hFk:F d2=FK (fun _=>False) [t]) (hF:F i=FRz B0 (n+1) pre t) (hl:∀ v,laid o v=v) (hd:(mayUse ops eats i d && (eats i d && slotOf ops d == some s1))=true)
    (hd2:(mayUse ops eats i d2 && (slotOf ops d2 == some s2 && (!box i && !box d2)))=true) :
    StepOf Tryz.prog ops Q F eats box w0 a0 i o:=fun a w K B R D N=>by
  simp only [Bool.and_eq_true,Bool.not_eq_true'] at hd hd2
  obtain ⟨d1,de,d3⟩:=hd;obtain ⟨g1,g2,g3,g4⟩:=hd2;have hrow:=dep_at D d s1 (by rw [Bool.and_eq_true];exact ⟨d1,d3⟩);have hkid:=dep_at D d2 s2 (by rw [Bool.and_eq_true];exact ⟨g1,g2⟩);rw [hFd] at hrow;rw [hFk] at hkid;obtain ⟨h1,h2⟩:=hrow;obtain ⟨kb,L,hL,e2,c2,V2,I2⟩:=hkid;obtain ⟨⟨z,t'⟩,rfl⟩:∃ x,L=[x]:=by
    match L,hL with
    | [x],_=>exact ⟨x,rfl⟩
  have ht:t'=t:=by simpa using hL
  subst ht;have I2:=I2 (z,t') (by simp);obtain ⟨v',w',hr,ho',hg,hb⟩:=app_vals h1 [z] ⟨kb,0,none⟩ 1 rfl (fun j u hu=>by rw [cell_add,Nat.zero_add,cell_of V2];simpa using hu) (by show n+1<=3000;omega) (by rw [hB0];exact B.size);simp only [List.flatMap_cons,List.flatMap_nil,List.append_nil] at ho'
  have hgr:Grew (fun b=>∃ d,mayUse ops eats i d=true/\eats i d=true/\K d b) w w':=grown_grew hg fun b hb=>⟨d,d1,de,h2 b hb⟩;refine oper_val (exec_append ho hty rfl e2 hr) ⟨v',fun b=>v'.ownBlock=some b,rfl,hgr,?_,fun b hb'=>?_⟩
  · rw [hF,hl];exact ⟨z,ho',fun b h=>h,hbare _ _ _ _ _ I2⟩
  · have hlt:=ho'.lt b hb';rcases hb with hb | hb
    · exact .inr ⟨d,d1,.inl de,h2 b (by rw [<-hb];exact hb')⟩
    · rw [hb] at hb';injection hb' with hb'
      exact .inl ⟨by omega,hlt.2⟩
theorem row_obj {w:World} {B:Nat} {ka va:Option Addr} {n kc m vc:Nat} {C:Nat->Prop} {ks:List ByteArray} {ts:List JV} {rs:List Raw} (hk:w.ownsRow B 9 1 (.slice ka n kc) n (ks.map Value.string)) (hv:w.ownsRow B 29 8 (.slice va m vc) m (rs.flatMap Raw.cells)) (hl:rs.length=ts.length)
    (hi:∀ j (h:j<ts.length),IsV w C (rs.getD j Raw.zero) ts[j]) (h1:∀ b,(Value.slice ka n kc).ownBlock=some b->C b) (h2:∀ b,(Value.slice va m vc).ownBlock=some b->C b):IsV w C (objR ka n kc va m vc) (objectOf ks ts):=by
  have hn:n=ks.length:=by have:=hk.1;simp at this;omega
  have hm:m=ts.length:=by have:=hv.1;rw [flat_cells_len] at this;omega
  refine .mk (objR ka n kc va m vc) ks ts (fun j=>rs.getD j Raw.zero) hn hm ?_ ?_ hi
  · rcases row_form hk with ⟨h0,_⟩ | ⟨g,rfl,_,hg,_⟩
    · exact .inl (List.length_eq_zero_iff.1 (by omega))
    · refine .inr ⟨g,0,rfl,h1 g rfl,hg,fun j hj=>?_⟩;rw [Nat.zero_add,hk.cellAt j (by omega)];simp [hj]
  · rcases row_form hv with ⟨h0,_⟩ | ⟨g,rfl,_,hg,_⟩
    · exact .inl (List.length_eq_zero_iff.1 (by omega))
    · refine .inr ⟨g,0,rfl,h2 g rfl,hg,fun j hj p u hu=>?_⟩;have hj':j<rs.length:=by omega
      have e1:rs.getD j Raw.zero=rs[j]:=by simp [List.getD,hj']
      rw [e1] at hu;have hp:p<8:=(List.getElem?_eq_some_iff.1 hu).1;rw [Nat.zero_add,hv.cellAt (j*8+p) (by omega)];exact flat_cells_at rs j hj' p u hu
theorem row_tail {w:World} {B:Nat} {g1 g2 n kc vc:Nat} {C:Nat->Prop} {ks:List ByteArray} {ts:List JV} {rs:List Raw} (hk:w.ownsRow B 9 1 (.slice (some ⟨g1,0,none⟩) n kc) n (ks.map Value.string)) (hv:w.ownsRow B 29 8 (.slice (some ⟨g2,0,none⟩) n vc) n (rs.flatMap Raw.cells)) (hl:rs.length=ts.length) (h1n:1<=n)
    (hi:∀ j (h:j<ts.length),IsV w C (rs.getD j Raw.zero) ts[j]) (h1:C g1) (h2:C g2):IsV w C (objR (some ⟨g1,0+1,none⟩) (n-1) (kc-1) (some ⟨g2,0+8,none⟩) (n-1) (vc-1)) (objectOf ks.tail ts.tail):=by
  have hn:n=ks.length:=by have:=hk.1;simp at this;omega
  have hm:n=ts.length:=by have:=hv.1;rw [flat_cells_len] at this;omega
  have l1:=(hk.lt g1 rfl).2;have l2:=(hv.lt g2 rfl).2;refine .mk (objR (some ⟨g1,0+1,none⟩) (n-1) (kc-1) (some ⟨g2,0+8,none⟩) (n-1) (vc-1)) ks.tail ts.tail (fun j=>rs.getD (j+1) Raw.zero) (by rw [List.length_tail];exact congrArg (·-1) hn) (by rw [List.length_tail];exact congrArg (·-1) hm) (.inr ⟨g1,0+1,rfl,h1,l1,fun j hj=>?_⟩) (.inr ⟨g2,0+8,rfl,h2,l2,fun j hj p u hu=>?_⟩) (fun j hj=>?_)
  · rw [List.length_tail] at hj;rw [show 0+1+j=j+1 by omega,hk.cellAt (j+1) (by omega)];rw [List.getElem?_map,List.getElem?_eq_getElem (by omega),List.getElem_tail]
    rfl
  · rw [List.length_tail] at hj;have hj':j+1<rs.length:=by omega
    have e1:rs.getD (j+1) Raw.zero=rs[j+1]:=by simp [List.getD,hj']
    rw [e1] at hu;have hp:p<8:=(List.getElem?_eq_some_iff.1 hu).1;rw [show 0+8+j*8+p=(j+1)*8+p by omega,hv.cellAt ((j+1)*8+p) (by omega)];exact flat_cells_at rs (j+1) hj' p u hu
  · rw [List.length_tail] at hj;rw [List.getElem_tail];exact hi (j+1) (by omega)
theorem exec_obj {ρ:Operand->Value} {w:World} {parts:Array (Nat × Operand)} (ho:o.op=.build 29 parts) {s t:Tmp} (hp:(parts.map fun (i,x)=>(i,ρ x))=#[(0,.int .i64 6),(4,ρ (.tmp s)),(5,ρ (.tmp t))]) {ka va:Option Addr} {n c m d:Nat} (hs:ρ (.tmp s)=.slice ka n c) (ht:ρ (.tmp t)=.slice va m d):(execOp ρ o).run Tryz.prog w=.ok (.value (objR ka n c va m d).val) w:=by
  rw [hs,ht] at hp;unfold execOp;simp only [ho,hp,Sem.run_bind,run_obj,Result.andThen_ok]
  rfl
theorem sOz (A:Nat->Prop) (B0 n m:Nat) (ks:List ByteArray) (ts:List JV) (rs:List Raw) (t:JV) (dk dv:Nat) (xs pre:List Value) (hk:F dk=FR B0 9 1 n xs) (hv:F dv=FRz B0 m pre t) (hxs:xs=ks.map Value.string) (hpre:pre=rs.flatMap Raw.cells) (parts:Array (Nat × Operand)) (ho:o.op=.build 29 parts)
    (hF:F i=FV A (objectOf ks (ts++[t]))) (hl:∀ v,laid o v=v) (hd:(mayUse ops eats i dk && mayUse ops eats i dv && !box dk && !box dv && !box i)=true) (hrl:rs.length=ts.length) (hA:OldA w0.heap.size A)
    (hrs:∀ w,Below w0.heap.size w0 w->∀ j (h:j<ts.length),IsV w A (rs.getD j Raw.zero) ts[j])
    (hp:∀ a:Act,(parts.map fun (i,x)=>(i,a.eval x))=#[(0,.int .i64 6),(4,valAt ops a dk),(5,valAt ops a dv)]):StepOf Tryz.prog ops Q F eats box w0 a0 i o:=fun a w K B R D N=>by
  simp only [Bool.and_eq_true,Bool.not_eq_true'] at hd
  obtain ⟨⟨⟨⟨d1,d2⟩,b1⟩,b2⟩,b3⟩:=hd;have k1:=D dk d1;have k2:=D dv d2;rw [hk,hxs] at k1;rw [hv,hpre] at k2;obtain ⟨r1,c1⟩:=k1;obtain ⟨z,r2,c2,I2⟩:=k2;obtain ⟨ka,kc,e1⟩:=ownSlice r1;obtain ⟨va,vc,e2⟩:=ownSlice r2;have hpa:=hp a;rw [e1,e2] at hpa;rw [e1] at r1 c1;rw [e2] at r2 c2;have hr:(execOp a.eval o).run Tryz.prog w=.ok (.value (objR ka n kc va m vc).val) w:=by
    unfold execOp;simp only [ho,hpa,Sem.run_bind,run_obj,Result.andThen_ok]
    rfl
  refine oper_val hr ⟨_,fun b=>K dk b∨K dv b,rfl,Grew.below (Below.refl _ _),?_,fun b hb=>.inr ?_⟩
  · rw [hF,hl];have hz:rs.flatMap Raw.cells++z.cells=(rs++[z]).flatMap Raw.cells:=by simp
    rw [hz] at r2;refine ⟨_,rfl,row_obj r1 r2 (by simp [hrl]) (fun j hj=>?_) (fun b hb=>.inr (.inl (c1 b hb))) (fun b hb=>.inr (.inr (c2 b hb)))⟩;by_cases hj':j<ts.length
    · have e3:(rs++[z]).getD j Raw.zero=rs.getD j Raw.zero:=by simp [List.getD,List.getElem?_append,hrl,hj']
      rw [e3,List.getElem_append_left hj'];exact (hrs w B j hj').turn (Turn.mono w fun b hb _=>.inl hb)
    · have hje:j=ts.length:=by rw [List.length_append] at hj;simp at hj;omega
      subst hje;have e3:(rs++[z]).getD ts.length Raw.zero=z:=by simp [List.getD,<-hrl]
      rw [e3,List.getElem_append_right (Nat.le_refl _)];simp only [Nat.sub_self,List.getElem_cons_zero]
      exact I2.turn (Turn.mono w fun b hb _=>.inr (.inr hb))
  · rcases hb with hb | hb
    · exact ⟨dk,d1,.inr ⟨b3,b1⟩,hb⟩
    · exact ⟨dv,d2,.inr ⟨b3,b2⟩,hb⟩
end
end Go.Proofs.YtliekocamnklfaaGreatDoor.One
namespace Go.Proofs.YtliekocamnklfaaGreatDoor.Jdec
open Go.RowKit Strs
def TurnR (w0:World) (bw:Nat) (lk:List ByteArray) (lv:List Raw) (wr:World):Prop:=
  ∃ ka kc va vc,Mid w0 bw (.cells (Raw.mk 6 false false ⟨#[]⟩ 0 ⟨#[]⟩ ka lk.length kc va lv.length vc).arr 29 (0,0)) ⟨#[]⟩ Raw.zero none none (.slice ka lk.length kc) lk (.slice va lv.length vc) lv wr
theorem TurnR.start {w0:World} {bw:Nat} (h:w0.heap[bw]?=some (.cells (Raw.mk 6 false false ⟨#[]⟩ 0 ⟨#[]⟩ none 0 0 none 0 0).arr 29 (0,0))):TurnR w0 bw [] [] w0:=
  ⟨none,0,none,0,World.ownsRow_nil _ _ _ _,World.ownsRow_nil _ _ _ _,h,Below.refl _ _,fun p hp=>(by cases hp),fun p hp=>(by cases hp)⟩
theorem TurnR.next {w0:World} {bw:Nat} {key:ByteArray} {x:Raw} {ka va ka' va':Option Addr} {kc vc kn vn kc' vc':Nat} {lk:List ByteArray} {lv:List Raw} {w:World}
    (h:Mid w0 bw (.cells (Raw.mk 6 false false ⟨#[]⟩ 0 ⟨#[]⟩ ka kn kc va vn vc).arr 29 (0,0)) key x none none (.slice ka' lk.length kc') lk (.slice va' lv.length vc') lv w) :
    TurnR w0 bw lk lv ((w.setCell ⟨bw,6,none⟩ (.slice ka' lk.length kc')).setCell ⟨bw,7,none⟩ (.slice va' lv.length vc')):=by
  have g:w.grownBy ((w.setCell ⟨bw,6,none⟩ (.slice ka' lk.length kc')).setCell ⟨bw,7,none⟩ (.slice va' lv.length vc')) (some bw):=
    ⟨rfl,rfl,rfl,by simp [World.setCell],fun k hk hr=>by
      have hne:k≠bw:=fun e=>hr (by rw [e]);rw [Below.heap_setCell _ _ _ _ hne,Below.heap_setCell _ _ _ _ hne]⟩
  have far:∀ {v:Value} {B e m n xs},w.ownsRow B e m v n xs->bw<B->v.ownBlock=none∨v.ownBlock≠some bw:=fun {v B e m n xs} hr hB=>by
    by_cases hn:v.ownBlock=some bw
    · have:=(hr.lt bw hn).1;omega
    · exact .inr hn
  exact ⟨ka',kc',va',vc',h.keys.kept g (far h.keys (by omega)),h.kids.kept g (far h.kids (by omega)),set7 (set6 h.own),h.below.grown g (Nat.le_of_lt h.lt) (fun k hk=>by injection hk with hk;omega),fun p hp=>(by cases hp),fun p hp=>(by cases hp)⟩
structure OrdS (v0 bw kb ko n kc vb vo m vc:Nat) (ka1:Option Addr) (kc1:Nat) (va1:Option Addr) (vc1 i q:Nat) (key:ByteArray) (x:Raw) (w:World):Prop where
  k:w.cell? ⟨v0,6,none⟩=some (.slice (some ⟨kb,ko,none⟩) n kc)
  v:w.cell? ⟨v0,7,none⟩=some (.slice (some ⟨vb,vo,none⟩) m vc)
  k1:w.cell? ⟨bw,6,none⟩=some (.slice ka1 i kc1)
  v1:w.cell? ⟨bw,7,none⟩=some (.slice va1 i vc1)
  key:w.cell? ⟨kb,ko+q,none⟩=some (.string key)
  x0:w.cell? ⟨vb,vo+q*8,none⟩=some (.int .i64 x.kind)
  x1:w.cell? ⟨vb,vo+q*8+1,none⟩=some (.bool x.is)
  x2:w.cell? ⟨vb,vo+q*8+2,none⟩=some (.bool x.neg)
  x3:w.cell? ⟨vb,vo+q*8+3,none⟩=some (.string x.dig)
  x4:w.cell? ⟨vb,vo+q*8+4,none⟩=some (.int .i64 x.exp)
  x5:w.cell? ⟨vb,vo+q*8+5,none⟩=some (.string x.str)
  x6:w.cell? ⟨vb,vo+q*8+6,none⟩=some (.slice x.ka x.kn x.kc)
  x7:w.cell? ⟨vb,vo+q*8+7,none⟩=some (.slice x.va x.vn x.vc)
theorem ordS {w w6 w':World} {bw kb ko n kc vb vo m vc:Nat} {ka1:Option Addr} {kc1:Nat} {va1:Option Addr} {vc1 i q:Nat} {key:ByteArray} {x:Raw} {TA TB:Option Nat} {vk vv:Value} {lk:List ByteArray} {lv:List Raw} {k:Int} {is ng:Bool} {d:ByteArray} {e:Int} {s:ByteArray}
    (h:Mid w6 bw (.cells (Raw.mk 6 false false ⟨#[]⟩ 0 ⟨#[]⟩ ka1 i kc1 va1 i vc1).arr 29 (0,0)) key x TA TB vk lk vv lv w')
    (V:Hid (w6.heap[w.heap.size]?=some (.cells (Raw.mk k is ng d e s (some ⟨kb,ko,none⟩) n kc (some ⟨vb,vo,none⟩) m vc).arr 29 (0,0)))) (B:Hid (Below w.heap.size w w6)) (hb:w.heap.size<bw) (hkb:kb<w.heap.size) (hvb:vb<w.heap.size)
    (K:Hid (w.cell? ⟨kb,ko+q,none⟩=some (.string key))) (X:Hid (CellsAt w vb (vo+q*8) x)):OrdS w.heap.size bw kb ko n kc vb vo m vc ka1 kc1 va1 vc1 i q key x w':=by
  have hV:=(h.below.block w.heap.size hb).trans V.out;have hB:=B.out.trans (h.below.mono (Nat.le_of_lt hb));have hX:CellsAt w' vb (vo+q*8) x:=fun j u hu=>(World.cell?_of_block (w:=w) (hB.block vb hvb)).trans (X.out j u hu);obtain ⟨u0,u1,u2,u3,u4,u5,u6,u7⟩:=hX.eight;exact ⟨cell_of hV 6,cell_of hV 7,cell_of h.own 6,cell_of h.own 7,(World.cell?_of_block (w:=w) (hB.block kb hkb)).trans K.out,u0,u1,u2,u3,u4,u5,u6,u7⟩
theorem build_key (w:World) (key:ByteArray):(Instr.buildSlice 26 1 #[(0,.string key)]).run Tryz.prog w=.ok (.slice (some ⟨w.heap.size,0,none⟩) 1 1) (w.alloc (.cells #[.string key] 9)):=by kernel_rfl
theorem build_kid (w:World) (x:Raw):(Instr.buildSlice 27 1 #[(0,x.val)]).run Tryz.prog w=.ok (.slice (some ⟨w.heap.size,0,none⟩) 1 1) (w.alloc (.cells x.arr 29)):=by kernel_rfl
end Go.Proofs.YtliekocamnklfaaGreatDoor.Jdec
