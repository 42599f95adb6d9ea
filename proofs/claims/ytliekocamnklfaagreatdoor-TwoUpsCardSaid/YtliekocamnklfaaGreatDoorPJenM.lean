/- A value in memory of its own: each part in blocks that no other part has. -/
import Derived.Test.YtliekocamnklfaaGreatDoorPRtC
import Derived.Test.YtliekocamnklfaaGreatDoorPJenK
import Derived.Deep.RegionLaw
import Derived.Lib.Bytealg
set_option linter.unusedVariables false
set_option linter.unusedSimpArgs false
set_option maxRecDepth 100000
set_option maxHeartbeats 8000000
namespace Go.Proofs.YtliekocamnklfaaGreatDoor.Jdec
open Go.RowKit Strs
def inB (a:Option Addr) (b:Nat):Prop:=∃ x,a=some x/\x.block=b
theorem inB_own {a:Option Addr} {n c b:Nat}:(Value.slice a n c).ownBlock=some b↔inB a b:=by
  cases a with
  | none=>simp [Value.ownBlock,inB]
  | some x=>simp [Value.ownBlock,inB]
structure Nd where
  raw:Raw
  jv:JV
  S:Nat->Prop
inductive OwnV (w:World):(Nat->Prop)->Raw->JV->Prop where
  | mk (S:Nat->Prop) (k:Int) (i n:Bool) (d:ByteArray) (e:Int) (s:ByteArray) (ka va:Option Addr) (kc vc:Nat) (keys:List ByteArray) (nds:List Nd) :
      w.ownsRow 0 9 1 (.slice ka keys.length kc) keys.length (keys.map Value.string) →
      w.ownsRow 0 29 8 (.slice va nds.length vc) nds.length (nds.flatMap fun x=>x.raw.cells) →
      (∀ b,inB ka b->S b)->(∀ b,inB va b->S b)->(∀ b,inB ka b->¬ inB va b) →
      (∀ x∈nds,OwnV w x.S x.raw x.jv) →
      (∀ x∈nds,∀ b,x.S b->S b/\¬ inB ka b/\¬ inB va b) →
      nds.Pairwise (fun x y=>∀ b,x.S b->¬ y.S b) →
      OwnV w S ⟨k,i,n,d,e,s,ka,keys.length,kc,va,nds.length,vc⟩ (.mk k i n d e s keys (nds.map Nd.jv))
theorem row_kept {w w':World} {B:Nat} {T:TypeId} {m n:Nat} {a:Option Addr} {c:Nat} {xs:List Value} (h:w.ownsRow B T m (.slice a n c) n xs) (hk:∀ b,inB a b->b<w.heap.size->w'.heap[b]?=w.heap[b]?):w'.ownsRow B T m (.slice a n c) n xs:=by
  refine ⟨h.1,?_⟩;rcases h.2 with hn | ⟨g,cap,cur,hs,hb,hg,rest⟩
  · exact .inl hn
  · injection hs with e1 e2 e3
    subst e1 e3;exact .inr ⟨g,c,cur,rfl,hb,(hk g ⟨_,rfl,rfl⟩ (heap_lt hg)).trans hg,rest⟩
theorem row_zero {w:World} {B:Nat} {T:TypeId} {m n:Nat} {v:Value} {xs:List Value} (h:w.ownsRow B T m v n xs):w.ownsRow 0 T m v n xs:=by
  refine ⟨h.1,?_⟩;rcases h.2 with hn | ⟨g,cap,cur,hs,hb,hg,rest⟩
  · exact .inl hn
  · exact .inr ⟨g,cap,cur,hs,Nat.zero_le _,hg,rest⟩
theorem OwnV.keep {w w':World} {S:Nat->Prop} {r:Raw} {t:JV} (h:OwnV w S r t) (hk:∀ b,S b->b<w.heap.size->w'.heap[b]?=w.heap[b]?):OwnV w' S r t:=by
  induction h with
  | mk S k i n d e s ka va kc vc keys nds h1 h2 h3 h4 h5 h6 h7 h8 ih=>
    exact .mk S k i n d e s ka va kc vc keys nds (row_kept h1 fun b hb hl=>hk b (h3 b hb) hl) (row_kept h2 fun b hb hl=>hk b (h4 b hb) hl) h3 h4 h5 (fun x hx=>ih x hx fun b hb hl=>hk b (h7 x hx b hb).1 hl) h7 h8
theorem OwnV.wide {w:World} {S S':Nat->Prop} {r:Raw} {t:JV} (h:OwnV w S r t) (hS:∀ b,S b->S' b):OwnV w S' r t:=by
  cases h with
  | mk S k i n d e s ka va kc vc keys nds h1 h2 h3 h4 h5 h6 h7 h8=>
    exact .mk S' k i n d e s ka va kc vc keys nds h1 h2 (fun b hb=>hS b (h3 b hb)) (fun b hb=>hS b (h4 b hb)) h5 h6 (fun x hx b hb=>⟨hS b (h7 x hx b hb).1,(h7 x hx b hb).2⟩) h8
theorem nds_cells_at:∀ (nds:List Nd) (i:Nat) (h:i<nds.length) (j:Nat) (u:Value),nds[i].raw.cells[j]?=some u->(nds.flatMap fun x=>x.raw.cells)[i*8+j]?=some u
  | r::rs,0,h,j,u,hu=>by
    have hu:r.raw.cells[j]?=some u:=hu;have hj:=(List.getElem?_eq_some_iff.1 hu).1;rw [List.flatMap_cons,Nat.zero_mul,Nat.zero_add,List.getElem?_append_left hj];exact hu
  | r::rs,i+1,h,j,u,hu=>by
    have:=nds_cells_at rs i (by simpa using h) j u hu;have h8:r.raw.cells.length=8:=rfl;rw [List.flatMap_cons,List.getElem?_append_right (by omega),h8,show (i+1)*8+j-8=i*8+j by omega];exact this
theorem row_form {w:World} {B:Nat} {T:TypeId} {m n:Nat} {a:Option Addr} {c:Nat} {xs:List Value} (h:w.ownsRow B T m (.slice a n c) n xs):(n=0/\a=none)∨∃ g,a=some ⟨g,0,none⟩/\B<=g/\g<w.heap.size/\c<=maxLen/\n<=c:=by
  rcases h.2 with ⟨hv,h0⟩ | ⟨g,cap,cur,hv,hb,hg,hc,hm,_⟩
  · injection hv with e1 e2 e3
    exact .inl ⟨h0,e1⟩
  · injection hv with e1 e2 e3
    subst e3;exact .inr ⟨g,e1,hb,heap_lt hg,hm,hc⟩
theorem OwnV.isV {w:World} {S:Nat->Prop} {r:Raw} {t:JV} (h:OwnV w S r t) (A:Nat->Prop) (hA:∀ b,S b->A b):IsV w A r t:=by
  induction h with
  | mk S k i n d e s ka va kc vc keys nds h1 h2 h3 h4 h5 h6 h7 h8 ih=>
    refine .mk ⟨k,i,n,d,e,s,ka,keys.length,kc,va,nds.length,vc⟩ keys (nds.map Nd.jv) (fun j=>(nds.getD j ⟨Raw.zero,JV.zero,fun _=>False⟩).raw) rfl (by simp) ?_ ?_ fun j hj=>?_
    · rcases row_form h1 with ⟨h0,_⟩ | ⟨g,rfl,_,hg,_⟩
      · exact .inl (List.length_eq_zero_iff.1 h0)
      · refine .inr ⟨g,0,rfl,hA g (h3 g ⟨_,rfl,rfl⟩),hg,fun j hj=>?_⟩;rw [Nat.zero_add,h1.cellAt j (by simpa using hj)];simp [hj]
    · rcases row_form h2 with ⟨h0,_⟩ | ⟨g,rfl,_,hg,_⟩
      · exact .inl (by rw [List.length_eq_zero_iff.1 h0];rfl)
      · refine .inr ⟨g,0,rfl,hA g (h4 g ⟨_,rfl,rfl⟩),hg,fun j hj p u hu=>?_⟩;have hj':j<nds.length:=by simpa using hj
        have e1:nds.getD j ⟨Raw.zero,JV.zero,fun _=>False⟩=nds[j]:=by simp [List.getD,hj']
        rw [e1] at hu;have hp:p<8:=(List.getElem?_eq_some_iff.1 hu).1;have e2:=nds_cells_at nds j hj' p u hu;rw [Nat.zero_add,h2.cellAt (j*8+p) (by omega)];exact e2
    · have hj':j<nds.length:=by simpa using hj
      have e1:nds.getD j ⟨Raw.zero,JV.zero,fun _=>False⟩=nds[j]:=by simp [List.getD,hj']
      rw [e1,List.getElem_map];exact ih nds[j] (List.getElem_mem hj') fun b hb=>hA b (h7 _ (List.getElem_mem hj') b hb).1
def setL (xs:List Value) (j:Nat):List Value->List Value
  | []=>xs
  | u::us=>setL (xs.set j u) (j+1) us
theorem setL_mid:∀ (us old A C:List Value),us.length=old.length->setL (A++old++C) A.length us=A++us++C
  | [],[],A,C,_=>rfl
  | u::us,o::old,A,C,h=>by
    have ih:=setL_mid us old (A++[u]) C (by simpa using h);rw [setL,show A++(o::old)++C=A++(o::(old++C)) by simp,List.set_append_right _ _ (Nat.le_refl _),Nat.sub_self,List.set_cons_zero];rw [List.length_append,List.length_singleton] at ih;rw [show A++(u::(old++C))=(A++[u])++old++C by simp,ih];simp
theorem row_setCells {w:World} {B:Nat} {T:TypeId} {m g n c:Nat}:∀ (us:List Value) (j:Nat) (w:World) (xs:List Value),w.ownsRow B T m (.slice (some ⟨g,0,none⟩) n c) n xs →
    (w.setCells g j us).ownsRow B T m (.slice (some ⟨g,0,none⟩) n c) n (setL xs j us)/\w.grownBy (w.setCells g j us) (some g)
  | [],j,w,xs,h=>⟨h,rfl,rfl,rfl,Nat.le_refl _,fun _ _ _=>rfl⟩
  | u::us,j,w,xs,h=>by
    obtain ⟨h1,h2⟩:=h.stored j u;obtain ⟨h3,h4⟩:=row_setCells (w:=w) us (j+1) _ _ h1;exact ⟨h3,h4.os.trans h2.os,h4.tape.trans h2.tape,h4.output.trans h2.output,Nat.le_trans h2.size h4.size,fun k hk hr=>(h4.block k (Nat.lt_of_lt_of_le hk h2.size) hr).trans (h2.block k hk hr)⟩
theorem wpList_append_run {P:Program} {w w':World} {ops:Array Oper} {rest:List Oper} {o:Oper} {a:Act} {Q:Exit->Act->World->Prop} {v':Value} (v1 v2:Value) (t:TypeId) (hr:(Builtin.append_ #[t,t] o.type #[v1,v2]).run P w=.ok v' w') (hgd:o.guard=none) (s x:Operand)
    (ho:o.op=.call { callee:=.builtin .append,args:=#[s,x],argTypes:=#[t,t] }) (hs:a.eval s=v1) (hx:a.eval x=v2) (h:wpList P ops Q rest (a.put o.dst v') w'):wpList P ops Q (o::rest) a w:=by
  refine wpList_plain hgd fun K hK=>?_;unfold Oper.wp;simp [execOp,ho,resolve,invoke,builtin,hs,hx,hr,Result.andThen]
  exact hK _ _ h
theorem app_keys (w:World) (A:Nat->Prop) (ks:List ByteArray) (ka:Option Addr) (kc:Nat) (ht:IsTexts w A ka ks) (hl:ks.length<=3000):∃ ka' kc' w',(Builtin.append_ #[26,26] 26 #[.slice none 0 0,.slice ka ks.length kc]).run Tryz.prog w=.ok (.slice ka' ks.length kc') w'/\w'.ownsRow w.heap.size 9 1 (.slice ka' ks.length kc') ks.length (ks.map Value.string)/\Below w.heap.size w w':=by
  obtain ⟨i0,hi,hz0,hz1,hz2⟩:=info_parts infoStr;by_cases h0:ks=[]
  · subst h0;refine ⟨none,0,w,?_,World.ownsRow_nil _ _ _ _,Below.refl _ _⟩
    cases ka with
    | none=>simp [Builtin.append_,run_underlying Tryz.underlying26,sizeOf,typeInfo,hi,Builtin.lenOf,Builtin.firstCells]
    | some a=>simp [Builtin.append_,run_underlying Tryz.underlying26,sizeOf,typeInfo,hi,Builtin.lenOf,Builtin.firstCells,loadCells,loadCellsFrom]
  · obtain ⟨b,o,rfl,_,hb,hc⟩:=ht.resolve_left h0;have hnews:∀ j u,(ks.map Value.string)[j]?=some u->w.cell? ((⟨b,o,none⟩:Addr).add j)=some u:=fun j u hu=>by
      obtain ⟨hj,rfl⟩:=List.getElem?_eq_some_iff.1 hu;have hj':j<ks.length:=by simpa using hj
      have e:(⟨b,o,none⟩:Addr).add j=⟨b,o+j,none⟩:=by unfold Addr.add;split <;> simp_all
      rw [e,hc j hj',List.getElem_map]
    obtain ⟨v',w',hr,ho,hg,_⟩:=run_append_own (P:=Tryz.prog) w w.heap.size 26 26 9 i0 (.string ⟨#[]⟩) 1 16 Tryz.underlying26 hi hz0 hz1 hz2 rfl (by decide) (.slice none 0 0) 0 [] (World.ownsRow_nil _ _ _ _) ⟨b,o,none⟩ ks.length kc (ks.map Value.string) (by simp) hnews (fun u hu=>by obtain ⟨x,_,rfl⟩:=List.mem_map.1 hu;rfl) (by unfold maxLen;omega) (by omega) (Nat.le_refl _);rw [Nat.zero_add,List.nil_append] at ho;obtain ⟨a,c,rfl⟩:∃ a c,v'=.slice a ks.length c:=by
      rcases ho.2 with ⟨rfl,e0⟩ | ⟨g,cap,cur,rfl,_⟩
      · exact ⟨none,0,by rw [e0]⟩
      · exact ⟨_,_,rfl⟩
    exact ⟨a,c,w',hr,ho,hg.os,hg.tape,hg.output,hg.size,fun k hk=>hg.block k hk (by simp [Value.ownBlock])⟩
theorem make_vals (w:World) (n:Nat) (hn:n<=3000):∃ w' xs,(Instr.makeSlice 27 (.int .i64 (n:Int)) (.int .i64 (n:Int))).run Tryz.prog w=.ok (.slice (some ⟨w.heap.size,0,none⟩) n n) w'/\Hid (w'.ownsRow w.heap.size 29 8 (.slice (some ⟨w.heap.size,0,none⟩) n n) n xs)/\Hid (Below w.heap.size w w'):=by
  obtain ⟨i0,hi,hz0,hz1,hz2⟩:=info_parts infoKid;obtain ⟨w',h1,h2,h3⟩:=run_make_full (P:=Tryz.prog) w w.heap.size 27 29 i0 _ 8 Tryz.underlying27 hi hz0 hz1 .i64 .i64 n (by rw [hz2];omega) (by unfold maxLen;omega) (Nat.le_refl _);exact ⟨w',_,h1,h2,h3.os,h3.tape,h3.output,h3.size,fun k hk=>h3.block k hk (by simp)⟩
theorem row_cell {w:World} {B:Nat} {T:TypeId} {m n g c:Nat} {xs:List Value} (h:w.ownsRow B T m (.slice (some ⟨g,0,none⟩) n c) n xs) (j:Nat) (hj:j<n*m):∃ z,w.cell? ⟨g,j,none⟩=some z:=by
  rw [h.cellAt j hj];have:=h.1;exact ⟨_,List.getElem?_eq_getElem (by omega)⟩
theorem set6 {w:World} {b:Nat} {k:Int} {i n:Bool} {d:ByteArray} {e:Int} {s:ByteArray} {ka va ka':Option Addr} {kn kc vn vc kn' kc':Nat} {T:TypeId} (h:w.heap[b]?=some (.cells (Raw.mk k i n d e s ka kn kc va vn vc).arr T (0,0))) :
    (w.setCell ⟨b,6,none⟩ (.slice ka' kn' kc')).heap[b]?=some (.cells (Raw.mk k i n d e s ka' kn' kc' va vn vc).arr T (0,0)):=by rw [heap_set_same h];rfl
theorem set7 {w:World} {b:Nat} {k:Int} {i n:Bool} {d:ByteArray} {e:Int} {s:ByteArray} {ka va va':Option Addr} {kn kc vn vc vn' vc':Nat} {T:TypeId} (h:w.heap[b]?=some (.cells (Raw.mk k i n d e s ka kn kc va vn vc).arr T (0,0))) :
    (w.setCell ⟨b,7,none⟩ (.slice va' vn' vc')).heap[b]?=some (.cells (Raw.mk k i n d e s ka kn kc va' vn' vc').arr T (0,0)):=by rw [heap_set_same h];rfl
def CopyP (t:JV) (w:World) (e:Ending) (w':World):Prop:=∃ r:Raw,e=.returned r.val/\OwnV w' (fun b=>w.heap.size<=b/\b<w'.heap.size) r t/\Below w.heap.size w w'
theorem CopyP.to {t:JV} {w w':World} {e:Ending} (h:CopyP t w e w'):∃ r:Raw,e=.returned r.val/\Hid (OwnV w' (fun b=>w.heap.size<=b/\b<w'.heap.size) r t)/\Hid (Below w.heap.size w w'):=h
def CopyC (t:JV):Prop:=∀ (ra:Raw) (A:Nat->Prop) (w:World),IsV w A ra t->Calls Tryz.prog 47 #[ra.val] w (CopyP t w)
theorem copy_fin {F:Func} {p:Tmp} (hr:F.results=#[.cell p 29]) {tm:Array Value} {a:Raw} {w w2:World} {b:Nat}
    (hb:Hid (w2.heap[b]?=some (.cells a.arr 29 (0,0)))) (hp:tm.getD p undef=.pointer (some ⟨b,0,none⟩)) (g:Hid (Below w.heap.size w w2)) (hB:w.heap.size<=b)
    (c:Raw) (t:JV) (S:Nat->Prop) (hi:Hid (OwnV w2 S c t)) (hS:∀ x,S x->w.heap.size<=x/\x<w2.heap.size/\x≠b) :
    bodyPost Tryz.prog F (CopyP t w) Exit.ret { tmps:=tm,defers:=[] }
    ((((((((w2.setCell ⟨b,0,none⟩ (.int .i64 c.kind)).setCell ⟨b,1,none⟩ (.bool c.is)).setCell ⟨b,2,none⟩ (.bool c.neg)).setCell ⟨b,3,none⟩ (.string c.dig)).setCell ⟨b,4,none⟩ (.int .i64 c.exp)).setCell ⟨b,5,none⟩ (.string c.str)).setCell ⟨b,6,none⟩ (.slice c.ka c.kn c.kc)).setCell ⟨b,7,none⟩ (.slice c.va c.vn c.vc)):=by
  have h8:=set8 hb.out c;have G8:=gb8 w2 b (.int .i64 c.kind) (.bool c.is) (.bool c.neg) (.string c.dig) (.int .i64 c.exp) (.string c.str) (.slice c.ka c.kn c.kc) (.slice c.va c.vn c.vc);refine val_ret (a:=c) hr h8 hp ?_;refine ⟨c,rfl,(hi.out.keep fun x hx hl=>G8.block x hl (fun e=>by injection e with e;exact (hS x hx).2.2 e)).wide fun x hx=>⟨(hS x hx).1,Nat.lt_of_lt_of_le (hS x hx).2.1 G8.size⟩,?_⟩;exact g.out.grown G8 g.out.size (fun k hk=>by injection hk with hk;omega)
theorem copy_none (k:Int) (is ng:Bool) (d:ByteArray) (e:Int) (s:ByteArray) (ks:List ByteArray) (hks:ks.length<=3000):CopyC (.mk k is ng d e s ks []):=by
  intro ra A w hi
  obtain ⟨ka,kc,va,vc,rfl,ht,f,hu1,hu2⟩:=hi.parts;obtain ⟨w2,hw2,V2,B2⟩:=own_new w (Raw.mk k is ng d e s ka ks.length kc va 0 vc);obtain ⟨w3,hw3,V3,B3⟩:=own_new w2 Raw.zero;obtain ⟨w4,hw4,V4,B4⟩:=own_new w3 (Raw.mk k is ng d e s ka ks.length kc va 0 vc);have hl2:=heap_lt V2.out;have hl3:=heap_lt V3.out;have hl4:=heap_lt V4.out;have B14:Hid (Below w.heap.size w w4):=(B2.out.trans (B3.out.mono (by omega))).trans (B4.out.mono (by omega));obtain ⟨ka',kc',w5,hr,ho,hb⟩:=app_keys w4 A ks ka kc (ht.turn (Turn.below B14.out)) hks;have V23:Hid (w3.heap[w.heap.size]?=some (.cells (Raw.mk k is ng d e s ka ks.length kc va 0 vc).arr 29 (0,0))):=(B3.out.block _ (by omega)).trans V2.out;have V24:Hid (w4.heap[w.heap.size]?=some (.cells (Raw.mk k is ng d e s ka ks.length kc va 0 vc).arr 29 (0,0))):=(B4.out.block _ (by omega)).trans V23.out;have V25:Hid (w5.heap[w.heap.size]?=some (.cells (Raw.mk k is ng d e s ka ks.length kc va 0 vc).arr 29 (0,0))):=(hb.block _ (by omega)).trans V24.out;have V35:Hid (w5.heap[w2.heap.size]?=some (.cells Raw.zero.arr 29 (0,0))):=(hb.block _ (by omega)).trans ((B4.out.block _ (by omega)).trans V3.out);have V45:Hid (w5.heap[w3.heap.size]?=some (.cells (Raw.mk k is ng d e s ka ks.length kc va 0 vc).arr 29 (0,0))):=(hb.block _ (by omega)).trans V4.out;have B15:Hid (Below w.heap.size w w5):=B14.out.trans (hb.mono (by omega));have HO:Hid (w5.ownsRow w4.heap.size 9 1 (.slice ka' ks.length kc') ks.length (ks.map Value.string)):=ho;have hl5:=hb.size;obtain ⟨w6,hw6⟩:∃ w6,(w5.setCell ⟨w3.heap.size,6,none⟩ (.slice ka' ks.length kc')).setCell ⟨w3.heap.size,7,none⟩ (.slice none 0 0)=w6:=⟨_,rfl⟩;have V46:Hid (w6.heap[w3.heap.size]?=some (.cells (Raw.mk k is ng d e s ka' ks.length kc' none 0 0).arr 29 (0,0))):=by
    rw [<-hw6];exact set7 (set6 V45.out)
  have G6:Hid (w5.grownBy w6 (some w3.heap.size)):=by rw [<-hw6];exact (gb_set _ _ _ _).trans (gb_set _ _ _ _)
  have V26:Hid (w6.heap[w.heap.size]?=some (.cells (Raw.mk k is ng d e s ka ks.length kc va 0 vc).arr 29 (0,0))):=(G6.out.block _ (by omega) (by intro x;injection x with x;omega)).trans V25.out;have V36:Hid (w6.heap[w2.heap.size]?=some (.cells Raw.zero.arr 29 (0,0))):=(G6.out.block _ (by omega) (by intro x;injection x with x;omega)).trans V35.out;have B16:Hid (Below w.heap.size w w6):=B15.out.grown G6.out (by omega) (fun k hk=>by injection hk with hk;omega);have HO6:Hid (w6.ownsRow w4.heap.size 9 1 (.slice ka' ks.length kc') ks.length (ks.map Value.string)):=row_kept ho fun b hb hl=>G6.out.block b hl (fun e=>by
    injection e with e
    have:=(ho.lt b (inB_own.2 hb)).1;omega)
  have hl6:=G6.out.size;have HR:=Hid.out (p:=Hid _) hr;clear hr hu1 hu2 ht hi ho hb f B14 B2 B3 B4
  dsimp only at hw2 hw4
  dsimp only [Raw.zero] at hw3
  dsimp only [Raw.val,List.length_nil]
  obtain ⟨⟨x0,x1,x2,x3,x4,x5,x6,x7⟩,_⟩:=val_cells V23.out;have x46:w4.cell? ⟨w.heap.size,6,none⟩=some (.slice ka ks.length kc):=cell_of V24.out 6;obtain ⟨⟨y0,y1,y2,y3,y4,y5,y6,y7⟩,g0,g1,g2,g3,g4,g5,g6,g7⟩:=val_cells V45.out;have x67:w6.cell? ⟨w.heap.size,7,none⟩=some (.slice va 0 vc):=cell_of V26.out 7;obtain ⟨⟨z0,z1,z2,z3,z4,z5,z6,z7⟩,_⟩:=val_cells V46.out;obtain ⟨⟨r0,r1,r2,r3,r4,r5,r6,r7⟩,h0,h1,h2,h3,h4,h5,h6,h7⟩:=val_cells V36.out;go_enter Tryz.func47,Tryz.ntmps47
  go_wp2_with (at_builtin;refine wpList_append_run (.slice none 0 0) (.slice ka ks.length kc) 26 HR.out rfl _ _ rfl rfl rfl ?_)
  have HOW:Hid (OwnV w6 (fun b=>w4.heap.size<=b/\b<w6.heap.size) (Raw.mk k is ng d e s ka' ks.length kc' none 0 0) (.mk k is ng d e s ks [])):=
    OwnV.mk _ k is ng d e s ka' none kc' 0 ks [] (row_zero HO6.out) (World.ownsRow_nil _ _ _ _) (fun b hb=>(HO6.out.lt b (inB_own.2 hb))) (fun b hb=>by obtain ⟨x,hx,_⟩:=hb;cases hx) (fun b _ hb=>by obtain ⟨x,hx,_⟩:=hb;cases hx) (fun x hx=>by cases hx) (fun x hx=>by cases hx) List.Pairwise.nil
  go_loopw [24] (fun p wr=>p=.int .i64 0/\w6=wr) (fun _ _=>0)
  case atStart=>exact ⟨rfl,rfl⟩
  case round=>
    obtain ⟨rfl,rfl⟩:=hrel;go_wp2_with fail
    exact copy_fin rfl V36 rfl B16 (by omega) (Raw.mk k is ng d e s ka' ks.length kc' none 0 0) _ _ HOW (fun x hx=>⟨by omega,by omega,by omega⟩)
theorem wpList_make_run {P:Program} {w w':World} {ops:Array Oper} {rest:List Oper} {o:Oper} {a:Act} {Q:Exit->Act->World->Prop} {v':Value} (v1 v2:Value) (t:TypeId) (hr:(Instr.makeSlice t v1 v2).run P w=.ok v' w') (hgd:o.guard=none) (l c:Operand)
    (hop:o.op=Op.makeSlice t l c) (hl:a.eval l=v1) (hc:a.eval c=v2) (h:wpList P ops Q rest (a.put o.dst v') w'):wpList P ops Q (o::rest) a w:=by
  refine wpList_plain hgd fun K hK=>?_;unfold Oper.wp;simp [execOp,hop,hl,hc,hr,Result.andThen]
  exact hK _ _ h
structure CopyR (w8:World) (kb:Nat) (vs:List JV) (i:Nat) (nds:List Nd) (wr:World):Prop where
  len:nds.length=i
  jvs:nds.map Nd.jv=vs.take i
  row:∃ rest:List Value,rest.length=(vs.length-i)*8/\wr.ownsRow kb 29 8 (.slice (some ⟨kb,0,none⟩) vs.length vs.length) vs.length ((nds.flatMap fun x=>x.raw.cells)++rest)
  own:∀ x∈nds,OwnV wr x.S x.raw x.jv/\∀ b,x.S b->w8.heap.size<=b/\b<wr.heap.size
  apart:nds.Pairwise (fun x y=>∀ b,x.S b->¬ y.S b)
  grew:w8.grownBy wr (some kb)
theorem ndcells_len (nds:List Nd):(nds.flatMap fun x=>x.raw.cells).length=nds.length*8:=by
  induction nds with
  | nil=>rfl
  | cons x t ih=>rw [List.flatMap_cons,List.length_append,ih,List.length_cons];simp [Raw.cells];omega
theorem CopyR.eight {w8 wr:World} {kb i:Nat} {vs:List JV} {nds:List Nd} (h:CopyR w8 kb vs i nds wr) (hi:i<vs.length) {w10:World} (hb:w10.heap[kb]?=wr.heap[kb]?) (j:Nat) (hj:j<8):(∃ z,w10.cell? ⟨kb,i*8+j,none⟩=some z)/\w10.frozen? ⟨kb,i*8+j,none⟩=false:=by
  obtain ⟨rest,h1,h2⟩:=h.row;have h3:w10.ownsRow kb 29 8 (.slice (some ⟨kb,0,none⟩) vs.length vs.length) vs.length ((nds.flatMap fun x=>x.raw.cells)++rest):=row_kept h2 fun b hb' _=>by
    obtain ⟨x,hx,hxb⟩:=hb';injection hx with hx
    subst hx;obtain rfl:kb=b:=hxb;exact hb
  exact ⟨row_cell h3 _ (by omega),h3.frozenAt _⟩
theorem CopyR.eights {w8 wr:World} {kb i:Nat} {vs:List JV} {nds:List Nd} (h:CopyR w8 kb vs i nds wr) (hi:i<vs.length) {w10:World} (hb:w10.heap[kb]?=wr.heap[kb]?) :
    ((∃ z,w10.cell? ⟨kb,i*8,none⟩=some z)/\(∃ z,w10.cell? ⟨kb,i*8+1,none⟩=some z)/\(∃ z,w10.cell? ⟨kb,i*8+2,none⟩=some z)/\(∃ z,w10.cell? ⟨kb,i*8+3,none⟩=some z)/\(∃ z,w10.cell? ⟨kb,i*8+4,none⟩=some z)/\(∃ z,w10.cell? ⟨kb,i*8+5,none⟩=some z)/\(∃ z,w10.cell? ⟨kb,i*8+6,none⟩=some z)/\(∃ z,w10.cell? ⟨kb,i*8+7,none⟩=some z)) ∧
    (w10.frozen? ⟨kb,i*8,none⟩=false/\w10.frozen? ⟨kb,i*8+1,none⟩=false/\w10.frozen? ⟨kb,i*8+2,none⟩=false/\w10.frozen? ⟨kb,i*8+3,none⟩=false/\w10.frozen? ⟨kb,i*8+4,none⟩=false/\w10.frozen? ⟨kb,i*8+5,none⟩=false/\w10.frozen? ⟨kb,i*8+6,none⟩=false/\w10.frozen? ⟨kb,i*8+7,none⟩=false):=
  ⟨⟨(h.eight hi hb 0 (by omega)).1,(h.eight hi hb 1 (by omega)).1,(h.eight hi hb 2 (by omega)).1,(h.eight hi hb 3 (by omega)).1,(h.eight hi hb 4 (by omega)).1,(h.eight hi hb 5 (by omega)).1,(h.eight hi hb 6 (by omega)).1,(h.eight hi hb 7 (by omega)).1⟩,
    (h.eight hi hb 0 (by omega)).2,(h.eight hi hb 1 (by omega)).2,(h.eight hi hb 2 (by omega)).2,(h.eight hi hb 3 (by omega)).2,(h.eight hi hb 4 (by omega)).2,(h.eight hi hb 5 (by omega)).2,(h.eight hi hb 6 (by omega)).2,(h.eight hi hb 7 (by omega)).2⟩
theorem CopyR.next {w8 wr w10:World} {kb i:Nat} {vs:List JV} {nds:List Nd} (h:CopyR w8 kb vs i nds wr) (hi:i<vs.length) (hkb:kb<w8.heap.size) (g:Below wr.heap.size wr w10) {r:Raw} {m:Nat} (hm:wr.heap.size<=m) (ho:OwnV w10 (fun b=>m<=b/\b<w10.heap.size) r vs[i]):CopyR w8 kb vs (i+1) (nds++[⟨r,vs[i],fun b=>m<=b/\b<w10.heap.size⟩]) (w10.setCells kb (i*8) r.cells):=by
  obtain ⟨rest,h1,h2⟩:=h.row;have hlt:kb<wr.heap.size:=Nat.lt_of_lt_of_le hkb h.grew.size;have h3:w10.ownsRow kb 29 8 (.slice (some ⟨kb,0,none⟩) vs.length vs.length) vs.length ((nds.flatMap fun x=>x.raw.cells)++rest):=row_kept h2 fun b hb' hb=>g.block b hb;obtain ⟨h4,h5⟩:=row_setCells (w:=w10) r.cells (i*8) w10 _ h3;have hne:∀ b,wr.heap.size<=b->some b≠some kb:=fun b hb e=>by injection e with e;omega
  have e8:r.cells.length=8:=rfl;have hl:(nds.flatMap fun x=>x.raw.cells).length=i*8:=by rw [ndcells_len,h.len]
  have e1:(nds.flatMap fun x=>x.raw.cells)++rest=(nds.flatMap fun x=>x.raw.cells)++rest.take 8++rest.drop 8:=by rw [List.append_assoc,List.take_append_drop]
  have e2:=setL_mid r.cells (rest.take 8) (nds.flatMap fun x=>x.raw.cells) (rest.drop 8) (by rw [List.length_take,e8];omega);refine ⟨by rw [List.length_append,h.len];rfl,?_,⟨rest.drop 8,by rw [List.length_drop];omega,?_⟩,?_,?_,?_⟩
  · rw [List.map_append,h.jvs,List.take_add_one,List.getElem?_eq_getElem hi];rfl
  · rw [e1,<-hl,e2] at h4;rw [<-hl,List.flatMap_append]
    simpa using h4
  · intro x hx
    rcases List.mem_append.1 hx with hx | hx
    · obtain ⟨o1,o2⟩:=h.own x hx;refine ⟨(o1.keep fun b hb hl=>g.block b hl).keep fun b hb hl=>h5.block b hl (fun e=>?_),fun b hb=>⟨(o2 b hb).1,?_⟩⟩
      · injection e with e;have:=(o2 b hb).1;omega
      · have:=(o2 b hb).2;have:=g.size;have:=h5.size;omega
    · obtain rfl:=List.mem_singleton.1 hx;refine ⟨ho.keep fun b hb hl=>h5.block b hl (hne b (by have:=hb.1;omega)),fun b hb=>?_⟩;have hb:m<=b/\b<w10.heap.size:=hb;have:=h.grew.size;have:=h5.size;omega
  · rw [List.pairwise_append];refine ⟨h.apart,by simp,fun x hx y hy b hb hc=>?_⟩;obtain rfl:=List.mem_singleton.1 hy;have hc:m<=b/\b<w10.heap.size:=hc;have:=((h.own x hx).2 b hb).2;omega
  · exact ⟨h5.os.trans (g.os.trans h.grew.os),h5.tape.trans (g.tape.trans h.grew.tape),h5.output.trans (g.output.trans h.grew.output),Nat.le_trans h.grew.size (Nat.le_trans g.size h5.size),fun k hk hr=>(h5.block k (by have:=h.grew.size;have:=g.size;omega) hr).trans ((g.block k (by have:=h.grew.size;omega)).trans (h.grew.block k hk hr))⟩
theorem CopyR.all {w8 wr:World} {kb:Nat} {vs:List JV} {nds:List Nd} (h:CopyR w8 kb vs vs.length nds wr) (hkb:kb<w8.heap.size) (S:Nat->Prop) (k:Int) (is ng:Bool) (d:ByteArray) (e:Int) (s:ByteArray) (ks:List ByteArray) (ka:Option Addr) (kc:Nat) (hk:wr.ownsRow 0 9 1 (.slice ka ks.length kc) ks.length (ks.map Value.string)) (hS:∀ b,inB ka b->S b/\b≠kb/\b<w8.heap.size) (hS2:S kb) (hS3:∀ b,w8.heap.size<=b->b<wr.heap.size->S b):OwnV wr S (Raw.mk k is ng d e s ka ks.length kc (some ⟨kb,0,none⟩) vs.length vs.length) (.mk k is ng d e s ks vs):=by
  obtain ⟨rest,h1,h2⟩:=h.row;have hl:=h.len;have hj:=h.jvs;rw [List.take_length] at hj;have hr:rest=[]:=List.length_eq_zero_iff.1 (by omega);rw [hr,List.append_nil] at h2;rw [<-hl] at h2;rw [<-hj,List.length_map];refine OwnV.mk S k is ng d e s ka (some ⟨kb,0,none⟩) kc nds.length ks nds hk (row_zero h2) (fun b hb=>(hS b hb).1) (fun b hb=>?_) (fun b hb hc=>?_) (fun x hx=>(h.own x hx).1) (fun x hx b hb=>?_) h.apart
  · obtain ⟨x,hx,hxb⟩:=hb;injection hx with hx
    subst hx;obtain rfl:kb=b:=hxb;exact hS2
  · obtain ⟨x,hx,hxb⟩:=hc;injection hx with hx
    subst hx;exact (hS b hb).2.1 hxb.symm
  · obtain ⟨b1,b2⟩:=(h.own x hx).2 b hb;refine ⟨hS3 b b1 b2,fun hc=>?_,fun hc=>?_⟩
    · have:=(hS b hc).2.2;omega
    · obtain ⟨y,hy,hyb⟩:=hc;injection hy with hy
      subst hy;have:kb=b:=hyb;omega
theorem copy_some (k:Int) (is ng:Bool) (d:ByteArray) (e:Int) (s:ByteArray) (ks:List ByteArray) (vs:List JV) (hks:ks.length<=3000) (hvs:vs.length<=3000) (hne:vs≠[]) (IH:∀ j (h:j<vs.length),CopyC vs[j]):CopyC (.mk k is ng d e s ks vs):=by
  intro ra A w hi
  obtain ⟨ka,kc,va,vc,rfl,ht,f,hc,hi2⟩:=hi.parts;obtain ⟨g,o,rfl,hg,hcs⟩:=hc.resolve_left hne;obtain ⟨w2,hw2,V2,B2⟩:=own_new w (Raw.mk k is ng d e s ka ks.length kc (some ⟨g,o,none⟩) vs.length vc);obtain ⟨w3,hw3,V3,B3⟩:=own_new w2 Raw.zero;obtain ⟨w4,hw4,V4,B4⟩:=own_new w3 (Raw.mk k is ng d e s ka ks.length kc (some ⟨g,o,none⟩) vs.length vc);have hl2:=heap_lt V2.out;have hl3:=heap_lt V3.out;have hl4:=heap_lt V4.out;have B14:Hid (Below w.heap.size w w4):=(B2.out.trans (B3.out.mono (by omega))).trans (B4.out.mono (by omega));obtain ⟨ka',kc',w5,hr,ho,hb⟩:=app_keys w4 A ks ka kc (ht.turn (Turn.below B14.out)) hks;have V23:Hid (w3.heap[w.heap.size]?=some (.cells (Raw.mk k is ng d e s ka ks.length kc (some ⟨g,o,none⟩) vs.length vc).arr 29 (0,0))):=(B3.out.block _ (by omega)).trans V2.out;have V24:Hid (w4.heap[w.heap.size]?=some (.cells (Raw.mk k is ng d e s ka ks.length kc (some ⟨g,o,none⟩) vs.length vc).arr 29 (0,0))):=(B4.out.block _ (by omega)).trans V23.out;have V25:Hid (w5.heap[w.heap.size]?=some (.cells (Raw.mk k is ng d e s ka ks.length kc (some ⟨g,o,none⟩) vs.length vc).arr 29 (0,0))):=(hb.block _ (by omega)).trans V24.out;have V35:Hid (w5.heap[w2.heap.size]?=some (.cells Raw.zero.arr 29 (0,0))):=(hb.block _ (by omega)).trans ((B4.out.block _ (by omega)).trans V3.out);have V45:Hid (w5.heap[w3.heap.size]?=some (.cells (Raw.mk k is ng d e s ka ks.length kc (some ⟨g,o,none⟩) vs.length vc).arr 29 (0,0))):=(hb.block _ (by omega)).trans V4.out;have B15:Hid (Below w.heap.size w w5):=B14.out.trans (hb.mono (by omega));have hl5:=hb.size;obtain ⟨w6,hw6⟩:∃ w6,(w5.setCell ⟨w3.heap.size,6,none⟩ (.slice ka' ks.length kc')).setCell ⟨w3.heap.size,7,none⟩ (.slice none 0 0)=w6:=⟨_,rfl⟩;have V46:Hid (w6.heap[w3.heap.size]?=some (.cells (Raw.mk k is ng d e s ka' ks.length kc' none 0 0).arr 29 (0,0))):=by
    rw [<-hw6];exact set7 (set6 V45.out)
  have G6:Hid (w5.grownBy w6 (some w3.heap.size)):=by rw [<-hw6];exact (gb_set _ _ _ _).trans (gb_set _ _ _ _)
  have V26:Hid (w6.heap[w.heap.size]?=some (.cells (Raw.mk k is ng d e s ka ks.length kc (some ⟨g,o,none⟩) vs.length vc).arr 29 (0,0))):=(G6.out.block _ (by omega) (by intro x;injection x with x;omega)).trans V25.out;have V36:Hid (w6.heap[w2.heap.size]?=some (.cells Raw.zero.arr 29 (0,0))):=(G6.out.block _ (by omega) (by intro x;injection x with x;omega)).trans V35.out;have B16:Hid (Below w.heap.size w w6):=B15.out.grown G6.out (by omega) (fun k hk=>by injection hk with hk;omega);have HO6:Hid (w6.ownsRow w4.heap.size 9 1 (.slice ka' ks.length kc') ks.length (ks.map Value.string)):=row_kept ho fun b hb hl=>G6.out.block b hl (fun e=>by
    injection e with e
    have:=(ho.lt b (inB_own.2 hb)).1;omega)
  have hl6:=G6.out.size;obtain ⟨w7,xs7,hr7,HO7,B7⟩:=make_vals w6 vs.length hvs;have hl7:w6.heap.size<w7.heap.size:=(HO7.out.lt w6.heap.size rfl).2;have V27:Hid (w7.heap[w.heap.size]?=some (.cells (Raw.mk k is ng d e s ka ks.length kc (some ⟨g,o,none⟩) vs.length vc).arr 29 (0,0))):=(B7.out.block _ (by omega)).trans V26.out;have V37:Hid (w7.heap[w2.heap.size]?=some (.cells Raw.zero.arr 29 (0,0))):=(B7.out.block _ (by omega)).trans V36.out;have V47:Hid (w7.heap[w3.heap.size]?=some (.cells (Raw.mk k is ng d e s ka' ks.length kc' none 0 0).arr 29 (0,0))):=(B7.out.block _ (by omega)).trans V46.out;have HO67:Hid (w7.ownsRow w4.heap.size 9 1 (.slice ka' ks.length kc') ks.length (ks.map Value.string)):=row_kept HO6.out fun b hb hl=>B7.out.block b hl;obtain ⟨w8,hw8⟩:∃ w8,w7.setCell ⟨w3.heap.size,7,none⟩ (.slice (some ⟨w6.heap.size,0,none⟩) vs.length vs.length)=w8:=⟨_,rfl⟩;have G8:Hid (w7.grownBy w8 (some w3.heap.size)):=by rw [<-hw8];exact gb_set _ _ _ _
  have V48:Hid (w8.heap[w3.heap.size]?=some (.cells (Raw.mk k is ng d e s ka' ks.length kc' (some ⟨w6.heap.size,0,none⟩) vs.length vs.length).arr 29 (0,0))):=by
    rw [<-hw8];exact set7 V47.out
  have V28:Hid (w8.heap[w.heap.size]?=some (.cells (Raw.mk k is ng d e s ka ks.length kc (some ⟨g,o,none⟩) vs.length vc).arr 29 (0,0))):=(G8.out.block _ (by omega) (by intro x;injection x with x;omega)).trans V27.out;have V38:Hid (w8.heap[w2.heap.size]?=some (.cells Raw.zero.arr 29 (0,0))):=(G8.out.block _ (by omega) (by intro x;injection x with x;omega)).trans V37.out;have HO8:Hid (w8.ownsRow w4.heap.size 9 1 (.slice ka' ks.length kc') ks.length (ks.map Value.string)):=row_kept HO67.out fun b hb hl=>G8.out.block b hl (fun e=>by
    injection e with e
    have:=(HO67.out.lt b (inB_own.2 hb)).1;omega)
  have HX8:Hid (w8.ownsRow w6.heap.size 29 8 (.slice (some ⟨w6.heap.size,0,none⟩) vs.length vs.length) vs.length xs7):=row_kept HO7.out fun b hb hl=>G8.out.block b hl (fun e=>by
    injection e with e
    have:=(HO7.out.lt b (inB_own.2 hb)).1;omega)
  have hl8:=G8.out.size;have B18:Hid (Below w.heap.size w w8):=(B16.out.trans (B7.out.mono (by omega))).grown G8.out (by omega) (fun k hk=>by injection hk with hk;omega);have HR0:Hid (CopyR w8 w6.heap.size vs 0 [] w8):=⟨rfl,rfl,⟨xs7,by have:=HX8.out.1;omega,HX8.out⟩,(fun x hx=>by cases hx),List.Pairwise.nil,⟨rfl,rfl,rfl,Nat.le_refl _,fun _ _ _=>rfl⟩⟩;have hkw:∀ b,inB ka' b->w4.heap.size<=b/\b≠w6.heap.size/\b<w8.heap.size:=fun b hb=>by
    obtain ⟨b1,b2⟩:=HO6.out.lt b (inB_own.2 hb);exact ⟨b1,by omega,by omega⟩
  have HKW:=Hid.out (p:=Hid _) hkw;have HR:=Hid.out (p:=Hid _) hr;have HR7:=Hid.out (p:=Hid _) hr7;have HIH:=Hid.out (p:=Hid _) IH;have HCS:=Hid.out (p:=Hid _) hcs;have HI:=Hid.out (p:=Hid _) hi2;have hpos:=List.length_pos_iff.2 hne;have q0:decide ((0:Int)<(vs.length:Int))=true:=by rw [decide_eq_true_eq];omega
  have q1:decide (0<vs.length)=true:=by rw [decide_eq_true_eq];omega
  have hgw:g<w8.heap.size:=by omega
  clear hr hr7 ht hi ho hb B14 B2 B3 B4 hc hcs hi2 IH hkw hne
  dsimp only at hw2 hw4
  dsimp only [Raw.zero] at hw3
  dsimp only [Raw.val]
  obtain ⟨⟨x0,x1,x2,x3,x4,x5,x6,x7⟩,_⟩:=val_cells V23.out;have x46:w4.cell? ⟨w.heap.size,6,none⟩=some (.slice ka ks.length kc):=cell_of V24.out 6;obtain ⟨⟨y0,y1,y2,y3,y4,y5,y6,y7⟩,g0,g1,g2,g3,g4,g5,g6,g7⟩:=val_cells V45.out;have x67:w6.cell? ⟨w.heap.size,7,none⟩=some (.slice (some ⟨g,o,none⟩) vs.length vc):=cell_of V26.out 7;have x87:w8.cell? ⟨w.heap.size,7,none⟩=some (.slice (some ⟨g,o,none⟩) vs.length vc):=cell_of V28.out 7;have z7:w7.cell? ⟨w3.heap.size,7,none⟩=some (.slice none 0 0):=cell_of V47.out 7;have zf:w7.frozen? ⟨w3.heap.size,7,none⟩=false:=frozen_of V47.out 7;go_enter Tryz.func47,Tryz.ntmps47
  go_wp2_with (first
    | (at_builtin;refine wpList_append_run (.slice none 0 0) (.slice ka ks.length kc) 26 HR.out rfl _ _ rfl rfl rfl ?_)
    | (at_make;refine wpList_make_run (.int .i64 (vs.length:Int)) (.int .i64 (vs.length:Int)) 27 HR7.out rfl _ _ rfl rfl rfl ?_))
  clear x0 x1 x2 x3 x4 x5 x6 x7 x46 y0 y1 y2 y3 y4 y5 y6 y7 g0 g1 g2 g3 g4 g5 g6 g7 x67 x87 z7 zf hw2 hw3 hw4 hw6 hw8 HR HR7
  go_loopw [24] (fun p wr=>∃ (i:Nat) (nds:List Nd),p=.int .i64 i/\i<=vs.length/\Hid (CopyR w8 w6.heap.size vs i nds wr)) (fun p _=>vs.length-(intOf p).toNat)
  case atStart=>exact ⟨0,[],rfl,Nat.zero_le _,HR0.out⟩
  case round=>
    obtain ⟨i,nds,rfl,hi,hR⟩:=hrel;have hgs:=hR.out.grew.size;have V2r:Hid (wr.heap[w.heap.size]?=some (.cells (Raw.mk k is ng d e s ka ks.length kc (some ⟨g,o,none⟩) vs.length vc).arr 29 (0,0))):=(hR.out.grew.block _ (by omega) (by intro x;injection x with x;omega)).trans V28.out;have V4r:Hid (wr.heap[w3.heap.size]?=some (.cells (Raw.mk k is ng d e s ka' ks.length kc' (some ⟨w6.heap.size,0,none⟩) vs.length vs.length).arr 29 (0,0))):=(hR.out.grew.block _ (by omega) (by intro x;injection x with x;omega)).trans V48.out;have B1r:Hid (Below w.heap.size w wr):=B18.out.grown hR.out.grew (by omega) (fun k hk=>by injection hk with hk;omega);by_cases hlt:i<vs.length
    · have K1:=Hid.out (p:=Hid _) ((HCS.out i hlt).below hg B1r.out);have I1:=Hid.out (p:=Hid _) ((HI.out i hlt).behind B1r.out);obtain ⟨w9,hw9,V9,B9⟩:=own_new wr (f i);have hl9:=heap_lt V9.out;have V49:Hid (w9.heap[w3.heap.size]?=some (.cells (Raw.mk k is ng d e s ka' ks.length kc' (some ⟨w6.heap.size,0,none⟩) vs.length vs.length).arr 29 (0,0))):=(B9.out.block _ (by omega)).trans V4r.out;have I9:Hid (IsV w9.drew A (f i) vs[i]):=(I1.out.behind B9.out).turn ⟨Nat.le_refl _,fun b hA hb=>⟨rfl,hA⟩⟩;have hcall:=HIH.out i hlt (f i) A w9.drew I9.out;generalize f i=x at *;have K1c:CellsAt wr g (o+i*8) x:=K1.out;obtain ⟨u0,u1,u2,u3,u4,u5,u6,u7⟩:=K1c.eight;have V9:Hid (w9.heap[wr.heap.size]?=some (.cells x.arr 29 (0,0))):=V9.out;have HCL:=Hid.out (p:=Hid _) hcall;unfold Raw.val at HCL;obtain ⟨⟨y0,y1,y2,y3,y4,y5,y6,y7⟩,_⟩:=val_cells V9.out;have z7:w9.cell? ⟨w3.heap.size,7,none⟩=some (.slice (some ⟨w6.heap.size,0,none⟩) vs.length vs.length):=cell_of V49.out 7;clear K1 K1c I1 hcall I9;have hbk:∀ w10:World,Below w9.drew.heap.size w9.drew w10->w10.heap[w6.heap.size]?=wr.heap[w6.heap.size]?:=fun w10 hb=>(hb.block w6.heap.size (show w6.heap.size<w9.heap.size by omega)).trans (B9.out.block _ (by omega));have hck:∀ w10:World,Below w9.drew.heap.size w9.drew w10->w10.cell? ⟨w3.heap.size,7,none⟩=some (.slice (some ⟨w6.heap.size,0,none⟩) vs.length vs.length):=fun w10 hb=>cell_of ((hb.block w3.heap.size (show w3.heap.size<w9.heap.size by omega)).trans V49.out) 7;have HBK:=Hid.out (p:=Hid _) hbk;have HCK:=Hid.out (p:=Hid _) hck;clear hbk hck;go_wp2_with fail
      go_region_law (go_simp;go_at_call 47;refine (Calls.mono HCL.out ?_);rintro z w10 hz;obtain ⟨r,rfl,hor,hb10⟩:=hz.to;clear hz;have z10:=HCK.out w10 hb10.out;obtain ⟨⟨⟨c0,e0⟩,⟨c1,e1⟩,⟨c2,e2⟩,⟨c3,e3⟩,⟨c4,e4⟩,⟨c5,e5⟩,⟨c6,e6⟩,⟨c7,e7⟩⟩,f0,f1,f2,f3,f4,f5,f6,f7⟩:=hR.out.eights hlt (HBK.out w10 hb10.out);unfold Raw.val)
      all_goals
        have hnx:Hid (CopyR w8 w6.heap.size vs (i+1) (nds++[⟨r,vs[i],fun b=>w9.heap.size<=b/\b<w10.heap.size⟩]) (w10.setCells w6.heap.size (i*8) r.cells)):=hR.out.next hlt (by omega) (B9.out.trans ((show Below w9.heap.size w9 w10 from ⟨hb10.out.os,hb10.out.tape,hb10.out.output,hb10.out.size,hb10.out.block⟩).mono (by omega))) (by omega) hor.out;go_wp2_with fail
        go_roundw
        case rel=>exact ⟨i+1,_,by go_num,by omega,hnx.out⟩
        case measure=>simp [intOf];omega
    · obtain rfl:i=vs.length:=by omega
      have HOr:Hid (wr.ownsRow 0 9 1 (.slice ka' ks.length kc') ks.length (ks.map Value.string)):=row_zero (row_kept HO8.out fun b hb hl=>hR.out.grew.block b hl (fun e=>by
        injection e with e
        exact (HKW.out b hb).2.1 e))
      have HOW:Hid (OwnV wr (fun b=>w4.heap.size<=b/\b<wr.heap.size) (Raw.mk k is ng d e s ka' ks.length kc' (some ⟨w6.heap.size,0,none⟩) vs.length vs.length) (.mk k is ng d e s ks vs)):=
        hR.out.all (by omega) _ k is ng d e s ks ka' kc' HOr.out (fun b hb=>by obtain ⟨b1,b2,b3⟩:=HKW.out b hb;exact ⟨⟨b1,by omega⟩,b2,b3⟩) ⟨by omega,by omega⟩ (fun b b1 b2=>⟨by omega,b2⟩)
      have V3r:Hid (wr.heap[w2.heap.size]?=some (.cells Raw.zero.arr 29 (0,0))):=(hR.out.grew.block _ (by omega) (by intro x;injection x with x;omega)).trans V38.out;obtain ⟨⟨z0,z1,z2,z3,z4,z5,z6,z7⟩,_⟩:=val_cells V4r.out;obtain ⟨⟨r0,r1,r2,r3,r4,r5,r6,r7⟩,h0,h1,h2,h3,h4,h5,h6,h7⟩:=val_cells V3r.out;go_wp2_with fail
      exact copy_fin rfl V3r rfl B1r (by omega) (Raw.mk k is ng d e s ka' ks.length kc' (some ⟨w6.heap.size,0,none⟩) vs.length vs.length) _ _ HOW (fun x hx=>⟨by omega,by omega,by omega⟩)
theorem copy_any (t:JV) (hg:GoodQ t):t.mass<=3000->CopyC t:=by
  induction hg with
  | mk k i n d e s ks vs O hk ih=>
    intro hm
    rw [mass_mk] at hm;have hl:=masses_len vs;by_cases hne:vs=[]
    · subst hne;exact copy_none k i n d e s ks (by omega)
    · exact copy_some k i n d e s ks vs (by omega) (by omega) hne (fun j hj=>ih j hj (by have:=masses_mem vs j hj;omega))
end Go.Proofs.YtliekocamnklfaaGreatDoor.Jdec
