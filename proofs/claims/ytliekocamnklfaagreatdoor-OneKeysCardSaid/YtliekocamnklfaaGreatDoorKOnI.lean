/- tree.right, tree.Right of any value. -/
import Derived.Test.YtliekocamnklfaaGreatDoorKOnB
import Derived.Test.YtliekocamnklfaaGreatDoorKJenK
import Derived.Test.YtliekocamnklfaaGreatDoorKOnH
import Derived.Test.YtliekocamnklfaaGreatDoorKSvB
set_option linter.unusedVariables false
set_option linter.unusedSimpArgs false
set_option maxRecDepth 100000
set_option maxHeartbeats 4000000
namespace Go.Proofs.YtliekocamnklfaaGreatDoor.Jdec
open Go.RowKit Strs
theorem GoodQ.inv {k:Int} {i n:Bool} {d:ByteArray} {e:Int} {s:ByteArray} {ks:List ByteArray} {vs:List JV} (h:GoodQ (.mk k i n d e s ks vs)):OwnQ k i n d e s ks vs.length/\∀ j (h:j<vs.length),GoodQ vs[j]:=by
  cases h with
  | mk _ _ _ _ _ _ _ _ a b=>exact ⟨a,b⟩
theorem deepNs_all {m:Nat}:∀ vs:List JV,(∀ j (h:j<vs.length),vs[j].deepN<=m)->deepNs vs<=m
  | [],_=>by rw [deepNs_nil];exact Nat.zero_le _
  | v::t,h=>by
    have h1:=h 0 (Nat.zero_lt_succ _);have h2:=deepNs_all t fun j hj=>by have:=h (j+1) (by simpa using hj);rwa [List.getElem_cons_succ] at this
    rw [deepNs_cons];exact Nat.max_le.2 ⟨h1,h2⟩
def TRightQ (t:JV):Prop:=∀ (ra:Raw) (A:Nat->Prop) (w:World) (dp:Nat),dp<=1000->Utf.Sizes w->IsV w A ra t->Calls Tryz.prog 100 #[ra.val,.int .i64 dp] w (IsPost (GoodQ t/\t.deepN<=dp) w)
theorem trightq_step (k:Int) (is ng:Bool) (d:ByteArray) (e:Int) (s:ByteArray) (ks:List ByteArray) (vs:List JV) (hds:d.size<=1000000) (hs:s.size<=1000000) (hks:ks.length<=3000) (hv:vs.length<=3000) (hz:∀ x∈ks,x.size<=1000000) (IH:∀ j (h:j<vs.length),TRightQ vs[j]):TRightQ (.mk k is ng d e s ks vs):=by
  intro ra A w dp hdl T h
  have hdk:=deepN_mk k is ng d e s ks vs;have hno1:dp<1->¬ (GoodQ (.mk k is ng d e s ks vs)/\(JV.mk k is ng d e s ks vs).deepN<=dp):=fun h1 h2=>by omega
  have hno2:¬ OwnQ k is ng d e s ks vs.length->¬ (GoodQ (.mk k is ng d e s ks vs)/\(JV.mk k is ng d e s ks vs).deepN<=dp):=fun h1 h2=>h1 h2.1.inv.1;have hno3:OwnQ k is ng d e s ks vs.length->∀ i (hi:i<vs.length),¬ (GoodQ vs[i]/\vs[i].deepN<=dp-1)->¬ (GoodQ (.mk k is ng d e s ks vs)/\(JV.mk k is ng d e s ks vs).deepN<=dp):=fun O i hi h1 h2=>by
    refine h1 ⟨h2.1.inv.2 i hi,?_⟩;have a:=O.kids;have b:=O.k6;have c:=deepNs_mem vs i hi;have e:=h2.2;rw [hdk,if_pos (by omega)] at e;omega
  have hyes:OwnQ k is ng d e s ks vs.length->1<=dp->(∀ i (hi:i<vs.length),GoodQ vs[i]/\vs[i].deepN<=dp-1)->(GoodQ (.mk k is ng d e s ks vs)/\(JV.mk k is ng d e s ks vs).deepN<=dp):=fun O h1 h2=>by
    refine ⟨.mk k is ng d e s ks vs O fun i hi=>(h2 i hi).1,?_⟩;have:=deepNs_all vs fun i hi=>(h2 i hi).2;rw [hdk];split <;> omega
  obtain ⟨ka,kc,va,vc,rfl,ht,f,hc,hi⟩:=h.parts;obtain ⟨Q,hQ⟩:∃ Q,(GoodQ (.mk k is ng d e s ks vs)/\(JV.mk k is ng d e s ks vs).deepN<=dp)=Q:=⟨_,rfl⟩;rw [hQ] at hno1 hno2 hno3 hyes ⊢;have HN1:=Hid.out (p:=Hid _) hno1;have HN2:=Hid.out (p:=Hid _) hno2;have HN3:=Hid.out (p:=Hid _) hno3;have HYES:=Hid.out (p:=Hid _) hyes;have HIH:=Hid.out (p:=Hid _) IH;have HC:=Hid.out (p:=Hid _) hc;have HI:=Hid.out (p:=Hid _) hi;have HT:=Hid.out (p:=Hid _) T;obtain ⟨w2,hw2,V2,B2⟩:=own_new w (Raw.mk k is ng d e s ka ks.length kc va vs.length vc);have V2:Hid (w2.heap[w.heap.size]?=some (.cells (Raw.mk k is ng d e s ka ks.length kc va vs.length vc).arr 29 (0,0))):=V2.out;have hp:=plain_is k is ng d e s ks vs.length (by omega) (by omega) hks hz ka va kc vc A w2 (T.stays B2.out) (ht.turn (Turn.below B2.out));have HP:=Hid.out (p:=Hid _) hp;clear h ht hc hi IH hp hz hdk T hno1 hno2 hno3 hyes hQ
  dsimp only at hw2
  unfold Raw.val at HP ⊢;obtain ⟨⟨x0,x1,x2,x3,x4,x5,x6,x7⟩,_⟩:=val_cells V2.out;by_cases hd1:dp<1
  · have q1:decide ((dp:Int)<1)=true:=by rw [decide_eq_true_eq];omega
    have q2:decide (dp<1)=true:=by rw [decide_eq_true_eq];omega
    have HD:=Hid.out (p:=Hid _) hd1;clear hd1;go_enter Tryz.func100,Tryz.ntmps100
    go_wp2_with fail
    go_ret
    exact .no rfl (HN1.out HD.out) B2.out
  have q1:decide ((dp:Int)<1)=false:=by rw [decide_eq_false_iff_not];omega
  have q2:decide (dp<1)=false:=by rw [decide_eq_false_iff_not];omega
  have HD:Hid (1<=dp):=by rw [Hid];omega
  have hd1':1<=dp:=by omega
  clear hd1;go_enter Tryz.func100,Tryz.ntmps100
  go_wp2_with fail
  refine (Calls.mono HP.out ?_);rintro z w3 ⟨b,rfl,hb,hb3⟩;have HB:=Hid.out (p:=Hid _) hb;have V3:=Hid.out (p:=Hid _) ((hb3.block w.heap.size (heap_lt V2.out)).trans V2.out);have B3:=Hid.out (p:=Hid _) (B2.out.trans (hb3.mono B2.out.size));clear hb hb3 x0 x1 x2 x3 x4 x5 x6 x7 V2 B2 hw2 HP;cases b
  case false=>
    go_wp2_with fail
    go_ret
    exact .no rfl (HN2.out fun O=>by have h:=HB.out.2 O;cases h) B3.out
  case true=>
  have HO:Hid (OwnQ k is ng d e s ks vs.length):=HB.out.1 rfl;have x7:w3.cell? ⟨w.heap.size,7,none⟩=some (.slice va vs.length vc):=cell_of V3.out 7;go_wp2_with fail
  clear x7
  go_loopw [17] (fun p wr=>∃ i:Nat,p=.int .i64 i/\i<=vs.length/\Hid (∀ j (hj:j<vs.length),j<i->GoodQ vs[j]/\vs[j].deepN<=dp-1)/\Hid (Below w3.heap.size w3 wr)) (fun p _=>vs.length-(intOf p).toNat)
  case atStart=>exact ⟨0,rfl,Nat.zero_le _,fun j _ h=>absurd h (Nat.not_lt_zero _),Below.refl _ _⟩
  case round=>
    obtain ⟨i,rfl,hi,hA,hB⟩:=hrel;by_cases hlt:i<vs.length
    · have hne:vs≠[]:=fun e=>by rw [e] at hlt;simp at hlt
      obtain ⟨g,o,rfl,hg,hcs⟩:=HC.out.resolve_left hne;have Bw:Hid (Below w.heap.size w wr):=B3.out.trans (hB.out.mono B3.out.size);have K1:=Hid.out (p:=Hid _) ((hcs i hlt).below hg Bw.out);have I1:=Hid.out (p:=Hid _) ((HI.out i hlt).behind Bw.out);obtain ⟨w4,hw4,V4,B4⟩:=own_new wr (f i);have hcall:=HIH.out i hlt (f i) A w4 (dp-1) (by omega) ((HT.out.stays Bw.out).stays B4.out) (I1.out.behind B4.out);have hdi:(dp:Int)-1=((dp-1:Nat):Int):=by omega
      have hmore:GoodQ vs[i]/\vs[i].deepN<=dp-1->∀ j (hj:j<vs.length),j<i+1->GoodQ vs[j]/\vs[j].deepN<=dp-1:=fun h j hj hji=>by
        by_cases e:j=i
        · subst e;exact h
        · exact hA.out j hj (by omega)
      have hnot:=fun h=>HN3.out HO.out i hlt h;have HM:=Hid.out (p:=Hid _) hmore;have HNOT:=Hid.out (p:=Hid _) hnot;clear hcs hmore hnot;generalize f i=x at *;have HCL:=Hid.out (p:=Hid _) hcall;unfold Raw.val at HCL;have K1c:CellsAt wr g (o+i*8) x:=K1.out;obtain ⟨u0,u1,u2,u3,u4,u5,u6,u7⟩:=K1c.eight;have V4:Hid (w4.heap[wr.heap.size]?=some (.cells x.arr 29 (0,0))):=V4.out;obtain ⟨⟨y0,y1,y2,y3,y4,y5,y6,y7⟩,_⟩:=val_cells V4.out;clear K1 K1c hcall I1;go_wp2_with fail
      refine (Calls.mono HCL.out ?_);rintro z w5 ⟨b,rfl,hb,hb5⟩;have HB5:=Hid.out (p:=Hid _) hb;have B5:Hid (Below w3.heap.size w3 w5):=(hB.out.trans (B4.out.mono hB.out.size)).trans (hb5.mono (Nat.le_trans hB.out.size B4.out.size));clear hb5 hb;cases b
      case false=>
        go_wp2_with fail
        go_ret
        exact .no rfl (HNOT.out fun h=>by have h:=HB5.out.2 h;cases h) (B3.out.trans (B5.out.mono B3.out.size))
      case true=>
        have A5:Hid (∀ j (hj:j<vs.length),j<i+1->GoodQ vs[j]/\vs[j].deepN<=dp-1):=HM.out (HB5.out.1 rfl);go_wp2_with fail
        go_roundw
        case rel=>exact ⟨i+1,by go_num,by omega,A5.out,B5.out⟩
        case measure=>simp [intOf];omega
    · have AA:Hid (∀ j (hj:j<vs.length),GoodQ vs[j]/\vs[j].deepN<=dp-1):=fun j hj=>hA.out j hj (by omega);go_wp2_with fail
      go_ret
      exact .yes rfl (HYES.out HO.out HD.out AA.out) (B3.out.trans (hB.out.mono B3.out.size))
theorem trightq_any (t:JV) (hf:Fine t):t.mass<=3000->TRightQ t:=by
  induction hf with
  | mk k i n d e s ks vs f1 f2 f3 f4 ih=>
    intro hm
    rw [mass_mk] at hm;have hl:=masses_len vs;exact trightq_step k i n d e s ks vs (by omega) (by omega) (by omega) (by omega) (fun x hx=>Nat.le_trans (f3 x hx) (by omega)) (fun j hj=>ih j hj (by have:=masses_mem vs j hj;omega))
theorem tree_is (t:JV) (hf:Fine t) (hm:t.mass<=3000) (ra:Raw) (A:Nat->Prop) (w:World) (T:Utf.Sizes w) (hi:IsV w A ra t):Calls Tryz.prog 50 #[ra.val] w (IsPost (GoodQ t/\t.deepN<=64) w):=by
  obtain ⟨w2,hw2,V2,B2⟩:=own_new w ra;have V2:Hid (w2.heap[w.heap.size]?=some (.cells ra.arr 29 (0,0))):=V2.out;have hc:Calls Tryz.prog 100 #[ra.val,.int .i64 64] w2 (IsPost (GoodQ t/\t.deepN<=64) w2):=trightq_any t hf hm ra A w2 64 (by omega) (T.stays B2.out) (hi.behind B2.out);have HC:=Hid.out (p:=Hid _) hc;obtain ⟨Q,hQ⟩:∃ Q,(GoodQ t/\t.deepN<=64)=Q:=⟨_,rfl⟩;rw [hQ] at HC ⊢;clear hc hi T hf hQ;unfold Raw.val at HC ⊢;obtain ⟨⟨x0,x1,x2,x3,x4,x5,x6,x7⟩,_⟩:=val_cells V2.out;go_enter Tryz.func50,Tryz.ntmps50
  go_wp2_with fail
  refine (Calls.mono HC.out ?_);rintro z w3 ⟨b,rfl,hb,hb3⟩;have HB:=Hid.out (p:=Hid _) hb;have B3:=Hid.out (p:=Hid _) (B2.out.trans (hb3.mono B2.out.size));clear hb3 hb;go_wp2_with fail
  go_ret
  exact ⟨b,rfl,HB.out,B3.out⟩
end Go.Proofs.YtliekocamnklfaaGreatDoor.Jdec
namespace Go.Proofs.YtliekocamnklfaaGreatDoor.One
open Go.RowKit Strs Jdec Save Go.Proofs.YtliekocamnklfaaGreatDoor.Addr
theorem written_any (t:JV) (ra:Raw) (A:Nat->Prop) (w:World) (hi:IsV w A ra t):Calls Tryz.prog 142 #[ra.val] w (BoolP (textB t) w):=by
  cases t with
  | mk k is ng d e s ks vs=>
  obtain ⟨ka,kc,va,vc,rfl,_,_,_,_⟩:=hi.parts;obtain ⟨w2,hw2,V2,B2⟩:=own8 w (Raw.mk k is ng d e s ka ks.length kc va vs.length vc);have HK:Hid (textB (.mk k is ng d e s ks vs)=(k == 4)):=by
    show decide (k=4)=_;by_cases h:k=4
    · rw [decide_eq_true h,h];rfl
    · rw [decide_eq_false h,eq_comm,beq_eq_false_iff_ne];exact h
  clear hi;unfold Raw.val;obtain ⟨⟨x0,x1,x2,x3,x4,x5,x6,x7⟩,_⟩:=val_cells V2.out;go_enter Tryz.func142,Tryz.ntmps142
  go_wp2_with fail
  go_ret
  exact ⟨by rw [HK.out];rfl,B2.out⟩
theorem goodq_num {k:Int} {is ng:Bool} {d:ByteArray} {e:Int} {s:ByteArray} {ks:List ByteArray} {vs:List JV} (h:GoodQ (.mk k is ng d e s ks vs)):Num.right ng d.data.toList e=true:=by
  cases h with | mk _ _ _ _ _ _ _ _ o _=>exact o.right
theorem serial_any (t:JV) (hg:GoodQ t) (ra:Raw) (A:Nat->Prop) (w:World) (hi:IsV w A ra t) (T:ErrT w):Calls Tryz.prog 54 #[ra.val] w (BoolP (wholeJ t).isSome w):=by
  cases t with
  | mk k is ng d e s ks vs=>
  obtain ⟨ka,kc,va,vc,rfl,_,_,_,_⟩:=hi.parts;obtain ⟨w2,hw2,V2,B2⟩:=own8 w (Raw.mk k is ng d e s ka ks.length kc va vs.length vc);have HW:=Hid.out (p:=Hid _) (whole_any ng d e (goodq_num hg) w2 (T.stays B2.out));obtain ⟨r,hr⟩:∃ r,wholeN ng d.data.toList e=r:=⟨_,rfl⟩;rw [hr] at HW;obtain ⟨b,hb⟩:∃ b,(k == 3)=b:=⟨_,rfl⟩;have HK:Hid ((wholeJ (.mk k is ng d e s ks vs)).isSome=(b && r.isSome)):=by
    rw [Hid,wholeJ_mk,<-hb,hr];by_cases h:k=3
    · subst h;rfl
    · rw [if_neg h,show (k == 3)=false by rw [beq_eq_false_iff_ne];exact h];rfl
  have HR:Hid (∃ o,r.isSome=o):=⟨_,rfl⟩;obtain ⟨o,ho⟩:=HR.out;have HO:=Hid.out (p:=Hid _) ho;clear hi hg T hr HR ho;unfold Raw.val;obtain ⟨⟨x0,x1,x2,x3,x4,x5,x6,x7⟩,_⟩:=val_cells V2.out;go_enter Tryz.func54,Tryz.ntmps54
  go_wp2_with fail
  refine (Calls.mono HW.out ?_);rintro z w3 ⟨n,rfl,hn,hb3⟩;rw [HO.out];have B3:=bel B2 (Hid.out (p:=Hid _) hb3);have V3:=hst V2 (Hid.out (p:=Hid _) hb3);clear x0 x1 x2 x3 x4 x5 x6 x7 hb3 hn hw2;obtain ⟨⟨x0,x1,x2,x3,x4,x5,x6,x7⟩,_⟩:=val_cells V3.out;cases b <;> cases o
  all_goals
    go_wp2_with fail
    go_ret
    exact ⟨by rw [HK.out,HO.out] <;> rfl,B3.out⟩
theorem version_any (t:JV) (hg:GoodQ t) (ra:Raw) (A:Nat->Prop) (w:World) (hi:IsV w A ra t) (T:ErrT w):Calls Tryz.prog 53 #[ra.val] w (BoolP (decide (wholeJ t=some 1)) w):=by
  cases t with
  | mk k is ng d e s ks vs=>
  obtain ⟨ka,kc,va,vc,rfl,_,_,_,_⟩:=hi.parts;obtain ⟨w2,hw2,V2,B2⟩:=own8 w (Raw.mk k is ng d e s ka ks.length kc va vs.length vc);have HW:=Hid.out (p:=Hid _) (whole_any ng d e (goodq_num hg) w2 (T.stays B2.out));obtain ⟨r,hr⟩:∃ r,wholeN ng d.data.toList e=r:=⟨_,rfl⟩;rw [hr] at HW;obtain ⟨b,hb⟩:∃ b,(k == 3)=b:=⟨_,rfl⟩;have HK:Hid (∀ (n:Nat) (o c:Bool),(∀ m,r=some m->n=m)->r.isSome=o->((n:Int) == 1)=c->decide (wholeJ (.mk k is ng d e s ks vs)=some 1)=(b && o && c)):=fun n o c hn ho hc=>by
    rw [wholeJ_mk,<-hb,hr,<-ho,<-hc];by_cases h:k=3
    · subst h;rw [if_pos rfl]
      cases r with
      | none=>rfl
      | some m=>
        obtain rfl:=hn m rfl;show decide (some n=some 1)=((n:Int) == 1);by_cases h1:n=1
        · subst h1;rfl
        · rw [decide_eq_false (fun e=>h1 (by injection e)),eq_comm,beq_eq_false_iff_ne];omega
    · rw [if_neg h,show (k == 3)=false by rw [beq_eq_false_iff_ne];exact h];rfl
  obtain ⟨o,ho⟩:∃ o,r.isSome=o:=⟨_,rfl⟩;have HO:=Hid.out (p:=Hid _) ho;clear hi hg T hr ho;unfold Raw.val;obtain ⟨⟨x0,x1,x2,x3,x4,x5,x6,x7⟩,_⟩:=val_cells V2.out;go_enter Tryz.func53,Tryz.ntmps53
  go_wp2_with fail
  refine (Calls.mono HW.out ?_);rintro z w3 ⟨n,rfl,hn,hb3⟩;rw [HO.out];have HN:=Hid.out (p:=Hid _) hn;have B3:=bel B2 (Hid.out (p:=Hid _) hb3);have V3:=hst V2 (Hid.out (p:=Hid _) hb3);obtain ⟨c,hc⟩:∃ c,((n:Int) == 1)=c:=⟨_,rfl⟩;have HC:=Hid.out (p:=Hid _) hc;clear x0 x1 x2 x3 x4 x5 x6 x7 hb3 hn hw2;obtain ⟨⟨x0,x1,x2,x3,x4,x5,x6,x7⟩,_⟩:=val_cells V3.out;cases b <;> cases o
  all_goals
    go_wp2_with fail
    go_ret
    exact ⟨by rw [HK.out n _ c HN.out HO.out HC.out] <;> rfl,B3.out⟩
theorem texts_any (t:JV) (hm:t.mass<=3000) (ra:Raw) (A:Nat->Prop) (w:World) (hi:IsV w A ra t):Calls Tryz.prog 143 #[ra.val] w (BoolP (eachB textB t) w):=by
  obtain ⟨w2,hw2,V2,B2⟩:=own8 w ra;have HC:=Hid.out (p:=Hid _) (each_any 142 (enters_of Tryz.func142 (by kernel_rfl) rfl) textB t hm ra A w2 (hi.behind B2.out) fun v _ rr w' _ h=>written_any v rr _ w' h);clear hi;unfold Raw.val at HC ⊢;obtain ⟨⟨x0,x1,x2,x3,x4,x5,x6,x7⟩,_⟩:=val_cells V2.out;go_enter Tryz.func143,Tryz.ntmps143
  go_wp2_with fail
  refine (Calls.mono HC.out ?_);rintro z w3 hz;obtain ⟨rfl,B3⟩:=hz.to;go_wp2_with fail
  go_ret
  exact ⟨rfl,(bel B2 B3).out⟩
theorem two_new (w:World) (x y:ByteArray):∃ w1,w.alloc (.cells #[.string x,.string y] 9)=w1/\Hid (IsTexts w1 (fun _=>True) (some ⟨w.heap.size,0,none⟩) [x,y])/\Hid (Below w.heap.size w w1):=by
  refine ⟨_,rfl,.inr ⟨w.heap.size,0,rfl,trivial,by simp,fun i hi=>?_⟩,(Below.refl _ _).alloc (Nat.le_refl _) _⟩;have h:=heap_alloc_new w (.cells #[.string x,.string y] 9 (0,0))
  match i,hi with
  | 0,_=>exact cell_of h 0
  | 1,_=>exact cell_of h 1
theorem three_new (w:World) (x y u:ByteArray):∃ w1,w.alloc (.cells #[.string x,.string y,.string u] 9)=w1/\Hid (IsTexts w1 (fun _=>True) (some ⟨w.heap.size,0,none⟩) [x,y,u])/\Hid (Below w.heap.size w w1):=by
  refine ⟨_,rfl,.inr ⟨w.heap.size,0,rfl,trivial,by simp,fun i hi=>?_⟩,(Below.refl _ _).alloc (Nat.le_refl _) _⟩;have h:=heap_alloc_new w (.cells #[.string x,.string y,.string u] 9 (0,0))
  match i,hi with
  | 0,_=>exact cell_of h 0
  | 1,_=>exact cell_of h 1
  | 2,_=>exact cell_of h 2
theorem res_ask (r:JV):resB [kId,kAtt] r=(ofB r [kId,kAtt] && ((look r kId).isSome && textB (got r kId)) && ((look r kAtt).isSome && eachB textB (got r kAtt))):=by
  unfold resB
  cases h:ofB r [kId,kAtt] with
  | false=>rfl
  | true=>
    have h1:=of_look h kId (by simp);have h2:=of_look h kAtt (by simp);simp only [h1,h2,List.all_cons,List.all_nil,Bool.true_and,Bool.and_true,decide_true,Bool.true_or]
    rw [show decide (kId=kAtt)=false by decide,Bool.false_or,Bool.and_comm]
theorem resource_any (t:JV) (hg:GoodQ t) (hm:t.mass<=3000) (ra:Raw) (A:Nat->Prop) (w:World) (hi:IsV w A ra t):Calls Tryz.prog 103 #[ra.val] w (BoolP (resB [kId,kAtt] t) w):=by
  rw [res_ask];obtain ⟨w2,hw2,V2,B2⟩:=own8 w ra;obtain ⟨w3,hw3,X3,B3⟩:=two_new w2 kId kAtt;have B03:=bel B2 B3;obtain ⟨b1,hb1⟩:∃ b,ofB t [kId,kAtt]=b:=⟨_,rfl⟩;obtain ⟨b2,hb2⟩:∃ b,((look t kId).isSome && textB (got t kId))=b:=⟨_,rfl⟩;obtain ⟨b3,hb3⟩:∃ b,((look t kAtt).isSome && eachB textB (got t kAtt))=b:=⟨_,rfl⟩;have h1:=One.of_any t hg hm ra A _ w3 (hi.behind B03.out) [kId,kAtt] (by decide) (some ⟨w2.heap.size,0,none⟩) 2 X3.out;have h2:∀ w',Below w.heap.size w w'->_:=fun w' h=>holds_any 142 (enters_of Tryz.func142 (by kernel_rfl) rfl) t hg hm ra A w' (hi.behind h) kId (textB (got t kId)) fun rr w'' _ hr _=>written_any _ rr _ w'' hr;have h3:∀ w',Below w.heap.size w w'->_:=fun w' h=>holds_any 143 (enters_of Tryz.func143 (by kernel_rfl) rfl) t hg hm ra A w' (hi.behind h) kAtt (eachB textB (got t kAtt)) fun rr w'' _ hr _=>texts_any _ (by have:=got_mass t kAtt;omega) rr _ w'' hr;rw [hb1] at h1;rw [hb2] at h2;rw [hb3] at h3;rw [hb1,hb2,hb3];have H1:=Hid.out (p:=Hid _) h1;have H2:=Hid.out (p:=Hid _) h2;have H3:=Hid.out (p:=Hid _) h3;clear hi hg hm hb1 hb2 hb3 h1 h2 h3;unfold Raw.val at H1 H2 H3 ⊢;have V23:=hst V2 B3;obtain ⟨⟨x0,x1,x2,x3,x4,x5,x6,x7⟩,_⟩:=val_cells V2.out;unfold kId kAtt at *;go_enter Tryz.func103,Tryz.ntmps103
  go_wp2_with fail
  refine (Calls.mono H1.out ?_);rintro z w4 hz;obtain ⟨rfl,B4⟩:=hz.to;have B04:=bel B03 B4;have V24:=hst V23 B4;clear hz x0 x1 x2 x3 x4 x5 x6 x7 hw2 hw3;cases b1
  case false=>
    go_wp2_with fail
    go_ret
    exact ⟨rfl,B04.out⟩
  obtain ⟨⟨x0,x1,x2,x3,x4,x5,x6,x7⟩,_⟩:=val_cells V24.out;go_wp2_with fail
  refine (Calls.mono (H2.out w4 B04.out) ?_);rintro z w5 hz;obtain ⟨rfl,B5⟩:=hz.to;have B05:=bel B04 B5;have V25:=hst V24 B5;clear hz x0 x1 x2 x3 x4 x5 x6 x7;cases b2
  case false=>
    go_wp2_with fail
    go_ret
    exact ⟨rfl,B05.out⟩
  obtain ⟨⟨x0,x1,x2,x3,x4,x5,x6,x7⟩,_⟩:=val_cells V25.out;go_wp2_with fail
  refine (Calls.mono (H3.out w5 B05.out) ?_);rintro z w6 hz;obtain ⟨rfl,B6⟩:=hz.to;go_wp2_with fail
  go_ret
  exact ⟨by simp,(bel B05 B6).out⟩
end Go.Proofs.YtliekocamnklfaaGreatDoor.One
