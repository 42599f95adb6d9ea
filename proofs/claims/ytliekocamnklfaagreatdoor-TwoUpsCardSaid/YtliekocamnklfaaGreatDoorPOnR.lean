/- tabulariumref08.Get; tabulariumref19.Of, Object, Whole, Texts. -/
import Derived.Test.YtliekocamnklfaaGreatDoorPOnU
set_option linter.unusedVariables false
set_option linter.unusedSimpArgs false
set_option maxRecDepth 100000
set_option maxHeartbeats 4000000
namespace Go.Proofs.YtliekocamnklfaaGreatDoor.One
open Go.RowKit Strs Jdec Save Go.Proofs.YtliekocamnklfaaGreatDoor.Addr
theorem rget_is (t:JV) (hg:GoodQ t) (hm:t.mass<=3000) (ra:Raw) (A:Nat->Prop) (w:World) (hi:IsV w A ra t) (x:ByteArray):Calls Tryz.prog 77 #[ra.val,.string x] w (GetP t x A w):=by
  cases t with
  | mk k is ng d e s ks vs=>
  obtain ⟨ka,kc,va,vc,rfl,ht,f,hc,hv⟩:=hi.parts;have hbo:k=6->ks.length=vs.length:=by cases hg with | mk _ _ _ _ _ _ _ _ o _=>exact o.both
  have hno:k≠6->ks=[]:=by cases hg with | mk _ _ _ _ _ _ _ _ o _=>exact o.noKeys
  rw [mass_mk] at hm;have hvl:=masses_len vs;obtain ⟨w2,hw2,V2,B2⟩:=own_new w (Raw.mk k is ng d e s ka ks.length kc va vs.length vc);obtain ⟨w3,hw3,V3,B3⟩:=own_new w2 Raw.zero;have V2:Hid (w2.heap[w.heap.size]?=some (.cells (Raw.mk k is ng d e s ka ks.length kc va vs.length vc).arr 29 (0,0))):=V2.out;have V3:Hid (w3.heap[w2.heap.size]?=some (.cells Raw.zero.arr 29 (0,0))):=V3.out;have V23:=hst V2 B3;have B03:=bel B2 B3;have HS2:=Hid.out (p:=Hid _) B2.out.size
  dsimp only [Raw.zero] at hw2 hw3
  unfold Raw.val;obtain ⟨⟨x0,x1,x2,x3,x4,x5,x6,x7⟩,_⟩:=val_cells V23.out;obtain ⟨⟨r0,r1,r2,r3,r4,r5,r6,r7⟩,g0,g1,g2,g3,g4,g5,g6,g7⟩:=val_cells V3.out;by_cases h6:k=6
  case neg=>
    have nk:(k == 6)=false:=by rw [beq_eq_false_iff_ne];exact h6
    have HN:Hid (look (.mk k is ng d e s ks vs) x=none):=look_ne h6;have hk0:ks.length=0:=by rw [hno h6];rfl
    have d0:decide ((0:Int)<(ks.length:Int))=false:=by rw [decide_eq_false_iff_not];omega
    have d1:decide (0<ks.length)=false:=by rw [decide_eq_false_iff_not];omega
    clear h6 hbo hno hm hvl ht hc hv hi hg hk0;go_enter Tryz.func77,Tryz.ntmps77
    go_wp2_with fail
    go_loopw [6] (fun p wr=>w3=wr/\p=.int .i64 0) (fun p _=>0)
    case atStart=>exact ⟨rfl,rfl⟩
    case round=>
      obtain ⟨rfl,rfl⟩:=hrel;go_wp2_with fail
      refine fin2 (a:=Raw.zero) (b:=w2.heap.size) rfl (set8 V3.out Raw.zero) rfl ?_;refine ⟨Raw.zero,by rw [HN.out];rfl,?_,below8 B03.out HS2.out _ _ _ _ _ _ _ _⟩;rw [got,HN.out];exact zero_is _ _
  case pos=>
  subst h6;have hkl:=hbo rfl;have nk:((6:Int) == 6)=true:=by decide
  have HK:=Hid.out (p:=Hid _) hkl;have HT:=Hid.out (p:=Hid _) ht;have HC:=Hid.out (p:=Hid _) hc;have HV:=Hid.out (p:=Hid _) hv;have HVL:Hid (vs.length<=3000):=by rw [Hid];omega
  clear hbo hno hm hvl ht hc hv hi hg hkl;go_enter Tryz.func77,Tryz.ntmps77
  go_wp2_with fail
  go_loopw [6] (fun p wr=>w3=wr/\∃ i:Nat,p=.int .i64 i/\i<=ks.length/\Hid (∀ j (hj:j<ks.length),j<i->ks[j]≠x)) (fun p _=>ks.length-(intOf p).toNat)
  case atStart=>exact ⟨rfl,0,rfl,Nat.zero_le _,fun j _ h=>absurd h (Nat.not_lt_zero _)⟩
  case round=>
    obtain ⟨rfl,i,rfl,hi,hA⟩:=hrel;have hvl:=HVL.out;by_cases hlk:i<ks.length
    · have hkl:=HK.out;have hlt:i<vs.length:=by omega
      have hne:ks≠[]:=fun e=>by rw [e] at hlk;simp at hlk
      have hnv:vs≠[]:=fun e=>by rw [e] at hlt;simp at hlt
      obtain ⟨kb,ko,rfl,_,hkb,hkc⟩:=HT.out.resolve_left hne;obtain ⟨g,o,rfl,hgb,hcs⟩:=HC.out.resolve_left hnv;have c1:=(World.cell?_of_block (B03.out.block kb hkb)).trans (hkc i hlk);have K1:=Hid.out (p:=Hid _) ((hcs i hlt).below hgb B03.out);have I1:=Hid.out (p:=Hid _) (HV.out i hlt);obtain ⟨b,hb⟩:∃ b,(ks[i].toList == x.toList)=b:=⟨_,rfl⟩;have HL:Hid (b=true->look (.mk 6 is ng d e s ks vs) x=some vs[i]):=fun h=>by
        rw [look_mk];exact lookL_at ks vs x i hlk hlt (by rw [h,beq_iff_eq,ByteArray.toList_eq,ByteArray.toList_eq] at hb;exact ByteArray.ext (Array.toList_inj.1 hb)) hA.out
      have HM:Hid (b=false->∀ j (hj:j<ks.length),j<i+1->ks[j]≠x):=fun h j hj hji=>by
        by_cases e:j=i
        · subst e;intro e
          rw [e,h] at hb;simp at hb
        · exact hA.out j hj (by omega)
      clear hkc hcs;generalize ks[i]=y at *;generalize f i=z at *;have K1c:CellsAt w3 g (o+i*8) z:=K1.out;obtain ⟨u0,u1,u2,u3,u4,u5,u6,u7⟩:=K1c.eight;clear K1c;cases b
      case false=>
        have M:=Hid.out (p:=Hid _) (HM.out rfl);clear HM HL;go_wp2_with fail
        go_roundw
        case rel=>exact ⟨trivial,i+1,by go_num,by omega,M.out⟩
        case measure=>simp [intOf];omega
      case true=>
        have L:=Hid.out (p:=Hid _) (HL.out rfl);clear HM HL;go_wp2_with fail
        refine fin2 (a:=z) (b:=w2.heap.size) rfl (set8 V3.out z) rfl ?_;refine ⟨z,by rw [L.out];rfl,?_,below8 B03.out HS2.out _ _ _ _ _ _ _ _⟩;rw [got_of L.out];exact I1.out.behind (below8 B03.out HS2.out _ _ _ _ _ _ _ _)
    · have HN:Hid (look (.mk 6 is ng d e s ks vs) x=none):=by
        rw [Hid,look_mk];exact lookL_no ks vs x fun j hj _=>hA.out j hj (by omega)
      go_wp2_with fail
      refine fin2 (a:=Raw.zero) (b:=w2.heap.size) rfl (set8 V3.out Raw.zero) rfl ?_;refine ⟨Raw.zero,by rw [HN.out];rfl,?_,below8 B03.out HS2.out _ _ _ _ _ _ _ _⟩;rw [got,HN.out];exact zero_is _ _
def OfP (t:JV) (x:ByteArray) (A:Nat->Prop) (w:World) (e:Ending) (w':World):Prop:=∃ rr:Raw,e=.returned rr.val/\IsV w' A rr (got t x)/\Below w.heap.size w w'
theorem OfP.to {t:JV} {x:ByteArray} {A:Nat->Prop} {w w':World} {e:Ending} (h:OfP t x A w e w'):∃ rr:Raw,e=.returned rr.val/\Hid (IsV w' A rr (got t x))/\Hid (Below w.heap.size w w'):=h
theorem rof_any (t:JV) (hg:GoodQ t) (hm:t.mass<=3000) (ra:Raw) (A:Nat->Prop) (w:World) (hi:IsV w A ra t) (x:ByteArray):Calls Tryz.prog 26 #[ra.val,.string x] w (OfP t x A w):=by
  obtain ⟨w2,hw2,V2,B2⟩:=own8 w ra;obtain ⟨w3,hw3,V3,B3⟩:=own8 w2 Raw.zero;have V23:=hst V2 B3;have B03:=bel B2 B3;have HS2:=Hid.out (p:=Hid _) B2.out.size;have HI:Hid (∀ w',Below w.heap.size w w'->∀ w'' rr,IsV w'' (fun b=>A b/\b<w.heap.size) rr (got t x)->Below w'.heap.size w' w''->IsV w'' A rr (got t x)):=fun w' _ w'' rr h _=>h.turn (Turn.mono _ fun b hb _=>hb.1);have HG:=Hid.out (p:=Hid _) (rget_is t hg hm ra (fun b=>A b/\b<w.heap.size) w3 ((hi.turn (Turn.mono w fun b h hb=>⟨h,hb⟩)).behind B03.out) x);clear hi hg hm
  dsimp only [Raw.zero] at hw3
  unfold Raw.val at HG ⊢;obtain ⟨⟨x0,x1,x2,x3,x4,x5,x6,x7⟩,_⟩:=val_cells V23.out;go_enter Tryz.func26,Tryz.ntmps26
  go_wp2_with fail
  refine (Calls.mono HG.out ?_);rintro z w4 hz;obtain ⟨rr,rfl,hr,B4⟩:=hz.to;obtain ⟨ok,hok⟩:∃ b,(look t x).isSome=b:=⟨_,rfl⟩;rw [hok];obtain ⟨w5,hw5,V5,B5⟩:=own8 w4 rr;have V35:=hst (hst V3 B4) B5;have B05:=bel (bel B03 B4) B5;have hr5:=Hid.out (p:=Hid _) (hr.out.behind B5.out);clear hz hok x0 x1 x2 x3 x4 x5 x6 x7 hw2 hw3;unfold Raw.val;obtain ⟨⟨x0,x1,x2,x3,x4,x5,x6,x7⟩,_⟩:=val_cells V5.out;obtain ⟨⟨r0,r1,r2,r3,r4,r5,r6,r7⟩,g0,g1,g2,g3,g4,g5,g6,g7⟩:=val_cells V35.out;go_wp2_with fail
  refine val_ret (a:=rr) (b:=w2.heap.size) rfl (set8 V35.out rr) rfl ?_;refine ⟨rr,rfl,hr5.out.turn ⟨(gb8 _ _ _ _ _ _ _ _ _ _).size,fun k hk hl=>⟨(gb8 _ _ _ _ _ _ _ _ _ _).block _ hl (fun e=>by injection e with e;have:=HS2.out;have:=hk.2;omega),hk.1⟩⟩,below8 B05.out HS2.out _ _ _ _ _ _ _ _⟩
theorem rwholeJ_any (t:JV) (hg:GoodQ t) (ra:Raw) (A:Nat->Prop) (w:World) (hi:IsV w A ra t):Calls Tryz.prog 25 #[ra.val] w (WPst (wholeJ t) w):=by
  cases t with
  | mk k is ng d e s ks vs=>
  obtain ⟨ka,kc,va,vc,rfl,_,_,_,_⟩:=hi.parts;obtain ⟨w2,hw2,V2,B2⟩:=own8 w (Raw.mk k is ng d e s ka ks.length kc va vs.length vc);have HW:=Hid.out (p:=Hid _) (rwhole_any ng d e (by cases hg with | mk _ _ _ _ _ _ _ _ o _=>exact o.right) w2);by_cases h3:k=3
  case neg=>
    have nk:(k != 3)=true:=by rw [bne_iff_ne];exact h3
    have HN:Hid (wholeJ (.mk k is ng d e s ks vs)=none):=by rw [Hid,wholeJ_mk,if_neg h3]
    clear hi hg h3;unfold Raw.val;obtain ⟨⟨x0,x1,x2,x3,x4,x5,x6,x7⟩,_⟩:=val_cells V2.out;go_enter Tryz.func25,Tryz.ntmps25
    go_wp2_with fail
    go_ret2
    exact ⟨0,by rw [HN.out] <;> rfl,(fun m h=>by rw [HN.out] at h;cases h),B2.out⟩
  case pos=>
  subst h3;have nk:((3:Int) != 3)=false:=by decide
  obtain ⟨r,hr⟩:∃ r,wholeN ng d.data.toList e=r:=⟨_,rfl⟩;have HN:Hid (wholeJ (.mk 3 is ng d e s ks vs)=r):=by rw [Hid,wholeJ_mk,if_pos rfl,hr]
  rw [hr] at HW;obtain ⟨o,ho⟩:∃ o,r.isSome=o:=⟨_,rfl⟩;have HO:=Hid.out (p:=Hid _) ho;clear hi hg hr ho;unfold Raw.val;obtain ⟨⟨x0,x1,x2,x3,x4,x5,x6,x7⟩,_⟩:=val_cells V2.out;go_enter Tryz.func25,Tryz.ntmps25
  go_wp2_with fail
  refine (Calls.mono HW.out ?_);rintro z w3 ⟨n,rfl,hn,hb3⟩;have HNN:=Hid.out (p:=Hid _) hn;have B3:=bel B2 (Hid.out (p:=Hid _) hb3);rw [HO.out];clear hn hb3 x0 x1 x2 x3 x4 x5 x6 x7 hw2;go_wp2_with fail
  go_ret2
  exact ⟨n,by rw [HN.out,HO.out] <;> rfl,by rw [HN.out];exact HNN.out,B3.out⟩
theorem kind_is {w:World} {A:Nat->Prop} {r:Raw} {t:JV} (h:IsV w A r t):kindOf t=r.kind:=by
  cases h with | mk=>rfl
theorem rtexts_any (t:JV) (hm:t.mass<=3000) (ra:Raw) (A:Nat->Prop) (w:World) (hi:IsV w A ra t):Calls Tryz.prog 97 #[ra.val] w (BoolP (eachB textB t) w):=by
  cases t with
  | mk k is ng d e s ks vs=>
  obtain ⟨ka,kc,va,vc,rfl,_,F,hc,hv⟩:=hi.parts;rw [mass_mk] at hm;have hvl:=masses_len vs;obtain ⟨ok,hok⟩:∃ b,eachB textB (.mk k is ng d e s ks vs)=b:=⟨_,rfl⟩;rw [hok];have HOK:=Hid.out (p:=Hid _) hok;obtain ⟨w2,hw2,V2,B2⟩:=own8 w (Raw.mk k is ng d e s ka ks.length kc va vs.length vc);have HC:=Hid.out (p:=Hid _) hc;have HV:=Hid.out (p:=Hid _) hv;have HVL:Hid (vs.length<=3000):=by rw [Hid];omega
  clear hi hok hm hc hv hvl;unfold Raw.val;obtain ⟨⟨x0,x1,x2,x3,x4,x5,x6,x7⟩,_⟩:=val_cells V2.out;by_cases h6:k=6
  case neg=>
    have nk:(k != 6)=true:=by rw [bne_iff_ne];exact h6
    obtain rfl:false=ok:=by rw [<-HOK.out,eachB,show kindOf (.mk k is ng d e s ks vs)=k from rfl,decide_eq_false h6];rfl
    clear h6;go_enter Tryz.func97,Tryz.ntmps97
    go_wp2_with fail
    go_ret
    exact ⟨rfl,B2.out⟩
  case pos=>
  subst h6;have nk:((6:Int) != 6)=false:=by decide
  have HOK2:Hid (vs.all textB=ok):=by rw [<-HOK.out];rfl
  clear HOK;go_enter Tryz.func97,Tryz.ntmps97
  go_wp2_with fail
  go_loopw [3] (fun p wr=>w2=wr/\∃ i:Nat,p=.int .i64 i/\i<=vs.length/\Hid ((vs.take i).all textB=true)) (fun p _=>vs.length-(intOf p).toNat)
  case atStart=>exact ⟨rfl,0,rfl,Nat.zero_le _,rfl⟩
  case round=>
    obtain ⟨rfl,i,rfl,hi,hA⟩:=hrel;have hvl:=HVL.out;by_cases hlt:i<vs.length
    · have hne:vs≠[]:=fun e=>by rw [e] at hlt;simp at hlt
      obtain ⟨g,o,rfl,hgb,hcs⟩:=HC.out.resolve_left hne;have K1:CellsAt w2 g (o+i*8) (F i):=(hcs i hlt).below hgb B2.out;obtain ⟨b,hb⟩:∃ b,((F i).kind != 4)=b:=⟨_,rfl⟩;have hkd:textB vs[i]=!b:=by
        have h1:kindOf vs[i]=(F i).kind:=by
          exact kind_is (HV.out i hlt)
        rw [<-hb,textB,h1,bne,Bool.not_not];by_cases h:(F i).kind=4
        · rw [decide_eq_true h,h];rfl
        · rw [decide_eq_false h,eq_comm,beq_eq_false_iff_ne];exact h
      have htk:vs.take (i+1)=vs.take i++[vs[i]]:=by rw [List.take_add_one,List.getElem?_eq_getElem hlt];rfl
      have HM:Hid (b=false->(vs.take (i+1)).all textB=true):=fun h=>by rw [htk,List.all_append,hA.out,List.all_cons,List.all_nil,hkd,h];rfl
      have HF:Hid (b=true->ok=false):=fun h=>by
        rw [<-HOK2.out,List.all_eq_false];exact ⟨vs[i],List.getElem_mem hlt,by rw [hkd,h];simp⟩
      clear hcs htk hkd;generalize F i=z at *;obtain ⟨u0,u1,u2,u3,u4,u5,u6,u7⟩:=K1.eight;clear K1;cases b
      case true=>
        obtain rfl:=HF.out rfl;go_wp2_with fail
        go_ret
        exact ⟨rfl,B2.out⟩
      case false=>
        have M:=Hid.out (p:=Hid _) (HM.out rfl);clear HM HF;go_wp2_with fail
        go_roundw
        case rel=>exact ⟨trivial,i+1,by go_num,by omega,M.out⟩
        case measure=>simp [intOf];omega
    · obtain rfl:true=ok:=by rw [<-HOK2.out,<-hA.out,List.take_of_length_le (by omega)]
      go_wp2_with fail
      go_ret
      exact ⟨rfl,B2.out⟩
theorem robject_any (t:JV) (hg:GoodQ t) (hm:t.mass<=3000) (ra:Raw) (A B:Nat->Prop) (w:World) (hi:IsV w A ra t) (js:List ByteArray) (hj:js.length<=10) (ja:Option Addr) (jc:Nat) (ht:IsTexts w B ja js):Calls Tryz.prog 96 #[ra.val,.slice ja js.length jc] w (BoolP (ofB t js) w):=by
  have HG:Hid (∀ (w':World) (x:ByteArray),Below w.heap.size w w'->Calls Tryz.prog 77 #[ra.val,.string x] w' (GetP t x A w')):=fun w' x hb=>rget_is t hg hm ra A w' (hi.behind hb) x;have HTX:Hid (∀ w',Below w.heap.size w w'->IsTexts w' B ja js):=fun w' h=>ht.turn (Turn.below h);obtain ⟨ok,hok⟩:∃ b,ofB t js=b:=⟨_,rfl⟩;rw [hok];have HOK:=Hid.out (p:=Hid _) hok
  cases t with
  | mk k is ng d e s ks vs=>
  obtain ⟨ka,kc,va,vc,rfl,_,f,_,_⟩:=hi.parts;rw [mass_mk] at hm;obtain ⟨w2,hw2,V2,B2⟩:=own8 w (Raw.mk k is ng d e s ka ks.length kc va vs.length vc);have HKL:Hid (ks.length<=3000):=by rw [Hid];omega
  clear hi ht hok hm hg;unfold Raw.val at HG ⊢;obtain ⟨⟨x0,x1,x2,x3,x4,x5,x6,x7⟩,_⟩:=val_cells V2.out;by_cases h6:k=6
  case neg=>
    have nk:(k != 6)=true:=by rw [bne_iff_ne];exact h6
    obtain rfl:false=ok:=by rw [<-HOK.out,ofB,show kindOf (.mk k is ng d e s ks vs)=k from rfl,decide_eq_false h6];rfl
    clear h6;go_enter Tryz.func96,Tryz.ntmps96
    go_wp2_with fail
    go_ret
    exact ⟨rfl,B2.out⟩
  case pos=>
  subst h6;have nk:((6:Int) != 6)=false:=by decide
  by_cases hn:ks.length=js.length
  case neg=>
    have nn:((ks.length:Int) != (js.length:Int))=true:=by rw [bne_iff_ne];omega
    obtain rfl:false=ok:=by rw [<-HOK.out,ofB,show (keysJ (.mk 6 is ng d e s ks vs))=ks from rfl,decide_eq_false hn];simp
    clear hn;go_enter Tryz.func96,Tryz.ntmps96
    go_wp2_with fail
    go_ret
    exact ⟨rfl,B2.out⟩
  case pos=>
  have nn:((ks.length:Int) != (js.length:Int))=false:=by rw [hn];simp
  have HOK2:Hid (js.all (fun x=>(look (.mk 6 is ng d e s ks vs) x).isSome)=ok):=by
    rw [<-HOK.out,ofB,show (keysJ (.mk 6 is ng d e s ks vs))=ks from rfl,decide_eq_true hn];rfl
  have HN:=Hid.out (p:=Hid _) hn;clear hn HOK;go_enter Tryz.func96,Tryz.ntmps96
  go_wp2_with fail
  clear x0 x1 x2 x3 x4 x5 x6 x7
  go_loopw [5] (fun p wr=>∃ i:Nat,p=.int .i64 i/\i<=js.length/\Hid ((js.take i).all (fun x=>(look (.mk 6 is ng d e s ks vs) x).isSome)=true)/\Hid (Below w2.heap.size w2 wr)) (fun p _=>js.length-(intOf p).toNat)
  case atStart=>exact ⟨0,rfl,Nat.zero_le _,rfl,Below.refl _ _⟩
  case round=>
    obtain ⟨i,rfl,hi,hA,hB⟩:=hrel;have V3:=hst V2 hB;have B3:=bel B2 hB;by_cases hlt:i<js.length
    · have hne:js≠[]:=fun e=>by rw [e] at hlt;simp at hlt
      obtain ⟨jb,jo,rfl,_,hjb,hjc⟩:=(HTX.out wr B3.out).resolve_left hne;have c1:=hjc i hlt;obtain ⟨x,hx⟩:∃ x,js[i]=x:=⟨_,rfl⟩;rw [hx] at c1;have htk:js.take (i+1)=js.take i++[x]:=by rw [List.take_add_one,List.getElem?_eq_getElem hlt,hx];rfl
      obtain ⟨b,hb⟩:∃ b,(look (.mk 6 is ng d e s ks vs) x).isSome=b:=⟨_,rfl⟩;have HM:Hid (b=true->(js.take (i+1)).all (fun x=>(look (.mk 6 is ng d e s ks vs) x).isSome)=true):=fun h=>by rw [htk,List.all_append,hA.out,List.all_cons,List.all_nil,hb,h];rfl
      have HF:Hid (b=false->ok=false):=fun h=>by
        rw [<-HOK2.out,List.all_eq_false];exact ⟨x,by rw [<-hx];exact List.getElem_mem hlt,by rw [hb,h];simp⟩
      have HBB:=Hid.out (p:=Hid _) hb;have HS:Hid (∀ W,Below wr.heap.size wr W->W.heap[w.heap.size]?=some (.cells (Raw.mk 6 is ng d e s ka ks.length kc va vs.length vc).arr 29 (0,0))/\W.cell? ⟨jb,jo+i,none⟩=some (.string x)):=fun W hW=>⟨(hW.block _ (heap_lt V3.out)).trans V3.out,(World.cell?_of_block (hW.block _ hjb)).trans c1⟩;have hsz:=hB.out.size;clear hjc hx htk hb c1;cases b
      case false=>
        obtain rfl:=HF.out rfl;clear HM HF;go_wp2_with fail
        refine wp_region_held_drew (S:=(fun W=>W.heap[w.heap.size]?=some (.cells (Raw.mk 6 is ng d e s ka ks.length kc va vs.length vc).arr 29 (0,0))/\W.cell? ⟨jb,jo+i,none⟩=some (.string x))) (by kernel_rfl) ?_ (fun hHeld=>?_)
        · exact HS.out _ (Below.refl _ _).drew
        obtain ⟨wd,hwd⟩:∃ x,wr.drew=x:=⟨_,rfl⟩;have D:Hid (Below wr.heap.size wr wd):=by rw [<-hwd];exact (Below.refl _ _).drew
        rw [hwd] at hHeld ⊢;clear hwd
        repeat' first
          | (refine tkT 0 (v:=.agg #[.int .i64 6,.bool is,.bool ng,.string d,.int .i64 e,.string s,.slice ka ks.length kc,.slice va vs.length vc]) (by decide +kernel) ?_ (hy:=by (intro w hs;obtain ⟨⟨e0,e1,e2,e3,e4,e5,e6,e7⟩,_⟩:=val_cells hs.1;clear hs;go_simp <;> with_reducible rfl)))
          | (refine tkT 1 (by decide +kernel) ?_)
          | (refine tkT 2 (by decide +kernel) ?_)
          | (refine tkT 3 (by decide +kernel) ?_)
          | (refine tkT 4 (v:=.string x) (by decide +kernel) ?_ (hy:=by (intro w hs;have ee:=hs.2;clear hs;go_simp <;> with_reducible rfl)))
          | (refine tkT 6 (by decide +kernel) ?_)
          | (refine tkT 7 (by decide +kernel) ?_)
          | (refine tkT 8 (by decide +kernel) ?_)
          | (refine tkT 11 (by decide +kernel) ?_)
          | (refine rdT [5,9] (by decide +kernel) (by simp) ?_;try simp only [nz])
          | (refine rdT [9] (by decide +kernel) (by simp) ?_;try simp only [nz])
          | (refine rdT [10] (by decide +kernel) (by simp) ?_;try simp only [nz])
          | (refine rdT [5] (by decide +kernel) (by simp) ?_;try simp only [nz])
          | exact AllReadyH.nil
          | refine consT ?_ ?_
          | (refine (⟨fun K hK=>?_⟩:Tag 5 _)
             try simp only [nz]
             go_simp
             go_at_call 77;refine (Calls.mono (HG.out _ x (bel B3 D).out) ?_)
             rintro z q hz;obtain ⟨rr,rfl,hr,E⟩:=hz.to;rw [HBB.out];unfold Raw.val;clear hz;replace D:=bel D E;(try replace VZ:=hst VZ E);clear hHeld;refine hK.out _ _ ?_ (fun hHeld=>?_)
             · exact HS.out _ D.out
             clear hK K
             try simp only [nz])
          | (refine (⟨fun K hK=>?_⟩:Tag 9 _)
             obtain ⟨q,hq,VZ,E⟩:=wof D (own8 · Raw.zero)
             dsimp only [Raw.zero] at hq
             try simp only [nz]
             go_simp
             have HBZ:=Hid.out (p:=Hid _) D.out.size;clear hq;replace D:=bel D E;clear hHeld;refine hK.out _ _ ?_ (fun hHeld=>?_)
             · exact HS.out _ D.out
             clear hK K
             try simp only [nz])
          | (refine (⟨fun K hK=>?_⟩:Tag 10 _)
             obtain ⟨⟨v0,v1,v2,v3,v4,v5,v6,v7⟩,y0,y1,y2,y3,y4,y5,y6,y7⟩:=val_cells VZ.out
             try simp only [nz]
             go_simp
             clear v0 v1 v2 v3 v4 v5 v6 v7 y0 y1 y2 y3 y4 y5 y6 y7;have DF:=Hid.out (p:=Hid _) (below8 D.out HBZ.out (.int .i64 rr.kind) (.bool rr.is) (.bool rr.neg) (.string rr.dig) (.int .i64 rr.exp) (.string rr.str) (.slice rr.ka rr.kn rr.kc) (.slice rr.va rr.vn rr.vc));clear hHeld;refine hK.out _ _ ?_ (fun hHeld=>?_)
             · exact HS.out _ DF.out
             clear hK K
             try simp only [nz])
          | (refine dnT (by decide +kernel) ?_
             clear hHeld;go_wp2_with fail
             go_ret
             exact ⟨rfl,(bel B3 DF).out⟩)
      case true=>
        have M:=Hid.out (p:=Hid _) (HM.out rfl);clear HM HF;go_wp2_with fail
        refine wp_region_held_drew (S:=(fun W=>W.heap[w.heap.size]?=some (.cells (Raw.mk 6 is ng d e s ka ks.length kc va vs.length vc).arr 29 (0,0))/\W.cell? ⟨jb,jo+i,none⟩=some (.string x))) (by kernel_rfl) ?_ (fun hHeld=>?_)
        · exact HS.out _ (Below.refl _ _).drew
        obtain ⟨wd,hwd⟩:∃ x,wr.drew=x:=⟨_,rfl⟩;have D:Hid (Below wr.heap.size wr wd):=by rw [<-hwd];exact (Below.refl _ _).drew
        rw [hwd] at hHeld ⊢;clear hwd
        repeat' first
          | (refine tkT 0 (v:=.agg #[.int .i64 6,.bool is,.bool ng,.string d,.int .i64 e,.string s,.slice ka ks.length kc,.slice va vs.length vc]) (by decide +kernel) ?_ (hy:=by (intro w hs;obtain ⟨⟨e0,e1,e2,e3,e4,e5,e6,e7⟩,_⟩:=val_cells hs.1;clear hs;go_simp <;> with_reducible rfl)))
          | (refine tkT 1 (by decide +kernel) ?_)
          | (refine tkT 2 (by decide +kernel) ?_)
          | (refine tkT 3 (by decide +kernel) ?_)
          | (refine tkT 4 (v:=.string x) (by decide +kernel) ?_ (hy:=by (intro w hs;have ee:=hs.2;clear hs;go_simp <;> with_reducible rfl)))
          | (refine tkT 6 (by decide +kernel) ?_)
          | (refine tkT 7 (by decide +kernel) ?_)
          | (refine tkT 8 (by decide +kernel) ?_)
          | (refine tkT 11 (by decide +kernel) ?_)
          | (refine rdT [5,9] (by decide +kernel) (by simp) ?_;try simp only [nz])
          | (refine rdT [9] (by decide +kernel) (by simp) ?_;try simp only [nz])
          | (refine rdT [10] (by decide +kernel) (by simp) ?_;try simp only [nz])
          | (refine rdT [5] (by decide +kernel) (by simp) ?_;try simp only [nz])
          | exact AllReadyH.nil
          | refine consT ?_ ?_
          | (refine (⟨fun K hK=>?_⟩:Tag 5 _)
             try simp only [nz]
             go_simp
             go_at_call 77;refine (Calls.mono (HG.out _ x (bel B3 D).out) ?_)
             rintro z q hz;obtain ⟨rr,rfl,hr,E⟩:=hz.to;rw [HBB.out];unfold Raw.val;clear hz;replace D:=bel D E;(try replace VZ:=hst VZ E);clear hHeld;refine hK.out _ _ ?_ (fun hHeld=>?_)
             · exact HS.out _ D.out
             clear hK K
             try simp only [nz])
          | (refine (⟨fun K hK=>?_⟩:Tag 9 _)
             obtain ⟨q,hq,VZ,E⟩:=wof D (own8 · Raw.zero)
             dsimp only [Raw.zero] at hq
             try simp only [nz]
             go_simp
             have HBZ:=Hid.out (p:=Hid _) D.out.size;clear hq;replace D:=bel D E;clear hHeld;refine hK.out _ _ ?_ (fun hHeld=>?_)
             · exact HS.out _ D.out
             clear hK K
             try simp only [nz])
          | (refine (⟨fun K hK=>?_⟩:Tag 10 _)
             obtain ⟨⟨v0,v1,v2,v3,v4,v5,v6,v7⟩,y0,y1,y2,y3,y4,y5,y6,y7⟩:=val_cells VZ.out
             try simp only [nz]
             go_simp
             clear v0 v1 v2 v3 v4 v5 v6 v7 y0 y1 y2 y3 y4 y5 y6 y7;have DF:=Hid.out (p:=Hid _) (below8 D.out HBZ.out (.int .i64 rr.kind) (.bool rr.is) (.bool rr.neg) (.string rr.dig) (.int .i64 rr.exp) (.string rr.str) (.slice rr.ka rr.kn rr.kc) (.slice rr.va rr.vn rr.vc));clear hHeld;refine hK.out _ _ ?_ (fun hHeld=>?_)
             · exact HS.out _ DF.out
             clear hK K
             try simp only [nz])
          | (refine dnT (by decide +kernel) ?_
             clear hHeld;go_wp2_with fail
             go_roundw
             case rel=>exact ⟨i+1,by go_num,by omega,M.out,(bel hB DF).out⟩
             case measure=>simp [intOf];omega)
    · obtain rfl:true=ok:=by rw [<-HOK2.out,<-hA.out,List.take_of_length_le (by omega)]
      go_wp2_with fail
      go_ret
      exact ⟨rfl,B3.out⟩
end Go.Proofs.YtliekocamnklfaaGreatDoor.One
