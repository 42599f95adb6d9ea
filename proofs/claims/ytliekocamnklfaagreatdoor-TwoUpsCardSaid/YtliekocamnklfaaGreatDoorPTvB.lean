/- Package two: of, all, written, text, object, get, copied, whole. (Written by gen/tva.py.) -/
import Derived.Test.YtliekocamnklfaaGreatDoorPOnE
import Derived.Test.YtliekocamnklfaaGreatDoorPOnS
set_option linter.unusedVariables false
set_option linter.unusedSimpArgs false
set_option maxRecDepth 100000
set_option maxHeartbeats 4000000
namespace Go.Proofs.YtliekocamnklfaaGreatDoor.One
open Go.RowKit Strs Jdec Save Go.Proofs.YtliekocamnklfaaGreatDoor.Addr
theorem dof_any (t:JV) (hg:GoodQ t) (hm:t.mass<=3000) (ra:Raw) (A B:Nat->Prop) (w:World) (hi:IsV w A ra t) (js:List ByteArray) (hj:js.length<=10) (ja:Option Addr) (jc:Nat) (ht:IsTexts w B ja js):Calls Tryz.prog 66 #[ra.val,.slice ja js.length jc] w (BoolP (ofB t js) w):=by
  have HG:Hid (∀ (w':World) (x:ByteArray),Below w.heap.size w w'->Calls Tryz.prog 43 #[ra.val,.string x] w' (GetP t x (fun b=>w'.heap.size<=b) w')):=fun w' x hb=>tget_is t hg hm ra A w' (hi.behind hb) x;have HTX:Hid (∀ w',Below w.heap.size w w'->IsTexts w' B ja js):=fun w' h=>ht.turn (Turn.below h);obtain ⟨ok,hok⟩:∃ b,ofB t js=b:=⟨_,rfl⟩;rw [hok];have HOK:=Hid.out (p:=Hid _) hok
  cases t with
  | mk k is ng d e s ks vs=>
  obtain ⟨ka,kc,va,vc,rfl,_,f,_,_⟩:=hi.parts;rw [mass_mk] at hm;obtain ⟨w2,hw2,V2,B2⟩:=own8 w (Raw.mk k is ng d e s ka ks.length kc va vs.length vc);have HKL:Hid (ks.length<=3000):=by rw [Hid];omega
  clear hi ht hok hm hg;unfold Raw.val at HG ⊢;obtain ⟨⟨x0,x1,x2,x3,x4,x5,x6,x7⟩,_⟩:=val_cells V2.out;by_cases h6:k=6
  case neg=>
    have nk:(k != 6)=true:=by rw [bne_iff_ne];exact h6
    obtain rfl:false=ok:=by rw [<-HOK.out,ofB,show kindOf (.mk k is ng d e s ks vs)=k from rfl,decide_eq_false h6];rfl
    clear h6;go_enter Tryz.func66,Tryz.ntmps66
    go_wp2_with fail
    go_ret
    exact ⟨rfl,B2.out⟩
  case pos=>
  subst h6;have nk:((6:Int) != 6)=false:=by decide
  by_cases hn:ks.length=js.length
  case neg=>
    have nn:((ks.length:Int) != (js.length:Int))=true:=by rw [bne_iff_ne];omega
    obtain rfl:false=ok:=by rw [<-HOK.out,ofB,show (keysJ (.mk 6 is ng d e s ks vs))=ks from rfl,decide_eq_false hn];simp
    clear hn;go_enter Tryz.func66,Tryz.ntmps66
    go_wp2_with fail
    go_ret
    exact ⟨rfl,B2.out⟩
  case pos=>
  have nn:((ks.length:Int) != (js.length:Int))=false:=by rw [hn];simp
  have HOK2:Hid (js.all (fun x=>(look (.mk 6 is ng d e s ks vs) x).isSome)=ok):=by
    rw [<-HOK.out,ofB,show (keysJ (.mk 6 is ng d e s ks vs))=ks from rfl,decide_eq_true hn];rfl
  have HN:=Hid.out (p:=Hid _) hn;clear hn HOK;go_enter Tryz.func66,Tryz.ntmps66
  go_wp2_with fail
  clear x0 x1 x2 x3 x4 x5 x6 x7
  go_loopw [22] (fun p wr=>∃ i:Nat,p=.int .i64 i/\i<=js.length/\Hid ((js.take i).all (fun x=>(look (.mk 6 is ng d e s ks vs) x).isSome)=true)/\Hid (Below w2.heap.size w2 wr)) (fun p _=>js.length-(intOf p).toNat)
  case atStart=>exact ⟨0,rfl,Nat.zero_le _,rfl,Below.refl _ _⟩
  case round=>
    obtain ⟨i,rfl,hi,hA,hB⟩:=hrel;have V3:=hst V2 hB;have B3:=bel B2 hB;obtain ⟨⟨x0,x1,x2,x3,x4,x5,x6,x7⟩,_⟩:=val_cells V3.out;by_cases hlt:i<js.length
    · have hne:js≠[]:=fun e=>by rw [e] at hlt;simp at hlt
      obtain ⟨jb,jo,rfl,_,hjb,hjc⟩:=(HTX.out wr B3.out).resolve_left hne;have c1:=hjc i hlt;obtain ⟨x,hx⟩:∃ x,js[i]=x:=⟨_,rfl⟩;rw [hx] at c1;have htk:js.take (i+1)=js.take i++[x]:=by rw [List.take_add_one,List.getElem?_eq_getElem hlt,hx];rfl
      obtain ⟨b,hb⟩:∃ b,(look (.mk 6 is ng d e s ks vs) x).isSome=b:=⟨_,rfl⟩;have HM:Hid (b=true->(js.take (i+1)).all (fun x=>(look (.mk 6 is ng d e s ks vs) x).isSome)=true):=fun h=>by rw [htk,List.all_append,hA.out,List.all_cons,List.all_nil,hb,h];rfl
      have HF:Hid (b=false->ok=false):=fun h=>by
        rw [<-HOK2.out,List.all_eq_false];exact ⟨x,by rw [<-hx];exact List.getElem_mem hlt,by rw [hb,h];simp⟩
      have HGX:=Hid.out (p:=Hid _) (HG.out wr x B3.out);have HBB:=Hid.out (p:=Hid _) hb;clear hjc hx htk hb;go_wp2_with fail
      refine (Calls.mono HGX.out ?_);rintro z w4 hz;obtain ⟨rr,rfl,hr,B4⟩:=hz.to;rw [HBB.out];obtain ⟨w5,hw5,V5,B5⟩:=own8 w4 rr;have B25:=bel (bel hB B4) B5;clear hz x0 x1 x2 x3 x4 x5 x6 x7;unfold Raw.val;cases b
      case false=>
        obtain rfl:=HF.out rfl;go_wp2_with fail
        go_ret
        exact ⟨rfl,(bel B2 B25).out⟩
      case true=>
        have M:=Hid.out (p:=Hid _) (HM.out rfl);clear HM HF;go_wp2_with fail
        go_roundw
        case rel=>exact ⟨i+1,by go_num,by omega,M.out,B25.out⟩
        case measure=>simp [intOf];omega
    · obtain rfl:true=ok:=by rw [<-HOK2.out,<-hA.out,List.take_of_length_le (by omega)]
      go_wp2_with fail
      go_ret
      exact ⟨rfl,B3.out⟩
theorem dall_any (K:Nat) (hE:Go.Proofs.Enters Tryz.prog K) (f:JV->Bool) (t:JV) (hm:t.mass<=3000) (ra:Raw) (A:Nat->Prop) (w:World) (hi:IsV w A ra t)
    (hK:∀ v∈kidsJ t,∀ (rr:Raw) (w':World),Below w.heap.size w w'->IsV w' (fun _=>True) rr v->Calls Tryz.prog K #[rr.val] w' (BoolP (f v) w')) :
    Calls Tryz.prog 68 #[ra.val,.func (.func K) #[] #[]] w (BoolP ((kidsJ t).all f) w):=by
  have HK:=Hid.out (p:=Hid _) hK
  cases t with
  | mk k is ng d e s ks vs=>
  obtain ⟨ka,kc,va,vc,rfl,_,F,hc,hv⟩:=hi.parts;rw [mass_mk] at hm;have hvl:=masses_len vs;obtain ⟨ok,hok⟩:∃ b,vs.all f=b:=⟨_,rfl⟩;show Calls _ _ _ _ (BoolP (vs.all f) w);rw [hok];have HOK:=Hid.out (p:=Hid _) hok;obtain ⟨w2,hw2,V2,B2⟩:=own8 w (Raw.mk k is ng d e s ka ks.length kc va vs.length vc);have HC:=Hid.out (p:=Hid _) hc;have HV:Hid (∀ i (h:i<vs.length),IsV w (fun _=>True) (F i) vs[i]):=fun i h=>(hv i h).turn (Turn.mono _ fun _ _ _=>trivial);have HVL:Hid (vs.length<=3000):=by rw [Hid];omega
  clear hi hok hm hK hc hv hvl;unfold Raw.val;obtain ⟨⟨x0,x1,x2,x3,x4,x5,x6,x7⟩,_⟩:=val_cells V2.out;have HOK2:=HOK;clear HOK;go_enter Tryz.func68,Tryz.ntmps68
  go_wp2_with fail
  clear x0 x1 x2 x3 x4 x5 x6 x7
  go_loopw [10] (fun p wr=>∃ i:Nat,p=.int .i64 i/\i<=vs.length/\Hid ((vs.take i).all f=true)/\Hid (Below w2.heap.size w2 wr)) (fun p _=>vs.length-(intOf p).toNat)
  case atStart=>exact ⟨0,rfl,Nat.zero_le _,rfl,Below.refl _ _⟩
  case round=>
    obtain ⟨i,rfl,hi,hA,hB⟩:=hrel;have hvl:=HVL.out;have B3:=bel B2 hB;by_cases hlt:i<vs.length
    · have hne:vs≠[]:=fun e=>by rw [e] at hlt;simp at hlt
      obtain ⟨g,o,rfl,hgb,hcs⟩:=HC.out.resolve_left hne;have K1:CellsAt wr g (o+i*8) (F i):=(hcs i hlt).below hgb B3.out;obtain ⟨w4,hw4,V4,B4⟩:=own8 wr (F i);have I1:=Hid.out (p:=Hid _) (((HV.out i hlt).behind B3.out).behind B4.out);obtain ⟨b,hb⟩:∃ b,f vs[i]=b:=⟨_,rfl⟩;have htk:vs.take (i+1)=vs.take i++[vs[i]]:=by rw [List.take_add_one,List.getElem?_eq_getElem hlt];rfl
      have HM:Hid (b=true->(vs.take (i+1)).all f=true):=fun h=>by rw [htk,List.all_append,hA.out,List.all_cons,List.all_nil,hb,h];rfl
      have HF:Hid (b=false->ok=false):=fun h=>by
        rw [<-HOK2.out,List.all_eq_false];exact ⟨vs[i],List.getElem_mem hlt,by rw [hb,h];simp⟩
      have hcall:=HK.out vs[i] (List.getElem_mem hlt) (F i) w4 (bel B3 B4).out I1.out;rw [hb] at hcall;have HCL:=Hid.out (p:=Hid _) hcall;have B24:=bel hB B4;clear hcs htk hb hcall I1;generalize F i=z at *;unfold Raw.val at HCL;obtain ⟨u0,u1,u2,u3,u4,u5,u6,u7⟩:=K1.eight;obtain ⟨⟨x0,x1,x2,x3,x4,x5,x6,x7⟩,_⟩:=val_cells V4.out;clear K1;have hEE:=hE;unfold Go.Proofs.Enters at hEE;cases b
      case false=>
        obtain rfl:=HF.out rfl;go_wp2_with (go_at_fn K;refine (Calls.mono HCL.out ?_);rintro z w6 hz;obtain ⟨rfl,B6⟩:=hz.to)
        go_ret
        exact ⟨rfl,(bel B2 (bel B24 B6)).out⟩
      case true=>
        have M:=Hid.out (p:=Hid _) (HM.out rfl);clear HM HF;go_wp2_with (go_at_fn K;refine (Calls.mono HCL.out ?_);rintro z w6 hz;obtain ⟨rfl,B6⟩:=hz.to)
        go_roundw
        case rel=>exact ⟨i+1,by go_num,by omega,M.out,(bel B24 B6).out⟩
        case measure=>simp [intOf];omega
    · obtain rfl:true=ok:=by rw [<-HOK2.out,<-hA.out,List.take_of_length_le (by omega)]
      go_wp2_with fail
      go_ret
      exact ⟨rfl,B3.out⟩
theorem dwritten_any (t:JV) (ra:Raw) (A:Nat->Prop) (w:World) (hi:IsV w A ra t):Calls Tryz.prog 153 #[ra.val] w (BoolP (textB t) w):=by
  cases t with
  | mk k is ng d e s ks vs=>
  obtain ⟨ka,kc,va,vc,rfl,_,_,_,_⟩:=hi.parts;obtain ⟨w2,hw2,V2,B2⟩:=own8 w (Raw.mk k is ng d e s ka ks.length kc va vs.length vc);have HK:Hid (textB (.mk k is ng d e s ks vs)=(k == 4)):=by
    show decide (k=4)=_;by_cases h:k=4
    · rw [decide_eq_true h,h];rfl
    · rw [decide_eq_false h,eq_comm,beq_eq_false_iff_ne];exact h
  clear hi;unfold Raw.val;obtain ⟨⟨x0,x1,x2,x3,x4,x5,x6,x7⟩,_⟩:=val_cells V2.out;go_enter Tryz.func153,Tryz.ntmps153
  go_wp2_with fail
  go_ret
  exact ⟨by rw [HK.out];rfl,B2.out⟩
theorem dtext_any (s:ByteArray) (w:World):Calls Tryz.prog 63 #[.string s] w fun e w'=>e=.returned (strR s).val/\Below w.heap.size w w':=by
  obtain ⟨w2,hw2,V2,B2⟩:=own8 w Raw.zero
  dsimp only [Raw.zero] at hw2
  obtain ⟨⟨r0,r1,r2,r3,r4,r5,r6,r7⟩,g0,g1,g2,g3,g4,g5,g6,g7⟩:=val_cells V2.out;go_enter Tryz.func63,Tryz.ntmps63
  go_wp2_with fail
  refine val_ret (a:=strR s) (b:=w.heap.size) rfl (set8 V2.out (strR s)) rfl ?_;exact ⟨rfl,below8 B2.out (Nat.le_refl _) _ _ _ _ _ _ _ _⟩
theorem dobject_any (ka:Option Addr) (kn kc:Nat) (va:Option Addr) (vn vc:Nat) (w:World):Calls Tryz.prog 62 #[.slice ka kn kc,.slice va vn vc] w fun e w'=>e=.returned (Raw.mk 6 false false ⟨#[]⟩ 0 ⟨#[]⟩ ka kn kc va vn vc).val/\Below w.heap.size w w':=by
  obtain ⟨w2,hw2,V2,B2⟩:=own8 w Raw.zero
  dsimp only [Raw.zero] at hw2
  obtain ⟨⟨r0,r1,r2,r3,r4,r5,r6,r7⟩,g0,g1,g2,g3,g4,g5,g6,g7⟩:=val_cells V2.out;go_enter Tryz.func62,Tryz.ntmps62
  go_wp2_with fail
  refine val_ret (a:=Raw.mk 6 false false ⟨#[]⟩ 0 ⟨#[]⟩ ka kn kc va vn vc) (b:=w.heap.size) rfl (set8 V2.out (Raw.mk 6 false false ⟨#[]⟩ 0 ⟨#[]⟩ ka kn kc va vn vc)) rfl ?_;exact ⟨rfl,below8 B2.out (Nat.le_refl _) _ _ _ _ _ _ _ _⟩
theorem dget_any {t:JV} (hg:GoodQ t) (hm:t.mass<=3000) {ra:Raw} {A:Nat->Prop} {w:World} (hi:Hid (IsV w A ra t)) (x:ByteArray):Calls Tryz.prog 58 #[ra.val,.string x] w (ValP (got t x) (fun _=>True) w):=by
  obtain ⟨w2,hw2,V2,B2⟩:=own8 w ra;obtain ⟨w3,hw3,V3,B3⟩:=own8 w2 Raw.zero;have V23:=hst V2 B3;have B03:=bel B2 B3;have HG:=Hid.out (p:=Hid _) (tget_is t hg hm ra A w3 (hi.out.behind B03.out) x)
  dsimp only [Raw.zero] at hw3
  have HS:=Hid.out (p:=Hid _) B2.out.size;clear hi hg hm;unfold Raw.val at HG ⊢;obtain ⟨⟨x0,x1,x2,x3,x4,x5,x6,x7⟩,_⟩:=val_cells V23.out;go_enter Tryz.func58,Tryz.ntmps58
  go_wp2_with fail
  refine (Calls.mono HG.out ?_);rintro z w4 hz;obtain ⟨rr,rfl,hr,B4⟩:=hz.to;obtain ⟨w5,hw5,V5,B5⟩:=own8 w4 rr;have B05:=bel (bel B03 B4) B5;have V35:=hst (hst V3 B4) B5;have I5:=kp hr B5;have hlt:=heap_lt V3.out;clear hz x0 x1 x2 x3 x4 x5 x6 x7 hr;generalize (look t x).isSome=ok;unfold Raw.val;obtain ⟨⟨x0,x1,x2,x3,x4,x5,x6,x7⟩,_⟩:=val_cells V5.out;obtain ⟨⟨r0,r1,r2,r3,r4,r5,r6,r7⟩,g0,g1,g2,g3,g4,g5,g6,g7⟩:=val_cells V35.out;go_wp2_with fail
  refine val_ret (a:=rr) (b:=w2.heap.size) rfl (set8 V35.out rr) rfl ?_;refine ⟨rr,rfl,?_,below8 B05.out HS.out _ _ _ _ _ _ _ _⟩;exact dn I5 (fun k hk=>by have:w3.heap.size<=k:=hk;omega) _ _ _ _ _ _ _ _
theorem dcopied_any {t:JV} (hg:GoodQ t) (hm:t.mass<=3000) {ra:Raw} {A B:Nat->Prop} {w:World} (hi:Hid (IsV w A ra t)) (x:ByteArray) (hgx:GoodQ (got t x)) (hB:∀ b,w.heap.size<=b->B b):Calls Tryz.prog 64 #[ra.val,.string x] w (ValP (got t x) B w):=by
  obtain ⟨w2,hw2,V2,B2⟩:=own8 w ra;obtain ⟨w3,hw3,V3,B3⟩:=own8 w2 Raw.zero;have V23:=hst V2 B3;have B03:=bel B2 B3;have HG:=Hid.out (p:=Hid _) (dget_any hg hm (kp hi B03) x);have HC:Hid (∀ (w':World) (rr:Raw) (h:Hid (IsV w' (fun _=>True) rr (got t x))),Calls Tryz.prog 47 #[rr.val] w' (ValP (got t x) (fun b=>w'.heap.size<=b) w')):=fun w' rr h=>vcopy hgx (by have:=got_mass t x;omega) h fun _ hb=>hb;have HS:=Hid.out (p:=Hid _) B2.out.size;have HB:=Hid.out (p:=Hid _) hB
  dsimp only [Raw.zero] at hw3
  clear hi hg hm hgx hB;unfold Raw.val at HG ⊢;obtain ⟨⟨x0,x1,x2,x3,x4,x5,x6,x7⟩,_⟩:=val_cells V23.out;go_enter Tryz.func64,Tryz.ntmps64
  go_wp2_with fail
  refine (Calls.mono HG.out ?_);rintro z w4 hz;obtain ⟨rr,rfl,hr,B4⟩:=hz.to;have HCC:=Hid.out (p:=Hid _) (HC.out w4 rr hr);clear hz x0 x1 x2 x3 x4 x5 x6 x7;unfold Raw.val at HCC ⊢;go_wp2_with fail
  refine (Calls.mono HCC.out ?_);rintro z w5 hz;obtain ⟨zz,rfl,h5,B5⟩:=hz.to;have B05:=bel (bel B03 B4) B5;have V35:=hst (hst V3 B4) B5;have hl:=heap_lt V3.out;have hs4:=B4.out.size;have h0:=B03.out.size;clear hz HC HCC HG;unfold Raw.val;obtain ⟨⟨r0,r1,r2,r3,r4,r5,r6,r7⟩,g0,g1,g2,g3,g4,g5,g6,g7⟩:=val_cells V35.out;go_wp2_with fail
  refine val_ret (a:=zz) (b:=w2.heap.size) rfl (set8 V35.out zz) rfl ?_;refine ⟨zz,rfl,?_,below8 B05.out HS.out _ _ _ _ _ _ _ _⟩;exact h5.out.turn ⟨(gb8 _ _ _ _ _ _ _ _ _ _).size,fun k hk hl'=>⟨(gb8 _ _ _ _ _ _ _ _ _ _).block _ hl' (fun e=>by injection e with e;have:w4.heap.size<=k:=hk;omega),HB.out k (by have:w4.heap.size<=k:=hk;omega)⟩⟩
def WholeP (o:Option Nat) (w:World) (e:Ending) (w':World):Prop:=∃ n:Nat,e=.returned (.tuple #[.int .u64 n,.bool o.isSome])/\(∀ m,o=some m->n=m)/\Below w.heap.size w w'
theorem WholeP.to {o:Option Nat} {w w':World} {e:Ending} (h:WholeP o w e w'):∃ n:Nat,e=.returned (.tuple #[.int .u64 n,.bool o.isSome])/\Hid (∀ m,o=some m->n=m)/\Hid (Below w.heap.size w w'):=h
theorem dwhole_any (t:JV) (hg:GoodQ t) (ra:Raw) (A:Nat->Prop) (w:World) (hi:IsV w A ra t) (T:ErrT w):Calls Tryz.prog 67 #[ra.val] w (WholeP (wholeJ t) w):=by
  cases t with
  | mk k is ng d e s ks vs=>
  obtain ⟨ka,kc,va,vc,rfl,_,_,_,_⟩:=hi.parts;obtain ⟨w2,hw2,V2,B2⟩:=own8 w (Raw.mk k is ng d e s ka ks.length kc va vs.length vc);have HW:=Hid.out (p:=Hid _) (whole_any ng d e (goodq_num hg) w2 (T.stays B2.out));obtain ⟨r,hr⟩:∃ r,wholeN ng d.data.toList e=r:=⟨_,rfl⟩;rw [hr] at HW;have HK:Hid (wholeJ (.mk k is ng d e s ks vs)=if k=3 then r else none):=by rw [Hid,wholeJ_mk,hr]
  obtain ⟨o,ho⟩:∃ o,wholeJ (.mk k is ng d e s ks vs)=o:=⟨_,rfl⟩;rw [ho] at HK ⊢;clear hi hg T hr ho;unfold Raw.val;obtain ⟨⟨x0,x1,x2,x3,x4,x5,x6,x7⟩,_⟩:=val_cells V2.out;by_cases h3:k=3
  case neg=>
    have nk:(k != 3)=true:=by rw [bne_iff_ne];exact h3
    obtain rfl:o=none:=by rw [HK.out,if_neg h3]
    clear h3 HK;go_enter Tryz.func67,Tryz.ntmps67
    go_wp2_with fail
    go_ret2
    exact ⟨0,rfl,(fun m h=>by cases h),B2.out⟩
  subst h3;obtain rfl:o=r:=by rw [HK.out,if_pos rfl]
  clear HK;go_enter Tryz.func67,Tryz.ntmps67
  go_wp2_with fail
  refine (Calls.mono HW.out ?_);rintro z w3 ⟨n,rfl,hn,hb3⟩;have HN:=Hid.out (p:=Hid _) hn;have B3:=bel B2 (Hid.out (p:=Hid _) hb3);obtain ⟨q,hq⟩:∃ q,o.isSome=q:=⟨_,rfl⟩;rw [hq];have HQ:=Hid.out (p:=Hid _) hq;clear hn hb3 hq;go_wp2_with fail
  go_ret2
  exact ⟨n,by rw [HQ.out];rfl,HN.out,B3.out⟩
open Go.Proofs.YtliekocamnklfaaGreatDoor.Addr Jdec Save
def strJ:JV->ByteArray | .mk _ _ _ _ _ s _ _=>s
def namesJ (t:JV):List ByteArray:=(kidsJ t).tail.map strJ
def letA:ByteArray:=⟨#[97]⟩
def headR:List JV->Bool | []=>false | v::_=>decide (strJ v=kRoot)
def pathB (t:JV):Bool:=decide (kindOf t=5) && ((kidsJ t).all textB && (headR (kidsJ t) && rightA (adr0 (namesJ t) letA letA)))
theorem right_letters (p:List ByteArray):rightA (adr0 p ⟨#[116]⟩ ⟨#[110]⟩)=rightA (adr0 p letA letA):=by
  have h1:identB [116]=true:=by decide +kernel
  have h2:identB [110]=true:=by decide +kernel
  have h3:identB [97]=true:=by decide +kernel
  have e (x:UInt8):ByteArray.toList ⟨#[x]⟩=[x]:=by rw [ByteArray.toList_eq]
  unfold rightA adr0 letA keyA identsB;simp only [List.all_cons,List.all_nil,h1,h2,h3,e]
  rfl
def modB (ks:List ByteArray) (m:JV):Bool:=ofB m [kPath,kRes] && (pathB (got m kPath) && ressB ks (got m kRes))
def kFour:List ByteArray:=[kVer,kSer,kLin,kMod]
def modsB (n:Nat) (ks:List ByteArray) (t:JV):Bool:=headB n kFour t && (textB (got t kLin) && (decide (kindOf (got t kMod)=5) && (kidsJ (got t kMod)).all (modB ks)))
def TwoQ (t:JV):Prop:=TR t/\modsB 2 [kId,kAtt] t=true
def provL (l:List UInt8):List UInt8:=if l.takeWhile (· != 95)=[] then l else l.takeWhile (· != 95)
def provB (s:ByteArray):ByteArray:=⟨(provL s.data.toList).toArray⟩
def oldA (k:ByteArray):Adr:=(oldP k.data.toList).getD zeroA
def res3 (k:ByteArray) (x:JV):JV:=objectOf [kProv,kId,kAtt] [strV (provB (oldA k).type),got x kId,got x kAtt]
def ress3 (r:JV):JV:=objectOf (keysJ r) (List.zipWith res3 (keysJ r) (kidsJ r))
def mod3 (m:JV):JV:=objectOf [kPath,kRes] [got m kPath,ress3 (got m kRes)]
def up2J (t:JV):JV:=objectOf kFour [numV 3,got t kSer,got t kLin,listOf ((kidsJ (got t kMod)).map mod3)]
theorem mods_parts {n:Nat} {ks:List ByteArray} {t:JV} (h:modsB n ks t=true):(∀ x∈kFour,(look t x).isSome=true)/\wholeJ (got t kVer)=some n/\(wholeJ (got t kSer)).isSome=true/\textB (got t kLin)=true/\kindOf (got t kMod)=5/\∀ m∈kidsJ (got t kMod),modB ks m=true:=by
  unfold modsB headB at h;simp only [Bool.and_eq_true,decide_eq_true_eq,List.all_eq_true] at h
  obtain ⟨⟨h1,h2,h3⟩,h4,h5,h6⟩:=h;exact ⟨of_look h1,h2,h3,h4,h5,h6⟩
theorem mod_parts {ks:List ByteArray} {m:JV} (h:modB ks m=true):(look m kPath).isSome=true/\(look m kRes).isSome=true/\pathB (got m kPath)=true/\ressB ks (got m kRes)=true:=by
  unfold modB at h;simp only [Bool.and_eq_true] at h
  exact ⟨of_look h.1 _ (by simp),of_look h.1 _ (by simp),h.2.1,h.2.2⟩
theorem path_deep {p:JV} (hg:GoodQ p) (h:pathB p=true):p.deepN<=2:=by
  unfold pathB at h;simp only [Bool.and_eq_true,List.all_eq_true] at h
  exact deep_6 fun v hv=>text_deep (GoodQ.kids hg v hv) (h.2.1 v hv)
theorem prov_sub (l:List UInt8):∀ c∈provL l,c∈l:=by
  unfold provL;split
  · exact fun c h=>h
  · exact fun c h=>(List.takeWhile_sublist _).subset h
theorem prov_le (l:List UInt8):(provL l).length<=l.length:=by
  unfold provL;split
  · exact Nat.le_refl _
  · exact (List.takeWhile_sublist _).length_le
theorem old_type {k:ByteArray} (h:(oldP k.data.toList).isSome=true):identB (oldA k).type.data.toList=true:=by
  cases ho:oldP k.data.toList with
  | none=>rw [ho] at h;cases h
  | some a=>
    have:oldA k=a:=by rw [oldA,ho];rfl
    rw [this];rw [old_eq] at ho;exact (Save.right_parts (old_key ho).2.2.2).2.2.1
theorem prov_valid {k:ByteArray} (h:(oldP k.data.toList).isSome=true):Utf.validB (provB (oldA k).type).data.toList=true:=by
  have hi:=ident_in (old_type h);refine txt_valid2 (txt_low _ fun c hc=>?_);have hc:c∈provL (oldA k).type.data.toList:=by
    have:(provB (oldA k).type).data.toList=provL (oldA k).type.data.toList:=by simp [provB]
    rw [this] at hc;exact hc
  have:=id_low ⟨c.toNat,c.toNat_lt⟩;simp only [UInt8.ofNat_toNat] at this
  exact this (hi c (prov_sub _ c hc))
theorem ress_parts {ks:List ByteArray} {r:JV} (h:ressB ks r=true):kindOf r=6/\(∀ k∈keysJ r,(oldP k.data.toList).isSome=true)/\∀ v∈kidsJ r,resB ks v=true:=by
  unfold ressB at h;simp only [Bool.and_eq_true,decide_eq_true_eq,List.all_eq_true] at h
  exact ⟨h.1,h.2.1,h.2.2⟩
theorem res_parts {ks:List ByteArray} {r:JV} (h:resB ks r=true):(∀ x∈ks,(look r x).isSome=true)/\eachB textB (got r kAtt)=true/\∀ x∈ks,x=kAtt∨textB (got r x)=true:=by
  unfold resB at h;simp only [Bool.and_eq_true,List.all_eq_true,Bool.or_eq_true,decide_eq_true_eq] at h
  exact ⟨of_look h.1,h.2.1,h.2.2⟩
theorem goodq_keys {t:JV} (h:GoodQ t) (h6:kindOf t=6):(keysJ t).length=(kidsJ t).length/\(keysJ t).Nodup/\∀ x∈keysJ t,Utf.validB x.data.toList=true:=by
  cases h with
  | mk k i n d e s ks vs o f=>exact ⟨o.both h6,o.apart,o.words⟩
theorem keys_apart3p:[kProv,kId,kAtt].Nodup:=by decide
theorem field_kind (r:Raw):∀ w,Sem.run Tryz.prog (Instr.field 29 (.agg #[.int .i64 r.kind,.bool r.is,.bool r.neg,.string r.dig,.int .i64 r.exp,.string r.str,.slice r.ka r.kn r.kc,.slice r.va r.vn r.vc]) 0) w=.ok (.int .i64 r.kind) w:=fun _=>by kernel_rfl
theorem res_ask2 (r:JV):resB [kId,kAtt] r=(ofB r [kId,kAtt] && (textB (got r kId) && eachB textB (got r kAtt))):=by
  unfold resB;simp only [List.all_cons,List.all_nil,Bool.and_true,decide_true,Bool.true_or]
  rw [show decide (kId=kAtt)=false by decide,Bool.false_or];cases ofB r [kId,kAtt] <;> cases textB (got r kId) <;> cases eachB textB (got r kAtt) <;> rfl
theorem dres_any (t:JV) (hg:GoodQ t) (hm:t.mass<=3000) (ra:Raw) (A:Nat->Prop) (w:World) (hi:IsV w A ra t):Calls Tryz.prog 154 #[ra.val] w (BoolP (resB [kId,kAtt] t) w):=by
  rw [res_ask2];obtain ⟨w2,hw2,V2,B2⟩:=own8 w ra;obtain ⟨w3,hw3,X3,B3⟩:=two_new w2 kId kAtt;have B03:=bel B2 B3;obtain ⟨b1,hb1⟩:∃ b,ofB t [kId,kAtt]=b:=⟨_,rfl⟩;have h1:=dof_any t hg hm ra A _ w3 (hi.behind B03.out) [kId,kAtt] (by decide) (some ⟨w2.heap.size,0,none⟩) 2 X3.out;rw [hb1] at h1 ⊢;have H1:=Hid.out (p:=Hid _) h1;have HG:Hid (∀ (w':World) (x:ByteArray),Below w.heap.size w w'->Calls Tryz.prog 58 #[ra.val,.string x] w' (ValP (got t x) (fun _=>True) w')):=fun w' x hb=>dget_any hg hm (hi.behind hb) x;have HM:Hid ((got t kAtt).mass<=3000):=by have:=got_mass t kAtt;rw [Hid];omega
  have HA:Hid (∀ (u:JV) (w':World) (rr:Raw),u.mass<=3000->IsV w' (fun _=>True) rr u->Calls Tryz.prog 68 #[rr.val,.func (.func 153) #[] #[]] w' (BoolP ((kidsJ u).all textB) w')):=fun u w' rr hu hr=>
    dall_any 153 (enters_of Tryz.func153 (by kernel_rfl) rfl) textB u hu rr _ w' hr fun v _ r2 w'' _ h=>dwritten_any v r2 _ w'' h
  clear hi hg hm hb1 h1;have V23:=hst V2 B3;unfold Raw.val at H1 HG ⊢;obtain ⟨⟨x0,x1,x2,x3,x4,x5,x6,x7⟩,_⟩:=val_cells V2.out;unfold kId kAtt at hw3;go_enter Tryz.func154,Tryz.ntmps154
  go_wp2_with fail
  refine (Calls.mono H1.out ?_);rintro z w4 hz;obtain ⟨rfl,B4⟩:=hz.to;have B04:=bel B03 B4;have V4:=hst V23 B4;clear hz x0 x1 x2 x3 x4 x5 x6 x7 hw2 hw3;cases b1
  case false=>
    go_wp2_with fail
    go_ret
    exact ⟨rfl,B04.out⟩
  obtain ⟨⟨x0,x1,x2,x3,x4,x5,x6,x7⟩,_⟩:=val_cells V4.out;have H2:=Hid.out (p:=Hid _) (HG.out w4 kId B04.out);unfold kId at H2;go_wp2_with fail
  refine (Calls.mono H2.out ?_);rintro z w5 hz;obtain ⟨r5,rfl,I5,B5⟩:=hz.to;have B05:=bel B04 B5;have V5:=hst V4 B5;clear hz H2 x0 x1 x2 x3 x4 x5 x6 x7;obtain ⟨v,hv⟩:∃ v,got t kId=v:=⟨_,rfl⟩;have HV:=Hid.out (p:=Hid _) hv;rw [show got t ⟨#[105,100]⟩=got t kId from rfl,hv] at I5;clear hv
  cases v with
  | mk k is ng d e s ks vs=>
  obtain ⟨ka,kc,va,vc,rfl,_,_,_,_⟩:=I5.out.parts;have hfl:=field_kind (Raw.mk k is ng d e s ka ks.length kc va vs.length vc)
  dsimp only at hfl
  clear I5;unfold Raw.val
  dsimp only
  by_cases h4:k=4
  case neg=>
    have nk:(k != 4)=true:=by rw [bne_iff_ne];exact h4
    have hf:textB (.mk k is ng d e s ks vs)=false:=decide_eq_false h4;go_wp2_with fail
    go_ret
    exact ⟨by rw [HV.out,hf];rfl,B05.out⟩
  subst h4;have H3:=Hid.out (p:=Hid _) (HG.out w5 kAtt B05.out);unfold kAtt at H3;obtain ⟨⟨x0,x1,x2,x3,x4,x5,x6,x7⟩,_⟩:=val_cells V5.out;go_wp2_with fail
  clear hfl;refine (Calls.mono H3.out ?_);rintro z w6 hz;obtain ⟨r6,rfl,I6,B6⟩:=hz.to;have B06:=bel B05 B6;clear hz H3 x0 x1 x2 x3 x4 x5 x6 x7;obtain ⟨u,hu⟩:∃ u,got t kAtt=u:=⟨_,rfl⟩;have HU:=Hid.out (p:=Hid _) hu;rw [show got t ⟨#[97,116,116,114,105,98,117,116,101,115]⟩=got t kAtt from rfl,hu] at I6;rw [hu] at HM;clear hu;obtain ⟨w7,hw7,V7,B7⟩:=own8 w6 r6;have I7:=kp I6 B7;have B07:=bel B06 B7
  cases u with
  | mk k2 is2 ng2 d2 e2 s2 ks2 vs2=>
  obtain ⟨ka2,kc2,va2,vc2,rfl,_,_,_,_⟩:=I7.out.parts;have HAA:=Hid.out (p:=Hid _) (HA.out _ w7 _ HM.out I7.out);clear HA I6 I7;unfold Raw.val at HAA ⊢
  dsimp only at HAA hw7 ⊢
  obtain ⟨⟨x0,x1,x2,x3,x4,x5,x6,x7⟩,_⟩:=val_cells V7.out;by_cases h6:k2=6
  case neg=>
    have nk:(k2 == 6)=false:=by rw [beq_eq_false_iff_ne];exact h6
    have hf:eachB textB (.mk k2 is2 ng2 d2 e2 s2 ks2 vs2)=false:=by
      unfold eachB;rw [show kindOf (.mk k2 is2 ng2 d2 e2 s2 ks2 vs2)=k2 from rfl,decide_eq_false h6];rfl
    go_wp2_with fail
    go_ret
    exact ⟨by rw [HU.out,hf,Bool.and_false];rfl,B07.out⟩
  subst h6;go_wp2_with fail
  refine (Calls.mono HAA.out ?_);rintro z w8 hz;obtain ⟨rfl,B8⟩:=hz.to;obtain ⟨q,hq⟩:∃ q,(kidsJ (.mk 6 is2 ng2 d2 e2 s2 ks2 vs2)).all textB=q:=⟨_,rfl⟩;have HQ:Hid ((true && (textB (got t kId) && eachB textB (got t kAtt)))=q):=by
    rw [Hid,HV.out,HU.out,<-hq];rfl
  rw [hq];clear hz hq x0 x1 x2 x3 x4 x5 x6 x7;cases q
  all_goals
    go_wp2_with fail
    go_ret
    exact ⟨by rw [HQ.out];rfl,(bel B07 B8).out⟩
theorem dress_any (t:JV) (hg:GoodQ t) (hf:Fine t) (hm:t.mass<=3000) (ra:Raw) (A:Nat->Prop) (w:World) (hi:IsV w A ra t) (T:TabsP w):Calls Tryz.prog 111 #[ra.val] w (BoolP (ressB [kId,kAtt] t) w):=by
  have HE:Hid (∀ w',Below w.heap.size w w'->Calls Tryz.prog 68 #[ra.val,.func (.func 154) #[] #[]] w' (BoolP ((kidsJ t).all (resB [kId,kAtt])) w')):=fun w' h=>
    dall_any 154 (enters_of Tryz.func154 (by kernel_rfl) rfl) (resB [kId,kAtt]) t hm ra A w' (hi.behind h) fun v hv rr w'' _ hr=>dres_any v (GoodQ.kids hg v hv) (by have:=mass_kid hv;omega) rr _ w'' hr
  obtain ⟨ok,hok⟩:∃ b,ressB [kId,kAtt] t=b:=⟨_,rfl⟩;rw [hok];obtain ⟨oe,hoe⟩:∃ b,(kidsJ t).all (resB [kId,kAtt])=b:=⟨_,rfl⟩;rw [hoe] at HE;have HR:Hid (ok=(decide (kindOf t=6) && ((keysJ t).all (fun k=>(oldP k.data.toList).isSome) && oe))):=by
    rw [Hid,<-hok,<-hoe];unfold ressB
    rfl
  cases t with
  | mk k is ng d e s ks vs=>
  obtain ⟨ka,kc,va,vc,rfl,ht,_,_,_⟩:=hi.parts;have hz:∀ x∈ks,x.size<=6000:=by cases hf with | mk _ _ _ _ _ _ _ _ _ _ f3 _=>exact f3
  obtain ⟨w2,hw2,V2,B2⟩:=own8 w (Raw.mk k is ng d e s ka ks.length kc va vs.length vc);rw [mass_mk] at hm;have HOLD:Hid (∀ x∈ks,∀ w',Below w.heap.size w w'->Calls Tryz.prog 61 #[.string x] w' (APost (oldP x.data.toList) w')):=fun x hx w' h=>old_any x w' (hz x hx) (T.stays h);have HTX:Hid (∀ w',Below w.heap.size w w'->IsTexts w' A ka ks):=fun w' h=>ht.turn (Turn.below h);have HKL:Hid (ks.length<=3000):=by rw [Hid];omega
  have HR0:Hid (ok=(decide (k=6) && (ks.all (fun k=>(oldP k.data.toList).isSome) && oe))):=HR.out;clear hi hg hf hm hok hoe ht hz T HR;unfold Raw.val at HE ⊢;obtain ⟨⟨x0,x1,x2,x3,x4,x5,x6,x7⟩,_⟩:=val_cells V2.out;by_cases h6:k=6
  case neg=>
    have nk:(k != 6)=true:=by rw [bne_iff_ne];exact h6
    obtain rfl:ok=false:=by rw [HR0.out,decide_eq_false h6];rfl
    go_enter Tryz.func111,Tryz.ntmps111
    go_wp2_with fail
    go_ret
    exact ⟨rfl,B2.out⟩
  subst h6;have HR:Hid (ok=(ks.all (fun k=>(oldP k.data.toList).isSome) && oe)):=by rw [Hid,HR0.out];rfl
  clear HR0;go_enter Tryz.func111,Tryz.ntmps111
  go_wp2_with fail
  clear x0 x1 x2 x3 x4 x5 x6 x7
  go_loopw [13] (fun p wr=>∃ i:Nat,p=.int .i64 i/\i<=ks.length/\Hid ((ks.take i).all (fun k=>(oldP k.data.toList).isSome)=true)/\Hid (Below w2.heap.size w2 wr)) (fun p _=>ks.length-(intOf p).toNat)
  case atStart=>exact ⟨0,rfl,Nat.zero_le _,rfl,Below.refl _ _⟩
  case round=>
    obtain ⟨i,rfl,hi,hA,hB⟩:=hrel;have hkl:=HKL.out;have B3:=bel B2 hB;by_cases hlt:i<ks.length
    · have hne:ks≠[]:=fun e=>by rw [e] at hlt;simp at hlt
      obtain ⟨kb,ko,rfl,_,hkb,hkc⟩:=(HTX.out wr B3.out).resolve_left hne;have c1:=hkc i hlt;have htk:ks.take (i+1)=ks.take i++[ks[i]]:=by rw [List.take_add_one,List.getElem?_eq_getElem hlt];rfl
      have HO:=Hid.out (p:=Hid _) (HOLD.out ks[i] (List.getElem_mem hlt) wr B3.out);obtain ⟨b,hb⟩:∃ b,(oldP ks[i].data.toList).isSome=b:=⟨_,rfl⟩;have HM:Hid (b=true->(ks.take (i+1)).all (fun k=>(oldP k.data.toList).isSome)=true):=fun h=>by rw [htk,List.all_append,hA.out,List.all_cons,List.all_nil,hb,h];rfl
      have HF:Hid (b=false->ok=false):=fun h=>by
        rw [HR.out,Bool.and_eq_false_iff];left
        rw [List.all_eq_false];exact ⟨ks[i],List.getElem_mem hlt,by rw [hb,h];simp⟩
      obtain ⟨a,ha⟩:∃ a,(oldP ks[i].data.toList).getD zeroA=a:=⟨_,rfl⟩;have HB:=Hid.out (p:=Hid _) hb;have HAA:=Hid.out (p:=Hid _) ha;clear hkc htk hb ha;generalize ks[i]=x at *;go_wp2_with fail
      refine (Calls.mono HO.out ?_);rintro z w4 hz;obtain ⟨er,her⟩:∃ er:Int,(if b then (0:Int) else 3)=er:=⟨_,rfl⟩;obtain ⟨pa,pc,rfl,_,B4⟩:=hz.to a HAA.out er (by rw [HB.out,her]);obtain ⟨w5,hw5,V5,B5⟩:=adr_new w4 pa pc a;have B25:=bel (bel hB B4) B5;clear hz;cases b
      case false=>
        obtain rfl:3=er:=her;obtain rfl:=HF.out rfl;go_wp2_with fail
        go_ret
        exact ⟨rfl,(bel B2 B25).out⟩
      case true=>
        obtain rfl:0=er:=her;have M:=Hid.out (p:=Hid _) (HM.out rfl);clear HM HF;go_wp2_with fail
        go_roundw
        case rel=>exact ⟨i+1,by go_num,by omega,M.out,B25.out⟩
        case measure=>simp [intOf];omega
    · have HQ:Hid (ok=oe):=by
        have:=hA.out;rw [List.take_of_length_le (by omega)] at this;rw [Hid,HR.out,this,Bool.true_and]
      have V3:=hst V2 hB;have HEC:=Hid.out (p:=Hid _) (HE.out wr B3.out);obtain ⟨⟨x0,x1,x2,x3,x4,x5,x6,x7⟩,_⟩:=val_cells V3.out;go_wp2_with fail
      refine (Calls.mono HEC.out ?_);rintro z w4 hz;obtain ⟨rfl,B4⟩:=hz.to;go_wp2_with fail
      go_ret
      exact ⟨by rw [HQ.out];rfl,(bel B3 B4).out⟩
end Go.Proofs.YtliekocamnklfaaGreatDoor.One
