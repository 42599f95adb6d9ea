/- tabulariumlaw20.wakes. -/
import Derived.Test.YtliekocamnklfaaGreatDoorPTvE
import Derived.Test.YtliekocamnklfaaGreatDoorPTvK
import Derived.Test.YtliekocamnklfaaGreatDoorPOnY
set_option linter.unusedVariables false
set_option linter.unusedSimpArgs false
set_option maxRecDepth 100000
set_option maxHeartbeats 4000000
namespace Go.Proofs.YtliekocamnklfaaGreatDoor.One
open Go.RowKit Strs Jdec Save Go.Proofs.YtliekocamnklfaaGreatDoor.Addr
theorem prov_1:provB ⟨#[97,119,115,95,116,104,105,110,103]⟩=⟨#[97,119,115]⟩:=by decide +kernel
theorem prov_2:provB ⟨#[120]⟩=⟨#[120]⟩:=by decide +kernel
theorem prov_3:provB ⟨#[95,121]⟩=⟨#[95,121]⟩:=by decide +kernel
theorem wakes20 (w:World):Calls Tryz.prog 19 #[] w (BoolP true w):=by
  have h1:∀ w',_:=fun w'=>dprov_any ⟨#[97,119,115,95,116,104,105,110,103]⟩ (by decide) w';have h2:∀ w',_:=fun w'=>dprov_any ⟨#[120]⟩ (by decide) w';have h3:∀ w',_:=fun w'=>dprov_any ⟨#[95,121]⟩ (by decide) w';rw [prov_1] at h1;rw [prov_2] at h2;rw [prov_3] at h3;have H1:=Hid.out (p:=Hid _) h1;have H2:=Hid.out (p:=Hid _) h2;have H3:=Hid.out (p:=Hid _) h3;clear h1 h2 h3;go_enter Tryz.func19,Tryz.ntmps19
  go_wp2_with fail
  refine (Calls.mono (H1.out _) ?_);rintro z w2 ⟨rfl,hb2⟩;have B2:=Hid.out (p:=Hid _) hb2;clear hb2;go_wp2_with fail
  refine (Calls.mono (H2.out _) ?_);rintro z w3 ⟨rfl,hb3⟩;have B3:=bel B2 (Hid.out (p:=Hid _) hb3);clear hb3;go_wp2_with fail
  refine (Calls.mono (H3.out _) ?_);rintro z w4 ⟨rfl,hb4⟩;have B4:=bel B3 (Hid.out (p:=Hid _) hb4);clear hb4;go_wp2_with fail
  go_ret
  exact ⟨rfl,B4.out⟩
theorem saysT {f:FuncId} {args:Array Value} {w:World} {Q:Prop} (h:Calls Tryz.prog f args w (IsPost Q w)) (hq:Q):Calls Tryz.prog f args w (BoolP true w):=
  h.mono fun e w' k=>by
    obtain ⟨b,h1,h2,h3⟩:=k;rw [h2.2 hq] at h1;exact ⟨h1,h3⟩
theorem saysF {f:FuncId} {args:Array Value} {w:World} {Q:Prop} (h:Calls Tryz.prog f args w (IsPost Q w)) (hq:¬ Q):Calls Tryz.prog f args w (BoolP false w):=
  h.mono fun e w' k=>by
    obtain ⟨b,h1,h2,h3⟩:=k
    cases b with
    | false=>exact ⟨h1,h3⟩
    | true=>exact absurd (h2.1 rfl) hq
set_option maxHeartbeats 16000000
theorem rmods_any (vn:Nat) (js:List ByteArray) (hj:js.length<=10) (t:JV) (hf:Fine t) (hm:t.mass<=3000) (hd:t.deepN<=1000) (ra:Raw) (A B:Nat->Prop) (w:World) (hi:IsV w A ra t) (ja:Option Addr) (jc:Nat) (ht:IsTexts w B ja js):Calls Tryz.prog 70 #[ra.val,.int .u64 vn,.slice ja js.length jc] w (IsPost (TR t/\modsB vn js t=true) w):=by
  obtain ⟨w2,hw2,V2,B2⟩:=own8 w ra;obtain ⟨w3,hw3,X3,B3⟩:=dfour_new w2 kVer kSer kLin kMod;have B03:=bel B2 B3;have V3:=hst V2 B3;have H1:=Hid.out (p:=Hid _) (rhead_any vn kFour (by decide) (by simp [kFour]) (by simp [kFour]) t hf hm hd ra A _ w3 (hi.behind B03.out) (some ⟨w2.heap.size,0,none⟩) 4 X3.out);have HOF:Hid (GoodQ t->∀ w' x,Below w.heap.size w w'->Calls Tryz.prog 26 #[ra.val,.string x] w' (OfP t x A w')):=fun hg w' x h=>rof_any t hg hm ra A w' (hi.behind h) x;have HTX:Hid (∀ w',Below w.heap.size w w'->IsTexts w' B ja js):=fun w' h=>ht.turn (Turn.below h);obtain ⟨Q,hQ⟩:∃ Q,TR t=Q:=⟨_,rfl⟩;have HG:Hid (Q->GoodQ t):=by rw [Hid,<-hQ];exact fun h=>h.1
  obtain ⟨h1,hh1⟩:∃ b,headB vn kFour t=b:=⟨_,rfl⟩;obtain ⟨tl,htl⟩:∃ x,got t kLin=x:=⟨_,rfl⟩;obtain ⟨tm,htm⟩:∃ x,got t kMod=x:=⟨_,rfl⟩;have HTL:=Hid.out (p:=Hid _) htl;have HTM:=Hid.out (p:=Hid _) htm;have HM:Hid (modsB vn js t=(h1 && (textB tl && (decide (kindOf tm=5) && (kidsJ tm).all (modB js))))):=by rw [Hid,modsB,hh1,htl,htm]
  have HGM:Hid (Q->h1=true->GoodQ tm/\Fine tm/\tm.mass<=3000):=fun q e=>by
    rw [<-hQ] at q;rw [<-hh1] at e;unfold headB at e;rw [<-htm];exact ⟨got_good q.1 (of_look (Bool.and_eq_true _ _ ▸ e).1 kMod (by simp [kFour])),got_fine hf _,by have:=got_mass t kMod;omega⟩
  rw [hQ,hh1] at H1;rw [hQ];clear hi hf hm hd ht hQ hh1 htl htm;obtain ⟨P,hP⟩:∃ P,(Q/\modsB vn js t=true)=P:=⟨_,rfl⟩;rw [hP];have HP:Hid (P↔Q/\(h1 && (textB tl && (decide (kindOf tm=5) && (kidsJ tm).all (modB js))))=true):=by rw [Hid,<-hP,HM.out]
  clear hP HM;unfold Raw.val at H1 HOF ⊢;unfold kVer kSer kLin kMod at hw3;obtain ⟨⟨x0,x1,x2,x3,x4,x5,x6,x7⟩,_⟩:=val_cells V2.out;go_enter Tryz.func70,Tryz.ntmps70
  go_wp2_with fail
  refine (Calls.mono H1.out ?_);rintro z w4 ⟨b,rfl,hb,hb4⟩;have HB:=Hid.out (p:=Hid _) hb;have E4:=Hid.out (p:=Hid _) hb4;have B4:=bel B03 E4;have V4:=hst V3 E4;clear hb hb4 x0 x1 x2 x3 x4 x5 x6 x7 hw2 hw3 H1 X3;cases b
  case false=>
    go_wp2_with fail
    go_ret
    exact .no rfl (fun h=>by
      have h:=HP.out.1 h;simp only [Bool.and_eq_true] at h
      have:=HB.out.2 ⟨h.1,h.2.1⟩;cases this) B4.out
  have HQ:Hid (Q/\h1=true):=HB.out.1 rfl;have HGQ:=Hid.out (p:=Hid _) (HGM.out HQ.out.1 HQ.out.2);have C1:=Hid.out (p:=Hid _) (HOF.out (HG.out HQ.out.1) w4 kLin B4.out);unfold kLin at C1;obtain ⟨⟨x0,x1,x2,x3,x4,x5,x6,x7⟩,_⟩:=val_cells V4.out;go_wp2_with fail
  refine (Calls.mono C1.out ?_);rintro z w5 hz;obtain ⟨z1,rfl,i1,E5⟩:=hz.to;have B5:=bel B4 E5;have V5:=hst V4 E5;have hk1:kindOf tl=z1.kind:=by rw [<-HTL.out];exact kind_is i1.out
  have HK1:Hid (textB tl=decide (z1.kind=4)):=by rw [Hid,textB,hk1]
  have hfk:=field_kind z1;clear hz x0 x1 x2 x3 x4 x5 x6 x7 C1 i1 hk1;by_cases hk:z1.kind=4
  case neg=>
    have q1:(z1.kind != 4)=true:=by rw [bne_iff_ne];exact hk
    have HF:=Hid.out (p:=Hid _) hk;clear hk;unfold Raw.val;go_wp2_with fail
    go_ret
    exact .no rfl (fun h=>by
      have h:=(HP.out.1 h).2;rw [HK1.out,decide_eq_false HF.out] at h;simp at h) B5.out
  have q1:(z1.kind != 4)=false:=by rw [bne_eq_false_iff_eq];exact hk
  have HTL2:Hid (textB tl=true):=by rw [Hid,HK1.out,decide_eq_true hk]
  clear hk HK1;have C2:=Hid.out (p:=Hid _) (HOF.out (HG.out HQ.out.1) w5 kMod B5.out);unfold kMod at C2;obtain ⟨⟨x0,x1,x2,x3,x4,x5,x6,x7⟩,_⟩:=val_cells V5.out;unfold Raw.val;go_wp2_with fail
  refine (Calls.mono C2.out ?_);rintro z w6 hz;obtain ⟨z2,rfl,i2,E6⟩:=hz.to;have i2:Hid (IsV w6 A z2 tm):=by rw [<-HTM.out];exact i2
  obtain ⟨w7,hw7,V7,B7⟩:=own8 w6 z2;have B57:=bel E6 B7;have B67:=bel B5 B57;clear hz x0 x1 x2 x3 x4 x5 x6 x7 C2 hfk q1
  cases tm with
  | mk k is ng d e s ks vs=>
  obtain ⟨ka,kc,va,vc,rfl,_,F,hc,hv⟩:=i2.out.parts;have HC:=Hid.out (p:=Hid _) hc;have HV:=Hid.out (p:=Hid _) hv;have hgq:=HGQ.out;have hml:=hgq.2.2;rw [mass_mk] at hml;have hvl:=masses_len vs;have HVL:Hid (vs.length<=3000):=by rw [Hid];omega
  have HMD:Hid (∀ i (h:i<vs.length),GoodQ vs[i]/\Fine vs[i]/\vs[i].mass<=3000):=fun i h=>⟨GoodQ.kids hgq.1 _ (List.getElem_mem h),fine_kid hgq.2.1 (List.getElem_mem h),by have:=mass_kid (t:=.mk k is ng d e s ks vs) (v:=vs[i]) (List.getElem_mem h);omega⟩;clear hc hv hgq hml hvl i2
  dsimp only at hw7
  unfold Raw.val;obtain ⟨⟨x0,x1,x2,x3,x4,x5,x6,x7⟩,_⟩:=val_cells V7.out
  dsimp only at x0 x7
  clear x1 x2 x3 x4 x5 x6;by_cases h5:k=5
  case neg=>
    have q1:(k != 5)=true:=by rw [bne_iff_ne];exact h5
    have HF:=Hid.out (p:=Hid _) h5;clear h5;go_wp2_with fail
    go_ret
    exact .no rfl (fun h=>by
      have h:=(HP.out.1 h).2;rw [show kindOf (.mk k is ng d e s ks vs)=k from rfl,decide_eq_false HF.out] at h;simp at h) B67.out
  subst h5;have q1:((5:Int) != 5)=false:=by decide
  have HP2:Hid (P↔vs.all (modB js)=true):=by
    rw [Hid,HP.out];have e:(h1 && (textB tl && (decide (kindOf (.mk 5 is ng d e s ks vs)=5) && (kidsJ (.mk 5 is ng d e s ks vs)).all (modB js))))=vs.all (modB js):=by
      rw [HQ.out.2,HTL2.out];rfl
    rw [e];exact ⟨fun h=>h.2,fun h=>⟨HQ.out.1,h⟩⟩
  go_wp2_with fail
  clear x0 x7 hw7 q1
  go_loopw [8] (fun p wr=>∃ i:Nat,p=.int .i64 i/\i<=vs.length/\Hid ((vs.take i).all (modB js)=true)/\Hid (Below w7.heap.size w7 wr)) (fun p _=>vs.length-(intOf p).toNat)
  case atStart=>exact ⟨0,rfl,Nat.zero_le _,rfl,Below.refl _ _⟩
  case round=>
    obtain ⟨i,rfl,hi,hA,hB⟩:=hrel;have VR:=hst V7 hB;have BR:=bel B67 hB;have B6R:=bel B7 hB;have hvl:=HVL.out;obtain ⟨⟨x0,x1,x2,x3,x4,x5,x6,x7⟩,_⟩:=val_cells VR.out
    dsimp only at x7
    clear x0 x1 x2 x3 x4 x5 x6;by_cases hlt:i<vs.length
    · have hne:vs≠[]:=fun e=>by rw [e] at hlt;simp at hlt
      obtain ⟨g,o,rfl,hgb,hcs⟩:=HC.out.resolve_left hne;have K1:CellsAt wr g (o+i*8) (F i):=(hcs i hlt).below hgb B6R.out;have hmem:=List.getElem_mem hlt;obtain ⟨w8,hw8,V8,B8⟩:=own8 wr (F i);have IM:Hid (∀ W,Below w8.heap.size w8 W->Hid (IsV W A (F i) vs[i])):=fun W hW=>(((HV.out i hlt).behind B6R.out).behind B8.out).behind hW;obtain ⟨m,hmm⟩:∃ m,vs[i]=m:=⟨_,rfl⟩;have htk:vs.take (i+1)=vs.take i++[m]:=by rw [List.take_add_one,List.getElem?_eq_getElem hlt,hmm];rfl
      have HTK:Hid (modB js m=true->(vs.take (i+1)).all (modB js)=true):=fun h=>by rw [htk,List.all_append,hA.out,List.all_cons,List.all_nil,h];rfl
      have HF:Hid (modB js m=false->¬ P):=fun h hp=>by
        have h2:=HP2.out.1 hp;rw [List.all_eq_true] at h2;have:=h2 m (by rw [<-hmm];exact hmem);rw [h] at this;cases this
      have HMG:=Hid.out (p:=Hid _) (HMD.out i hlt);rw [hmm] at HMG IM;obtain ⟨w9,hw9,X9,B9⟩:=One.two_new w8 kPath kRes;have V9:=hst V8 B9;have B89:=bel B8 B9;have BR9:=bel BR B89;have H2:=Hid.out (p:=Hid _) (robject_any m HMG.out.1 HMG.out.2.2 (F i) A _ w9 (IM.out w9 B9.out).out [kPath,kRes] (by decide) (some ⟨w8.heap.size,0,none⟩) 2 X9.out);obtain ⟨bo,hbo⟩:∃ b,ofB m [kPath,kRes]=b:=⟨_,rfl⟩;have HBO:=Hid.out (p:=Hid _) hbo;rw [hbo] at H2;obtain ⟨u0,u1,u2,u3,u4,u5,u6,u7⟩:=K1.eight;generalize F i=z at *;clear htk hmm hbo hcs K1 hmem;unfold Raw.val at H2;unfold kPath kRes at hw9;obtain ⟨⟨y0,y1,y2,y3,y4,y5,y6,y7⟩,_⟩:=val_cells V8.out;go_wp2_with fail
      clear y0 y1 y2 y3 y4 y5 y6 y7;refine (Calls.mono H2.out ?_);rintro zz w10 hz;obtain ⟨rfl,E10⟩:=hz.to;have B10:=bel BR9 E10;have V10:=hst V9 E10;have E8:=bel B9 E10;have B7A:=bel (bel hB B89) E10;clear hz u0 u1 u2 u3 u4 u5 u6 u7 hw8 hw9 H2 X9 x7;cases bo
      case false=>
        have hp:=HF.out (by unfold modB;rw [HBO.out];rfl);have HNP:=Hid.out (p:=Hid _) hp;clear hp;go_wp2_with fail
        go_ret
        exact .no rfl HNP.out B10.out
      have hlk:=of_look HBO.out;have GP:Hid (GoodQ (got m kPath)/\Fine (got m kPath)/\(got m kPath).mass<=3000):=⟨got_good HMG.out.1 (hlk kPath (by simp)),got_fine HMG.out.2.1 _,by have:=got_mass m kPath;have:=HMG.out.2.2;omega⟩;have GR:Hid (GoodQ (got m kRes)/\Fine (got m kRes)/\(got m kRes).mass<=3000):=⟨got_good HMG.out.1 (hlk kRes (by simp)),got_fine HMG.out.2.1 _,by have:=got_mass m kRes;have:=HMG.out.2.2;omega⟩;have H3:=Hid.out (p:=Hid _) (rof_any m HMG.out.1 HMG.out.2.2 z A w10 (IM.out w10 E8.out).out kPath);obtain ⟨⟨x0,x1,x2,x3,x4,x5,x6,x7⟩,_⟩:=val_cells V10.out;clear hlk;unfold Raw.val kPath at H3;go_wp2_with fail
      refine (Calls.mono H3.out ?_);rintro zz w11 hz;obtain ⟨z3,rfl,i3,E11⟩:=hz.to;have H4:=Hid.out (p:=Hid _) (rpath_any (got m kPath) GP.out.2.1 GP.out.2.2 z3 A w11 i3.out);clear hz H3 x0 x1 x2 x3 x4 x5 x6 x7;unfold Raw.val at H4 ⊢;go_wp2_with fail
      refine (Calls.mono H4.out ?_);rintro zz w12 hz;obtain ⟨pa,pc,l,rfl,hl,_,E12⟩:=hz.to;have E10b:=bel E11 E12;have B12:=bel B10 E10b;have V12:=hst V10 E10b;have E8b:=bel E8 E10b;have B7B:=bel B7A E10b;obtain ⟨bp,hbp⟩:∃ b,pathB (got m kPath)=b:=⟨_,rfl⟩;rw [hbp];have HBP:=Hid.out (p:=Hid _) hbp;clear hz H4 i3 hl hbp;cases bp
      case false=>
        have hp:=HF.out (by unfold modB;rw [HBO.out,HBP.out];rfl);have HNP:=Hid.out (p:=Hid _) hp;clear hp;go_wp2_with fail
        go_ret
        exact .no rfl HNP.out B12.out
      have H5:=Hid.out (p:=Hid _) (rof_any m HMG.out.1 HMG.out.2.2 z A w12 (IM.out w12 E8b.out).out kRes);obtain ⟨⟨x0,x1,x2,x3,x4,x5,x6,x7⟩,_⟩:=val_cells V12.out;unfold Raw.val kRes at H5;go_wp2_with fail
      refine (Calls.mono H5.out ?_);rintro zz w13 hz;obtain ⟨z5,rfl,i5,E13⟩:=hz.to;have B13:=bel B12 E13;have H6:=Hid.out (p:=Hid _) (rress_any js hj (got m kRes) GR.out.1 GR.out.2.1 GR.out.2.2 z5 A B w13 i5.out ja jc (HTX.out w13 B13.out));obtain ⟨br,hbr⟩:∃ b,ressB js (got m kRes)=b:=⟨_,rfl⟩;rw [hbr] at H6;have HBR:=Hid.out (p:=Hid _) hbr;clear hz H5 x0 x1 x2 x3 x4 x5 x6 x7 i5 hbr;unfold Raw.val at H6 ⊢;go_wp2_with fail
      refine (Calls.mono H6.out ?_);rintro zz w14 hz;obtain ⟨rfl,E14⟩:=hz.to;have B14:=bel B13 E14;have B7C:=bel B7B (bel E13 E14);have hmb:modB js m=br:=by unfold modB;rw [HBO.out,HBP.out,HBR.out];rfl
      have HMB:=Hid.out (p:=Hid _) hmb;clear hz H6 hmb;cases br
      case false=>
        have hp:=HF.out HMB.out;have HNP:=Hid.out (p:=Hid _) hp;clear hp;go_wp2_with fail
        go_ret
        exact .no rfl HNP.out B14.out
      have M:=Hid.out (p:=Hid _) (HTK.out HMB.out);go_wp2_with fail
      go_roundw
      case rel=>exact ⟨i+1,by go_num,by omega,M.out,B7C.out⟩
      case measure=>simp [intOf];omega
    · have HPY:Hid P:=HP2.out.2 (by rw [<-hA.out,List.take_of_length_le (by omega)]);go_wp2_with fail
      go_ret
      exact ⟨true,rfl,⟨fun _=>HPY.out,fun _=>rfl⟩,BR.out⟩
theorem rtwo_right (t:JV) (hf:Fine t) (hm:t.mass<=3000) (hd:t.deepN<=1000) (ra:Raw) (A:Nat->Prop) (w:World) (hi:IsV w A ra t):Calls Tryz.prog 22 #[ra.val] w (IsPost (TwoQ t) w):=by
  obtain ⟨w2,hw2,V2,B2⟩:=own8 w ra;obtain ⟨w3,hw3,X3,B3⟩:=One.two_new w2 kId kAtt;have B03:=bel B2 B3;have H1:Hid (Calls Tryz.prog 70 #[ra.val,.int .u64 2,.slice (some ⟨w2.heap.size,0,none⟩) 2 2] w3 (IsPost (TwoQ t) w3)):=rmods_any 2 [kId,kAtt] (by decide) t hf hm hd ra A _ w3 (hi.behind B03.out) (some ⟨w2.heap.size,0,none⟩) 2 X3.out;obtain ⟨P,hP⟩:∃ P,TwoQ t=P:=⟨_,rfl⟩;rw [hP] at H1 ⊢;clear hi hf hm hd hP;unfold Raw.val at H1 ⊢;unfold kId kAtt at hw3;obtain ⟨⟨x0,x1,x2,x3,x4,x5,x6,x7⟩,_⟩:=val_cells V2.out;go_enter Tryz.func22,Tryz.ntmps22
  go_wp2_with fail
  refine (Calls.mono H1.out ?_);rintro z w4 ⟨b,rfl,hb,hb4⟩;have HB:=Hid.out (p:=Hid _) hb;have B4:=bel B03 (Hid.out (p:=Hid _) hb4);clear hb hb4;go_wp2_with fail
  go_ret
  exact ⟨b,rfl,HB.out,B4.out⟩
end Go.Proofs.YtliekocamnklfaaGreatDoor.One
