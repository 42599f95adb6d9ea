/- one.version, one.serial, one.written, one.resource, one.resources, one.Right. -/
import Derived.Test.YtliekocamnklfaaGreatDoorTTurW
import Derived.Test.YtliekocamnklfaaGreatDoorTOnC
import Derived.Test.YtliekocamnklfaaGreatDoorTOnA
import Derived.Test.YtliekocamnklfaaGreatDoorTOnO
set_option linter.unusedVariables false
set_option linter.unusedSimpArgs false
set_option maxRecDepth 100000
set_option maxHeartbeats 4000000
namespace Go.Proofs.YtliekocamnklfaaGreatDoor.One
open Go.RowKit Strs Jdec Save Go.Proofs.YtliekocamnklfaaGreatDoor.Addr
theorem written_any (t:JV) (ra:Raw) (A:Nat->Prop) (w:World) (hi:IsV w A ra t):Calls Tryz.prog 142 #[ra.val] w (BoolP (textB t) w):=by
  cases t with
  | mk k is ng d e s ks vs=>
  obtain ⟨ka,kc,va,vc,rfl,_,_,_,_⟩:=hi.parts;obtain ⟨w2,hw2,V2,B2⟩:=own8 w (Raw.mk k is ng d e s ka ks.length kc va vs.length vc);have HK:Hid (textB (.mk k is ng d e s ks vs)=(k == 4)):=by
    show decide (k=4)=_;by_cases h:k=4
    · rw [decide_eq_true h,h];rfl
    · rw [decide_eq_false h,eq_comm,beq_eq_false_iff_ne];exact h
  clear hi;unfold Raw.val;obtain ⟨⟨x0,x1,x2,x3,x4,x5,x6,x7⟩,_⟩:=val_cells V2.out;go_enter Tryz.func142,Tryz.ntmps142
  go_wp2_with fail
  go_ret
  exact ⟨by rw [HK.out];rfl,B2.out⟩
theorem goodq_num {k:Int} {is ng:Bool} {d:ByteArray} {e:Int} {s:ByteArray} {ks:List ByteArray} {vs:List JV} (h:GoodQ (.mk k is ng d e s ks vs)):Num.right ng d.data.toList e=true:=by
  cases h with | mk _ _ _ _ _ _ _ _ o _=>exact o.right
theorem serial_any (t:JV) (hg:GoodQ t) (ra:Raw) (A:Nat->Prop) (w:World) (hi:IsV w A ra t) (T:ErrT w):Calls Tryz.prog 54 #[ra.val] w (BoolP (wholeJ t).isSome w):=by
  cases t with
  | mk k is ng d e s ks vs=>
  obtain ⟨ka,kc,va,vc,rfl,_,_,_,_⟩:=hi.parts;obtain ⟨w2,hw2,V2,B2⟩:=own8 w (Raw.mk k is ng d e s ka ks.length kc va vs.length vc);have HW:=Hid.out (p:=Hid _) (whole_any ng d e (goodq_num hg) w2 (T.stays B2.out));obtain ⟨r,hr⟩:∃ r,wholeN ng d.data.toList e=r:=⟨_,rfl⟩;rw [hr] at HW;obtain ⟨b,hb⟩:∃ b,(k == 3)=b:=⟨_,rfl⟩;have HK:Hid ((wholeJ (.mk k is ng d e s ks vs)).isSome=(b && r.isSome)):=by
    rw [Hid,wholeJ_mk,<-hb,hr];by_cases h:k=3
    · subst h;rfl
    · rw [if_neg h,show (k == 3)=false by rw [beq_eq_false_iff_ne];exact h];rfl
  have HR:Hid (∃ o,r.isSome=o):=⟨_,rfl⟩;obtain ⟨o,ho⟩:=HR.out;have HO:=Hid.out (p:=Hid _) ho;clear hi hg T hr HR ho;unfold Raw.val;obtain ⟨⟨x0,x1,x2,x3,x4,x5,x6,x7⟩,_⟩:=val_cells V2.out;go_enter Tryz.func54,Tryz.ntmps54
  go_wp2_with fail
  refine (Calls.mono HW.out ?_);rintro z w3 ⟨n,rfl,hn,hb3⟩;rw [HO.out];have B3:=bel B2 (Hid.out (p:=Hid _) hb3);have V3:=hst V2 (Hid.out (p:=Hid _) hb3);clear x0 x1 x2 x3 x4 x5 x6 x7 hb3 hn hw2;obtain ⟨⟨x0,x1,x2,x3,x4,x5,x6,x7⟩,_⟩:=val_cells V3.out;cases b <;> cases o
  all_goals
    go_wp2_with fail
    go_ret
    exact ⟨by rw [HK.out,HO.out] <;> rfl,B3.out⟩
theorem version_any (t:JV) (hg:GoodQ t) (ra:Raw) (A:Nat->Prop) (w:World) (hi:IsV w A ra t) (T:ErrT w):Calls Tryz.prog 53 #[ra.val] w (BoolP (decide (wholeJ t=some 1)) w):=by
  cases t with
  | mk k is ng d e s ks vs=>
  obtain ⟨ka,kc,va,vc,rfl,_,_,_,_⟩:=hi.parts;obtain ⟨w2,hw2,V2,B2⟩:=own8 w (Raw.mk k is ng d e s ka ks.length kc va vs.length vc);have HW:=Hid.out (p:=Hid _) (whole_any ng d e (goodq_num hg) w2 (T.stays B2.out));obtain ⟨r,hr⟩:∃ r,wholeN ng d.data.toList e=r:=⟨_,rfl⟩;rw [hr] at HW;obtain ⟨b,hb⟩:∃ b,(k == 3)=b:=⟨_,rfl⟩;have HK:Hid (∀ (n:Nat) (o c:Bool),(∀ m,r=some m->n=m)->r.isSome=o->((n:Int) == 1)=c->decide (wholeJ (.mk k is ng d e s ks vs)=some 1)=(b && o && c)):=fun n o c hn ho hc=>by
    rw [wholeJ_mk,<-hb,hr,<-ho,<-hc];by_cases h:k=3
    · subst h;rw [if_pos rfl]
      cases r with
      | none=>rfl
      | some m=>
        obtain rfl:=hn m rfl;show decide (some n=some 1)=((n:Int) == 1);by_cases h1:n=1
        · subst h1;rfl
        · rw [decide_eq_false (fun e=>h1 (by injection e)),eq_comm,beq_eq_false_iff_ne];omega
    · rw [if_neg h,show (k == 3)=false by rw [beq_eq_false_iff_ne];exact h];rfl
  obtain ⟨o,ho⟩:∃ o,r.isSome=o:=⟨_,rfl⟩;have HO:=Hid.out (p:=Hid _) ho;clear hi hg T hr ho;unfold Raw.val;obtain ⟨⟨x0,x1,x2,x3,x4,x5,x6,x7⟩,_⟩:=val_cells V2.out;go_enter Tryz.func53,Tryz.ntmps53
  go_wp2_with fail
  refine (Calls.mono HW.out ?_);rintro z w3 ⟨n,rfl,hn,hb3⟩;rw [HO.out];have HN:=Hid.out (p:=Hid _) hn;have B3:=bel B2 (Hid.out (p:=Hid _) hb3);have V3:=hst V2 (Hid.out (p:=Hid _) hb3);obtain ⟨c,hc⟩:∃ c,((n:Int) == 1)=c:=⟨_,rfl⟩;have HC:=Hid.out (p:=Hid _) hc;clear x0 x1 x2 x3 x4 x5 x6 x7 hb3 hn hw2;obtain ⟨⟨x0,x1,x2,x3,x4,x5,x6,x7⟩,_⟩:=val_cells V3.out;cases b <;> cases o
  all_goals
    go_wp2_with fail
    go_ret
    exact ⟨by rw [HK.out n _ c HN.out HO.out HC.out] <;> rfl,B3.out⟩
theorem texts_any (t:JV) (hm:t.mass<=3000) (ra:Raw) (A:Nat->Prop) (w:World) (hi:IsV w A ra t):Calls Tryz.prog 143 #[ra.val] w (BoolP (eachB textB t) w):=by
  obtain ⟨w2,hw2,V2,B2⟩:=own8 w ra;have HC:=Hid.out (p:=Hid _) (each_any 142 (enters_of Tryz.func142 (by kernel_rfl) rfl) textB t hm ra A w2 (hi.behind B2.out) fun v _ rr w' _ h=>written_any v rr _ w' h);clear hi;unfold Raw.val at HC ⊢;obtain ⟨⟨x0,x1,x2,x3,x4,x5,x6,x7⟩,_⟩:=val_cells V2.out;go_enter Tryz.func143,Tryz.ntmps143
  go_wp2_with fail
  refine (Calls.mono HC.out ?_);rintro z w3 hz;obtain ⟨rfl,B3⟩:=hz.to;go_wp2_with fail
  go_ret
  exact ⟨rfl,(bel B2 B3).out⟩
theorem two_new (w:World) (x y:ByteArray):∃ w1,w.alloc (.cells #[.string x,.string y] 9)=w1/\Hid (IsTexts w1 (fun _=>True) (some ⟨w.heap.size,0,none⟩) [x,y])/\Hid (Below w.heap.size w w1):=by
  refine ⟨_,rfl,.inr ⟨w.heap.size,0,rfl,trivial,by simp,fun i hi=>?_⟩,(Below.refl _ _).alloc (Nat.le_refl _) _⟩;have h:=heap_alloc_new w (.cells #[.string x,.string y] 9 (0,0))
  match i,hi with
  | 0,_=>exact cell_of h 0
  | 1,_=>exact cell_of h 1
theorem three_new (w:World) (x y u:ByteArray):∃ w1,w.alloc (.cells #[.string x,.string y,.string u] 9)=w1/\Hid (IsTexts w1 (fun _=>True) (some ⟨w.heap.size,0,none⟩) [x,y,u])/\Hid (Below w.heap.size w w1):=by
  refine ⟨_,rfl,.inr ⟨w.heap.size,0,rfl,trivial,by simp,fun i hi=>?_⟩,(Below.refl _ _).alloc (Nat.le_refl _) _⟩;have h:=heap_alloc_new w (.cells #[.string x,.string y,.string u] 9 (0,0))
  match i,hi with
  | 0,_=>exact cell_of h 0
  | 1,_=>exact cell_of h 1
  | 2,_=>exact cell_of h 2
theorem res_ask (r:JV):resB [kId,kAtt] r=(ofB r [kId,kAtt] && ((look r kId).isSome && textB (got r kId)) && ((look r kAtt).isSome && eachB textB (got r kAtt))):=by
  unfold resB
  cases h:ofB r [kId,kAtt] with
  | false=>rfl
  | true=>
    have h1:=of_look h kId (by simp);have h2:=of_look h kAtt (by simp);simp only [h1,h2,List.all_cons,List.all_nil,Bool.true_and,Bool.and_true,decide_true,Bool.true_or]
    rw [show decide (kId=kAtt)=false by decide,Bool.false_or,Bool.and_comm]
theorem resource_any (t:JV) (hg:GoodQ t) (hm:t.mass<=3000) (ra:Raw) (A:Nat->Prop) (w:World) (hi:IsV w A ra t):Calls Tryz.prog 103 #[ra.val] w (BoolP (resB [kId,kAtt] t) w):=by
  rw [res_ask];obtain ⟨w2,hw2,V2,B2⟩:=own8 w ra;obtain ⟨w3,hw3,X3,B3⟩:=two_new w2 kId kAtt;have B03:=bel B2 B3;obtain ⟨b1,hb1⟩:∃ b,ofB t [kId,kAtt]=b:=⟨_,rfl⟩;obtain ⟨b2,hb2⟩:∃ b,((look t kId).isSome && textB (got t kId))=b:=⟨_,rfl⟩;obtain ⟨b3,hb3⟩:∃ b,((look t kAtt).isSome && eachB textB (got t kAtt))=b:=⟨_,rfl⟩;have h1:=One.of_any t hg hm ra A _ w3 (hi.behind B03.out) [kId,kAtt] (by decide) (some ⟨w2.heap.size,0,none⟩) 2 X3.out;have h2:∀ w',Below w.heap.size w w'->_:=fun w' h=>holds_any 142 (enters_of Tryz.func142 (by kernel_rfl) rfl) t hg hm ra A w' (hi.behind h) kId (textB (got t kId)) fun rr w'' _ hr _=>written_any _ rr _ w'' hr;have h3:∀ w',Below w.heap.size w w'->_:=fun w' h=>holds_any 143 (enters_of Tryz.func143 (by kernel_rfl) rfl) t hg hm ra A w' (hi.behind h) kAtt (eachB textB (got t kAtt)) fun rr w'' _ hr _=>texts_any _ (by have:=got_mass t kAtt;omega) rr _ w'' hr;rw [hb1] at h1;rw [hb2] at h2;rw [hb3] at h3;rw [hb1,hb2,hb3];have H1:=Hid.out (p:=Hid _) h1;have H2:=Hid.out (p:=Hid _) h2;have H3:=Hid.out (p:=Hid _) h3;clear hi hg hm hb1 hb2 hb3 h1 h2 h3;unfold Raw.val at H1 H2 H3 ⊢;have V23:=hst V2 B3;obtain ⟨⟨x0,x1,x2,x3,x4,x5,x6,x7⟩,_⟩:=val_cells V2.out;unfold kId kAtt at *;go_enter Tryz.func103,Tryz.ntmps103
  go_wp2_with fail
  refine (Calls.mono H1.out ?_);rintro z w4 hz;obtain ⟨rfl,B4⟩:=hz.to;have B04:=bel B03 B4;have V24:=hst V23 B4;clear hz x0 x1 x2 x3 x4 x5 x6 x7 hw2 hw3;cases b1
  case false=>
    go_wp2_with fail
    go_ret
    exact ⟨rfl,B04.out⟩
  obtain ⟨⟨x0,x1,x2,x3,x4,x5,x6,x7⟩,_⟩:=val_cells V24.out;go_wp2_with fail
  refine (Calls.mono (H2.out w4 B04.out) ?_);rintro z w5 hz;obtain ⟨rfl,B5⟩:=hz.to;have B05:=bel B04 B5;have V25:=hst V24 B5;clear hz x0 x1 x2 x3 x4 x5 x6 x7;cases b2
  case false=>
    go_wp2_with fail
    go_ret
    exact ⟨rfl,B05.out⟩
  obtain ⟨⟨x0,x1,x2,x3,x4,x5,x6,x7⟩,_⟩:=val_cells V25.out;go_wp2_with fail
  refine (Calls.mono (H3.out w5 B05.out) ?_);rintro z w6 hz;obtain ⟨rfl,B6⟩:=hz.to;go_wp2_with fail
  go_ret
  exact ⟨by simp,(bel B05 B6).out⟩
theorem resources_any (t:JV) (hg:GoodQ t) (hf:Fine t) (hm:t.mass<=3000) (ra:Raw) (A:Nat->Prop) (w:World) (hi:IsV w A ra t) (T:TabsP w):Calls Tryz.prog 55 #[ra.val] w (BoolP (ressB [kId,kAtt] t) w):=by
  have HE:Hid (∀ w',Below w.heap.size w w'->Calls Tryz.prog 102 #[ra.val,.func (.func 103) #[] #[]] w' (BoolP (eachB (resB [kId,kAtt]) t) w')):=fun w' h=>
    each_any 103 (enters_of Tryz.func103 (by kernel_rfl) rfl) (resB [kId,kAtt]) t hm ra A w' (hi.behind h) fun v hv rr w'' _ hr=>resource_any v (GoodQ.kids hg v hv) (by have:=mass_kid hv;omega) rr _ w'' hr
  obtain ⟨ok,hok⟩:∃ b,ressB [kId,kAtt] t=b:=⟨_,rfl⟩;rw [hok];obtain ⟨oe,hoe⟩:∃ b,eachB (resB [kId,kAtt]) t=b:=⟨_,rfl⟩;rw [hoe] at HE;have HR:Hid (ok=((keysJ t).all (fun k=>(oldP k.data.toList).isSome) && oe)):=by
    rw [Hid,<-hok,<-hoe];unfold ressB eachB;rw [Bool.and_left_comm]
  cases t with
  | mk k is ng d e s ks vs=>
  obtain ⟨ka,kc,va,vc,rfl,ht,_,_,_⟩:=hi.parts;have hz:∀ x∈ks,x.size<=6000:=by cases hf with | mk _ _ _ _ _ _ _ _ _ _ f3 _=>exact f3
  obtain ⟨w2,hw2,V2,B2⟩:=own8 w (Raw.mk k is ng d e s ka ks.length kc va vs.length vc);rw [mass_mk] at hm;have HOLD:Hid (∀ x∈ks,∀ w',Below w.heap.size w w'->Calls Tryz.prog 61 #[.string x] w' (APost (oldP x.data.toList) w')):=fun x hx w' h=>old_any x w' (hz x hx) (T.stays h);have HTX:Hid (∀ w',Below w.heap.size w w'->IsTexts w' A ka ks):=fun w' h=>ht.turn (Turn.below h);have HKL:Hid (ks.length<=3000):=by rw [Hid];omega
  have HR:Hid (ok=(ks.all (fun k=>(oldP k.data.toList).isSome) && oe)):=HR.out;clear hi hg hf hm hok hoe ht hz T;unfold Raw.val at HE ⊢;obtain ⟨⟨x0,x1,x2,x3,x4,x5,x6,x7⟩,_⟩:=val_cells V2.out;go_enter Tryz.func55,Tryz.ntmps55
  go_wp2_with fail
  clear x0 x1 x2 x3 x4 x5 x6 x7
  go_loopw [10] (fun p wr=>∃ i:Nat,p=.int .i64 i/\i<=ks.length/\Hid ((ks.take i).all (fun k=>(oldP k.data.toList).isSome)=true)/\Hid (Below w2.heap.size w2 wr)) (fun p _=>ks.length-(intOf p).toNat)
  case atStart=>exact ⟨0,rfl,Nat.zero_le _,rfl,Below.refl _ _⟩
  case round=>
    obtain ⟨i,rfl,hi,hA,hB⟩:=hrel;have hkl:=HKL.out;have B3:=bel B2 hB;by_cases hlt:i<ks.length
    · have hne:ks≠[]:=fun e=>by rw [e] at hlt;simp at hlt
      obtain ⟨kb,ko,rfl,_,hkb,hkc⟩:=(HTX.out wr B3.out).resolve_left hne;have c1:=hkc i hlt;have htk:ks.take (i+1)=ks.take i++[ks[i]]:=by rw [List.take_add_one,List.getElem?_eq_getElem hlt];rfl
      have HO:=Hid.out (p:=Hid _) (HOLD.out ks[i] (List.getElem_mem hlt) wr B3.out);obtain ⟨b,hb⟩:∃ b,(oldP ks[i].data.toList).isSome=b:=⟨_,rfl⟩;have HM:Hid (b=true->(ks.take (i+1)).all (fun k=>(oldP k.data.toList).isSome)=true):=fun h=>by rw [htk,List.all_append,hA.out,List.all_cons,List.all_nil,hb,h];rfl
      have HF:Hid (b=false->ok=false):=fun h=>by
        rw [HR.out,Bool.and_eq_false_iff];left
        rw [List.all_eq_false];exact ⟨ks[i],List.getElem_mem hlt,by rw [hb,h];simp⟩
      obtain ⟨a,ha⟩:∃ a,(oldP ks[i].data.toList).getD zeroA=a:=⟨_,rfl⟩;have HB:=Hid.out (p:=Hid _) hb;have HAA:=Hid.out (p:=Hid _) ha;clear hkc htk hb ha;generalize ks[i]=x at *;go_wp2_with fail
      refine (Calls.mono HO.out ?_);rintro z w4 hz;obtain ⟨er,her⟩:∃ er:Int,(if b then (0:Int) else 3)=er:=⟨_,rfl⟩;obtain ⟨pa,pc,rfl,_,B4⟩:=hz.to a HAA.out er (by rw [HB.out,her]);obtain ⟨w5,hw5,V5,B5⟩:=adr_new w4 pa pc a;have B25:=bel (bel hB B4) B5;clear hz;cases b
      case false=>
        obtain rfl:3=er:=her;obtain rfl:=HF.out rfl;go_wp2_with fail
        go_ret
        exact ⟨rfl,(bel B2 B25).out⟩
      case true=>
        obtain rfl:0=er:=her;have M:=Hid.out (p:=Hid _) (HM.out rfl);clear HM HF;go_wp2_with fail
        go_roundw
        case rel=>exact ⟨i+1,by go_num,by omega,M.out,B25.out⟩
        case measure=>simp [intOf];omega
    · have HQ:Hid (ok=oe):=by
        have:=hA.out;rw [List.take_of_length_le (by omega)] at this;rw [Hid,HR.out,this,Bool.true_and]
      have V3:=hst V2 hB;have HEC:=Hid.out (p:=Hid _) (HE.out wr B3.out);obtain ⟨⟨x0,x1,x2,x3,x4,x5,x6,x7⟩,_⟩:=val_cells V3.out;go_wp2_with fail
      refine (Calls.mono HEC.out ?_);rintro z w4 hz;obtain ⟨rfl,B4⟩:=hz.to;go_wp2_with fail
      go_ret
      exact ⟨by rw [HQ.out];rfl,(bel B3 B4).out⟩
theorem one_ask (t:JV):oneB t=(ofB t [kVer,kSer,kRes] && ((look t kVer).isSome && decide (wholeJ (got t kVer)=some 1)) && ((look t kSer).isSome && (wholeJ (got t kSer)).isSome) && ((look t kRes).isSome && ressB [kId,kAtt] (got t kRes))):=by
  unfold oneB
  cases h:ofB t [kVer,kSer,kRes] with
  | false=>rfl
  | true=>
    have h1:=of_look h kVer (by simp);have h2:=of_look h kSer (by simp);have h3:=of_look h kRes (by simp);simp only [h1,h2,h3,Bool.true_and,Bool.and_assoc]
theorem one_right (t:JV) (hf:Fine t) (hm:t.mass<=3000) (ra:Raw) (A:Nat->Prop) (w:World) (hi:IsV w A ra t) (T:TabsP w):Calls Tryz.prog 18 #[ra.val] w (IsPost (OneQ t) w):=by
  obtain ⟨w2,hw2,V2,B2⟩:=own8 w ra;have HTR:=Hid.out (p:=Hid _) (tree_is t hf hm ra A w2 (T.stays B2.out).t.z (hi.behind B2.out));obtain ⟨b1,hb1⟩:∃ b,ofB t [kVer,kSer,kRes]=b:=⟨_,rfl⟩;obtain ⟨b2,hb2⟩:∃ b,((look t kVer).isSome && decide (wholeJ (got t kVer)=some 1))=b:=⟨_,rfl⟩;obtain ⟨b3,hb3⟩:∃ b,((look t kSer).isSome && (wholeJ (got t kSer)).isSome)=b:=⟨_,rfl⟩;obtain ⟨b4,hb4⟩:∃ b,((look t kRes).isSome && ressB [kId,kAtt] (got t kRes))=b:=⟨_,rfl⟩;have hq:=one_ask t;rw [hb1,hb2,hb3,hb4] at hq;have HQ:=Hid.out (p:=Hid _) hq;have H1:Hid (GoodQ t->∀ w' ja,Below w.heap.size w w'->IsTexts w' (fun _=>True) ja [kVer,kSer,kRes]->Calls Tryz.prog 51 #[ra.val,.slice ja 3 3] w' (BoolP b1 w')):=fun hg w' ja h ht=>by
    have:=One.of_any t hg hm ra A _ w' (hi.behind h) [kVer,kSer,kRes] (by decide) ja 3 ht;rw [hb1] at this;exact this
  have H2:Hid (GoodQ t->∀ w',Below w.heap.size w w'->Calls Tryz.prog 52 #[ra.val,.string kVer,.func (.func 53) #[] #[]] w' (BoolP b2 w')):=fun hg w' h=>by
    have:=holds_any 53 (enters_of Tryz.func53 (by kernel_rfl) rfl) t hg hm ra A w' (hi.behind h) kVer _ fun rr w'' hb hr hs=>version_any _ (got_good hg hs) rr _ w'' hr ((T.stays h).stays hb).e;rw [hb2] at this;exact this
  have H3:Hid (GoodQ t->∀ w',Below w.heap.size w w'->Calls Tryz.prog 52 #[ra.val,.string kSer,.func (.func 54) #[] #[]] w' (BoolP b3 w')):=fun hg w' h=>by
    have:=holds_any 54 (enters_of Tryz.func54 (by kernel_rfl) rfl) t hg hm ra A w' (hi.behind h) kSer _ fun rr w'' hb hr hs=>serial_any _ (got_good hg hs) rr _ w'' hr ((T.stays h).stays hb).e;rw [hb3] at this;exact this
  have H4:Hid (GoodQ t->∀ w',Below w.heap.size w w'->Calls Tryz.prog 52 #[ra.val,.string kRes,.func (.func 55) #[] #[]] w' (BoolP b4 w')):=fun hg w' h=>by
    have:=holds_any 55 (enters_of Tryz.func55 (by kernel_rfl) rfl) t hg hm ra A w' (hi.behind h) kRes _ fun rr w'' hb hr hs=>resources_any _ (got_good hg hs) (got_fine hf _) (by have:=got_mass t kRes;omega) rr _ w'' hr ((T.stays h).stays hb);rw [hb4] at this;exact this
  obtain ⟨Q,hQ⟩:∃ Q,(GoodQ t/\t.deepN<=64)=Q:=⟨_,rfl⟩;have HP:Hid (OneQ t↔Q/\oneB t=true):=by rw [Hid,<-hQ];exact Iff.rfl
  have HG:Hid (Q->GoodQ t):=by rw [Hid,<-hQ];exact fun h=>h.1
  rw [hQ] at HTR;obtain ⟨P,hP⟩:∃ P,OneQ t=P:=⟨_,rfl⟩;rw [hP] at HP ⊢;clear hi hf hm hb1 hb2 hb3 hb4 hq hQ hP T;unfold Raw.val at HTR H1 H2 H3 H4 ⊢;obtain ⟨⟨x0,x1,x2,x3,x4,x5,x6,x7⟩,_⟩:=val_cells V2.out;unfold kVer at H2;unfold kSer at H3;unfold kRes at H4;go_enter Tryz.func18,Tryz.ntmps18
  go_wp2_with fail
  refine (Calls.mono HTR.out ?_);rintro z w3 ⟨b,rfl,hb,hb3⟩;have HB:=Hid.out (p:=Hid _) hb;have E3:=Hid.out (p:=Hid _) hb3;have B3:=bel B2 E3;have V3:=hst V2 E3;clear hb hb3 x0 x1 x2 x3 x4 x5 x6 x7 hw2;cases b
  case false=>
    go_wp2_with fail
    go_ret
    exact .no rfl (fun h=>by have:=HB.out.2 (HP.out.1 h).1;cases this) B3.out
  have HQQ:Hid Q:=HB.out.1 rfl;obtain ⟨w4,hw4,X4,B4⟩:=three_new w3 ⟨#[118,101,114,115,105,111,110]⟩ ⟨#[115,101,114,105,97,108]⟩ ⟨#[114,101,115,111,117,114,99,101,115]⟩;have B04:=bel B3 B4;have V4:=hst V3 B4;have C1:=Hid.out (p:=Hid _) (H1.out (HG.out HQQ.out) w4 (some ⟨w3.heap.size,0,none⟩) B04.out X4.out);obtain ⟨⟨x0,x1,x2,x3,x4,x5,x6,x7⟩,_⟩:=val_cells V3.out;go_wp2_with fail
  refine (Calls.mono C1.out ?_);rintro z w5 hz;obtain ⟨rfl,B5⟩:=hz.to;have B05:=bel B04 B5;have V5:=hst V4 B5;clear hz x0 x1 x2 x3 x4 x5 x6 x7 hw4;cases b1
  case false=>
    go_wp2_with fail
    go_ret
    exact .no rfl (fun h=>by have h:=(HP.out.1 h).2;rw [HQ.out] at h;cases h) B05.out
  have C2:=Hid.out (p:=Hid _) (H2.out (HG.out HQQ.out) w5 B05.out);obtain ⟨⟨x0,x1,x2,x3,x4,x5,x6,x7⟩,_⟩:=val_cells V5.out;go_wp2_with fail
  refine (Calls.mono C2.out ?_);rintro z w6 hz;obtain ⟨rfl,B6⟩:=hz.to;have B06:=bel B05 B6;have V6:=hst V5 B6;clear hz x0 x1 x2 x3 x4 x5 x6 x7;cases b2
  case false=>
    go_wp2_with fail
    go_ret
    exact .no rfl (fun h=>by have h:=(HP.out.1 h).2;rw [HQ.out] at h;cases h) B06.out
  have C3:=Hid.out (p:=Hid _) (H3.out (HG.out HQQ.out) w6 B06.out);obtain ⟨⟨x0,x1,x2,x3,x4,x5,x6,x7⟩,_⟩:=val_cells V6.out;go_wp2_with fail
  refine (Calls.mono C3.out ?_);rintro z w7 hz;obtain ⟨rfl,B7⟩:=hz.to;have B07:=bel B06 B7;have V7:=hst V6 B7;clear hz x0 x1 x2 x3 x4 x5 x6 x7;cases b3
  case false=>
    go_wp2_with fail
    go_ret
    exact .no rfl (fun h=>by have h:=(HP.out.1 h).2;rw [HQ.out] at h;cases h) B07.out
  have C4:=Hid.out (p:=Hid _) (H4.out (HG.out HQQ.out) w7 B07.out);obtain ⟨⟨x0,x1,x2,x3,x4,x5,x6,x7⟩,_⟩:=val_cells V7.out;go_wp2_with fail
  refine (Calls.mono C4.out ?_);rintro z w8 hz;obtain ⟨rfl,B8⟩:=hz.to;have B08:=bel B07 B8;clear hz x0 x1 x2 x3 x4 x5 x6 x7;go_wp2_with fail
  go_ret
  exact ⟨b4,by simp,⟨fun h=>HP.out.2 ⟨HQQ.out,by rw [HQ.out,h];rfl⟩,fun h=>by have h:=(HP.out.1 h).2;rw [HQ.out] at h;exact h⟩,B08.out⟩
def fdCells (F:List Fd):List Value:=F.flatMap fun x=>.string x.1::x.2.1.cells
theorem fdCells_at:∀ (F:List Fd) (i:Nat) (h:i<F.length) (c:Nat),c<9->(fdCells F)[i*9+c]?=(Value.string F[i].1::F[i].2.1.cells)[c]?
  | x::t,0,h,c,hc=>by
    have e:(Value.string x.1::x.2.1.cells).length=9:=rfl;rw [fdCells,List.flatMap_cons,Nat.zero_mul,Nat.zero_add,List.getElem?_append_left (by omega)];rfl
  | x::t,i+1,h,c,hc=>by
    have e:(Value.string x.1::x.2.1.cells).length=9:=rfl;rw [fdCells,List.flatMap_cons,List.getElem?_append_right (by omega),e,show (i+1)*9+c-9=i*9+c by omega];exact fdCells_at t i (by simpa using h) c hc
theorem fds_of {w:World} {b:Nat} {F:List Fd} {T:TypeId} (h:w.heap[b]?=some (.cells (fdCells F).toArray T (0,0))):FdsAt w b F:=fun i hi=>by
  have k:∀ c,c<9->w.cell? ⟨b,i*9+c,none⟩=(Value.string F[i].1::F[i].2.1.cells)[c]?:=fun c hc=>by
    rw [cell_of h,List.getElem?_toArray];exact fdCells_at F i hi c hc
  refine ⟨k 0 (by omega),fun j u hu=>?_⟩;have hj:j<8:=(List.getElem?_eq_some_iff.1 hu).1;rw [show i*9+1+j=i*9+(j+1) by omega,k (j+1) (by omega),List.getElem?_cons_succ];exact hu
theorem fds2 (w:World) (k1 k2:ByteArray) (r1 r2:Raw) (t1 t2:JV):∃ w1,w.alloc (.cells #[.string k1,.int .i64 r1.kind,.bool r1.is,.bool r1.neg,.string r1.dig,.int .i64 r1.exp,.string r1.str,.slice r1.ka r1.kn r1.kc,.slice r1.va r1.vn r1.vc,.string k2,.int .i64 r2.kind,.bool r2.is,.bool r2.neg,.string r2.dig,.int .i64 r2.exp,.string r2.str,.slice r2.ka r2.kn r2.kc,.slice r2.va r2.vn r2.vc] 60)=w1/\Hid (FdsAt w1 w.heap.size [(k1,r1,t1),(k2,r2,t2)])/\Hid (Below w.heap.size w w1):=
  ⟨_,rfl,fds_of (F:=[(k1,r1,t1),(k2,r2,t2)]) (heap_alloc_new _ _),(Below.refl _ _).alloc (Nat.le_refl _) _⟩
theorem fds4 (w:World) (k1 k2 k3 k4:ByteArray) (r1 r2 r3 r4:Raw) (t1 t2 t3 t4:JV):∃ w1,w.alloc (.cells #[.string k1,.int .i64 r1.kind,.bool r1.is,.bool r1.neg,.string r1.dig,.int .i64 r1.exp,.string r1.str,.slice r1.ka r1.kn r1.kc,.slice r1.va r1.vn r1.vc,.string k2,.int .i64 r2.kind,.bool r2.is,.bool r2.neg,.string r2.dig,.int .i64 r2.exp,.string r2.str,.slice r2.ka r2.kn r2.kc,.slice r2.va r2.vn r2.vc,.string k3,.int .i64 r3.kind,.bool r3.is,.bool r3.neg,.string r3.dig,.int .i64 r3.exp,.string r3.str,.slice r3.ka r3.kn r3.kc,.slice r3.va r3.vn r3.vc,.string k4,.int .i64 r4.kind,.bool r4.is,.bool r4.neg,.string r4.dig,.int .i64 r4.exp,.string r4.str,.slice r4.ka r4.kn r4.kc,.slice r4.va r4.vn r4.vc] 60)=w1/\Hid (FdsAt w1 w.heap.size [(k1,r1,t1),(k2,r2,t2),(k3,r3,t3),(k4,r4,t4)])/\Hid (Below w.heap.size w w1):=
  ⟨_,rfl,fds_of (F:=[(k1,r1,t1),(k2,r2,t2),(k3,r3,t3),(k4,r4,t4)]) (heap_alloc_new _ _),(Below.refl _ _).alloc (Nat.le_refl _) _⟩
theorem kid1 (w:World) (r:Raw):∃ w1,w.alloc (.cells #[.int .i64 r.kind,.bool r.is,.bool r.neg,.string r.dig,.int .i64 r.exp,.string r.str,.slice r.ka r.kn r.kc,.slice r.va r.vn r.vc] 29)=w1/\Hid (w1.heap[w.heap.size]?=some (.cells r.arr 29 (0,0)))/\Hid (Below w.heap.size w w1):=own8 w r
theorem kp {w w':World} {A:Nat->Prop} {z:Raw} {t:JV} (h:Hid (IsV w A z t)) (e:Hid (Below w.heap.size w w')):Hid (IsV w' A z t):=h.out.behind e.out
theorem kn {w w':World} {A:Nat->Prop} {z:Raw} {t:JV} (h:Hid (IsV w A z t)) (e:Hid (Below w.heap.size w w')):Hid (IsV w' (fun b=>A b/\b≠w.heap.size) z t):=
  h.out.turn ⟨e.out.size,fun b hb hl=>⟨e.out.block b hl,hb,by omega⟩⟩
theorem dn {w:World} {A:Nat->Prop} {z:Raw} {t:JV} {b:Nat} (h:Hid (IsV w A z t)) (hA:∀ k,A k->k≠b) (x0 x1 x2 x3 x4 x5 x6 x7:Value):IsV ((((((((w.setCell ⟨b,0,none⟩ x0).setCell ⟨b,1,none⟩ x1).setCell ⟨b,2,none⟩ x2).setCell ⟨b,3,none⟩ x3).setCell ⟨b,4,none⟩ x4).setCell ⟨b,5,none⟩ x5).setCell ⟨b,6,none⟩ x6).setCell ⟨b,7,none⟩ x7) (fun _=>True) z t:=
  h.out.turn ⟨(gb8 _ _ _ _ _ _ _ _ _ _).size,fun k hk hl=>⟨(gb8 _ _ _ _ _ _ _ _ _ _).block _ hl (fun e=>by injection e with e;exact hA k hk e),trivial⟩⟩
theorem vtext (s:ByteArray) (A:Nat->Prop) (w:World):Calls Tryz.prog 46 #[.string s] w (ValP (strV s) A w):=
  (otext_any s w).mono fun e w' h=>⟨strR s,h.1,strR_is _ _ _,h.2⟩
theorem vnum (n:Nat) (hn:n<18446744073709551616) (A:Nat->Prop) (w:World) (T:Jdec.Pow10 w):Calls Tryz.prog 48 #[.int .u64 n] w (ValP (numV n) A w):=
  (onumber_any n hn w T).mono fun e w' h=>⟨One.numR n,h.1,numR_is _ _ _,h.2⟩
theorem lst1 {w:World} {A:Nat->Prop} {z:Raw} {t:JV} {b:Nat} (V:Hid (w.heap[b]?=some (.cells z.arr 29 (0,0)))) (h:Hid (IsV w A z t)) (hA:A b):IsV w A (lstR (some ⟨b,0,none⟩) 1 1) (listOf [t]):=
  .mk (lstR (some ⟨b,0,none⟩) 1 1) [] [t] (fun _=>z) rfl rfl (.inl rfl) (.inr ⟨b,0,rfl,hA,heap_lt V.out,fun i hi j u hu=>by
    have:i=0:=by simpa using hi
    subst this;exact Jdec.cellsIn V.out j u hu |> fun h=>by simpa using h⟩) (fun i hi=>by
    have:i=0:=by simpa using hi
    subst this;exact h.out)
theorem vlist {w:World} {A:Nat->Prop} {z:Raw} {t:JV} {b:Nat} (V:Hid (w.heap[b]?=some (.cells z.arr 29 (0,0)))) (h:Hid (IsV w A z t)) (hA:A b):Calls Tryz.prog 45 #[.slice (some ⟨b,0,none⟩) 1 1] w (ValP (listOf [t]) A w):=
  (olist_any (some ⟨b,0,none⟩) 1 1 w).mono fun e w' k=>⟨lstR (some ⟨b,0,none⟩) 1 1,k.1,(lst1 V h hA).behind k.2.out,k.2.out⟩
theorem vcopy {t:JV} (hg:GoodQ t) (hm:t.mass<=3000) {z:Raw} {A B:Nat->Prop} {w:World} (h:Hid (IsV w B z t)) (hA:∀ b,w.heap.size<=b->A b):Calls Tryz.prog 47 #[z.val] w (ValP t A w):=
  (copy_any t hg hm z B w h.out).mono fun e w' k=>by
    obtain ⟨r,h1,h2,h3⟩:=k.to;exact ⟨r,h1,h2.out.isV _ fun b hb=>hA b hb.1,h3.out⟩
end Go.Proofs.YtliekocamnklfaaGreatDoor.One
