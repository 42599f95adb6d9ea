/- two.module, two.Right. -/
import Derived.Test.YtliekocamnklfaaGreatDoorPTvB
import Derived.Test.YtliekocamnklfaaGreatDoorPTvC
set_option linter.unusedVariables false
set_option linter.unusedSimpArgs false
set_option maxRecDepth 100000
set_option maxHeartbeats 8000000
namespace Go.Proofs.YtliekocamnklfaaGreatDoor.One
open Go.RowKit Strs Jdec Save Go.Proofs.YtliekocamnklfaaGreatDoor.Addr
theorem dmodule_any (t:JV) (hg:GoodQ t) (hf:Fine t) (hm:t.mass<=3000) (ra:Raw) (A:Nat->Prop) (w:World) (hi:IsV w A ra t) (T:TabsP w):Calls Tryz.prog 69 #[ra.val] w (BoolP (modB [kId,kAtt] t) w):=by
  unfold modB;obtain ⟨w2,hw2,V2,B2⟩:=own8 w ra;obtain ⟨w3,hw3,X3,B3⟩:=two_new w2 kPath kRes;have B03:=bel B2 B3;obtain ⟨b1,hb1⟩:∃ b,ofB t [kPath,kRes]=b:=⟨_,rfl⟩;have h1:=dof_any t hg hm ra A _ w3 (hi.behind B03.out) [kPath,kRes] (by decide) (some ⟨w2.heap.size,0,none⟩) 2 X3.out;obtain ⟨b2,hb2⟩:∃ b,pathB (got t kPath)=b:=⟨_,rfl⟩;obtain ⟨b3,hb3⟩:∃ b,ressB [kId,kAtt] (got t kRes)=b:=⟨_,rfl⟩;rw [hb1] at h1;have H1:=Hid.out (p:=Hid _) h1;have HG1:Hid (∀ (w':World),Below w.heap.size w w'->Calls Tryz.prog 58 #[ra.val,.string kPath] w' (ValC (got t kPath) (fun _=>True) w')):=fun w' hb=>dget_cap hg hm (hi.behind hb) kPath;have HG2:Hid (∀ (w':World),Below w.heap.size w w'->Calls Tryz.prog 58 #[ra.val,.string kRes] w' (ValP (got t kRes) (fun _=>True) w')):=fun w' hb=>dget_any hg hm (hi.behind hb) kRes;have HP:Hid (∀ (w':World) (rr:Raw),Below w.heap.size w w'->IsV w' (fun _=>True) rr (got t kPath)->rr.vn<=rr.vc->Calls Tryz.prog 110 #[rr.val] w' (BoolP b2 w')):=fun w' rr hb hr hc=>by
    rw [<-hb2];exact dpath_any _ (got_fine hf _) (by have:=got_mass t kPath;omega) rr _ w' hr hc (T.stays hb)
  have HR:Hid (b1=true->∀ (w':World) (rr:Raw),Below w.heap.size w w'->IsV w' (fun _=>True) rr (got t kRes)->Calls Tryz.prog 111 #[rr.val] w' (BoolP b3 w')):=fun ho w' rr hb hr=>by
    rw [<-hb3];exact dress_any _ (got_good hg (of_look (hb1.trans ho) kRes (by simp))) (got_fine hf _) (by have:=got_mass t kRes;omega) rr _ w' hr (T.stays hb)
  rw [hb1,hb2,hb3];clear hi hg hf hm hb1 hb2 hb3 h1 T;have V23:=hst V2 B3;unfold Raw.val at H1 HG1 HG2 ⊢;obtain ⟨⟨x0,x1,x2,x3,x4,x5,x6,x7⟩,_⟩:=val_cells V2.out;unfold kPath kRes at hw3;unfold kPath at HG1;unfold kRes at HG2;go_enter Tryz.func69,Tryz.ntmps69
  go_wp2_with fail
  refine (Calls.mono H1.out ?_);rintro z w4 hz;obtain ⟨rfl,B4⟩:=hz.to;have B04:=bel B03 B4;have V4:=hst V23 B4;clear hz x0 x1 x2 x3 x4 x5 x6 x7 hw2 hw3 H1;cases b1
  case false=>
    go_wp2_with fail
    go_ret
    exact ⟨rfl,B04.out⟩
  obtain ⟨⟨x0,x1,x2,x3,x4,x5,x6,x7⟩,_⟩:=val_cells V4.out;have C2:=Hid.out (p:=Hid _) (HG1.out w4 B04.out);go_wp2_with fail
  refine (Calls.mono C2.out ?_);rintro z w5 hz;obtain ⟨r5,rfl,I5,c5,B5⟩:=hz.to;have B05:=bel B04 B5;have V5:=hst V4 B5;have C3:=Hid.out (p:=Hid _) (HP.out w5 r5 B05.out I5.out c5.out);clear hz C2 x0 x1 x2 x3 x4 x5 x6 x7 HP HG1;unfold Raw.val at C3 ⊢;go_wp2_with fail
  refine (Calls.mono C3.out ?_);rintro z w6 hz;obtain ⟨rfl,B6⟩:=hz.to;have B06:=bel B05 B6;have V6:=hst V5 B6;clear hz C3 I5 c5;cases b2
  case false=>
    go_wp2_with fail
    go_ret
    exact ⟨rfl,B06.out⟩
  obtain ⟨⟨x0,x1,x2,x3,x4,x5,x6,x7⟩,_⟩:=val_cells V6.out;have C4:=Hid.out (p:=Hid _) (HG2.out w6 B06.out);go_wp2_with fail
  refine (Calls.mono C4.out ?_);rintro z w7 hz;obtain ⟨r7,rfl,I7,B7⟩:=hz.to;have B07:=bel B06 B7;have C5:=Hid.out (p:=Hid _) (HR.out (by first | rfl | trivial) w7 r7 B07.out I7.out);clear hz C4 x0 x1 x2 x3 x4 x5 x6 x7 HG2 HR;unfold Raw.val at C5 ⊢;go_wp2_with fail
  refine (Calls.mono C5.out ?_);rintro z w8 hz;obtain ⟨rfl,B8⟩:=hz.to;go_wp2_with fail
  go_ret
  exact ⟨by simp,(bel B07 B8).out⟩
theorem dfour_new (w:World) (x y u v:ByteArray):∃ w1,w.alloc (.cells #[.string x,.string y,.string u,.string v] 9)=w1/\Hid (IsTexts w1 (fun _=>True) (some ⟨w.heap.size,0,none⟩) [x,y,u,v])/\Hid (Below w.heap.size w w1):=by
  refine ⟨_,rfl,.inr ⟨w.heap.size,0,rfl,trivial,by simp,fun i hi=>?_⟩,(Below.refl _ _).alloc (Nat.le_refl _) _⟩;have h:=heap_alloc_new w (.cells #[.string x,.string y,.string u,.string v] 9 (0,0))
  match i,hi with
  | 0,_=>exact cell_of h 0
  | 1,_=>exact cell_of h 1
  | 2,_=>exact cell_of h 2
  | 3,_=>exact cell_of h 3
theorem two_iff (t:JV):TwoQ t↔(GoodQ t/\t.deepN<=64)/\(ofB t kFour=true/\wholeJ (got t kVer)=some 2/\(wholeJ (got t kSer)).isSome=true/\textB (got t kLin)=true/\kindOf (got t kMod)=5/\(kidsJ (got t kMod)).all (modB [kId,kAtt])=true):=by
  unfold TwoQ TR modsB headB;simp only [Bool.and_eq_true,decide_eq_true_eq,and_assoc]
theorem dright_any (t:JV) (hf:Fine t) (hm:t.mass<=3000) (ra:Raw) (A:Nat->Prop) (w:World) (hi:IsV w A ra t) (T:TabsP w):Calls Tryz.prog 21 #[ra.val] w (IsPost (TwoQ t) w):=by
  obtain ⟨w2,hw2,V2,B2⟩:=own8 w ra;have HTR:=Hid.out (p:=Hid _) (tree_is t hf hm ra A w2 (T.stays B2.out).t.z (hi.behind B2.out));obtain ⟨b1,hb1⟩:∃ b,ofB t kFour=b:=⟨_,rfl⟩;obtain ⟨o2,ho2⟩:∃ o,wholeJ (got t kVer)=o:=⟨_,rfl⟩;obtain ⟨o3,ho3⟩:∃ o,wholeJ (got t kSer)=o:=⟨_,rfl⟩;obtain ⟨v4,hv4⟩:∃ v,got t kLin=v:=⟨_,rfl⟩;obtain ⟨v5,hv5⟩:∃ v,got t kMod=v:=⟨_,rfl⟩;obtain ⟨b6,hb6⟩:∃ b,(kidsJ v5).all (modB [kId,kAtt])=b:=⟨_,rfl⟩;obtain ⟨Q,hQ⟩:∃ Q,(GoodQ t/\t.deepN<=64)=Q:=⟨_,rfl⟩;have hP:=two_iff t;rw [hb1,ho2,ho3,hv4,hv5,hb6,hQ] at hP;have HP:=Hid.out (p:=Hid _) hP;have HG:Hid (Q->GoodQ t):=by rw [Hid,<-hQ];exact fun h=>h.1
  rw [hQ] at HTR;have HO:Hid (Q->∀ w' ja,Below w.heap.size w w'->IsTexts w' (fun _=>True) ja [kVer,kSer,kLin,kMod]->Calls Tryz.prog 66 #[ra.val,.slice ja 4 4] w' (BoolP b1 w')):=fun hq w' ja h ht=>by
    have:=dof_any t (HG.out hq) hm ra A _ w' (hi.behind h) [kVer,kSer,kLin,kMod] (by decide) ja 4 ht;rw [show ofB t [kVer,kSer,kLin,kMod]=b1 from hb1] at this;exact this
  have HL:Hid (Q->b1=true->∀ x∈kFour,(look t x).isSome=true):=fun _ h=>of_look (hb1.trans h);have HGT:Hid (Q->∀ w' x,Below w.heap.size w w'->Calls Tryz.prog 58 #[ra.val,.string x] w' (ValP (got t x) (fun _=>True) w')):=fun hq w' x h=>dget_any (HG.out hq) hm (hi.behind h) x;have HWV:Hid (Q->b1=true->∀ w' rr,Below w.heap.size w w'->IsV w' (fun _=>True) rr (got t kVer)->Calls Tryz.prog 67 #[rr.val] w' (WholeP o2 w')):=fun hq h w' rr hb hr=>by
    rw [<-ho2];exact dwhole_any _ (got_good (HG.out hq) (HL.out hq h kVer (by simp [kFour]))) rr _ w' hr (T.stays hb).e
  have HWS:Hid (Q->b1=true->∀ w' rr,Below w.heap.size w w'->IsV w' (fun _=>True) rr (got t kSer)->Calls Tryz.prog 67 #[rr.val] w' (WholeP o3 w')):=fun hq h w' rr hb hr=>by
    rw [<-ho3];exact dwhole_any _ (got_good (HG.out hq) (HL.out hq h kSer (by simp [kFour]))) rr _ w' hr (T.stays hb).e
  have HAM:Hid (Q->b1=true->∀ w' rr,Below w.heap.size w w'->IsV w' (fun _=>True) rr v5->Calls Tryz.prog 68 #[rr.val,.func (.func 69) #[] #[]] w' (BoolP b6 w')):=fun hq h w' rr hb hr=>by
    have hm5:v5.mass<=3000:=by rw [<-hv5];have:=got_mass t kMod;omega
    have hg5:GoodQ v5:=by rw [<-hv5];exact got_good (HG.out hq) (HL.out hq h kMod (by simp [kFour]))
    have hf5:Fine v5:=by rw [<-hv5];exact got_fine hf _
    rw [<-hb6];exact dall_any 69 (enters_of Tryz.func69 (by kernel_rfl) rfl) (modB [kId,kAtt]) v5 hm5 rr _ w' hr fun v hv r2 w'' hb2 h2=>dmodule_any v (GoodQ.kids hg5 v hv) (fine_kid hf5 hv) (by have:=mass_kid hv;omega) r2 _ w'' h2 ((T.stays hb).stays hb2)
  have HV4:=Hid.out (p:=Hid _) hv4;have HV5:=Hid.out (p:=Hid _) hv5;obtain ⟨P,hPP⟩:∃ P,TwoQ t=P:=⟨_,rfl⟩;rw [hPP] at HP ⊢;clear hi hf hm hb1 ho2 ho3 hv4 hv5 hb6 hQ hP hPP T HG HL;unfold Raw.val at HTR HO HGT ⊢;obtain ⟨⟨x0,x1,x2,x3,x4,x5,x6,x7⟩,_⟩:=val_cells V2.out;go_enter Tryz.func21,Tryz.ntmps21
  go_wp2_with fail
  refine (Calls.mono HTR.out ?_);rintro z w3 ⟨b,rfl,hb,hb3⟩;have HB:=Hid.out (p:=Hid _) hb;have E3:=Hid.out (p:=Hid _) hb3;have B3:=bel B2 E3;have V3:=hst V2 E3;clear hb hb3 x0 x1 x2 x3 x4 x5 x6 x7 hw2;cases b
  case false=>
    go_wp2_with fail
    go_ret
    exact .no rfl (fun h=>by have:=HB.out.2 (HP.out.1 h).1;cases this) B3.out
  have HQQ:Hid Q:=HB.out.1 rfl;obtain ⟨w4,hw4,X4,E4⟩:=dfour_new w3 kVer kSer kLin kMod;have B4:=bel B3 E4;have V4:=hst V3 E4;have C1:=Hid.out (p:=Hid _) (HO.out HQQ.out w4 (some ⟨w3.heap.size,0,none⟩) B4.out X4.out);unfold kVer kSer kLin kMod at hw4;obtain ⟨⟨x0,x1,x2,x3,x4,x5,x6,x7⟩,_⟩:=val_cells V3.out;go_wp2_with fail
  refine (Calls.mono C1.out ?_);rintro z w5 hz;obtain ⟨rfl,E5⟩:=hz.to;have B5:=bel B4 E5;have V5:=hst V4 E5;clear hz x0 x1 x2 x3 x4 x5 x6 x7 hw4 C1 HTR;cases b1
  case false=>
    go_wp2_with fail
    go_ret
    exact .no rfl (fun h=>by have h:=(HP.out.1 h).2.1;cases h) B5.out
  have HTT:Hid (true=true):=rfl;obtain ⟨⟨x0,x1,x2,x3,x4,x5,x6,x7⟩,_⟩:=val_cells V5.out;have C2:=Hid.out (p:=Hid _) (HGT.out HQQ.out w5 kVer B5.out);unfold kVer at C2;go_wp2_with fail
  refine (Calls.mono C2.out ?_);rintro z w6 hz;obtain ⟨r6,rfl,I6,E6⟩:=hz.to;have B6:=bel B5 E6;have V6:=hst V5 E6;have C3:=Hid.out (p:=Hid _) (HWV.out HQQ.out (by first | rfl | trivial) w6 r6 B6.out I6.out);clear hz C2 x0 x1 x2 x3 x4 x5 x6 x7 HWV;unfold Raw.val at C3 ⊢;go_wp2_with fail
  refine (Calls.mono C3.out ?_);rintro z w7 hz;obtain ⟨n7,rfl,hn7,E7⟩:=hz.to;have B7:=bel B6 E7;have V7:=hst V6 E7;clear hz C3 I6
  cases o2 with
  | none=>
    go_wp2_with fail
    go_ret
    exact .no rfl (fun h=>by have h:=(HP.out.1 h).2.2.1;cases h) B7.out
  | some m=>
  obtain rfl:=hn7.out m rfl;by_cases h2:n7=2
  case neg=>
    have nn:((n7:Int) != 2)=true:=by rw [bne_iff_ne];omega
    have nn2:(n7 != 2)=true:=by rw [bne_iff_ne];exact h2
    go_wp2_with fail
    go_ret
    exact .no rfl (fun h=>by have h:=(HP.out.1 h).2.2.1;injection h with h;exact h2 h) B7.out
  subst h2;obtain ⟨⟨x0,x1,x2,x3,x4,x5,x6,x7⟩,_⟩:=val_cells V7.out;have C4:=Hid.out (p:=Hid _) (HGT.out HQQ.out w7 kSer B7.out);unfold kSer at C4;go_wp2_with fail
  refine (Calls.mono C4.out ?_);rintro z w8 hz;obtain ⟨r8,rfl,I8,E8⟩:=hz.to;have B8:=bel B7 E8;have V8:=hst V7 E8;have C5:=Hid.out (p:=Hid _) (HWS.out HQQ.out (by first | rfl | trivial) w8 r8 B8.out I8.out);clear hz C4 x0 x1 x2 x3 x4 x5 x6 x7 HWS;unfold Raw.val at C5 ⊢;go_wp2_with fail
  refine (Calls.mono C5.out ?_);rintro z w9 hz;obtain ⟨n9,rfl,hn9,E9⟩:=hz.to;have B9:=bel B8 E9;have V9:=hst V8 E9;clear hz C5 I8
  cases o3 with
  | none=>
    go_wp2_with fail
    go_ret
    exact .no rfl (fun h=>by have h:=(HP.out.1 h).2.2.2.1;cases h) B9.out
  | some m=>
  obtain ⟨⟨x0,x1,x2,x3,x4,x5,x6,x7⟩,_⟩:=val_cells V9.out;have C6:=Hid.out (p:=Hid _) (HGT.out HQQ.out w9 kMod B9.out);rw [HV5.out] at C6;unfold kMod at C6;go_wp2_with fail
  refine (Calls.mono C6.out ?_);rintro z wa hz;obtain ⟨ra5,rfl,Ia,Ea⟩:=hz.to;obtain ⟨wb,hwb,Vb,Eb⟩:=own8 wa ra5;have Bb:=bel (bel B9 Ea) Eb;have V9b:=hst (hst V9 Ea) Eb;have Ib:=kp Ia Eb;have C7:=Hid.out (p:=Hid _) (HGT.out HQQ.out wb kLin Bb.out);rw [HV4.out] at C7;unfold kLin at C7;clear hz C6 x0 x1 x2 x3 x4 x5 x6 x7 Ia;unfold Raw.val;obtain ⟨⟨x0,x1,x2,x3,x4,x5,x6,x7⟩,_⟩:=val_cells V9b.out;go_wp2_with fail
  refine (Calls.mono C7.out ?_);rintro z wc hz;obtain ⟨rc,rfl,Ic,Ec⟩:=hz.to;have Bc:=bel Bb Ec;have Vc:=hst Vb Ec;have Ic5:=kp Ib Ec;clear hz C7 x0 x1 x2 x3 x4 x5 x6 x7 hwb Ib
  cases v4 with
  | mk k is ng d e s ks vs=>
  obtain ⟨ka,kc,va,vc,rfl,_,_,_,_⟩:=Ic.out.parts;have hfl:=field_kind (Raw.mk k is ng d e s ka ks.length kc va vs.length vc)
  dsimp only at hfl
  have C8:=Hid.out (p:=Hid _) (HAM.out HQQ.out (by first | rfl | trivial) wc ra5 Bc.out Ic5.out);clear HAM HGT HO
  cases v5 with
  | mk k5 is5 ng5 d5 e5 s5 ks5 vs5=>
  obtain ⟨ka5,kc5,va5,vc5,rfl,_,_,_,_⟩:=Ic5.out.parts;clear Ic Ic5;unfold Raw.val at C8 ⊢
  dsimp only at C8 ⊢
  obtain ⟨⟨y0,y1,y2,y3,y4,y5,y6,y7⟩,_⟩:=val_cells Vc.out
  dsimp only at y0 y1 y2 y3 y4 y5 y6 y7
  by_cases h4:k=4
  case neg=>
    have nk:(k == 4)=false:=by rw [beq_eq_false_iff_ne];exact h4
    go_wp2_with fail
    go_ret
    exact .no rfl (fun h=>by have h:=(HP.out.1 h).2.2.2.2.1;exact h4 (of_decide_eq_true h)) Bc.out
  subst h4;by_cases h5:k5=5
  case neg=>
    have nk:(k5 == 5)=false:=by rw [beq_eq_false_iff_ne];exact h5
    go_wp2_with fail
    go_ret
    exact .no rfl (fun h=>by have h:=(HP.out.1 h).2.2.2.2.2.1;exact h5 h) Bc.out
  subst h5;go_wp2_with fail
  refine (Calls.mono C8.out ?_);rintro z wd hz;obtain ⟨rfl,Ed⟩:=hz.to;clear hz C8 y0 y1 y2 y3 y4 y5 y6 y7 hfl;cases b6
  case false=>
    go_wp2_with fail
    go_ret
    exact .no rfl (fun h=>by have h:=(HP.out.1 h).2.2.2.2.2.2;cases h) (bel Bc Ed).out
  go_wp2_with fail
  go_ret
  exact .yes rfl (HP.out.2 ⟨HQQ.out,by refine ⟨?_,?_,?_,?_,?_,?_⟩ <;> first | rfl | trivial⟩) (bel Bc Ed).out
set_option maxHeartbeats 4000000
theorem take_find (l:List UInt8) (c:UInt8):l.takeWhile (· != c)=(l.findIdx? (· == c)).elim l (fun i=>l.take i):=by
  induction l with
  | nil=>rfl
  | cons x l ih=>
    rw [List.findIdx?_cons];by_cases h:x=c
    · subst h;simp
    · have h1:(x == c)=false:=by rw [beq_eq_false_iff_ne];exact h
      have h2:(x != c)=true:=by rw [bne_iff_ne];exact h
      rw [List.takeWhile_cons_of_pos (by simpa using h2),ih,h1];cases l.findIdx? (· == c) <;> rfl
theorem dprov_any (s:ByteArray) (hs:s.size<=1000000) (w:World):Calls Tryz.prog 56 #[.string s] w fun e w'=>e=.returned (.string (provB s))/\Below w.heap.size w w':=by
  have HI:=Hid.out (p:=Hid _) (indexByte_any s 95 w (by decide));have hT:=take_find s.data.toList 95;obtain ⟨r,hr⟩:∃ r,s.data.toList.findIdx? (· == UInt8.ofNat 95)=r:=⟨_,rfl⟩;rw [hr] at HI;rw [show s.data.toList.findIdx? (· == 95)=r from hr] at hT;have hL:∀ i,r=some i->i<s.size:=fun i h=>by
    rw [h] at hr;obtain ⟨h1,_⟩:=List.findIdx?_eq_some_iff_getElem.1 hr
    simpa using h1
  have HP:Hid (provB s=if 0<zidx r then s.extract 0 (r.getD 0) else s):=by
    rw [Hid];unfold provB provL
    cases r with
    | none=>
      have hT:s.data.toList.takeWhile (· != 95)=s.data.toList:=hT;rw [hT,ite_self,if_neg (show ¬ (0:Int)<zidx none by decide)]
    | some i=>
      have hi:=hL i rfl;have hT:s.data.toList.takeWhile (· != 95)=s.data.toList.take i:=hT;have hn:s.data.toList.length=s.size:=by simp
      rw [hT];by_cases h0:i=0
      · subst h0;rw [if_pos (List.take_zero ..),if_neg (by decide)]
      · have hne:¬ s.data.toList.take i=[]:=fun h=>by
          have:=congrArg List.length h;rw [List.length_take,List.length_nil] at this;omega
        rw [if_neg hne,if_pos (show (0:Int)<zidx (some i) by simp only [zidx];omega)];refine ByteArray.ext ?_;rw [ByteArray.data_extract];apply Array.toList_inj.1
        simp
  have HZ:Hid (0<zidx r->(zidx r).toNat=r.getD 0/\(zidx r)<=s.size/\0<=zidx r):=fun h=>by
    cases r with
    | none=>simp [zidx] at h
    | some i=>have:=hL i rfl;simp only [zidx,Option.getD];omega
  clear hr hT hL;obtain ⟨z,hz⟩:∃ z,zidx r=z:=⟨_,rfl⟩;rw [hz] at HI HP HZ;clear hz;go_enter Tryz.func56,Tryz.ntmps56
  go_wp2_with fail
  refine (Calls.mono HI.out ?_);rintro e w' ⟨rfl,rfl⟩;by_cases h:0<z
  · have hg:decide (z > 0)=true:=by rw [decide_eq_true_eq];exact h
    obtain ⟨h1,h2,h3⟩:=HZ.out h;go_wp2_with fail
    go_ret
    exact ⟨by rw [HP.out,if_pos h,<-h1];rfl,Below.refl _ _⟩
  · have hg:decide (z > 0)=false:=by rw [decide_eq_false_iff_not];exact h
    go_wp2_with fail
    go_ret
    exact ⟨by rw [HP.out,if_neg (by omega)];rfl,Below.refl _ _⟩
end Go.Proofs.YtliekocamnklfaaGreatDoor.One
