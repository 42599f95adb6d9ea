/- two.Up's inner function: a resource of version 2. (Written by gen/tvh.py.) -/
import Derived.Test.YtliekocamnklfaaGreatDoorTTvE
import Derived.Test.YtliekocamnklfaaGreatDoorTTvF
import Derived.Test.YtliekocamnklfaaGreatDoorTSvF
import Derived.Test.YtliekocamnklfaaGreatDoorTTvB
set_option linter.unusedVariables false
set_option linter.unusedSimpArgs false
set_option maxRecDepth 100000
set_option maxHeartbeats 16000000
namespace Go.Proofs.YtliekocamnklfaaGreatDoor.One
open Go.RowKit Strs Jdec Save Go.Proofs.YtliekocamnklfaaGreatDoor.Addr
theorem dnB {w:World} {A B:Nat->Prop} {z:Raw} {t:JV} {b:Nat} (h:Hid (IsV w A z t)) (hA:∀ k,A k->k≠b/\B k) (x0 x1 x2 x3 x4 x5 x6 x7:Value):IsV ((((((((w.setCell ⟨b,0,none⟩ x0).setCell ⟨b,1,none⟩ x1).setCell ⟨b,2,none⟩ x2).setCell ⟨b,3,none⟩ x3).setCell ⟨b,4,none⟩ x4).setCell ⟨b,5,none⟩ x5).setCell ⟨b,6,none⟩ x6).setCell ⟨b,7,none⟩ x7) B z t:=
  h.out.turn ⟨(gb8 _ _ _ _ _ _ _ _ _ _).size,fun k hk hl=>⟨(gb8 _ _ _ _ _ _ _ _ _ _).block _ hl (fun e=>by injection e with e;exact (hA k hk).1 e),(hA k hk).2⟩⟩
theorem dtextA (s:ByteArray) (A:Nat->Prop) (w:World):Calls Tryz.prog 63 #[.string s] w (ValP (strV s) A w):=
  (dtext_any s w).mono fun e w' h=>⟨strR s,h.1,strR_is _ _ _,h.2⟩
theorem vobj {w:World} {A:Nat->Prop} {kb vb:Nat} {ks:List ByteArray} (F:List (Raw × JV)) (K:Hid (IsTexts w (fun _=>True) (some ⟨kb,0,none⟩) ks)) (V:Hid (w.heap[vb]?=some (.cells ((F.map (·.1)).flatMap Raw.cells).toArray 29 (0,0)))) (hk:A kb) (hv:A vb) (hI:∀ x∈F,IsV w A x.1 x.2) (n m:Nat) (hn:n=ks.length) (hm:m=F.length):Calls Tryz.prog 62 #[.slice (some ⟨kb,0,none⟩) n n,.slice (some ⟨vb,0,none⟩) m m] w (ValP (objectOf ks (F.map (·.2))) A w):=
  (dobject_any (some ⟨kb,0,none⟩) n n (some ⟨vb,0,none⟩) m m w).mono fun e w' h=>⟨objR (some ⟨kb,0,none⟩) n n (some ⟨vb,0,none⟩) m m,h.1,(obj_is F K V hk hv hI n m hn hm).behind h.2,h.2⟩
theorem pair_new (w:World) (x y:ByteArray):∃ w1,w.alloc (.cells #[.string x,.string y] 9)=w1/\Hid (IsTexts w1 (fun _=>True) (some ⟨w.heap.size,0,none⟩) [x,y])/\Hid (Below w.heap.size w w1):=One.two_new w x y
theorem up11_any (x:ByteArray) (hx:x.size<=6000) (hty:(oldA x).type.size<=1000000) (r:JV) (hg:GoodQ r) (hm:r.mass<=3000) (g1:GoodQ (got r kId)) (g2:GoodQ (got r kAtt)) (tt:JV) (i:Nat) (hi:i<(keysJ tt).length) (hxi:(keysJ tt)[i]=x) (ro ra:Raw) (ob:Nat) (A1 A2 B:Nat->Prop) (w:World) (ho:IsV w A1 ro tt) (hV:w.heap[ob]?=some (.cells ro.arr 29 (0,0))) (hr:IsV w A2 ra r) (hB:∀ b,w.heap.size<=b->B b) (T:TabsP w):Calls Tryz.prog 60 #[.int .i64 i,ra.val,.pointer (some ⟨ob,0,none⟩)] w (ValP (res3 x r) B w):=by
  obtain ⟨w2,hw2,V2,B2⟩:=own8 w ra;obtain ⟨w3,hw3,V3,B3⟩:=own8 w2 Raw.zero;have V23:=hst V2 B3;have B03:=bel B2 B3;have HO:=Hid.out (p:=Hid _) (old_any x w3 hx (T.stays B03.out));have VO:Hid (w3.heap[ob]?=some (.cells ro.arr 29 (0,0))):=(B03.out.block _ (heap_lt hV)).trans hV;have HR:Hid (∀ W,Below w3.heap.size w3 W->Hid (IsV W A2 ra r)):=fun W hW=>hr.behind (B03.out.trans (hW.mono B03.out.size));have HG:Hid (GoodQ r/\r.mass<=3000/\GoodQ (got r kId)/\GoodQ (got r kAtt)):=⟨hg,hm,g1,g2⟩;have HB0:=Hid.out (p:=Hid _) hB;have HSZ:Hid (w.heap.size<=w2.heap.size/\w2.heap.size<w3.heap.size):=⟨B2.out.size,heap_lt V3.out⟩
  cases tt with
  | mk k is ng d e s ks vs=>
  obtain ⟨ka,kc,va,vc,rfl,ht,_,_,_⟩:=ho.parts;have hik:i<ks.length:=hi;have hxk:ks[i]=x:=hxi;have hne:ks≠[]:=fun e=>by rw [e] at hik;simp at hik
  obtain ⟨gb,o,rfl,_,hgb,hcs⟩:=ht.resolve_left hne;have c1:=(World.cell?_of_block (B03.out.block _ hgb)).trans (hcs i hik);rw [hxk] at c1;have hRes:res3 x r=objectOf [kProv,kId,kAtt] [strV (provB (oldA x).type),got r kId,got r kAtt]:=rfl;obtain ⟨tr,htr⟩:∃ tr,res3 x r=tr:=⟨_,rfl⟩;rw [htr] at hRes ⊢;have HRES:=Hid.out (p:=Hid _) hRes;obtain ⟨a,ha⟩:∃ a,oldA x=a:=⟨_,rfl⟩;rw [ha] at HRES hty;have HTY:=Hid.out (p:=Hid _) hty;have HOA:Hid ((oldP x.data.toList).getD zeroA=a):=ha;clear ho hV hr hB T hg hm g1 g2 hx hty ht hcs hgb hxk hxi hi hne hRes htr ha;unfold Raw.val
  dsimp only [Raw.zero] at hw3
  obtain ⟨⟨x0,x1,x2,x3,x4,x5,x6,x7⟩,_⟩:=val_cells VO.out;go_enter Tryz.func60,Tryz.ntmps60
  go_wp2_with fail
  refine (Calls.mono HO.out ?_);rintro z w4 ⟨pa,pc,rfl,hta,hb4⟩;rw [HOA.out] at hta ⊢;have E4:=Hid.out (p:=Hid _) hb4;generalize (if (oldP x.data.toList).isSome=true then (0:Int) else 3)=er;obtain ⟨w5,hw5,V5,B5⟩:=adr_new w4 pa pc a;have B35:=bel E4 B5;have V25:=hst V23 B35;have V35:=hst V3 B35;clear hta hb4 HO x0 x1 x2 x3 x4 x5 x6 x7 c1 hw2 hw3;unfold wordsA
  go_upto_region 2 with (fail)
  have HA:Hid (∀ b,w5.heap.size<=b->w3.heap.size<=b):=fun b hb=>Nat.le_trans B35.out.size hb;have HS:Hid (∀ W,Below w5.heap.size w5 W->W.heap[w.heap.size]?=some (.cells ra.arr 29 (0,0))/\W.heap[w4.heap.size]?=some (.cells (arrA pa pc a) 67 (0,0))):=fun W hW=>⟨(hW.block _ (heap_lt V25.out)).trans V25.out,(hW.block _ (heap_lt V5.out)).trans V5.out⟩;have HRW:Hid (∀ W,Below w5.heap.size w5 W->Hid (IsV W A2 ra r)):=fun W hW=>HR.out W (B35.out.trans (hW.mono B35.out.size));have V3W:Hid (∀ W,Below w5.heap.size w5 W->Hid (W.heap[w2.heap.size]?=some (.cells Raw.zero.arr 29 (0,0)))):=fun W hW=>(hW.block _ (heap_lt V35.out)).trans V35.out;have HN:Hid (w.heap.size≠w2.heap.size/\w4.heap.size≠w2.heap.size):=⟨by have:=heap_lt V2.out;omega,by have:=HSZ.out;have:=E4.out.size;omega⟩;have BX:=bel B03 B35;refine wp_region_held_drew (S:=(fun W=>W.heap[w.heap.size]?=some (.cells ra.arr 29 (0,0))/\W.heap[w4.heap.size]?=some (.cells (arrA pa pc a) 67 (0,0)))) (by kernel_rfl) ?_ (fun hHeld=>?_)
  · exact HS.out _ (Below.refl _ _).drew
  obtain ⟨wd,hwd⟩:∃ x,w5.drew=x:=⟨_,rfl⟩;have D:Hid (Below w5.heap.size w5 wd):=by rw [<-hwd];exact (Below.refl _ _).drew
  rw [hwd] at hHeld ⊢;clear hwd;have DA:=D
  repeat' first
    | (refine tkT 1 (by decide +kernel) ?_)
    | (refine tkT 2 (v:=.string a.type) (by decide +kernel) ?_ (hy:=by (intro w hs;have e1:w.cell? ⟨_,1,none⟩=some (.string a.type):=cell_of hs.2 1;clear hs;go_simp <;> with_reducible rfl)))
    | (refine tkT 5 (v:=.agg #[.int .i64 ra.kind,.bool ra.is,.bool ra.neg,.string ra.dig,.int .i64 ra.exp,.string ra.str,.slice ra.ka ra.kn ra.kc,.slice ra.va ra.vn ra.vc]) (by decide +kernel) ?_ (hy:=by (intro w hs;obtain ⟨⟨e0,e1,e2,e3,e4,e5,e6,e7⟩,_⟩:=val_cells hs.1;clear hs;go_simp <;> with_reducible rfl)))
    | (refine tkT 7 (v:=.agg #[.int .i64 ra.kind,.bool ra.is,.bool ra.neg,.string ra.dig,.int .i64 ra.exp,.string ra.str,.slice ra.ka ra.kn ra.kc,.slice ra.va ra.vn ra.vc]) (by decide +kernel) ?_ (hy:=by (intro w hs;obtain ⟨⟨e0,e1,e2,e3,e4,e5,e6,e7⟩,_⟩:=val_cells hs.1;clear hs;go_simp <;> with_reducible rfl)))
    | (refine rdT [0,3] (by decide +kernel) (by simp) ?_;try simp only [nz])
    | (refine rdT [3] (by decide +kernel) (by simp) ?_;try simp only [nz])
    | (refine rdT [4] (by decide +kernel) (by simp) ?_;try simp only [nz])
    | (refine rdT [6] (by decide +kernel) (by simp) ?_;try simp only [nz])
    | (refine rdT [8] (by decide +kernel) (by simp) ?_;try simp only [nz])
    | (refine rdT [9] (by decide +kernel) (by simp) ?_;try simp only [nz])
    | (refine rdT [10] (by decide +kernel) (by simp) ?_;try simp only [nz])
    | (refine rdT [11] (by decide +kernel) (by simp) ?_;try simp only [nz])
    | (refine rdT [0,4] (by decide +kernel) (by simp) ?_;try simp only [nz])
    | (refine rdT [0,6] (by decide +kernel) (by simp) ?_;try simp only [nz])
    | (refine rdT [0,8] (by decide +kernel) (by simp) ?_;try simp only [nz])
    | (refine rdT [0,9] (by decide +kernel) (by simp) ?_;try simp only [nz])
    | (refine rdT [0] (by decide +kernel) (by simp) ?_;try simp only [nz])
    | exact AllReadyH.nil
    | refine consT ?_ ?_
    | (refine (⟨fun K hK=>?_⟩:Tag 0 _)
       obtain ⟨q,hq,KK,E⟩:=wof D (three_new · kProv kId kAtt);unfold kProv kId kAtt at hq
       try simp only [nz]
       go_simp
       have MKK:=Hid.out (p:=Hid _) (upn HA DA _ (Nat.le_refl _));clear hq;replace D:=bel D E;(try replace DA:=bel DA E);(try replace I1:=kp I1 E);(try replace I2:=kp I2 E);(try replace I3:=kp I3 E);(try replace I4:=kp I4 E);(try replace VL:=hst VL E);(try replace KK:=ktx KK E);clear hHeld;refine hK.out _ _ ?_ (fun hHeld=>?_)
       · exact HS.out _ D.out
       clear hK K
       try simp only [nz])
    | (refine (⟨fun K hK=>?_⟩:Tag 3 _)
       try simp only [nz]
       go_simp
       go_at_call 56;refine (Calls.mono (dprov_any a.type HTY.out _) ?_)
       rintro z q ⟨rfl,hbq⟩;have E:=Hid.out (p:=Hid _) hbq;clear hbq;replace D:=bel D E;(try replace DA:=bel DA E);(try replace I1:=kp I1 E);(try replace I2:=kp I2 E);(try replace I3:=kp I3 E);(try replace I4:=kp I4 E);(try replace VL:=hst VL E);(try replace KK:=ktx KK E);clear hHeld;refine hK.out _ _ ?_ (fun hHeld=>?_)
       · exact HS.out _ D.out
       clear hK K
       try simp only [nz])
    | (refine (⟨fun K hK=>?_⟩:Tag 4 _)
       try simp only [nz]
       go_simp
       go_at_call 63;refine (Calls.mono (dtextA (provB a.type) (fun b=>w3.heap.size<=b) _) ?_)
       rintro z q hz;obtain ⟨z1,rfl,I1,E⟩:=hz.to;clear hz;unfold Raw.val;replace D:=bel D E;(try replace DA:=bel DA E);(try replace I1:=kp I1 E);(try replace I2:=kp I2 E);(try replace I3:=kp I3 E);(try replace I4:=kp I4 E);(try replace VL:=hst VL E);(try replace KK:=ktx KK E);clear hHeld;refine hK.out _ _ ?_ (fun hHeld=>?_)
       · exact HS.out _ D.out
       clear hK K
       try simp only [nz])
    | (refine (⟨fun K hK=>?_⟩:Tag 6 _)
       try simp only [nz]
       have HC:=dcopied_any HG.out.1 HG.out.2.1 (HRW.out _ D.out) kId HG.out.2.2.1 (upn HA DA);unfold Raw.val kId at HC
       go_simp
       go_at_call 64;refine (Calls.mono HC ?_)
       rintro z q hz;obtain ⟨z2,rfl,I2,E⟩:=hz.to;clear hz HC;unfold Raw.val;replace D:=bel D E;(try replace DA:=bel DA E);(try replace I1:=kp I1 E);(try replace I2:=kp I2 E);(try replace I3:=kp I3 E);(try replace I4:=kp I4 E);(try replace VL:=hst VL E);(try replace KK:=ktx KK E);clear hHeld;refine hK.out _ _ ?_ (fun hHeld=>?_)
       · exact HS.out _ D.out
       clear hK K
       try simp only [nz])
    | (refine (⟨fun K hK=>?_⟩:Tag 8 _)
       try simp only [nz]
       have HC:=dcopied_any HG.out.1 HG.out.2.1 (HRW.out _ D.out) kAtt HG.out.2.2.2 (upn HA DA);unfold Raw.val kAtt at HC
       go_simp
       go_at_call 64;refine (Calls.mono HC ?_)
       rintro z q hz;obtain ⟨z3,rfl,I3,E⟩:=hz.to;clear hz HC;unfold Raw.val;replace D:=bel D E;(try replace DA:=bel DA E);(try replace I1:=kp I1 E);(try replace I2:=kp I2 E);(try replace I3:=kp I3 E);(try replace I4:=kp I4 E);(try replace VL:=hst VL E);(try replace KK:=ktx KK E);clear hHeld;refine hK.out _ _ ?_ (fun hHeld=>?_)
       · exact HS.out _ D.out
       clear hK K
       try simp only [nz])
    | (refine (⟨fun K hK=>?_⟩:Tag 9 _)
       obtain ⟨q,hq,VL,E⟩:=wof D (kid3 · z1 z2 z3)
       try simp only [nz]
       go_simp
       have MVL:=Hid.out (p:=Hid _) (upn HA DA _ (Nat.le_refl _));clear hq;replace D:=bel D E;(try replace DA:=bel DA E);(try replace I1:=kp I1 E);(try replace I2:=kp I2 E);(try replace I3:=kp I3 E);(try replace I4:=kp I4 E);(try replace VL:=hst VL E);(try replace KK:=ktx KK E);clear hHeld;refine hK.out _ _ ?_ (fun hHeld=>?_)
       · exact HS.out _ D.out
       clear hK K
       try simp only [nz])
    | (refine (⟨fun K hK=>?_⟩:Tag 10 _)
       try simp only [nz]
       go_simp
       go_at_call 62;refine (Calls.mono (vobj [(z1,strV (provB a.type)),(z2,got r kId),(z3,got r kAtt)] KK VL MKK.out MVL.out (vem3 I1 I2 I3) 3 3 rfl rfl) ?_)
       rintro z q hz;obtain ⟨z4,rfl,I4,E⟩:=hz.to;clear hz;unfold Raw.val;replace D:=bel D E;(try replace DA:=bel DA E);(try replace I1:=kp I1 E);(try replace I2:=kp I2 E);(try replace I3:=kp I3 E);(try replace I4:=kp I4 E);(try replace VL:=hst VL E);(try replace KK:=ktx KK E);clear hHeld;refine hK.out _ _ ?_ (fun hHeld=>?_)
       · exact HS.out _ D.out
       clear hK K
       try simp only [nz])
    | (refine (⟨fun K hK=>?_⟩:Tag 11 _)
       have VZ:=V3W.out _ D.out;obtain ⟨⟨v0,v1,v2,v3,v4,v5,v6,v7⟩,y0,y1,y2,y3,y4,y5,y6,y7⟩:=val_cells VZ.out
       try simp only [nz]
       go_simp
       clear v0 v1 v2 v3 v4 v5 v6 v7 y0 y1 y2 y3 y4 y5 y6 y7;have HKE:=HS.out _ D.out;clear hHeld;refine hK.out _ _ ?_ (fun hHeld=>?_)
       · exact keep8 HKE (hd HN.out.1) (hd HN.out.2) _ _ _ _ _ _ _ _
       clear hK K
       try simp only [nz])
    | (refine dnT (by decide +kernel) ?_
       clear hHeld;go_wp2_with fail
       refine val_ret (a:=z4) (b:=w2.heap.size) rfl (set8 VZ.out z4) rfl ?_;exact ⟨z4,rfl,by rw [HRES.out];exact dnB I4 (fun k hk=>by have hk:w3.heap.size<=k:=hk;have:=HSZ.out;exact ⟨by omega,HB0.out k (by omega)⟩) _ _ _ _ _ _ _ _,below8 (bel BX D).out HSZ.out.1 _ _ _ _ _ _ _ _⟩)
open Go.Proofs.YtliekocamnklfaaGreatDoor.Addr Jdec Save
theorem right_root:rightA (adr0 [] letA letA)=true:=by
  have h3:identB [97]=true:=by decide +kernel
  have e (x:UInt8):ByteArray.toList ⟨#[x]⟩=[x]:=by rw [ByteArray.toList_eq]
  have e0:ByteArray.toList ⟨#[]⟩=[]:=by rw [ByteArray.toList_eq]
  unfold rightA adr0 letA keyA identsB;simp only [List.all_cons,List.all_nil,h3,e,e0]
  decide
theorem root_path:pathB (listOf [strV kRoot])=true:=by
  show (decide ((5:Int)=5) && ((textB (strV kRoot) && true) && (decide (kRoot=kRoot) && rightA (adr0 [] letA letA))))=true;rw [right_root]
  rfl
theorem of_four {a b c d:JV}:ofB (objectOf kFour [a,b,c,d]) kFour=true:=by
  have l0:look (objectOf kFour [a,b,c,d]) kVer=some a:=got_at keys_apart4 0 (by decide) (by simp) rfl;have l1:look (objectOf kFour [a,b,c,d]) kSer=some b:=got_at keys_apart4 1 (by decide) (by simp) rfl;have l2:look (objectOf kFour [a,b,c,d]) kLin=some c:=got_at keys_apart4 2 (by decide) (by simp) rfl;have l3:look (objectOf kFour [a,b,c,d]) kMod=some d:=got_at keys_apart4 3 (by decide) (by simp) rfl;unfold ofB;rw [show kFour.all (fun k=>(look (objectOf kFour [a,b,c,d]) k).isSome)=((look (objectOf kFour [a,b,c,d]) kVer).isSome && ((look (objectOf kFour [a,b,c,d]) kSer).isSome && ((look (objectOf kFour [a,b,c,d]) kLin).isSome && ((look (objectOf kFour [a,b,c,d]) kMod).isSome && true)))) from rfl,l0,l1,l2,l3]
  rfl
theorem got_four {a b c d:JV}:got (objectOf kFour [a,b,c,d]) kVer=a/\got (objectOf kFour [a,b,c,d]) kSer=b/\got (objectOf kFour [a,b,c,d]) kLin=c/\got (objectOf kFour [a,b,c,d]) kMod=d:=
  ⟨got_of (got_at keys_apart4 0 (by decide) (by simp) rfl),got_of (got_at keys_apart4 1 (by decide) (by simp) rfl),got_of (got_at keys_apart4 2 (by decide) (by simp) rfl),got_of (got_at keys_apart4 3 (by decide) (by simp) rfl)⟩
theorem of_mod {a b:JV}:ofB (objectOf [kPath,kRes] [a,b]) [kPath,kRes]=true:=by
  have l0:look (objectOf [kPath,kRes] [a,b]) kPath=some a:=got_at keys_apart2 0 (by decide) (by simp) rfl;have l1:look (objectOf [kPath,kRes] [a,b]) kRes=some b:=got_at keys_apart2 1 (by decide) (by simp) rfl;unfold ofB;rw [show [kPath,kRes].all (fun k=>(look (objectOf [kPath,kRes] [a,b]) k).isSome)=((look (objectOf [kPath,kRes] [a,b]) kPath).isSome && ((look (objectOf [kPath,kRes] [a,b]) kRes).isSome && true)) from rfl,l0,l1]
  rfl
theorem got_mod {a b:JV}:got (objectOf [kPath,kRes] [a,b]) kPath=a/\got (objectOf [kPath,kRes] [a,b]) kRes=b:=
  ⟨got_of (got_at keys_apart2 0 (by decide) (by simp) rfl),got_of (got_at keys_apart2 1 (by decide) (by simp) rfl)⟩
theorem up_two {t:JV} (h:OneQ t):TwoQ (upJ t):=by
  refine ⟨up_good h,?_⟩;obtain ⟨_,h1⟩:=h;obtain ⟨_,_,hs,hr⟩:=one_parts h1;obtain ⟨g0,g1,g2,g3⟩:=got_four (a:=numV 2) (b:=got t kSer) (c:=strV ⟨#[]⟩) (d:=listOf [rootV (got t kRes)]);have hu:upJ t=objectOf kFour [numV 2,got t kSer,strV ⟨#[]⟩,listOf [rootV (got t kRes)]]:=rfl;have hm:modB [kId,kAtt] (rootV (got t kRes))=true:=by
    obtain ⟨m0,m1⟩:=got_mod (a:=listOf [strV kRoot]) (b:=got t kRes);unfold modB rootV;rw [of_mod,m0,m1,root_path,hr];rfl
  unfold modsB headB;rw [hu,of_four,g0,g1,g2,g3,wholeJ_num (by decide),hs];show (true && (decide (some 2=some 2) && true) && (textB (strV ⟨#[]⟩) && (decide ((5:Int)=5) && (modB [kId,kAtt] (rootV (got t kRes)) && true))))=true;rw [hm]
  rfl
theorem up2_serial (t:JV):got (up2J t) kSer=got t kSer:=got_four.2.1
theorem up2_modules (t:JV):got (up2J t) kMod=listOf ((kidsJ (got t kMod)).map mod3):=got_four.2.2.2
/-! ## Sums over an object's keys -/
def sumM (t:JV):List ByteArray->Nat
  | []=>0
  | x::xs=>(got t x).mass+sumM t xs
def sumL (ks:List ByteArray) (vs:List JV):List ByteArray->Nat
  | []=>0
  | x::xs=>((lookL ks vs x).getD .zero).mass+sumL ks vs xs
theorem sumL_cut (ks:List ByteArray) (vs:List JV) (k:ByteArray) (v:JV):∀ xs:List ByteArray,k ∉ xs->sumL (k::ks) (v::vs) xs=sumL ks vs xs
  | [],_=>rfl
  | x::xs,h=>by
    have h1:k≠x:=fun e=>h (by simp [e]);rw [sumL,sumL,lookL,if_neg h1,sumL_cut ks vs k v xs fun hm=>h (by simp [hm])]
theorem sumL_le:∀ (ks:List ByteArray) (vs:List JV) (xs:List ByteArray),xs.Nodup->(∀ x∈xs,(lookL ks vs x).isSome=true)->sumL ks vs xs<=masses vs
  | [],vs,xs,hn,h=>by
    cases xs with
    | nil=>exact Nat.zero_le _
    | cons x xs=>have:=h x (by simp);rw [lookL] at this;cases this
  | k::ks,[],xs,hn,h=>by
    cases xs with
    | nil=>exact Nat.zero_le _
    | cons x xs=>have:=h x (by simp);rw [lookL] at this;cases this
  | k::ks,v::vs,xs,hn,h=>by
    rw [masses_cons];by_cases hk:k∈xs
    · obtain ⟨a,b,rfl⟩:=List.append_of_mem hk;have hn':=List.nodup_append.1 hn;have hnb:=List.nodup_cons.1 hn'.2.1;have ha:k ∉ a:=fun hm=>hn'.2.2 k hm k (by simp) rfl;have hsum:∀ (c d:List ByteArray) (K:List ByteArray) (V:List JV),sumL K V (c++d)=sumL K V c+sumL K V d:=fun c d K V=>by
        induction c with
        | nil=>simp [sumL]
        | cons y c ih=>rw [List.cons_append,sumL,sumL,ih];omega
      rw [hsum,sumL,sumL_cut ks vs k v a ha,sumL_cut ks vs k v b hnb.1,lookL,if_pos rfl];have hab:(a++b).Nodup:=by
        rw [List.nodup_append];exact ⟨hn'.1,hnb.2,fun x hx y hy=>hn'.2.2 x hx y (by simp [hy])⟩
      have:=sumL_le ks vs (a++b) hab fun x hx=>by
        have hne:k≠x:=fun e=>by
          subst e;rcases List.mem_append.1 hx with hx | hx
          · exact ha hx
          · exact hnb.1 hx
        have:=h x (by rcases List.mem_append.1 hx with hx | hx <;> simp [hx])
        rwa [lookL,if_neg hne] at this
      rw [hsum] at this;show _+(v.mass+_)<=_;omega
    · rw [sumL_cut ks vs k v xs hk];have:=sumL_le ks vs xs hn fun x hx=>by
        have hne:k≠x:=fun e=>hk (e ▸ hx);have:=h x hx
        rwa [lookL,if_neg hne] at this
      omega
theorem sumM_look {is ng:Bool} {d:ByteArray} {e:Int} {s:ByteArray} {ks:List ByteArray} {vs:List JV}:∀ xs:List ByteArray,sumM (.mk 6 is ng d e s ks vs) xs=sumL ks vs xs
  | []=>rfl
  | x::xs=>by rw [sumM,sumL,sumM_look xs,got,look_mk]
theorem sum_mass {t:JV} {js:List ByteArray} (hn:js.Nodup) (h:ofB t js=true):1+js.length+sumM t js<=t.mass:=by
  have hl:=of_look h;unfold ofB at h;simp only [Bool.and_eq_true,decide_eq_true_eq] at h
  obtain ⟨h6,hk,_⟩:=h
  cases t with
  | mk k i n d e s ks vs=>
    have h6:k=6:=h6;subst h6;have hk:ks.length=js.length:=hk;have:=sumL_le ks vs js hn fun x hx=>by have:=hl x hx;rwa [look_mk] at this
    rw [mass_mk,sumM_look];omega
theorem res_of {js:List ByteArray} {r:JV} (h:resB js r=true):ofB r js=true:=by
  unfold resB at h;simp only [Bool.and_eq_true] at h
  exact h.1
theorem mod_of {js:List ByteArray} {m:JV} (h:modB js m=true):ofB m [kPath,kRes]=true:=by
  unfold modB at h;simp only [Bool.and_eq_true] at h
  exact h.1
theorem mods_of {n:Nat} {js:List ByteArray} {t:JV} (h:modsB n js t=true):ofB t kFour=true:=by
  unfold modsB headB at h;simp only [Bool.and_eq_true] at h
  exact h.1.1
theorem obj_mass (ks:List ByteArray) (vs:List JV):(objectOf ks vs).mass=1+ks.length+masses vs:=by rw [objectOf,mass_mk]
theorem list_mass (vs:List JV):(listOf vs).mass=1+masses vs:=by rw [listOf,mass_mk];simp
theorem res3_mass (k:ByteArray) {x:JV} (h:resB [kId,kAtt] x=true):(res3 k x).mass<=x.mass+2:=by
  have:=sum_mass (js:=[kId,kAtt]) (by decide) (res_of h);simp only [sumM,List.length_cons,List.length_nil] at this
  rw [res3,obj_mass,masses_cons,masses_cons,masses_cons,masses_nil,strV_mass];simp only [List.length_cons,List.length_nil]
  omega
theorem zip_mass:∀ (ks:List ByteArray) (vs:List JV),(∀ v∈vs,resB [kId,kAtt] v=true)->masses (List.zipWith res3 ks vs)<=masses vs+2*vs.length
  | [],vs,_=>by rw [List.zipWith_nil_left,masses_nil];omega
  | k::ks,[],_=>by rw [List.zipWith_nil_right,masses_nil];omega
  | k::ks,v::vs,h=>by
    have h1:=res3_mass k (h v (by simp));have h2:=zip_mass ks vs fun u hu=>h u (by simp [hu]);rw [List.zipWith_cons_cons,masses_cons,masses_cons,List.length_cons];omega
theorem ress3_mass {r:JV} (hg:GoodQ r) (h:ressB [kId,kAtt] r=true):(ress3 r).mass<=3*r.mass:=by
  obtain ⟨h6,_,hv⟩:=ress_parts h;have h1:=zip_mass (keysJ r) (kidsJ r) hv;have hl:=masses_len (kidsJ r);have hm:r.mass=1+(keysJ r).length+masses (kidsJ r):=by
    cases r with
    | mk k i n d e s ks vs=>exact mass_mk ..
  rw [ress3,obj_mass];omega
theorem mod3_mass {m:JV} (hg:GoodQ m) (h:modB [kId,kAtt] m=true):(mod3 m).mass<=3*m.mass:=by
  have hs:=sum_mass (js:=[kPath,kRes]) (by decide) (mod_of h);simp only [sumM,List.length_cons,List.length_nil] at hs
  obtain ⟨_,h2,_,h4⟩:=mod_parts h;have h5:=ress3_mass (got_good hg h2) h4;rw [mod3,obj_mass,masses_cons,masses_cons,masses_nil];simp only [List.length_cons,List.length_nil]
  omega
theorem map_mass:∀ (ms:List JV),(∀ m∈ms,GoodQ m/\modB [kId,kAtt] m=true)->masses (ms.map mod3)<=3*masses ms
  | [],_=>by rw [List.map_nil,masses_nil];omega
  | m::ms,h=>by
    have h1:=mod3_mass (h m (by simp)).1 (h m (by simp)).2;have h2:=map_mass ms fun u hu=>h u (by simp [hu]);rw [List.map_cons,masses_cons,masses_cons];omega
theorem up2_mass {t:JV} (h:TwoQ t):(up2J t).mass<=3*t.mass:=by
  obtain ⟨⟨hg,_⟩,h⟩:=h;have hs:=sum_mass (js:=kFour) (by decide) (mods_of h);simp only [sumM,kFour,List.length_cons,List.length_nil] at hs
  obtain ⟨ho,_,_,_,_,hm⟩:=mods_parts h;have gm:=got_good hg (ho kMod (by simp [kFour]));have h1:=map_mass (kidsJ (got t kMod)) fun m hm'=>⟨GoodQ.kids gm m hm',hm m hm'⟩;have h2:1+masses (kidsJ (got t kMod))<=(got t kMod).mass:=by
    cases got t kMod with
    | mk k i n d e s ks vs=>
      rw [mass_mk];show 1+masses vs<=_;omega
  rw [up2J,obj_mass,masses_cons,masses_cons,masses_cons,masses_cons,masses_nil,numV_mass,list_mass];simp only [kFour,List.length_cons,List.length_nil]
  omega
/-! ## Right -/
theorem zip_mem {f:ByteArray->JV->JV} {ks:List ByteArray} {vs:List JV} {u:JV} (h:u∈List.zipWith f ks vs):∃ k∈ks,∃ v∈vs,u=f k v:=by
  obtain ⟨j,hj,rfl⟩:=List.getElem_of_mem h;rw [List.length_zipWith] at hj;refine ⟨ks[j],List.getElem_mem (by omega),vs[j],List.getElem_mem (by omega),?_⟩;rw [List.getElem_zipWith]
theorem res3_good {k:ByteArray} {x:JV} (hk:(oldP k.data.toList).isSome=true) (hg:GoodQ x) (h:resB [kId,kAtt] x=true):GoodQ (res3 k x)/\(res3 k x).deepN<=3:=by
  obtain ⟨h1,h2,h3⟩:=res_parts h;have g1:=got_good hg (h1 kId (by simp));have g2:=got_good hg (h1 kAtt (by simp));constructor
  · refine objectOf_good rfl (fun y hy=>keys_valid y ?_) keys_apart3p fun v hv=>?_
    · simp only [List.mem_cons,List.mem_nil_iff,or_false] at hy ⊢
      rcases hy with rfl | rfl | rfl <;> simp
    · simp only [List.mem_cons,List.mem_nil_iff,or_false] at hv
      rcases hv with rfl | rfl | rfl
      · exact strV_good (prov_valid hk)
      · exact g1
      · exact g2
  · refine deep_6 (m:=2) fun v hv=>?_;have hv:v∈[strV (provB (oldA k).type),got x kId,got x kAtt]:=hv;simp only [List.mem_cons,List.mem_nil_iff,or_false] at hv
    rcases hv with rfl | rfl | rfl
    · rw [strV_deep];omega
    · rcases h3 kId (by simp) with e | h4
      · exact absurd e (by decide)
      · have:=text_deep g1 h4;omega
    · refine deep_6 (m:=1) fun u hu=>?_;unfold eachB at h2;simp only [Bool.and_eq_true,List.all_eq_true] at h2
      exact text_deep (GoodQ.kids g2 u hu) (h2.2 u hu)
theorem ress3_good {r:JV} (hg:GoodQ r) (h:ressB [kId,kAtt] r=true):GoodQ (ress3 r)/\(ress3 r).deepN<=4:=by
  obtain ⟨h6,hk,hv⟩:=ress_parts h;obtain ⟨k1,k2,k3⟩:=goodq_keys hg h6;constructor
  · refine objectOf_good (by rw [List.length_zipWith];omega) k3 k2 fun u hu=>?_;obtain ⟨k,hk',v,hv',rfl⟩:=zip_mem hu;exact (res3_good (hk k hk') (GoodQ.kids hg v hv') (hv v hv')).1
  · refine deep_6 (m:=3) fun u hu=>?_;obtain ⟨k,hk',v,hv',rfl⟩:=zip_mem hu;exact (res3_good (hk k hk') (GoodQ.kids hg v hv') (hv v hv')).2
theorem mod3_good {m:JV} (hg:GoodQ m) (h:modB [kId,kAtt] m=true):GoodQ (mod3 m)/\(mod3 m).deepN<=5:=by
  obtain ⟨h1,h2,h3,h4⟩:=mod_parts h;have g1:=got_good hg h1;obtain ⟨g2,d2⟩:=ress3_good (got_good hg h2) h4;constructor
  · refine objectOf_good rfl (fun y hy=>keys_valid y ?_) keys_apart2 fun v hv=>?_
    · simp only [List.mem_cons,List.mem_nil_iff,or_false] at hy ⊢
      rcases hy with rfl | rfl <;> simp
    · simp only [List.mem_cons,List.mem_nil_iff,or_false] at hv
      rcases hv with rfl | rfl
      · exact g1
      · exact g2
  · refine deep_6 (m:=4) fun v hv=>?_;have hv:v∈[got m kPath,ress3 (got m kRes)]:=hv;simp only [List.mem_cons,List.mem_nil_iff,or_false] at hv
    rcases hv with rfl | rfl
    · have:=path_deep g1 h3;omega
    · exact d2
theorem up2_good {t:JV} (h:TwoQ t):TR (up2J t):=by
  obtain ⟨⟨hg,_⟩,h⟩:=h;obtain ⟨ho,_,hs,hl,_,hm⟩:=mods_parts h;have gs:=got_good hg (ho kSer (by simp [kFour]));have gl:=got_good hg (ho kLin (by simp [kFour]));have gm:=got_good hg (ho kMod (by simp [kFour]));have hM:∀ m∈(kidsJ (got t kMod)).map mod3,GoodQ m/\m.deepN<=5:=fun m hm'=>by
    obtain ⟨u,hu,rfl⟩:=List.mem_map.1 hm';exact mod3_good (GoodQ.kids gm u hu) (hm u hu)
  constructor
  · refine objectOf_good rfl (fun y hy=>keys_valid y ?_) keys_apart4 fun v hv=>?_
    · simp only [kFour,List.mem_cons,List.mem_nil_iff,or_false] at hy ⊢
      rcases hy with rfl | rfl | rfl | rfl <;> simp
    · simp only [List.mem_cons,List.mem_nil_iff,or_false] at hv
      rcases hv with rfl | rfl | rfl | rfl
      · exact numV_good (by decide)
      · exact gs
      · exact gl
      · exact listOf_good fun v hv=>(hM v hv).1
  · have:(up2J t).deepN<=6+1:=deep_6 fun v hv=>by
      have hv:v∈[numV 3,got t kSer,got t kLin,listOf ((kidsJ (got t kMod)).map mod3)]:=hv;simp only [List.mem_cons,List.mem_nil_iff,or_false] at hv
      rcases hv with rfl | rfl | rfl | rfl
      · rw [numV_deep];omega
      · have:=deep_flat gs (by rw [whole_kind hs];decide);omega
      · have:=text_deep gl hl;omega
      · exact deep_6 (m:=5) fun u hu=>(hM u hu).2
    omega
/-! ## Sizes -/
theorem undata_mem {p:List (List UInt8)} {x:List UInt8} (h:x∈undata p):x∈p:=by
  unfold undata at h;split at h
  · exact List.mem_of_mem_drop h
  · exact h
theorem old_size {k:ByteArray} (h:(oldP k.data.toList).isSome=true):(oldA k).type.size<=k.size:=by
  cases ho:oldP k.data.toList with
  | none=>rw [ho] at h;cases h
  | some a=>
    have ha:oldA k=a:=by rw [oldA,ho];rfl
    rw [ha];have hk:k.data.toList.length=k.size:=by simp
    unfold oldP oldOf at ho;have hp:∀ x∈undata (splitC 4 k.data.toList),x.length<=k.size:=fun x hx=>by
      have:=splitC_le 4 k.data.toList x (undata_mem hx);omega
    have ht:∀ x:List UInt8,(⟨x.toArray⟩:ByteArray).size=x.length:=fun x=>by simp [ByteArray.size]
    split at ho
    · next ty nm e=>
      obtain ⟨rfl,_⟩:=rightO_some ho;rw [e] at hp;show (⟨ty.toArray⟩:ByteArray).size<=_;rw [ht];exact hp ty (by simp)
    · next ty nm d e=>
      split at ho
      · cases ho
      · obtain ⟨rfl,_⟩:=rightO_some ho;rw [e] at hp;show (⟨ty.toArray⟩:ByteArray).size<=_;rw [ht];exact hp ty (by simp)
    · cases ho
theorem key_size {t:JV} (hf:Fine t):∀ x∈keysJ t,x.size<=6000:=by
  cases hf with | mk _ _ _ _ _ _ _ _ _ _ f3 _=>exact f3
end Go.Proofs.YtliekocamnklfaaGreatDoor.One
