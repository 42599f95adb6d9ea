/- two.Up's inner function: a resource of version 2. (Written by gen/tvh.py.) -/
import Derived.Test.YtliekocamnklfaaGreatDoorPTvE
import Derived.Test.YtliekocamnklfaaGreatDoorPTvF
import Derived.Test.YtliekocamnklfaaGreatDoorPOnY
set_option linter.unusedVariables false
set_option linter.unusedSimpArgs false
set_option maxRecDepth 100000
set_option maxHeartbeats 16000000
namespace Go.Proofs.YtliekocamnklfaaGreatDoor.One
open Go.RowKit Strs Jdec Save Go.Proofs.YtliekocamnklfaaGreatDoor.Addr
theorem dnB {w:World} {A B:Nat->Prop} {z:Raw} {t:JV} {b:Nat} (h:Hid (IsV w A z t)) (hA:∀ k,A k->k≠b/\B k) (x0 x1 x2 x3 x4 x5 x6 x7:Value):IsV ((((((((w.setCell ⟨b,0,none⟩ x0).setCell ⟨b,1,none⟩ x1).setCell ⟨b,2,none⟩ x2).setCell ⟨b,3,none⟩ x3).setCell ⟨b,4,none⟩ x4).setCell ⟨b,5,none⟩ x5).setCell ⟨b,6,none⟩ x6).setCell ⟨b,7,none⟩ x7) B z t:=
  h.out.turn ⟨(gb8 _ _ _ _ _ _ _ _ _ _).size,fun k hk hl=>⟨(gb8 _ _ _ _ _ _ _ _ _ _).block _ hl (fun e=>by injection e with e;exact (hA k hk).1 e),(hA k hk).2⟩⟩
theorem dtextA (s:ByteArray) (A:Nat->Prop) (w:World):Calls Tryz.prog 63 #[.string s] w (ValP (strV s) A w):=
  (dtext_any s w).mono fun e w' h=>⟨strR s,h.1,strR_is _ _ _,h.2⟩
theorem vobj {w:World} {A:Nat->Prop} {kb vb:Nat} {ks:List ByteArray} (F:List (Raw × JV)) (K:Hid (IsTexts w (fun _=>True) (some ⟨kb,0,none⟩) ks)) (V:Hid (w.heap[vb]?=some (.cells ((F.map (·.1)).flatMap Raw.cells).toArray 29 (0,0)))) (hk:A kb) (hv:A vb) (hI:∀ x∈F,IsV w A x.1 x.2) (n m:Nat) (hn:n=ks.length) (hm:m=F.length):Calls Tryz.prog 62 #[.slice (some ⟨kb,0,none⟩) n n,.slice (some ⟨vb,0,none⟩) m m] w (ValP (objectOf ks (F.map (·.2))) A w):=
  (dobject_any (some ⟨kb,0,none⟩) n n (some ⟨vb,0,none⟩) m m w).mono fun e w' h=>⟨objR (some ⟨kb,0,none⟩) n n (some ⟨vb,0,none⟩) m m,h.1,(obj_is F K V hk hv hI n m hn hm).behind h.2,h.2⟩
theorem pair_new (w:World) (x y:ByteArray):∃ w1,w.alloc (.cells #[.string x,.string y] 9)=w1/\Hid (IsTexts w1 (fun _=>True) (some ⟨w.heap.size,0,none⟩) [x,y])/\Hid (Below w.heap.size w w1):=One.two_new w x y
theorem up11_any (x:ByteArray) (hx:x.size<=6000) (hty:(oldA x).type.size<=1000000) (r:JV) (hg:GoodQ r) (hm:r.mass<=3000) (g1:GoodQ (got r kId)) (g2:GoodQ (got r kAtt)) (tt:JV) (i:Nat) (hi:i<(keysJ tt).length) (hxi:(keysJ tt)[i]=x) (ro ra:Raw) (ob:Nat) (A1 A2 B:Nat->Prop) (w:World) (ho:IsV w A1 ro tt) (hV:w.heap[ob]?=some (.cells ro.arr 29 (0,0))) (hr:IsV w A2 ra r) (hB:∀ b,w.heap.size<=b->B b) (T:TabsP w):Calls Tryz.prog 60 #[.int .i64 i,ra.val,.pointer (some ⟨ob,0,none⟩)] w (ValP (res3 x r) B w):=by
  obtain ⟨w2,hw2,V2,B2⟩:=own8 w ra;obtain ⟨w3,hw3,V3,B3⟩:=own8 w2 Raw.zero;have V23:=hst V2 B3;have B03:=bel B2 B3;have HO:=Hid.out (p:=Hid _) (old_any x w3 hx (T.stays B03.out));have VO:Hid (w3.heap[ob]?=some (.cells ro.arr 29 (0,0))):=(B03.out.block _ (heap_lt hV)).trans hV;have HR:Hid (∀ W,Below w3.heap.size w3 W->Hid (IsV W A2 ra r)):=fun W hW=>hr.behind (B03.out.trans (hW.mono B03.out.size));have HG:Hid (GoodQ r/\r.mass<=3000/\GoodQ (got r kId)/\GoodQ (got r kAtt)):=⟨hg,hm,g1,g2⟩;have HB0:=Hid.out (p:=Hid _) hB;have HSZ:Hid (w.heap.size<=w2.heap.size/\w2.heap.size<w3.heap.size):=⟨B2.out.size,heap_lt V3.out⟩
  cases tt with
  | mk k is ng d e s ks vs=>
  obtain ⟨ka,kc,va,vc,rfl,ht,_,_,_⟩:=ho.parts;have hik:i<ks.length:=hi;have hxk:ks[i]=x:=hxi;have hne:ks≠[]:=fun e=>by rw [e] at hik;simp at hik
  obtain ⟨gb,o,rfl,_,hgb,hcs⟩:=ht.resolve_left hne;have c1:=(World.cell?_of_block (B03.out.block _ hgb)).trans (hcs i hik);rw [hxk] at c1;have hRes:res3 x r=objectOf [kProv,kId,kAtt] [strV (provB (oldA x).type),got r kId,got r kAtt]:=rfl;obtain ⟨tr,htr⟩:∃ tr,res3 x r=tr:=⟨_,rfl⟩;rw [htr] at hRes ⊢;have HRES:=Hid.out (p:=Hid _) hRes;obtain ⟨a,ha⟩:∃ a,oldA x=a:=⟨_,rfl⟩;rw [ha] at HRES hty;have HTY:=Hid.out (p:=Hid _) hty;have HOA:Hid ((oldP x.data.toList).getD zeroA=a):=ha;clear ho hV hr hB T hg hm g1 g2 hx hty ht hcs hgb hxk hxi hi hne hRes htr ha;unfold Raw.val
  dsimp only [Raw.zero] at hw3
  obtain ⟨⟨x0,x1,x2,x3,x4,x5,x6,x7⟩,_⟩:=val_cells VO.out;go_enter Tryz.func60,Tryz.ntmps60
  go_wp2_with fail
  refine (Calls.mono HO.out ?_);rintro z w4 ⟨pa,pc,rfl,hta,hb4⟩;rw [HOA.out] at hta ⊢;have E4:=Hid.out (p:=Hid _) hb4;generalize (if (oldP x.data.toList).isSome=true then (0:Int) else 3)=er;obtain ⟨w5,hw5,V5,B5⟩:=adr_new w4 pa pc a;have B35:=bel E4 B5;have V25:=hst V23 B35;have V35:=hst V3 B35;clear hta hb4 HO x0 x1 x2 x3 x4 x5 x6 x7 c1 hw2 hw3;unfold wordsA
  go_upto_region 2 with (fail)
  have HA:Hid (∀ b,w5.heap.size<=b->w3.heap.size<=b):=fun b hb=>Nat.le_trans B35.out.size hb;have HS:Hid (∀ W,Below w5.heap.size w5 W->W.heap[w.heap.size]?=some (.cells ra.arr 29 (0,0))/\W.heap[w4.heap.size]?=some (.cells (arrA pa pc a) 67 (0,0))):=fun W hW=>⟨(hW.block _ (heap_lt V25.out)).trans V25.out,(hW.block _ (heap_lt V5.out)).trans V5.out⟩;have HRW:Hid (∀ W,Below w5.heap.size w5 W->Hid (IsV W A2 ra r)):=fun W hW=>HR.out W (B35.out.trans (hW.mono B35.out.size));have V3W:Hid (∀ W,Below w5.heap.size w5 W->Hid (W.heap[w2.heap.size]?=some (.cells Raw.zero.arr 29 (0,0)))):=fun W hW=>(hW.block _ (heap_lt V35.out)).trans V35.out;have HN:Hid (w.heap.size≠w2.heap.size/\w4.heap.size≠w2.heap.size):=⟨by have:=heap_lt V2.out;omega,by have:=HSZ.out;have:=E4.out.size;omega⟩;have BX:=bel B03 B35;refine wp_region_held_drew (S:=(fun W=>W.heap[w.heap.size]?=some (.cells ra.arr 29 (0,0))/\W.heap[w4.heap.size]?=some (.cells (arrA pa pc a) 67 (0,0)))) (by kernel_rfl) ?_ (fun hHeld=>?_)
  · exact HS.out _ (Below.refl _ _).drew
  obtain ⟨wd,hwd⟩:∃ x,w5.drew=x:=⟨_,rfl⟩;have D:Hid (Below w5.heap.size w5 wd):=by rw [<-hwd];exact (Below.refl _ _).drew
  rw [hwd] at hHeld ⊢;clear hwd;have DA:=D
  repeat' first
    | (refine tkT 1 (by decide +kernel) ?_)
    | (refine tkT 2 (v:=.string a.type) (by decide +kernel) ?_ (hy:=by (intro w hs;have e1:w.cell? ⟨_,1,none⟩=some (.string a.type):=cell_of hs.2 1;clear hs;go_simp <;> with_reducible rfl)))
    | (refine tkT 5 (v:=.agg #[.int .i64 ra.kind,.bool ra.is,.bool ra.neg,.string ra.dig,.int .i64 ra.exp,.string ra.str,.slice ra.ka ra.kn ra.kc,.slice ra.va ra.vn ra.vc]) (by decide +kernel) ?_ (hy:=by (intro w hs;obtain ⟨⟨e0,e1,e2,e3,e4,e5,e6,e7⟩,_⟩:=val_cells hs.1;clear hs;go_simp <;> with_reducible rfl)))
    | (refine tkT 7 (v:=.agg #[.int .i64 ra.kind,.bool ra.is,.bool ra.neg,.string ra.dig,.int .i64 ra.exp,.string ra.str,.slice ra.ka ra.kn ra.kc,.slice ra.va ra.vn ra.vc]) (by decide +kernel) ?_ (hy:=by (intro w hs;obtain ⟨⟨e0,e1,e2,e3,e4,e5,e6,e7⟩,_⟩:=val_cells hs.1;clear hs;go_simp <;> with_reducible rfl)))
    | (refine rdT [0,3] (by decide +kernel) (by simp) ?_;try simp only [nz])
    | (refine rdT [3] (by decide +kernel) (by simp) ?_;try simp only [nz])
    | (refine rdT [4] (by decide +kernel) (by simp) ?_;try simp only [nz])
    | (refine rdT [6] (by decide +kernel) (by simp) ?_;try simp only [nz])
    | (refine rdT [8] (by decide +kernel) (by simp) ?_;try simp only [nz])
    | (refine rdT [9] (by decide +kernel) (by simp) ?_;try simp only [nz])
    | (refine rdT [10] (by decide +kernel) (by simp) ?_;try simp only [nz])
    | (refine rdT [11] (by decide +kernel) (by simp) ?_;try simp only [nz])
    | (refine rdT [0,4] (by decide +kernel) (by simp) ?_;try simp only [nz])
    | (refine rdT [0,6] (by decide +kernel) (by simp) ?_;try simp only [nz])
    | (refine rdT [0,8] (by decide +kernel) (by simp) ?_;try simp only [nz])
    | (refine rdT [0,9] (by decide +kernel) (by simp) ?_;try simp only [nz])
    | (refine rdT [0] (by decide +kernel) (by simp) ?_;try simp only [nz])
    | exact AllReadyH.nil
    | refine consT ?_ ?_
    | (refine (⟨fun K hK=>?_⟩:Tag 0 _)
       obtain ⟨q,hq,KK,E⟩:=wof D (three_new · kProv kId kAtt);unfold kProv kId kAtt at hq
       try simp only [nz]
       go_simp
       have MKK:=Hid.out (p:=Hid _) (upn HA DA _ (Nat.le_refl _));clear hq;replace D:=bel D E;(try replace DA:=bel DA E);(try replace I1:=kp I1 E);(try replace I2:=kp I2 E);(try replace I3:=kp I3 E);(try replace I4:=kp I4 E);(try replace VL:=hst VL E);(try replace KK:=ktx KK E);clear hHeld;refine hK.out _ _ ?_ (fun hHeld=>?_)
       · exact HS.out _ D.out
       clear hK K
       try simp only [nz])
    | (refine (⟨fun K hK=>?_⟩:Tag 3 _)
       try simp only [nz]
       go_simp
       go_at_call 56;refine (Calls.mono (dprov_any a.type HTY.out _) ?_)
       rintro z q ⟨rfl,hbq⟩;have E:=Hid.out (p:=Hid _) hbq;clear hbq;replace D:=bel D E;(try replace DA:=bel DA E);(try replace I1:=kp I1 E);(try replace I2:=kp I2 E);(try replace I3:=kp I3 E);(try replace I4:=kp I4 E);(try replace VL:=hst VL E);(try replace KK:=ktx KK E);clear hHeld;refine hK.out _ _ ?_ (fun hHeld=>?_)
       · exact HS.out _ D.out
       clear hK K
       try simp only [nz])
    | (refine (⟨fun K hK=>?_⟩:Tag 4 _)
       try simp only [nz]
       go_simp
       go_at_call 63;refine (Calls.mono (dtextA (provB a.type) (fun b=>w3.heap.size<=b) _) ?_)
       rintro z q hz;obtain ⟨z1,rfl,I1,E⟩:=hz.to;clear hz;unfold Raw.val;replace D:=bel D E;(try replace DA:=bel DA E);(try replace I1:=kp I1 E);(try replace I2:=kp I2 E);(try replace I3:=kp I3 E);(try replace I4:=kp I4 E);(try replace VL:=hst VL E);(try replace KK:=ktx KK E);clear hHeld;refine hK.out _ _ ?_ (fun hHeld=>?_)
       · exact HS.out _ D.out
       clear hK K
       try simp only [nz])
    | (refine (⟨fun K hK=>?_⟩:Tag 6 _)
       try simp only [nz]
       have HC:=dcopied_any HG.out.1 HG.out.2.1 (HRW.out _ D.out) kId HG.out.2.2.1 (upn HA DA);unfold Raw.val kId at HC
       go_simp
       go_at_call 64;refine (Calls.mono HC ?_)
       rintro z q hz;obtain ⟨z2,rfl,I2,E⟩:=hz.to;clear hz HC;unfold Raw.val;replace D:=bel D E;(try replace DA:=bel DA E);(try replace I1:=kp I1 E);(try replace I2:=kp I2 E);(try replace I3:=kp I3 E);(try replace I4:=kp I4 E);(try replace VL:=hst VL E);(try replace KK:=ktx KK E);clear hHeld;refine hK.out _ _ ?_ (fun hHeld=>?_)
       · exact HS.out _ D.out
       clear hK K
       try simp only [nz])
    | (refine (⟨fun K hK=>?_⟩:Tag 8 _)
       try simp only [nz]
       have HC:=dcopied_any HG.out.1 HG.out.2.1 (HRW.out _ D.out) kAtt HG.out.2.2.2 (upn HA DA);unfold Raw.val kAtt at HC
       go_simp
       go_at_call 64;refine (Calls.mono HC ?_)
       rintro z q hz;obtain ⟨z3,rfl,I3,E⟩:=hz.to;clear hz HC;unfold Raw.val;replace D:=bel D E;(try replace DA:=bel DA E);(try replace I1:=kp I1 E);(try replace I2:=kp I2 E);(try replace I3:=kp I3 E);(try replace I4:=kp I4 E);(try replace VL:=hst VL E);(try replace KK:=ktx KK E);clear hHeld;refine hK.out _ _ ?_ (fun hHeld=>?_)
       · exact HS.out _ D.out
       clear hK K
       try simp only [nz])
    | (refine (⟨fun K hK=>?_⟩:Tag 9 _)
       obtain ⟨q,hq,VL,E⟩:=wof D (kid3 · z1 z2 z3)
       try simp only [nz]
       go_simp
       have MVL:=Hid.out (p:=Hid _) (upn HA DA _ (Nat.le_refl _));clear hq;replace D:=bel D E;(try replace DA:=bel DA E);(try replace I1:=kp I1 E);(try replace I2:=kp I2 E);(try replace I3:=kp I3 E);(try replace I4:=kp I4 E);(try replace VL:=hst VL E);(try replace KK:=ktx KK E);clear hHeld;refine hK.out _ _ ?_ (fun hHeld=>?_)
       · exact HS.out _ D.out
       clear hK K
       try simp only [nz])
    | (refine (⟨fun K hK=>?_⟩:Tag 10 _)
       try simp only [nz]
       go_simp
       go_at_call 62;refine (Calls.mono (vobj [(z1,strV (provB a.type)),(z2,got r kId),(z3,got r kAtt)] KK VL MKK.out MVL.out (vem3 I1 I2 I3) 3 3 rfl rfl) ?_)
       rintro z q hz;obtain ⟨z4,rfl,I4,E⟩:=hz.to;clear hz;unfold Raw.val;replace D:=bel D E;(try replace DA:=bel DA E);(try replace I1:=kp I1 E);(try replace I2:=kp I2 E);(try replace I3:=kp I3 E);(try replace I4:=kp I4 E);(try replace VL:=hst VL E);(try replace KK:=ktx KK E);clear hHeld;refine hK.out _ _ ?_ (fun hHeld=>?_)
       · exact HS.out _ D.out
       clear hK K
       try simp only [nz])
    | (refine (⟨fun K hK=>?_⟩:Tag 11 _)
       have VZ:=V3W.out _ D.out;obtain ⟨⟨v0,v1,v2,v3,v4,v5,v6,v7⟩,y0,y1,y2,y3,y4,y5,y6,y7⟩:=val_cells VZ.out
       try simp only [nz]
       go_simp
       clear v0 v1 v2 v3 v4 v5 v6 v7 y0 y1 y2 y3 y4 y5 y6 y7;have HKE:=HS.out _ D.out;clear hHeld;refine hK.out _ _ ?_ (fun hHeld=>?_)
       · exact keep8 HKE (hd HN.out.1) (hd HN.out.2) _ _ _ _ _ _ _ _
       clear hK K
       try simp only [nz])
    | (refine dnT (by decide +kernel) ?_
       clear hHeld;go_wp2_with fail
       refine val_ret (a:=z4) (b:=w2.heap.size) rfl (set8 VZ.out z4) rfl ?_;exact ⟨z4,rfl,by rw [HRES.out];exact dnB I4 (fun k hk=>by have hk:w3.heap.size<=k:=hk;have:=HSZ.out;exact ⟨by omega,HB0.out k (by omega)⟩) _ _ _ _ _ _ _ _,below8 (bel BX D).out HSZ.out.1 _ _ _ _ _ _ _ _⟩)
end Go.Proofs.YtliekocamnklfaaGreatDoor.One
