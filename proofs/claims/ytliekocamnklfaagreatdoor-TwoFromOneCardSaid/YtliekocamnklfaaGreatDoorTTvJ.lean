/- two.Up's outer function: a module of version 2. (Written by gen/tvh.py.) -/
import Derived.Test.YtliekocamnklfaaGreatDoorTTvR
import Derived.Test.YtliekocamnklfaaGreatDoorTTvE
set_option linter.unusedVariables false
set_option linter.unusedSimpArgs false
set_option maxRecDepth 100000
set_option maxHeartbeats 16000000
namespace Go.Proofs.YtliekocamnklfaaGreatDoor.One
open Go.RowKit Strs Jdec Save Go.Proofs.YtliekocamnklfaaGreatDoor.Addr
theorem zip_mapIdx (g:ByteArray->JV->JV):∀ (ks:List ByteArray) (vs:List JV),ks.length=vs.length->List.zipWith g ks vs=vs.mapIdx fun i v=>g (ks.getD i ⟨#[]⟩) v:=fun ks vs h=>by
  apply List.ext_getElem
  · simp [h]
  · intro i h1 h2
    have hv:i<vs.length:=by simpa using h2
    have hk:i<ks.length:=by omega
    rw [List.getElem_zipWith,List.getElem_mapIdx];simp [List.getD,hk]
theorem change_ress {r:JV} (hg:GoodQ r) (h6:kindOf r=6):changeJ (fun i v=>res3 ((keysJ r).getD i ⟨#[]⟩) v) r=ress3 r:=by
  have:=(goodq_keys hg h6).1;unfold changeJ ress3;rw [h6,zip_mapIdx _ _ _ this];rfl
theorem up1_any (i:Int) (m:JV) (hg:GoodQ m) (hf:Fine m) (hm:m.mass<=3000) (hb:modB [kId,kAtt] m=true) (ra:Raw) (A B:Nat->Prop) (w:World) (hi:IsV w A ra m) (hB:∀ b,w.heap.size<=b->B b) (T:TabsP w):Calls Tryz.prog 59 #[.int .i64 i,ra.val] w (ValP (mod3 m) B w):=by
  obtain ⟨h1,h2,h3,h4⟩:=mod_parts hb;have gp:=got_good hg h1;have gr:=got_good hg h2;obtain ⟨h6,hk,hv⟩:=ress_parts h4;have fr:=got_fine hf kRes;have mr:=got_mass m kRes;have hch:=change_ress gr h6;have hkl:=(goodq_keys gr h6).1;obtain ⟨w2,hw2,V2,B2⟩:=own8 w ra;obtain ⟨w3,hw3,V3,B3⟩:=own8 w2 Raw.zero;have V23:=hst V2 B3;have B03:=bel B2 B3;have HSZ:Hid (w.heap.size<=w2.heap.size/\w2.heap.size<w3.heap.size):=⟨B2.out.size,heap_lt V3.out⟩;have HB0:=Hid.out (p:=Hid _) hB;have HR:Hid (∀ W,Below w3.heap.size w3 W->Hid (IsV W A ra m)):=fun W hW=>hi.behind (B03.out.trans (hW.mono B03.out.size));have H1:=Hid.out (p:=Hid _) (dget_any hg hm (HR.out w3 (Below.refl _ _)) kRes);have HG:Hid (GoodQ m/\m.mass<=3000/\GoodQ (got m kPath)):=⟨hg,hm,gp⟩;obtain ⟨tt,hto⟩:∃ tt,got m kRes=tt:=⟨_,rfl⟩;have hMod:mod3 m=objectOf [kPath,kRes] [got m kPath,ress3 tt]:=by rw [mod3,hto]
  rw [hto] at gr h6 hk hv fr mr hch hkl H1;have HC:Hid (∀ (W:World) (ob:Nat) (ro:Raw),Below w.heap.size w W->W.heap[ob]?=some (.cells ro.arr 29 (0,0))->Hid (IsV W (fun _=>True) ro tt)->Calls Tryz.prog 57 #[ro.val,.func (.func 60) #[] #[.pointer (some ⟨ob,0,none⟩)]] W (ValP (ress3 tt) (fun b=>W.heap.size<=b) W)):=fun W ob ro hW hV ho=>by
    rw [<-hch];refine change_any 60 #[.pointer (some ⟨ob,0,none⟩)] (enters_of Tryz.func60 (by kernel_rfl) rfl) _ tt (by omega) ro _ _ W ho.out (fun _ h=>h) fun j hj rr w' hw' hr=>?_;have hj':j<(keysJ tt).length:=by omega
    have e1:(keysJ tt).getD j ⟨#[]⟩=(keysJ tt)[j]:=by simp [List.getD,hj']
    have hmem:=List.getElem_mem hj;have hkm:=List.getElem_mem hj';obtain ⟨p1,p2,p3⟩:=res_parts (hv _ hmem);have gv:=GoodQ.kids gr _ hmem;show Calls _ _ #[.int .i64 j,rr.val,.pointer (some ⟨ob,0,none⟩)] w' (ValP (res3 ((keysJ tt).getD j ⟨#[]⟩) (kidsJ tt)[j]) _ w');rw [e1];have hks:=key_size fr _ hkm;exact up11_any _ hks (by have:=old_size (hk _ hkm);omega) _ gv (by have:=mass_kid hmem;omega) (got_good gv (p1 kId (by simp))) (got_good gv (p1 kAtt (by simp))) tt j hj' rfl ro rr ob _ _ _ w' (ho.out.behind hw') ((hw'.block _ (heap_lt hV)).trans hV) hr (fun _ h=>h) (T.stays (hW.trans (hw'.mono hW.size)))
  obtain ⟨tr,htr⟩:∃ tr,mod3 m=tr:=⟨_,rfl⟩;rw [htr] at hMod ⊢;have HMOD:=Hid.out (p:=Hid _) hMod;clear hg hf hm hb hi hB T h1 h2 h3 h4 gp gr h6 hk hv fr mr hch hkl hto hMod htr;unfold Raw.val kRes at H1;unfold Raw.val
  dsimp only [Raw.zero] at hw3
  have hmf:∀ (fn:Fn) (first cap:Array Value) (w:World),(Instr.makeFunc fn first cap).run Tryz.prog w=.ok (.func fn first cap) w:=fun _ _ _ _=>rfl;obtain ⟨⟨x0,x1,x2,x3,x4,x5,x6,x7⟩,_⟩:=val_cells V23.out;go_enter Tryz.func59,Tryz.ntmps59
  go_wp2_with fail
  refine (Calls.mono H1.out ?_);rintro z w4 hz;obtain ⟨zo,rfl,Io,E4⟩:=hz.to;obtain ⟨w5,hw5,V5,B5⟩:=own8 w4 zo;have B35:=bel E4 B5;have I5:=kp Io B5;have H2:=Hid.out (p:=Hid _) (HC.out w5 w4.heap.size zo (bel B03 B35).out V5.out I5);have V25:=hst V23 B35;have V35:=hst V3 B35;clear hz H1 x0 x1 x2 x3 x4 x5 x6 x7 hw2 hw3 HC;unfold Raw.val at H2 ⊢;obtain ⟨⟨x0,x1,x2,x3,x4,x5,x6,x7⟩,_⟩:=val_cells V5.out;go_wp2_with fail
  refine (Calls.mono H2.out ?_);rintro z w6 hz;obtain ⟨zn,rfl,In,E6⟩:=hz.to;obtain ⟨w7,hw7,V7,B7⟩:=own8 w6 zn;have B57:=bel E6 B7;have B37:=bel B35 B57;have V27:=hst V25 B57;have V37:=hst V35 B57;have I7:Hid (IsV w7 (fun b=>w3.heap.size<=b) zn (ress3 tt)):=(In.out.behind B7.out).turn (Turn.mono _ fun b hb _=>Nat.le_trans B35.out.size hb);clear hz H2 x0 x1 x2 x3 x4 x5 x6 x7 In;unfold Raw.val
  go_upto_region 3 with (fail)
  have HA:Hid (∀ b,w7.heap.size<=b->w3.heap.size<=b):=fun b hb=>Nat.le_trans B37.out.size hb;have HS:Hid (∀ W,Below w7.heap.size w7 W->W.heap[w.heap.size]?=some (.cells ra.arr 29 (0,0))/\W.heap[w6.heap.size]?=some (.cells zn.arr 29 (0,0))):=fun W hW=>⟨(hW.block _ (heap_lt V27.out)).trans V27.out,(hW.block _ (heap_lt V7.out)).trans V7.out⟩;have HRW:Hid (∀ W,Below w7.heap.size w7 W->Hid (IsV W A ra m)):=fun W hW=>HR.out W (B37.out.trans (hW.mono B37.out.size));have V3W:Hid (∀ W,Below w7.heap.size w7 W->Hid (W.heap[w2.heap.size]?=some (.cells Raw.zero.arr 29 (0,0)))):=fun W hW=>(hW.block _ (heap_lt V37.out)).trans V37.out;have HN:Hid (w.heap.size≠w2.heap.size/\w6.heap.size≠w2.heap.size):=⟨by have:=heap_lt V2.out;omega,by have:=HSZ.out;have:=(bel B35 E6).out.size;omega⟩;have BX:=bel B03 B37;refine wp_region_held_drew (S:=(fun W=>W.heap[w.heap.size]?=some (.cells ra.arr 29 (0,0))/\W.heap[w6.heap.size]?=some (.cells zn.arr 29 (0,0)))) (by kernel_rfl) ?_ (fun hHeld=>?_)
  · exact HS.out _ (Below.refl _ _).drew
  obtain ⟨wd,hwd⟩:∃ x,w7.drew=x:=⟨_,rfl⟩;have D:Hid (Below w7.heap.size w7 wd):=by rw [<-hwd];exact (Below.refl _ _).drew
  rw [hwd] at hHeld ⊢;clear hwd;have DA:=D;replace I7:=kp I7 D
  repeat' first
    | (refine tkT 1 (v:=.agg #[.int .i64 ra.kind,.bool ra.is,.bool ra.neg,.string ra.dig,.int .i64 ra.exp,.string ra.str,.slice ra.ka ra.kn ra.kc,.slice ra.va ra.vn ra.vc]) (by decide +kernel) ?_ (hy:=by (intro w hs;obtain ⟨⟨e0,e1,e2,e3,e4,e5,e6,e7⟩,_⟩:=val_cells hs.1;clear hs;go_simp <;> with_reducible rfl)))
    | (refine tkT 3 (v:=.agg #[.int .i64 zn.kind,.bool zn.is,.bool zn.neg,.string zn.dig,.int .i64 zn.exp,.string zn.str,.slice zn.ka zn.kn zn.kc,.slice zn.va zn.vn zn.vc]) (by decide +kernel) ?_ (hy:=by (intro w hs;obtain ⟨⟨e0,e1,e2,e3,e4,e5,e6,e7⟩,_⟩:=val_cells hs.2;clear hs;go_simp <;> with_reducible rfl)))
    | (refine rdT [0,2] (by decide +kernel) (by simp) ?_;try simp only [nz])
    | (refine rdT [2] (by decide +kernel) (by simp) ?_;try simp only [nz])
    | (refine rdT [4] (by decide +kernel) (by simp) ?_;try simp only [nz])
    | (refine rdT [5] (by decide +kernel) (by simp) ?_;try simp only [nz])
    | (refine rdT [6] (by decide +kernel) (by simp) ?_;try simp only [nz])
    | (refine rdT [0,4] (by decide +kernel) (by simp) ?_;try simp only [nz])
    | (refine rdT [0] (by decide +kernel) (by simp) ?_;try simp only [nz])
    | exact AllReadyH.nil
    | refine consT ?_ ?_
    | (refine (⟨fun K hK=>?_⟩:Tag 0 _)
       obtain ⟨q,hq,KK,E⟩:=wof D (pair_new · kPath kRes);unfold kPath kRes at hq
       try simp only [nz]
       go_simp
       have MKK:=Hid.out (p:=Hid _) (upn HA DA _ (Nat.le_refl _));clear hq;replace D:=bel D E;(try replace DA:=bel DA E);(try replace I7:=kp I7 E);(try replace I1:=kp I1 E);(try replace I4:=kp I4 E);(try replace VL:=hst VL E);(try replace KK:=ktx KK E);clear hHeld;refine hK.out _ _ ?_ (fun hHeld=>?_)
       · exact HS.out _ D.out
       clear hK K
       try simp only [nz])
    | (refine (⟨fun K hK=>?_⟩:Tag 2 _)
       try simp only [nz]
       have HC:=dcopied_any HG.out.1 HG.out.2.1 (HRW.out _ D.out) kPath HG.out.2.2 (upn HA DA);unfold Raw.val kPath at HC
       go_simp
       go_at_call 64;refine (Calls.mono HC ?_)
       rintro z q hz;obtain ⟨z1,rfl,I1,E⟩:=hz.to;clear hz HC;unfold Raw.val;replace D:=bel D E;(try replace DA:=bel DA E);(try replace I7:=kp I7 E);(try replace I1:=kp I1 E);(try replace I4:=kp I4 E);(try replace VL:=hst VL E);(try replace KK:=ktx KK E);clear hHeld;refine hK.out _ _ ?_ (fun hHeld=>?_)
       · exact HS.out _ D.out
       clear hK K
       try simp only [nz])
    | (refine (⟨fun K hK=>?_⟩:Tag 4 _)
       obtain ⟨q,hq,VL,E⟩:=wof D (kid2 · z1 zn)
       try simp only [nz]
       go_simp
       have MVL:=Hid.out (p:=Hid _) (upn HA DA _ (Nat.le_refl _));clear hq;replace D:=bel D E;(try replace DA:=bel DA E);(try replace I7:=kp I7 E);(try replace I1:=kp I1 E);(try replace I4:=kp I4 E);(try replace VL:=hst VL E);(try replace KK:=ktx KK E);clear hHeld;refine hK.out _ _ ?_ (fun hHeld=>?_)
       · exact HS.out _ D.out
       clear hK K
       try simp only [nz])
    | (refine (⟨fun K hK=>?_⟩:Tag 5 _)
       try simp only [nz]
       go_simp
       go_at_call 62;refine (Calls.mono (vobj [(z1,got m kPath),(zn,ress3 tt)] KK VL MKK.out MVL.out (vem2 I1 I7) 2 2 rfl rfl) ?_)
       rintro z q hz;obtain ⟨z4,rfl,I4,E⟩:=hz.to;clear hz;unfold Raw.val;replace D:=bel D E;(try replace DA:=bel DA E);(try replace I7:=kp I7 E);(try replace I1:=kp I1 E);(try replace I4:=kp I4 E);(try replace VL:=hst VL E);(try replace KK:=ktx KK E);clear hHeld;refine hK.out _ _ ?_ (fun hHeld=>?_)
       · exact HS.out _ D.out
       clear hK K
       try simp only [nz])
    | (refine (⟨fun K hK=>?_⟩:Tag 6 _)
       have VZ:=V3W.out _ D.out;obtain ⟨⟨v0,v1,v2,v3,v4,v5,v6,v7⟩,y0,y1,y2,y3,y4,y5,y6,y7⟩:=val_cells VZ.out
       try simp only [nz]
       go_simp
       clear v0 v1 v2 v3 v4 v5 v6 v7 y0 y1 y2 y3 y4 y5 y6 y7;have HKE:=HS.out _ D.out;clear hHeld;refine hK.out _ _ ?_ (fun hHeld=>?_)
       · exact keep8 HKE (hd HN.out.1) (hd HN.out.2) _ _ _ _ _ _ _ _
       clear hK K
       try simp only [nz])
    | (refine dnT (by decide +kernel) ?_
       clear hHeld;go_wp2_with fail
       refine val_ret (a:=z4) (b:=w2.heap.size) rfl (set8 VZ.out z4) rfl ?_;exact ⟨z4,rfl,by rw [HMOD.out];exact dnB I4 (fun k hk=>by have hk:w3.heap.size<=k:=hk;have:=HSZ.out;exact ⟨by omega,HB0.out k (by omega)⟩) _ _ _ _ _ _ _ _,below8 (bel BX D).out HSZ.out.1 _ _ _ _ _ _ _ _⟩)
theorem dup_no (t:JV) (hq:¬ TwoQ t) (hf:Fine t) (hm:t.mass<=3000) (ra:Raw) (A:Nat->Prop) (w:World) (hi:IsV w A ra t) (T:TabsP w):Calls Tryz.prog 20 #[ra.val] w (UpP .zero 10 w):=by
  obtain ⟨w2,hw2,V2,B2⟩:=own8 w ra;obtain ⟨w3,hw3,V3,B3⟩:=own8 w2 Raw.zero;have V23:=hst V2 B3;have B03:=bel B2 B3;have HR:=Hid.out (p:=Hid _) (dright_any t hf hm ra A w3 (hi.behind B03.out) (T.stays B03.out));have HQ:=Hid.out (p:=Hid _) hq;have HS:=Hid.out (p:=Hid _) B2.out.size;clear hq hf hm hi T
  dsimp only [Raw.zero] at hw3
  unfold Raw.val at HR;obtain ⟨⟨x0,x1,x2,x3,x4,x5,x6,x7⟩,_⟩:=val_cells V23.out;unfold Raw.val;go_enter Tryz.func20,Tryz.ntmps20
  go_wp2_with fail
  refine (Calls.mono HR.out ?_);rintro z w4 ⟨b,rfl,hb,hb4⟩;obtain rfl:false=b:=by
    cases b with
    | false=>rfl
    | true=>exact absurd (hb.1 rfl) HQ.out
  have E4:=Hid.out (p:=Hid _) hb4;have V4:=hst V3 E4;have B04:=bel B03 E4;clear hb hb4 x0 x1 x2 x3 x4 x5 x6 x7 hw2 hw3;obtain ⟨⟨r0,r1,r2,r3,r4,r5,r6,r7⟩,g0,g1,g2,g3,g4,g5,g6,g7⟩:=val_cells V4.out;go_wp2_with fail
  refine fin2 (a:=Raw.zero) (b:=w2.heap.size) rfl (set8 V4.out Raw.zero) rfl ?_;exact ⟨Raw.zero,rfl,zero_is _ _,below8 B04.out HS.out _ _ _ _ _ _ _ _⟩
theorem change_mods {r:JV} (h:kindOf r=5) (hk:keysJ r=[]):changeJ (fun _ m=>mod3 m) r=listOf ((kidsJ r).map mod3):=by
  unfold changeJ;rw [h,hk,List.mapIdx_eq_zipIdx_map]
  congr 1
  apply List.ext_getElem
  · simp
  · intro i h1 h2;simp
theorem list_keys {r:JV} (hg:GoodQ r) (h:kindOf r=5):keysJ r=[]:=by
  cases hg with
  | mk k i n d e s ks vs o f=>
    have h:k=5:=h;subst h;exact o.noKeys (by decide)
theorem dup_yes (t:JV) (hq:TwoQ t) (hf:Fine t) (hm:t.mass<=3000) (ra:Raw) (A:Nat->Prop) (w:World) (hi:IsV w A ra t) (T:TabsP w):Calls Tryz.prog 20 #[ra.val] w (UpP (up2J t) 0 w):=by
  obtain ⟨⟨hg,hd⟩,h⟩:=id hq;obtain ⟨ho,_,_,_,h5,hmd⟩:=mods_parts h;have gs:=got_good hg (ho kSer (by simp [kFour]));have gl:=got_good hg (ho kLin (by simp [kFour]));have gm:=got_good hg (ho kMod (by simp [kFour]));have fm:=got_fine hf kMod;have mm:=got_mass t kMod;have hch:=change_mods h5 (list_keys gm h5);obtain ⟨w2,hw2,V2,B2⟩:=own8 w ra;obtain ⟨w3,hw3,V3,B3⟩:=own8 w2 Raw.zero;have V23:=hst V2 B3;have B03:=bel B2 B3;have HSZ:Hid (w.heap.size<=w2.heap.size/\w2.heap.size<w3.heap.size):=⟨B2.out.size,heap_lt V3.out⟩;have HQ:=Hid.out (p:=Hid _) hq;have HRT:=Hid.out (p:=Hid _) (dright_any t hf hm ra A w3 (hi.behind B03.out) (T.stays B03.out));have HR:Hid (∀ W,Below w3.heap.size w3 W->Hid (IsV W A ra t)):=fun W hW=>hi.behind (B03.out.trans (hW.mono B03.out.size));have HT:Hid (∀ W,Below w3.heap.size w3 W->TabsP W):=fun W hW=>T.stays (B03.out.trans (hW.mono B03.out.size));have HG:Hid (GoodQ t/\t.mass<=3000/\GoodQ (got t kSer)/\GoodQ (got t kLin)):=⟨hg,hm,gs,gl⟩;obtain ⟨tm,htm⟩:∃ tm,got t kMod=tm:=⟨_,rfl⟩;have hUp:up2J t=objectOf kFour [numV 3,got t kSer,got t kLin,listOf ((kidsJ tm).map mod3)]:=by rw [up2J,htm]
  have HG1:Hid (∀ (W:World),Hid (IsV W A ra t)->Calls Tryz.prog 58 #[ra.val,.string kMod] W (ValP tm (fun _=>True) W)):=fun W hW=>by rw [<-htm];exact dget_any hg hm hW kMod
  rw [htm] at gm fm mm hch hmd;have HC:Hid (∀ (W:World) (ro:Raw),Below w3.heap.size w3 W->Hid (IsV W (fun _=>True) ro tm)->Calls Tryz.prog 57 #[ro.val,.func (.func 59) #[] #[]] W (ValP (listOf ((kidsJ tm).map mod3)) (fun b=>W.heap.size<=b) W)):=fun W ro hW ho=>by
    rw [<-hch];refine change_any 59 #[] (enters_of Tryz.func59 (by kernel_rfl) rfl) _ tm (by omega) ro _ _ W ho.out (fun _ h=>h) fun j hj rr w' hw' hr=>?_;have hmem:=List.getElem_mem hj;exact up1_any j _ (GoodQ.kids gm _ hmem) (fine_kid fm hmem) (by have:=mass_kid hmem;omega) (hmd _ hmem) rr _ _ w' hr (fun _ h=>h) (HT.out w' (hW.trans (hw'.mono hW.size)))
  obtain ⟨tr,htr⟩:∃ tr,up2J t=tr:=⟨_,rfl⟩;rw [htr] at hUp ⊢;have HUP:=Hid.out (p:=Hid _) hUp;clear hq hf hm hi T hg hd h ho h5 hmd gs gl gm fm mm hch hUp htr htm;unfold Raw.val at HRT HG1 ⊢;unfold kMod at HG1
  dsimp only [Raw.zero] at hw3
  obtain ⟨⟨x0,x1,x2,x3,x4,x5,x6,x7⟩,_⟩:=val_cells V23.out;go_enter Tryz.func20,Tryz.ntmps20
  go_wp2_with fail
  refine (Calls.mono HRT.out ?_);rintro z w4 ⟨b,rfl,hb,hb4⟩;obtain rfl:true=b:=(hb.2 HQ.out).symm;have E4:=Hid.out (p:=Hid _) hb4;have V24:=hst V23 E4;have H1:=Hid.out (p:=Hid _) (HG1.out w4 (HR.out w4 E4.out));clear hb hb4 x0 x1 x2 x3 x4 x5 x6 x7 hw2 hw3 HRT HG1;obtain ⟨⟨x0,x1,x2,x3,x4,x5,x6,x7⟩,_⟩:=val_cells V24.out;go_wp2_with fail
  refine (Calls.mono H1.out ?_);rintro z w5 hz;obtain ⟨zm,rfl,Im,E5⟩:=hz.to;have E35:=bel E4 E5;have H2:=Hid.out (p:=Hid _) (HC.out w5 zm E35.out Im);clear hz H1 x0 x1 x2 x3 x4 x5 x6 x7 HC;unfold Raw.val at H2 ⊢;go_wp2_with fail
  refine (Calls.mono H2.out ?_);rintro z w6 hz;obtain ⟨zn,rfl,In,E6⟩:=hz.to;obtain ⟨w7,hw7,V7,B7⟩:=own8 w6 zn;have B57:=bel E6 B7;have B37:=bel E35 B57;have V27:=hst V23 B37;have V37:=hst V3 B37;have I7:Hid (IsV w7 (fun b=>w3.heap.size<=b) zn (listOf ((kidsJ tm).map mod3))):=(In.out.behind B7.out).turn (Turn.mono _ fun b hb _=>Nat.le_trans E35.out.size hb);clear hz H2 In;unfold Raw.val
  go_upto_region 4 with (fail)
  have HA:Hid (∀ b,w7.heap.size<=b->w3.heap.size<=b):=fun b hb=>Nat.le_trans B37.out.size hb;have HS:Hid (∀ W,Below w7.heap.size w7 W->W.heap[w.heap.size]?=some (.cells ra.arr 29 (0,0))/\W.heap[w6.heap.size]?=some (.cells zn.arr 29 (0,0))):=fun W hW=>⟨(hW.block _ (heap_lt V27.out)).trans V27.out,(hW.block _ (heap_lt V7.out)).trans V7.out⟩;have HRW:Hid (∀ W,Below w7.heap.size w7 W->Hid (IsV W A ra t)):=fun W hW=>HR.out W (B37.out.trans (hW.mono B37.out.size));have HPW:Hid (∀ W,Below w7.heap.size w7 W->Jdec.Pow10 W):=fun W hW=>(HT.out W (B37.out.trans (hW.mono B37.out.size))).p;have V3W:Hid (∀ W,Below w7.heap.size w7 W->Hid (W.heap[w2.heap.size]?=some (.cells Raw.zero.arr 29 (0,0)))):=fun W hW=>(hW.block _ (heap_lt V37.out)).trans V37.out;have HN:Hid (w.heap.size≠w2.heap.size/\w6.heap.size≠w2.heap.size):=⟨by have:=heap_lt V2.out;omega,by have:=HSZ.out;have:=(bel E35 E6).out.size;omega⟩;have BX:=bel B03 B37;refine wp_region_held_drew (S:=(fun W=>W.heap[w.heap.size]?=some (.cells ra.arr 29 (0,0))/\W.heap[w6.heap.size]?=some (.cells zn.arr 29 (0,0)))) (by kernel_rfl) ?_ (fun hHeld=>?_)
  · exact HS.out _ (Below.refl _ _).drew
  obtain ⟨wd,hwd⟩:∃ x,w7.drew=x:=⟨_,rfl⟩;have D:Hid (Below w7.heap.size w7 wd):=by rw [<-hwd];exact (Below.refl _ _).drew
  rw [hwd] at hHeld ⊢;clear hwd;have DA:=D;replace I7:=kp I7 D
  repeat' first
    | (refine tkT 3 (v:=.agg #[.int .i64 ra.kind,.bool ra.is,.bool ra.neg,.string ra.dig,.int .i64 ra.exp,.string ra.str,.slice ra.ka ra.kn ra.kc,.slice ra.va ra.vn ra.vc]) (by decide +kernel) ?_ (hy:=by (intro w hs;obtain ⟨⟨e0,e1,e2,e3,e4,e5,e6,e7⟩,_⟩:=val_cells hs.1;clear hs;go_simp <;> with_reducible rfl)))
    | (refine tkT 5 (v:=.agg #[.int .i64 ra.kind,.bool ra.is,.bool ra.neg,.string ra.dig,.int .i64 ra.exp,.string ra.str,.slice ra.ka ra.kn ra.kc,.slice ra.va ra.vn ra.vc]) (by decide +kernel) ?_ (hy:=by (intro w hs;obtain ⟨⟨e0,e1,e2,e3,e4,e5,e6,e7⟩,_⟩:=val_cells hs.1;clear hs;go_simp <;> with_reducible rfl)))
    | (refine tkT 7 (v:=.agg #[.int .i64 zn.kind,.bool zn.is,.bool zn.neg,.string zn.dig,.int .i64 zn.exp,.string zn.str,.slice zn.ka zn.kn zn.kc,.slice zn.va zn.vn zn.vc]) (by decide +kernel) ?_ (hy:=by (intro w hs;obtain ⟨⟨e0,e1,e2,e3,e4,e5,e6,e7⟩,_⟩:=val_cells hs.2;clear hs;go_simp <;> with_reducible rfl)))
    | (refine tkT 2 (by decide +kernel) ?_)
    | (refine tkT 11 (by decide +kernel) ?_)
    | (refine rdT [0,1] (by decide +kernel) (by simp) ?_;try simp only [nz])
    | (refine rdT [1] (by decide +kernel) (by simp) ?_;try simp only [nz])
    | (refine rdT [4] (by decide +kernel) (by simp) ?_;try simp only [nz])
    | (refine rdT [6] (by decide +kernel) (by simp) ?_;try simp only [nz])
    | (refine rdT [8] (by decide +kernel) (by simp) ?_;try simp only [nz])
    | (refine rdT [9] (by decide +kernel) (by simp) ?_;try simp only [nz])
    | (refine rdT [10] (by decide +kernel) (by simp) ?_;try simp only [nz])
    | (refine rdT [0,4] (by decide +kernel) (by simp) ?_;try simp only [nz])
    | (refine rdT [0,6] (by decide +kernel) (by simp) ?_;try simp only [nz])
    | (refine rdT [0,8] (by decide +kernel) (by simp) ?_;try simp only [nz])
    | (refine rdT [0] (by decide +kernel) (by simp) ?_;try simp only [nz])
    | exact AllReadyH.nil
    | refine consT ?_ ?_
    | (refine (⟨fun K hK=>?_⟩:Tag 0 _)
       obtain ⟨q,hq,KK,E⟩:=wof D (dfour_new · kVer kSer kLin kMod);unfold kVer kSer kLin kMod at hq
       try simp only [nz]
       go_simp
       have MKK:=Hid.out (p:=Hid _) (upn HA DA _ (Nat.le_refl _));clear hq;replace D:=bel D E;(try replace DA:=bel DA E);(try replace I7:=kp I7 E);(try replace I2:=kp I2 E);(try replace I3:=kp I3 E);(try replace I4:=kp I4 E);(try replace VL:=hst VL E);(try replace KK:=ktx KK E);clear hHeld;refine hK.out _ _ ?_ (fun hHeld=>?_)
       · exact HS.out _ D.out
       clear hK K
       try simp only [nz])
    | (refine (⟨fun K hK=>?_⟩:Tag 1 _)
       try simp only [nz]
       go_simp
       go_at_call 65;refine (Calls.mono (Save.of_any 3 (by decide) _ (HPW.out _ D.out)).out ?_)
       rintro z q hz;obtain ⟨dd,xx,rfl,hdx,E⟩:=hz.to;obtain ⟨h1,h2⟩:=hdx.out;subst h1 h2;clear hz hdx;replace D:=bel D E;(try replace DA:=bel DA E);(try replace I7:=kp I7 E);(try replace I2:=kp I2 E);(try replace I3:=kp I3 E);(try replace I4:=kp I4 E);(try replace VL:=hst VL E);(try replace KK:=ktx KK E);clear hHeld;refine hK.out _ _ ?_ (fun hHeld=>?_)
       · exact HS.out _ D.out
       clear hK K
       try simp only [nz])
    | (refine (⟨fun K hK=>?_⟩:Tag 4 _)
       try simp only [nz]
       have HC:=dcopied_any HG.out.1 HG.out.2.1 (HRW.out _ D.out) kSer HG.out.2.2.1 (upn HA DA);unfold Raw.val kSer at HC
       go_simp
       go_at_call 64;refine (Calls.mono HC ?_)
       rintro z q hz;obtain ⟨z2,rfl,I2,E⟩:=hz.to;clear hz HC;unfold Raw.val;replace D:=bel D E;(try replace DA:=bel DA E);(try replace I7:=kp I7 E);(try replace I2:=kp I2 E);(try replace I3:=kp I3 E);(try replace I4:=kp I4 E);(try replace VL:=hst VL E);(try replace KK:=ktx KK E);clear hHeld;refine hK.out _ _ ?_ (fun hHeld=>?_)
       · exact HS.out _ D.out
       clear hK K
       try simp only [nz])
    | (refine (⟨fun K hK=>?_⟩:Tag 6 _)
       try simp only [nz]
       have HC:=dcopied_any HG.out.1 HG.out.2.1 (HRW.out _ D.out) kLin HG.out.2.2.2 (upn HA DA);unfold Raw.val kLin at HC
       go_simp
       go_at_call 64;refine (Calls.mono HC ?_)
       rintro z q hz;obtain ⟨z3,rfl,I3,E⟩:=hz.to;clear hz HC;unfold Raw.val;replace D:=bel D E;(try replace DA:=bel DA E);(try replace I7:=kp I7 E);(try replace I2:=kp I2 E);(try replace I3:=kp I3 E);(try replace I4:=kp I4 E);(try replace VL:=hst VL E);(try replace KK:=ktx KK E);clear hHeld;refine hK.out _ _ ?_ (fun hHeld=>?_)
       · exact HS.out _ D.out
       clear hK K
       try simp only [nz])
    | (refine (⟨fun K hK=>?_⟩:Tag 8 _)
       obtain ⟨q,hq,VL,E⟩:=wof D (kid4 · (One.numR 3) z2 z3 zn)
       dsimp only [One.numR] at hq
       try simp only [nz]
       go_simp
       have MVL:=Hid.out (p:=Hid _) (upn HA DA _ (Nat.le_refl _));clear hq;replace D:=bel D E;(try replace DA:=bel DA E);(try replace I7:=kp I7 E);(try replace I2:=kp I2 E);(try replace I3:=kp I3 E);(try replace I4:=kp I4 E);(try replace VL:=hst VL E);(try replace KK:=ktx KK E);clear hHeld;refine hK.out _ _ ?_ (fun hHeld=>?_)
       · exact HS.out _ D.out
       clear hK K
       try simp only [nz])
    | (refine (⟨fun K hK=>?_⟩:Tag 9 _)
       try simp only [nz]
       go_simp
       go_at_call 62;refine (Calls.mono (vobj [(One.numR 3,numV 3),(z2,got t kSer),(z3,got t kLin),(zn,listOf ((kidsJ tm).map mod3))] KK VL MKK.out MVL.out (vem4 (numR_is _ _ 3) I2 I3 I7) 4 4 rfl rfl) ?_)
       rintro z q hz;obtain ⟨z4,rfl,I4,E⟩:=hz.to;clear hz;unfold Raw.val;replace D:=bel D E;(try replace DA:=bel DA E);(try replace I7:=kp I7 E);(try replace I2:=kp I2 E);(try replace I3:=kp I3 E);(try replace I4:=kp I4 E);(try replace VL:=hst VL E);(try replace KK:=ktx KK E);clear hHeld;refine hK.out _ _ ?_ (fun hHeld=>?_)
       · exact HS.out _ D.out
       clear hK K
       try simp only [nz])
    | (refine (⟨fun K hK=>?_⟩:Tag 10 _)
       have VZ:=V3W.out _ D.out;obtain ⟨⟨v0,v1,v2,v3,v4,v5,v6,v7⟩,y0,y1,y2,y3,y4,y5,y6,y7⟩:=val_cells VZ.out
       try simp only [nz]
       go_simp
       clear v0 v1 v2 v3 v4 v5 v6 v7 y0 y1 y2 y3 y4 y5 y6 y7;have HKE:=HS.out _ D.out;clear hHeld;refine hK.out _ _ ?_ (fun hHeld=>?_)
       · exact keep8 HKE (hd HN.out.1) (hd HN.out.2) _ _ _ _ _ _ _ _
       clear hK K
       try simp only [nz])
    | (refine dnT (by decide +kernel) ?_
       clear hHeld;go_wp2_with fail
       refine fin2 (a:=z4) (b:=w2.heap.size) rfl (set8 VZ.out z4) rfl ?_;exact ⟨z4,rfl,by rw [HUP.out];exact dn I4 (fun k hk=>by have hk:w3.heap.size<=k:=hk;have:=HSZ.out;omega) _ _ _ _ _ _ _ _,below8 (bel BX D).out HSZ.out.1 _ _ _ _ _ _ _ _⟩)
end Go.Proofs.YtliekocamnklfaaGreatDoor.One
