/- two.Up. (Written by gen/tvh.py.) -/
import Derived.Test.YtliekocamnklfaaGreatDoorPTvI
import Derived.Test.YtliekocamnklfaaGreatDoorPTvE
import Derived.Test.YtliekocamnklfaaGreatDoorPTvC
set_option linter.unusedVariables false
set_option linter.unusedSimpArgs false
set_option maxRecDepth 100000
set_option maxHeartbeats 16000000
namespace Go.Proofs.YtliekocamnklfaaGreatDoor.One
open Go.RowKit Strs Jdec Save Go.Proofs.YtliekocamnklfaaGreatDoor.Addr
theorem dup_no (t:JV) (hq:¬ TwoQ t) (hf:Fine t) (hm:t.mass<=3000) (ra:Raw) (A:Nat->Prop) (w:World) (hi:IsV w A ra t) (T:TabsP w):Calls Tryz.prog 20 #[ra.val] w (UpP .zero 10 w):=by
  obtain ⟨w2,hw2,V2,B2⟩:=own8 w ra;obtain ⟨w3,hw3,V3,B3⟩:=own8 w2 Raw.zero;have V23:=hst V2 B3;have B03:=bel B2 B3;have HR:=Hid.out (p:=Hid _) (dright_any t hf hm ra A w3 (hi.behind B03.out) (T.stays B03.out));have HQ:=Hid.out (p:=Hid _) hq;have HS:=Hid.out (p:=Hid _) B2.out.size;clear hq hf hm hi T
  dsimp only [Raw.zero] at hw3
  unfold Raw.val at HR;obtain ⟨⟨x0,x1,x2,x3,x4,x5,x6,x7⟩,_⟩:=val_cells V23.out;unfold Raw.val;go_enter Tryz.func20,Tryz.ntmps20
  go_wp2_with fail
  refine (Calls.mono HR.out ?_);rintro z w4 ⟨b,rfl,hb,hb4⟩;obtain rfl:false=b:=by
    cases b with
    | false=>rfl
    | true=>exact absurd (hb.1 rfl) HQ.out
  have E4:=Hid.out (p:=Hid _) hb4;have V4:=hst V3 E4;have B04:=bel B03 E4;clear hb hb4 x0 x1 x2 x3 x4 x5 x6 x7 hw2 hw3;obtain ⟨⟨r0,r1,r2,r3,r4,r5,r6,r7⟩,g0,g1,g2,g3,g4,g5,g6,g7⟩:=val_cells V4.out;go_wp2_with fail
  refine fin2 (a:=Raw.zero) (b:=w2.heap.size) rfl (set8 V4.out Raw.zero) rfl ?_;exact ⟨Raw.zero,rfl,zero_is _ _,below8 B04.out HS.out _ _ _ _ _ _ _ _⟩
theorem change_mods {r:JV} (h:kindOf r=5) (hk:keysJ r=[]):changeJ (fun _ m=>mod3 m) r=listOf ((kidsJ r).map mod3):=by
  unfold changeJ;rw [h,hk,List.mapIdx_eq_zipIdx_map]
  congr 1
  apply List.ext_getElem
  · simp
  · intro i h1 h2;simp
theorem list_keys {r:JV} (hg:GoodQ r) (h:kindOf r=5):keysJ r=[]:=by
  cases hg with
  | mk k i n d e s ks vs o f=>
    have h:k=5:=h;subst h;exact o.noKeys (by decide)
theorem dup_yes (t:JV) (hq:TwoQ t) (hf:Fine t) (hm:t.mass<=3000) (ra:Raw) (A:Nat->Prop) (w:World) (hi:IsV w A ra t) (T:TabsP w):Calls Tryz.prog 20 #[ra.val] w (UpP (up2J t) 0 w):=by
  obtain ⟨⟨hg,hd⟩,h⟩:=id hq;obtain ⟨ho,_,_,_,h5,hmd⟩:=mods_parts h;have gs:=got_good hg (ho kSer (by simp [kFour]));have gl:=got_good hg (ho kLin (by simp [kFour]));have gm:=got_good hg (ho kMod (by simp [kFour]));have fm:=got_fine hf kMod;have mm:=got_mass t kMod;have hch:=change_mods h5 (list_keys gm h5);obtain ⟨w2,hw2,V2,B2⟩:=own8 w ra;obtain ⟨w3,hw3,V3,B3⟩:=own8 w2 Raw.zero;have V23:=hst V2 B3;have B03:=bel B2 B3;have HSZ:Hid (w.heap.size<=w2.heap.size/\w2.heap.size<w3.heap.size):=⟨B2.out.size,heap_lt V3.out⟩;have HQ:=Hid.out (p:=Hid _) hq;have HRT:=Hid.out (p:=Hid _) (dright_any t hf hm ra A w3 (hi.behind B03.out) (T.stays B03.out));have HR:Hid (∀ W,Below w3.heap.size w3 W->Hid (IsV W A ra t)):=fun W hW=>hi.behind (B03.out.trans (hW.mono B03.out.size));have HT:Hid (∀ W,Below w3.heap.size w3 W->TabsP W):=fun W hW=>T.stays (B03.out.trans (hW.mono B03.out.size));have HG:Hid (GoodQ t/\t.mass<=3000/\GoodQ (got t kSer)/\GoodQ (got t kLin)):=⟨hg,hm,gs,gl⟩;obtain ⟨tm,htm⟩:∃ tm,got t kMod=tm:=⟨_,rfl⟩;have hUp:up2J t=objectOf kFour [numV 3,got t kSer,got t kLin,listOf ((kidsJ tm).map mod3)]:=by rw [up2J,htm]
  have HG1:Hid (∀ (W:World),Hid (IsV W A ra t)->Calls Tryz.prog 58 #[ra.val,.string kMod] W (ValP tm (fun _=>True) W)):=fun W hW=>by rw [<-htm];exact dget_any hg hm hW kMod
  rw [htm] at gm fm mm hch hmd;have HC:Hid (∀ (W:World) (ro:Raw),Below w3.heap.size w3 W->Hid (IsV W (fun _=>True) ro tm)->Calls Tryz.prog 57 #[ro.val,.func (.func 59) #[] #[]] W (ValP (listOf ((kidsJ tm).map mod3)) (fun b=>W.heap.size<=b) W)):=fun W ro hW ho=>by
    rw [<-hch];refine change_any 59 #[] (enters_of Tryz.func59 (by kernel_rfl) rfl) _ tm (by omega) ro _ _ W ho.out (fun _ h=>h) fun j hj rr w' hw' hr=>?_;have hmem:=List.getElem_mem hj;exact up1_any j _ (GoodQ.kids gm _ hmem) (fine_kid fm hmem) (by have:=mass_kid hmem;omega) (hmd _ hmem) rr _ _ w' hr (fun _ h=>h) (HT.out w' (hW.trans (hw'.mono hW.size)))
  obtain ⟨tr,htr⟩:∃ tr,up2J t=tr:=⟨_,rfl⟩;rw [htr] at hUp ⊢;have HUP:=Hid.out (p:=Hid _) hUp;clear hq hf hm hi T hg hd h ho h5 hmd gs gl gm fm mm hch hUp htr htm;unfold Raw.val at HRT HG1 ⊢;unfold kMod at HG1
  dsimp only [Raw.zero] at hw3
  obtain ⟨⟨x0,x1,x2,x3,x4,x5,x6,x7⟩,_⟩:=val_cells V23.out;go_enter Tryz.func20,Tryz.ntmps20
  go_wp2_with fail
  refine (Calls.mono HRT.out ?_);rintro z w4 ⟨b,rfl,hb,hb4⟩;obtain rfl:true=b:=(hb.2 HQ.out).symm;have E4:=Hid.out (p:=Hid _) hb4;have V24:=hst V23 E4;have H1:=Hid.out (p:=Hid _) (HG1.out w4 (HR.out w4 E4.out));clear hb hb4 x0 x1 x2 x3 x4 x5 x6 x7 hw2 hw3 HRT HG1;obtain ⟨⟨x0,x1,x2,x3,x4,x5,x6,x7⟩,_⟩:=val_cells V24.out;go_wp2_with fail
  refine (Calls.mono H1.out ?_);rintro z w5 hz;obtain ⟨zm,rfl,Im,E5⟩:=hz.to;have E35:=bel E4 E5;have H2:=Hid.out (p:=Hid _) (HC.out w5 zm E35.out Im);clear hz H1 x0 x1 x2 x3 x4 x5 x6 x7 HC;unfold Raw.val at H2 ⊢;go_wp2_with fail
  refine (Calls.mono H2.out ?_);rintro z w6 hz;obtain ⟨zn,rfl,In,E6⟩:=hz.to;obtain ⟨w7,hw7,V7,B7⟩:=own8 w6 zn;have B57:=bel E6 B7;have B37:=bel E35 B57;have V27:=hst V23 B37;have V37:=hst V3 B37;have I7:Hid (IsV w7 (fun b=>w3.heap.size<=b) zn (listOf ((kidsJ tm).map mod3))):=(In.out.behind B7.out).turn (Turn.mono _ fun b hb _=>Nat.le_trans E35.out.size hb);clear hz H2 In;unfold Raw.val
  go_upto_region 4 with (fail)
  have HA:Hid (∀ b,w7.heap.size<=b->w3.heap.size<=b):=fun b hb=>Nat.le_trans B37.out.size hb;have HS:Hid (∀ W,Below w7.heap.size w7 W->W.heap[w.heap.size]?=some (.cells ra.arr 29 (0,0))/\W.heap[w6.heap.size]?=some (.cells zn.arr 29 (0,0))):=fun W hW=>⟨(hW.block _ (heap_lt V27.out)).trans V27.out,(hW.block _ (heap_lt V7.out)).trans V7.out⟩;have HRW:Hid (∀ W,Below w7.heap.size w7 W->Hid (IsV W A ra t)):=fun W hW=>HR.out W (B37.out.trans (hW.mono B37.out.size));have HPW:Hid (∀ W,Below w7.heap.size w7 W->Jdec.Pow10 W):=fun W hW=>(HT.out W (B37.out.trans (hW.mono B37.out.size))).p;have V3W:Hid (∀ W,Below w7.heap.size w7 W->Hid (W.heap[w2.heap.size]?=some (.cells Raw.zero.arr 29 (0,0)))):=fun W hW=>(hW.block _ (heap_lt V37.out)).trans V37.out;have HN:Hid (w.heap.size≠w2.heap.size/\w6.heap.size≠w2.heap.size):=⟨by have:=heap_lt V2.out;omega,by have:=HSZ.out;have:=(bel E35 E6).out.size;omega⟩;have BX:=bel B03 B37;refine wp_region_held_drew (S:=(fun W=>W.heap[w.heap.size]?=some (.cells ra.arr 29 (0,0))/\W.heap[w6.heap.size]?=some (.cells zn.arr 29 (0,0)))) (by kernel_rfl) ?_ (fun hHeld=>?_)
  · exact HS.out _ (Below.refl _ _).drew
  obtain ⟨wd,hwd⟩:∃ x,w7.drew=x:=⟨_,rfl⟩;have D:Hid (Below w7.heap.size w7 wd):=by rw [<-hwd];exact (Below.refl _ _).drew
  rw [hwd] at hHeld ⊢;clear hwd;have DA:=D;replace I7:=kp I7 D
  repeat' first
    | (refine tkT 3 (v:=.agg #[.int .i64 ra.kind,.bool ra.is,.bool ra.neg,.string ra.dig,.int .i64 ra.exp,.string ra.str,.slice ra.ka ra.kn ra.kc,.slice ra.va ra.vn ra.vc]) (by decide +kernel) ?_ (hy:=by (intro w hs;obtain ⟨⟨e0,e1,e2,e3,e4,e5,e6,e7⟩,_⟩:=val_cells hs.1;clear hs;go_simp <;> with_reducible rfl)))
    | (refine tkT 5 (v:=.agg #[.int .i64 ra.kind,.bool ra.is,.bool ra.neg,.string ra.dig,.int .i64 ra.exp,.string ra.str,.slice ra.ka ra.kn ra.kc,.slice ra.va ra.vn ra.vc]) (by decide +kernel) ?_ (hy:=by (intro w hs;obtain ⟨⟨e0,e1,e2,e3,e4,e5,e6,e7⟩,_⟩:=val_cells hs.1;clear hs;go_simp <;> with_reducible rfl)))
    | (refine tkT 7 (v:=.agg #[.int .i64 zn.kind,.bool zn.is,.bool zn.neg,.string zn.dig,.int .i64 zn.exp,.string zn.str,.slice zn.ka zn.kn zn.kc,.slice zn.va zn.vn zn.vc]) (by decide +kernel) ?_ (hy:=by (intro w hs;obtain ⟨⟨e0,e1,e2,e3,e4,e5,e6,e7⟩,_⟩:=val_cells hs.2;clear hs;go_simp <;> with_reducible rfl)))
    | (refine tkT 2 (by decide +kernel) ?_)
    | (refine tkT 11 (by decide +kernel) ?_)
    | (refine rdT [0,1] (by decide +kernel) (by simp) ?_;try simp only [nz])
    | (refine rdT [1] (by decide +kernel) (by simp) ?_;try simp only [nz])
    | (refine rdT [4] (by decide +kernel) (by simp) ?_;try simp only [nz])
    | (refine rdT [6] (by decide +kernel) (by simp) ?_;try simp only [nz])
    | (refine rdT [8] (by decide +kernel) (by simp) ?_;try simp only [nz])
    | (refine rdT [9] (by decide +kernel) (by simp) ?_;try simp only [nz])
    | (refine rdT [10] (by decide +kernel) (by simp) ?_;try simp only [nz])
    | (refine rdT [0,4] (by decide +kernel) (by simp) ?_;try simp only [nz])
    | (refine rdT [0,6] (by decide +kernel) (by simp) ?_;try simp only [nz])
    | (refine rdT [0,8] (by decide +kernel) (by simp) ?_;try simp only [nz])
    | (refine rdT [0] (by decide +kernel) (by simp) ?_;try simp only [nz])
    | exact AllReadyH.nil
    | refine consT ?_ ?_
    | (refine (⟨fun K hK=>?_⟩:Tag 0 _)
       obtain ⟨q,hq,KK,E⟩:=wof D (dfour_new · kVer kSer kLin kMod);unfold kVer kSer kLin kMod at hq
       try simp only [nz]
       go_simp
       have MKK:=Hid.out (p:=Hid _) (upn HA DA _ (Nat.le_refl _));clear hq;replace D:=bel D E;(try replace DA:=bel DA E);(try replace I7:=kp I7 E);(try replace I2:=kp I2 E);(try replace I3:=kp I3 E);(try replace I4:=kp I4 E);(try replace VL:=hst VL E);(try replace KK:=ktx KK E);clear hHeld;refine hK.out _ _ ?_ (fun hHeld=>?_)
       · exact HS.out _ D.out
       clear hK K
       try simp only [nz])
    | (refine (⟨fun K hK=>?_⟩:Tag 1 _)
       try simp only [nz]
       go_simp
       go_at_call 65;refine (Calls.mono (Save.of_any 3 (by decide) _ (HPW.out _ D.out)).out ?_)
       rintro z q hz;obtain ⟨dd,xx,rfl,hdx,E⟩:=hz.to;obtain ⟨h1,h2⟩:=hdx.out;subst h1 h2;clear hz hdx;replace D:=bel D E;(try replace DA:=bel DA E);(try replace I7:=kp I7 E);(try replace I2:=kp I2 E);(try replace I3:=kp I3 E);(try replace I4:=kp I4 E);(try replace VL:=hst VL E);(try replace KK:=ktx KK E);clear hHeld;refine hK.out _ _ ?_ (fun hHeld=>?_)
       · exact HS.out _ D.out
       clear hK K
       try simp only [nz])
    | (refine (⟨fun K hK=>?_⟩:Tag 4 _)
       try simp only [nz]
       have HC:=dcopied_any HG.out.1 HG.out.2.1 (HRW.out _ D.out) kSer HG.out.2.2.1 (upn HA DA);unfold Raw.val kSer at HC
       go_simp
       go_at_call 64;refine (Calls.mono HC ?_)
       rintro z q hz;obtain ⟨z2,rfl,I2,E⟩:=hz.to;clear hz HC;unfold Raw.val;replace D:=bel D E;(try replace DA:=bel DA E);(try replace I7:=kp I7 E);(try replace I2:=kp I2 E);(try replace I3:=kp I3 E);(try replace I4:=kp I4 E);(try replace VL:=hst VL E);(try replace KK:=ktx KK E);clear hHeld;refine hK.out _ _ ?_ (fun hHeld=>?_)
       · exact HS.out _ D.out
       clear hK K
       try simp only [nz])
    | (refine (⟨fun K hK=>?_⟩:Tag 6 _)
       try simp only [nz]
       have HC:=dcopied_any HG.out.1 HG.out.2.1 (HRW.out _ D.out) kLin HG.out.2.2.2 (upn HA DA);unfold Raw.val kLin at HC
       go_simp
       go_at_call 64;refine (Calls.mono HC ?_)
       rintro z q hz;obtain ⟨z3,rfl,I3,E⟩:=hz.to;clear hz HC;unfold Raw.val;replace D:=bel D E;(try replace DA:=bel DA E);(try replace I7:=kp I7 E);(try replace I2:=kp I2 E);(try replace I3:=kp I3 E);(try replace I4:=kp I4 E);(try replace VL:=hst VL E);(try replace KK:=ktx KK E);clear hHeld;refine hK.out _ _ ?_ (fun hHeld=>?_)
       · exact HS.out _ D.out
       clear hK K
       try simp only [nz])
    | (refine (⟨fun K hK=>?_⟩:Tag 8 _)
       obtain ⟨q,hq,VL,E⟩:=wof D (kid4 · (One.numR 3) z2 z3 zn)
       dsimp only [One.numR] at hq
       try simp only [nz]
       go_simp
       have MVL:=Hid.out (p:=Hid _) (upn HA DA _ (Nat.le_refl _));clear hq;replace D:=bel D E;(try replace DA:=bel DA E);(try replace I7:=kp I7 E);(try replace I2:=kp I2 E);(try replace I3:=kp I3 E);(try replace I4:=kp I4 E);(try replace VL:=hst VL E);(try replace KK:=ktx KK E);clear hHeld;refine hK.out _ _ ?_ (fun hHeld=>?_)
       · exact HS.out _ D.out
       clear hK K
       try simp only [nz])
    | (refine (⟨fun K hK=>?_⟩:Tag 9 _)
       try simp only [nz]
       go_simp
       go_at_call 62;refine (Calls.mono (vobj [(One.numR 3,numV 3),(z2,got t kSer),(z3,got t kLin),(zn,listOf ((kidsJ tm).map mod3))] KK VL MKK.out MVL.out (vem4 (numR_is _ _ 3) I2 I3 I7) 4 4 rfl rfl) ?_)
       rintro z q hz;obtain ⟨z4,rfl,I4,E⟩:=hz.to;clear hz;unfold Raw.val;replace D:=bel D E;(try replace DA:=bel DA E);(try replace I7:=kp I7 E);(try replace I2:=kp I2 E);(try replace I3:=kp I3 E);(try replace I4:=kp I4 E);(try replace VL:=hst VL E);(try replace KK:=ktx KK E);clear hHeld;refine hK.out _ _ ?_ (fun hHeld=>?_)
       · exact HS.out _ D.out
       clear hK K
       try simp only [nz])
    | (refine (⟨fun K hK=>?_⟩:Tag 10 _)
       have VZ:=V3W.out _ D.out;obtain ⟨⟨v0,v1,v2,v3,v4,v5,v6,v7⟩,y0,y1,y2,y3,y4,y5,y6,y7⟩:=val_cells VZ.out
       try simp only [nz]
       go_simp
       clear v0 v1 v2 v3 v4 v5 v6 v7 y0 y1 y2 y3 y4 y5 y6 y7;have HKE:=HS.out _ D.out;clear hHeld;refine hK.out _ _ ?_ (fun hHeld=>?_)
       · exact keep8 HKE (hd HN.out.1) (hd HN.out.2) _ _ _ _ _ _ _ _
       clear hK K
       try simp only [nz])
    | (refine dnT (by decide +kernel) ?_
       clear hHeld;go_wp2_with fail
       refine fin2 (a:=z4) (b:=w2.heap.size) rfl (set8 VZ.out z4) rfl ?_;exact ⟨z4,rfl,by rw [HUP.out];exact dn I4 (fun k hk=>by have hk:w3.heap.size<=k:=hk;have:=HSZ.out;omega) _ _ _ _ _ _ _ _,below8 (bel BX D).out HSZ.out.1 _ _ _ _ _ _ _ _⟩)
set_option maxHeartbeats 8000000
theorem tw_cut:∀ (l:List UInt8) (i:Nat) (hi:i<l.length),l[i]=95->(∀ j (hj:j<l.length),j<i->l[j]≠95)->l.takeWhile (· != 95)=l.take i
  | x::l,0,hi,h,hb=>by
    have h:x=95:=h;subst h;rfl
  | x::l,i+1,hi,h,hb=>by
    have h0:x≠95:=hb 0 (by simp) (by omega);have h1:(x != 95)=true:=by rw [bne_iff_ne];exact h0
    rw [List.takeWhile_cons_of_pos (by simpa using h0),tw_cut l i (by simpa using hi) (by simpa using h) fun j hj hji=>hb (j+1) (by simpa using hj) (by omega)]
    rfl
theorem tw_all:∀ (l:List UInt8),(∀ j (hj:j<l.length),l[j]≠95)->l.takeWhile (· != 95)=l
  | [],_=>rfl
  | x::l,h=>by
    have h0:x≠95:=h 0 (by simp);have h1:(x != 95)=true:=by rw [bne_iff_ne];exact h0
    rw [List.takeWhile_cons_of_pos (by simpa using h0),tw_all l fun j hj=>h (j+1) (by simpa using hj)]
theorem byte95 {s:ByteArray} {j:Nat} (hj:j<s.size):s.data.toList[j]'(by simpa using hj)=s[j]:=by simp;rfl
theorem prov_cut {s:ByteArray} {i:Nat} (h0:0<i) (hi:i<s.size) (h:s[i].toNat=95) (hb:∀ j (hj:j<s.size),j<i->s[j].toNat≠95):provB s=s.extract 0 i:=by
  have hl:s.data.toList.length=s.size:=by simp
  have ht:s.data.toList.takeWhile (· != 95)=s.data.toList.take i:=tw_cut _ i (by omega) (by rw [byte95 hi];exact UInt8.toNat_inj.1 h) fun j hj hji=>by
    rw [byte95 (by omega)];exact fun e=>hb j (by omega) hji (by rw [e] <;> rfl)
  have hne:¬ s.data.toList.take i=[]:=fun e=>by
    have:=congrArg List.length e;rw [List.length_take,List.length_nil] at this;omega
  unfold provB provL;rw [ht,if_neg hne];refine ByteArray.ext ?_;rw [ByteArray.data_extract];apply Array.toList_inj.1
  simp
theorem prov_end {s:ByteArray} (h:∀ j (hj:j<s.size),0<j->(∃ h0:0<s.size,s[0].toNat=95)∨s[j].toNat≠95):provB s=s:=by
  have hl:s.data.toList.length=s.size:=by simp
  have hs:(⟨s.data.toList.toArray⟩:ByteArray)=s:=by simp
  unfold provB provL;by_cases h1:∃ h0:0<s.size,s[0].toNat=95
  · obtain ⟨h0,h1⟩:=h1;have ht:s.data.toList.takeWhile (· != 95)=[]:=tw_cut _ 0 (by omega) (by rw [byte95 h0];exact UInt8.toNat_inj.1 h1) fun j hj hji=>by omega
    rw [ht,if_pos rfl]
  · have ht:s.data.toList.takeWhile (· != 95)=s.data.toList:=tw_all _ fun j hj=>by
      rw [byte95 (by omega)];intro e
      have e1:s[j].toNat=95:=by rw [e] <;> rfl
      by_cases hj0:j=0
      · subst hj0;exact h1 ⟨by omega,e1⟩
      · rcases h j (by omega) (by omega) with h2 | h2
        · exact h1 h2
        · exact h2 e1
    rw [ht,ite_self]
theorem rprov_any (s:ByteArray) (hs:s.size<=1000000) (w:World):Calls Tryz.prog 73 #[.string s] w fun e w'=>e=.returned (.string (provB s))/\Below w.heap.size w w':=by
  obtain ⟨p,hp⟩:∃ p,provB s=p:=⟨_,rfl⟩;rw [hp];have HP:=Hid.out (p:=Hid _) hp;clear hp;go_enter Tryz.func73,Tryz.ntmps73
  go_wp2_with fail
  go_loopw [3] (fun q wr=>∃ i:Nat,q=.int .i64 i/\1<=i/\i<=1000001/\Hid (∀ j (hj:j<s.size),0<j->j<i->(∃ h0:0<s.size,s[0].toNat=95)∨s[j].toNat≠95)/\w=wr) (fun q _=>s.size-(intOf q).toNat)
  case atStart=>exact ⟨1,rfl,Nat.le_refl _,by omega,(fun j hj h0 h1=>by omega),rfl⟩
  case round=>
    obtain ⟨i,rfl,hi1,hi2,HI,rfl⟩:=hrel;by_cases hlt:i<s.size
    · have h0:0<s.size:=by omega
      have hne:s≠ByteArray.empty:=fun e=>by rw [e] at h0;simp at h0
      by_cases h1:s[i].toNat=95
      · have e1:((s[i].toNat:Int) == 95)=true:=by rw [beq_iff_eq];omega
        by_cases h2:s[0].toNat=95
        · have e2:((s[0].toNat:Int) != 95)=false:=by rw [bne_eq_false_iff_eq];omega
          have HN:Hid (∀ j (hj:j<s.size),0<j->j<i+1->(∃ h0:0<s.size,s[0].toNat=95)∨s[j].toNat≠95):=fun j hj _ _=>.inl ⟨h0,h2⟩;clear h1 h2;go_wp2_with fail
          go_roundw
          case rel=>exact ⟨i+1,by go_num,by omega,by omega,HN.out,by first | rfl | trivial⟩
          case measure=>simp [intOf];omega
        · have e2:((s[0].toNat:Int) != 95)=true:=by rw [bne_iff_ne];omega
          have HC:Hid (p=s.extract 0 i):=by
            rw [Hid,<-HP.out];refine prov_cut (by omega) hlt h1 fun j hj hji=>?_;by_cases hj0:j=0
            · subst hj0;exact h2
            · rcases HI.out j hj (by omega) hji with ⟨_,h3⟩ | h3
              · exact absurd h3 h2
              · exact h3
          clear h1 h2;go_wp2_with fail
          go_ret
          exact ⟨by rw [HC.out] <;> rfl,Below.refl _ _⟩
      · have e1:((s[i].toNat:Int) == 95)=false:=by rw [beq_eq_false_iff_ne];omega
        have HN:Hid (∀ j (hj:j<s.size),0<j->j<i+1->(∃ h0:0<s.size,s[0].toNat=95)∨s[j].toNat≠95):=fun j hj h3 h4=>by
          by_cases hji:j=i
          · subst hji;exact .inr h1
          · exact HI.out j hj h3 (by omega)
        clear h1;go_wp2_with fail
        go_roundw
        case rel=>exact ⟨i+1,by go_num,by omega,by omega,HN.out,by first | rfl | trivial⟩
        case measure=>simp [intOf];omega
    · have HC:Hid (p=s):=by
        rw [Hid,<-HP.out];exact prov_end fun j hj h0=>HI.out j hj h0 (by omega)
      go_wp2_with fail
      go_ret
      exact ⟨by rw [HC.out] <;> rfl,Below.refl _ _⟩
def PathP (t:JV) (w:World) (e:Ending) (w':World):Prop:=
  ∃ (pa:Option Addr) (pc:Nat) (l:List ByteArray),e=.returned (.tuple #[.slice pa l.length pc,.bool (pathB t)])/\(pathB t=true->l=namesJ t)/\IsTexts w' (fun _=>True) pa l/\Below w.heap.size w w'
theorem PathP.to {t:JV} {w w':World} {e:Ending} (h:PathP t w e w') :
    ∃ (pa:Option Addr) (pc:Nat) (l:List ByteArray),e=.returned (.tuple #[.slice pa l.length pc,.bool (pathB t)])/\Hid (pathB t=true->l=namesJ t)/\Hid (IsTexts w' (fun _=>True) pa l)/\Hid (Below w.heap.size w w'):=h
theorem PathP.no {t:JV} {w w':World} (hp:pathB t=false) (hb:Below w.heap.size w w'):PathP t w (.returned (.tuple #[.slice none 0 0,.bool false])) w':=
  ⟨none,0,[],by rw [hp];rfl,(fun h=>by rw [hp] at h;cases h),.inl rfl,hb⟩
theorem names_take {vs:List JV} {i:Nat} (hi:i<vs.length) (h0:0<i):((vs.take (i+1)).drop 1).map strJ=((vs.take i).drop 1).map strJ++[strJ vs[i]]:=by
  rw [List.take_add_one,List.getElem?_eq_getElem hi,List.drop_append_of_le_length (by rw [List.length_take];omega),List.map_append]
  rfl
theorem names_len {vs:List JV} {i:Nat} (hi:i<=vs.length):(((vs.take i).drop 1).map strJ).length=i-1:=by simp;omega
theorem rpath_any (t:JV) (hf:Fine t) (hm:t.mass<=3000) (ra:Raw) (A:Nat->Prop) (w:World) (hi:IsV w A ra t):Calls Tryz.prog 86 #[ra.val] w (PathP t w):=by
  cases t with
  | mk k is ng d e s ks vs=>
  obtain ⟨ka,kc,va,vc,rfl,_,F,hc,hv⟩:=hi.parts;rw [mass_mk] at hm;have hvl:=masses_len vs;have HVL:Hid (vs.length<=3000):=by rw [Hid];omega
  have HC:=Hid.out (p:=Hid _) hc;have HS:Hid (∀ i (h:i<vs.length),(F i).str=strJ vs[i]/\kindOf vs[i]=(F i).kind):=fun i h=>⟨str_cell (hv i h),kind_is (hv i h)⟩;have HZ:Hid (∀ v∈vs,(strJ v).size<=6000):=fun v hv=>by
    have:=fine_kid hf (v:=v) hv;cases this with | mk _ _ _ _ _ _ _ _ _ f2 _ _=>exact f2
  obtain ⟨w2,hw2,V2,B2⟩:=own8 w (Raw.mk k is ng d e s ka ks.length kc va vs.length vc);clear hi hm hvl hc hv hf;unfold Raw.val;obtain ⟨⟨x0,x1,x2,x3,x4,x5,x6,x7⟩,_⟩:=val_cells V2.out
  dsimp only at x0 x1 x2 x3 x4 x5 x6 x7
  by_cases h5:k=5
  case neg=>
    have nk:(k != 5)=true:=by rw [bne_iff_ne];exact h5
    have hp:pathB (.mk k is ng d e s ks vs)=false:=by
      unfold pathB;rw [show kindOf (.mk k is ng d e s ks vs)=k from rfl,decide_eq_false h5];rfl
    have HP:=Hid.out (p:=Hid _) hp;clear hp h5;go_enter Tryz.func86,Tryz.ntmps86
    go_wp2_with fail
    go_ret2
    exact .no HP.out B2.out
  subst h5;have nk:((5:Int) != 5)=false:=by decide
  by_cases hnil:vs=[]
  case pos=>
    subst hnil;have HP:Hid (pathB (.mk 5 is ng d e s ks [])=false):=by
      rw [Hid,pathB];show (decide ((5:Int)=5) && (true && (false && _)))=false;simp
    dsimp only [List.length_nil] at hw2 x7 ⊢
    go_enter Tryz.func86,Tryz.ntmps86
    go_wp2_with fail
    go_ret2
    exact .no HP.out B2.out
  obtain ⟨v0,l,hl⟩:=List.exists_cons_of_ne_nil hnil;have hpc:=path_cons (is:=is) (ng:=ng) (d:=d) (e:=e) (s:=s) (ks:=ks) hl;obtain ⟨pb,hpb⟩:∃ pb,pathB (.mk 5 is ng d e s ks vs)=pb:=⟨_,rfl⟩;have hlen:0<vs.length:=by rw [hl];simp
  have hv0:vs[0]=v0:=by simp [hl]
  have HNM:Hid (((vs.take vs.length).drop 1).map strJ=l.map strJ/\namesJ (.mk 5 is ng d e s ks vs)=l.map strJ/\(l.map strJ).length<=3000/\∀ x∈l.map strJ,x.size<=6000):=by
    refine ⟨by rw [List.take_length,hl];rfl,by show (vs.tail.map strJ)=_;rw [hl];rfl,by have:=HVL.out;rw [hl] at this;simp at this ⊢;omega,fun x hx=>?_⟩;obtain ⟨v,hv,rfl⟩:=List.mem_map.1 hx;exact HZ.out v (by rw [hl];simp [hv])
  rw [<-right_letters] at hpc;obtain ⟨rr,hrr⟩:∃ rr,rightA (adr0 (l.map strJ) ⟨#[116]⟩ ⟨#[110]⟩)=rr:=⟨_,rfl⟩;have HRR:=Hid.out (p:=Hid _) hrr;rw [hrr,hpb] at hpc;have HPB:=Hid.out (p:=Hid _) hpb;have HPC:=Hid.out (p:=Hid _) hpc;obtain ⟨s0,hs0⟩:∃ s0,strJ v0=s0:=⟨_,rfl⟩;rw [hs0] at HPC;have HS0:Hid (∀ h:0<vs.length,(F 0).str=s0):=fun h=>by rw [(HS.out 0 h).1,hv0,hs0]
  obtain ⟨b2,hb3⟩:∃ b,decide (s0=kRoot)=b:=⟨_,rfl⟩;rw [hb3] at HPC;have hb2:(s0.toList == [114,111,111,116])=b2:=by
    rw [<-hb3];by_cases h:s0=kRoot
    · rw [decide_eq_true h,h,ByteArray.toList_eq];rfl
    · rw [decide_eq_false h,beq_eq_false_iff_ne];intro e
      rw [ByteArray.toList_eq] at e;exact h (ByteArray.ext (Array.toList_inj.1 e))
  have HB2:=Hid.out (p:=Hid _) hb2;clear hb3 hb2;have n1:((vs.length:Int) == 0)=false:=by rw [beq_eq_false_iff_ne];omega
  have n2:(vs.length == 0)=false:=by rw [beq_eq_false_iff_ne];omega
  have HNE:=Hid.out (p:=Hid _) hnil;have HPP:Hid (pb=false->∀ w',Below w.heap.size w w'->PathP (.mk 5 is ng d e s ks vs) w (.returned (.tuple #[.slice none 0 0,.bool false])) w'):=fun h w' hb=>.no (by rw [HPB.out,h]) hb;clear hs0 hpc hpb hrr hl hv0 hnil;go_enter Tryz.func86,Tryz.ntmps86
  go_wp2_with fail
  clear x0 x1 x2 x3 x4 x5 x6 x7 n1 n2 nk
  go_loopw [4,5] (fun p4 p5 wr=>∃ (i:Nat) (pa:Option Addr) (pc:Nat),p4=.slice pa (i-1) pc/\p5=.int .i64 i/\i<=vs.length/\Hid ((vs.take i).all textB=true/\(0<i->b2=true))/\Hid (RowT wr w2.heap.size (.slice pa (((vs.take i).drop 1).map strJ).length pc) (((vs.take i).drop 1).map strJ))/\Hid (Below w2.heap.size w2 wr)) (fun _ p5 _=>vs.length-(intOf p5).toNat)
  case atStart=>exact ⟨0,none,0,rfl,rfl,Nat.zero_le _,⟨rfl,fun h=>absurd h (Nat.lt_irrefl _)⟩,RowT.nil _ _,Below.refl _ _⟩
  case round=>
    obtain ⟨i,pa,pc,rfl,rfl,hi,hA,hR,hB⟩:=hrel;have VR:=hst V2 hB;have BR:=bel B2 hB;obtain ⟨⟨x0,x1,x2,x3,x4,x5,x6,x7⟩,_⟩:=val_cells VR.out
    dsimp only at x7
    clear x0 x1 x2 x3 x4 x5 x6;by_cases hlt:i<vs.length
    · obtain ⟨g,o,rfl,hgb,hcs⟩:=HC.out.resolve_left HNE.out;have K1:CellsAt wr g (o+i*8) (F i):=(hcs i hlt).below hgb BR.out;obtain ⟨hz1,hz2⟩:=HS.out i hlt;have hzs:(strJ vs[i]).size<=6000:=HZ.out _ (List.getElem_mem hlt);have HZS:=Hid.out (p:=Hid _) hzs;have htk:vs.take (i+1)=vs.take i++[vs[i]]:=by rw [List.take_add_one,List.getElem?_eq_getElem hlt];rfl
      have HTX:Hid (textB vs[i]=decide ((F i).kind=4)):=by rw [Hid,textB,hz2]
      have HTK:Hid ((F i).kind=4->(vs.take (i+1)).all textB=true):=fun h=>by rw [htk,List.all_append,hA.out.1,List.all_cons,List.all_nil,HTX.out,decide_eq_true h];rfl
      have HF:Hid ((F i).kind≠4->pb=false):=fun h=>by
        rw [HPC.out];have:vs.all textB=false:=by
          rw [List.all_eq_false];exact ⟨vs[i],List.getElem_mem hlt,by rw [HTX.out,decide_eq_false h];simp⟩
        rw [this];rfl
      have HST:=Hid.out (p:=Hid _) hz1;clear hz1 hz2 hzs htk HTX hcs;obtain ⟨u0,u1,u2,u3,u4,u5,u6,u7⟩:=K1.eight;clear u1 u2 u3 u4 u6 u7 K1;by_cases hk:(F i).kind=4
      case neg=>
        have q1:((F i).kind != 4)=true:=by rw [bne_iff_ne];exact hk
        have hpf:=HF.out hk;have HPF:=Hid.out (p:=Hid _) (HPP.out hpf wr BR.out);clear hk hpf;go_wp2_with fail
        go_ret2
        exact HPF.out
      have q1:((F i).kind != 4)=false:=by rw [bne_eq_false_iff_eq];exact hk
      have HTK2:=Hid.out (p:=Hid _) (HTK.out hk);clear hk HTK HF;by_cases h0:i=0
      · subst h0;have e0:=HS0.out hlt;rw [e0,Nat.zero_mul,Nat.add_zero] at u5;rw [Nat.zero_mul,Nat.add_zero] at u0;have hB2:=HB2.out;have q3:decide ((0:Int) > 0)=false:=by decide
        cases b2
        case false=>
          have hB3:(s0.toList != [114,111,111,116])=true:=by rw [bne,hB2];rfl
          have hpf:pb=false:=by rw [HPC.out];simp
          have HPF:=Hid.out (p:=Hid _) (HPP.out hpf wr BR.out);clear hpf e0;go_wp2_with fail
          go_ret2
          exact HPF.out
        have hB3:(s0.toList != [114,111,111,116])=false:=by rw [bne,hB2];rfl
        have R1:Hid (RowT wr w2.heap.size (.slice pa (((vs.take 1).drop 1).map strJ).length pc) (((vs.take 1).drop 1).map strJ)):=by
          have e1:((vs.take 1).drop 1).map strJ=((vs.take 0).drop 1).map strJ:=by
            rw [List.drop_eq_nil_of_le (by rw [List.length_take];omega)];rfl
          rw [e1];exact hR.out
        clear e0;go_wp2_with fail
        go_roundw
        case rel=>exact ⟨1,pa,pc,rfl,by go_num,by omega,⟨HTK2.out,fun _=>by first | rfl | trivial⟩,R1.out,hB.out⟩
        case measure=>simp [intOf];omega
      · have q2:((i:Int) == 0)=false:=by rw [beq_eq_false_iff_ne];omega
        have q2':(i == 0)=false:=by rw [beq_eq_false_iff_ne];exact h0
        have q3:decide ((i:Int) > 0)=true:=by rw [decide_eq_true_eq];omega
        have q4:decide (0<i)=true:=by rw [decide_eq_true_eq];omega
        have hib:1<=i/\i+1<=3001:=⟨by omega,by have:=HVL.out;omega⟩;have HIB:Hid (i<vs.length/\1<=i):=⟨hlt,by omega⟩;have hnl:=names_len (vs:=vs) hi;have hnt:=names_take hlt (by omega);have HB:Hid (b2=true):=hA.out.2 (by omega);obtain ⟨x,hx⟩:∃ x,(F i).str=x:=⟨_,rfl⟩;have hx2:strJ vs[i]=x:=by rw [<-HST.out,hx]
        rw [hx2] at hnt;rw [hx] at u5;clear hx hx2 h0;have hsz:w2.heap.size<=wr.heap.size:=hB.out.size;obtain ⟨g6,c6,w6,hr6,R6,G6,hg6⟩:=app_one wr w2.heap.size _ _ x hR.out (by rw [hnl];have:=HVL.out;omega) hsz;have HR6:=Hid.out (p:=Hid _) hr6;have B6:Hid (Below w2.heap.size w2 w6):=hB.out.grown G6.out hB.out.size (fun k hk=>(World.ownsRow.lt hR.out k hk).1);rw [hnl] at HR6 R6;have R7:Hid (RowT w6 w2.heap.size (.slice (some ⟨g6,0,none⟩) (((vs.take (i+1)).drop 1).map strJ).length c6) (((vs.take (i+1)).drop 1).map strJ)):=by
          have h:=R6.out;rw [hnt,List.length_append,hnl];exact h
        clear hnt hr6 R6 hR hnl;obtain ⟨m,hq⟩:∃ m,i-1=m:=⟨_,rfl⟩;rw [hq] at HR6 ⊢;have HQ:=Hid.out (p:=Hid _) hq;clear hq;go_wp2_with (at_builtin;refine Addr.wpList_append_run (.slice pa m pc) (.slice (some ⟨wr.heap.size,0,none⟩) 1 1) 26 HR6.out rfl _ _ rfl rfl rfl ?_)
        go_roundw
        case rel=>exact ⟨i+1,some ⟨g6,0,none⟩,c6,by rw [show m+1=i+1-1 by have:=HQ.out;have:=HIB.out.2;omega],by go_num,HIB.out.1,⟨HTK2.out,fun _=>HB.out⟩,R7.out,B6.out⟩
        case measure=>have:=HIB.out.1;simp [intOf];omega
    · obtain rfl:i=vs.length:=by omega
      have hnm:=HNM.out;have R1:=hR.out;rw [hnm.1] at R1;have hln:(l.map strJ).length=vs.length-1:=by rw [<-hnm.1,names_len (Nat.le_refl _)]
      have HT:=Hid.out (p:=Hid _) R1.texts;have HRC:=Hid.out (p:=Hid _) (rright_any (adr0 (l.map strJ) ⟨#[116]⟩ ⟨#[110]⟩) pa pc _ wr R1.texts hnm.2.2.1 (fun x hx=>by have:=hnm.2.2.2 x hx;omega) (show (⟨#[116]⟩:ByteArray).size<=1000000 by decide) (show (⟨#[110]⟩:ByteArray).size<=1000000 by decide) (show (⟨#[]⟩:ByteArray).size<=1000000 by decide));rw [HRR.out] at HRC;unfold wordsA at HRC
      dsimp only [adr0] at HRC
      rw [hln] at HRC;have HB:Hid (b2=true):=hA.out.2 (by have:=List.length_pos_iff.2 HNE.out;omega);have HPR:Hid (pb=rr):=by
        have h1:=hA.out.1;rw [List.take_length] at h1;rw [Hid,HPC.out,h1,HB.out];rfl
      have HLN:=Hid.out (p:=Hid _) hln;clear hnm R1 hR hln;go_wp2_with fail
      refine (Calls.mono HRC.out ?_);rintro z w7 ⟨rfl,hb7⟩;have E7:=Hid.out (p:=Hid _) hb7;clear hb7;go_wp2_with fail
      go_ret2
      exact ⟨pa,pc,l.map strJ,by rw [HPB.out,HPR.out,HLN.out];rfl,fun _=>HNM.out.2.1.symm,IsTexts.turn (IsTexts.turn HT.out (Turn.below E7.out)) (Turn.mono _ fun _ _ _=>trivial),(bel BR E7).out⟩
end Go.Proofs.YtliekocamnklfaaGreatDoor.One
