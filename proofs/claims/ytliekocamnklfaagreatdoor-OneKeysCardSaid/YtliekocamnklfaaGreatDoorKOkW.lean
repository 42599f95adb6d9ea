/- tabulariumlaw19.OneKeys. (Written by gen/okw.py.) -/
import Derived.Test.YtliekocamnklfaaGreatDoorKOkT
import Derived.Test.YtliekocamnklfaaGreatDoorKOnY
set_option linter.unusedVariables false
set_option linter.unusedSimpArgs false
set_option maxRecDepth 100000
set_option maxHeartbeats 64000000
namespace Go.Proofs.YtliekocamnklfaaGreatDoor.One
open Go.RowKit Strs Jdec Save Go.Proofs.YtliekocamnklfaaGreatDoor.Addr
theorem oneKeys_any (ra:Raw) (t:JV) (by_:Int) (hby:(Lit.int .u8 by_).wf=true) (w:World) (T:TabsP w) (hi:IsV w (fun _=>True) ra t) (hh:Held rb t):Calls Tryz.prog 4 #[ra.val,.int .u8 by_] w (BoolP true w):=by
  obtain ⟨w2,hw2,V2,B2⟩:=own8 w ra;have H1:=Hid.out (p:=Hid _) (wakes19 w2 (T.stays B2.out));have HG:Hid (∀ w',Below w.heap.size w w'->Calls Tryz.prog 13 #[ra.val] w' fun e w''=>e=.returned (.bool (decide (t.room 1 400<0)))/\Below w'.heap.size w' w''):=fun w' h=>great_any rb (by decide) t hh ra _ w' (hi.behind h);have HI0:Hid (∀ w',Below w.heap.size w w'->Hid (IsV w' (fun _=>True) ra t)):=fun w' h=>hi.behind h;have HT:Hid (∀ w',Below w.heap.size w w'->TabsP w'):=fun w' h=>T.stays h;have HI:=Hid.out (p:=Hid _) hi;obtain ⟨G,hG⟩:∃ G,decide (t.room 1 400<0)=G:=⟨_,rfl⟩;rw [hG] at HG;have HGG:=Hid.out (p:=Hid _) hG;obtain ⟨bn,rfl,hbn⟩:∃ bn:Nat,by_=(bn:Int)/\bn<256:=by
    simp [Lit.wf,IntKind.min,IntKind.max,IntKind.signed,IntKind.bits] at hby
    exact ⟨by_.toNat,by omega,by omega⟩
  clear hi hh T hG hby
  unfold Raw.val at HG ⊢;obtain ⟨⟨x0,x1,x2,x3,x4,x5,x6,x7⟩,_⟩:=val_cells V2.out;go_enter Tryz.func4,Tryz.ntmps4
  go_wp2_with fail
  refine (Calls.mono H1.out ?_);rintro z w3 hz;obtain ⟨rfl,E3⟩:=hz.to;have B3:=bel B2 E3;have V3:=hst V2 E3;have H2:=Hid.out (p:=Hid _) (HG.out w3 B3.out);clear hz H1 HG x0 x1 x2 x3 x4 x5 x6 x7 hw2;obtain ⟨⟨x0,x1,x2,x3,x4,x5,x6,x7⟩,_⟩:=val_cells V3.out;go_wp2_with fail
  refine (Calls.mono H2.out ?_);rintro z w4 ⟨rfl,hb4⟩;have E4:=Hid.out (p:=Hid _) hb4;have B4:=bel B3 E4;have V4:=hst V3 E4;clear hb4 H2 x0 x1 x2 x3 x4 x5 x6 x7;cases G
  case true=>
    go_wp2_with fail
    go_ret
    exact ⟨rfl,B4.out⟩
  case false=>
  obtain ⟨hf,hm,hd⟩:=great_no t (of_decide_eq_false HGG.out);have HF:Hid (Fine t/\t.mass<=400):=⟨hf,hm⟩;have HR:=Hid.out (p:=Hid _) (rone_right t hf (by omega) (by omega) ra _ w4 (HI0.out w4 B4.out).out);clear hf hm hd;unfold Raw.val at HR;obtain ⟨⟨x0,x1,x2,x3,x4,x5,x6,x7⟩,_⟩:=val_cells V4.out;go_wp2_with fail
  refine (Calls.mono HR.out ?_);rintro z w5 hz;obtain ⟨b,rfl,hb,hb5⟩:=id hz;have E5:=Hid.out (p:=Hid _) hb5;have V5:Hid (w5.heap[w.heap.size]?=some (.cells ra.arr 29 (0,0))):=hst V4 E5;have B5:Hid (Below w.heap.size w w5):=bel B4 E5;have h5:w.heap.size<w5.heap.size:=heap_lt V5.out;have HB:=Hid.out (p:=Hid _) hb;clear hz hb hb5 HR x0 x1 x2 x3 x4 x5 x6 x7;cases b
  case false=>
    go_wp2_with fail
    go_ret
    exact ⟨rfl,B5.out⟩
  case true=>
  have hq:=HB.out.1 rfl;have HQ:=Hid.out (p:=Hid _) hq;have HON:=Hid.out (p:=Hid _) (one_turn bn hq HF.out.1 HF.out.2)
  cases t with
  | mk k is ng d e s ks vs=>
  obtain ⟨ka,kc,va,vc,rfl,ht,f,hc,hi2⟩:=HI.out.parts;have hk3:ks.length=3:=HON.out.2.2.2.2.1;have hv3:vs.length=3:=HON.out.2.2.2.2.2.1;have h0:¬ ks.length=0:=by omega
  have hlen:ks.length=vs.length:=by omega
  have hn400:ks.length<=400:=by omega
  have hv400:vs.length<=400:=by omega
  have HK3:=Hid.out (p:=Hid _) hk3;have HV3:=Hid.out (p:=Hid _) hv3;obtain ⟨rs,hrs,HRF⟩:∃ rs:List Raw,rs.length=vs.length/\Hid (∀ i,i<vs.length->rs.getD i Raw.zero=f i):=⟨(List.range vs.length).map f,by simp,fun i hi=>by simp [List.getD,hi]⟩;have h06:=h5;obtain ⟨kb,ko,rfl,_,hkb,hkc⟩:=ht.resolve_left (by intro e;rw [e] at h0;exact h0 rfl);obtain ⟨vb,vo,rfl,hvb,hvc⟩:=hc.resolve_left (by intro e;rw [e] at hlen;exact h0 hlen);have HKC:=Hid.out (p:=Hid _) hkc;have HVC:=Hid.out (p:=Hid _) hvc;have HI2:=Hid.out (p:=Hid _) hi2;have HLEN:=Hid.out (p:=Hid _) hlen;have q0:((ks.length:Int) == 0)=false:=by rw [beq_eq_false_iff_ne];omega
  clear hq hc hi2 ht hlen hkc hvc hk3 hv3;obtain ⟨⟨x0,x1,x2,x3,x4,x5,x6,x7⟩,_⟩:=val_cells V5.out;go_wp2_with fail
  obtain ⟨w6,hw6,V6,B6⟩:=own_new w5 (Raw.mk 6 false false ⟨#[]⟩ 0 ⟨#[]⟩ none 0 0 none 0 0);have hw6':w5.alloc (.cells #[.int .i64 6,.bool false,.bool false,.string ⟨#[]⟩,.int .i64 0,.string ⟨#[]⟩,.slice none 0 0,.slice none 0 0] 29)=w6:=hw6;rw [hw6'];have V06:Hid (w6.heap[w.heap.size]?=some (.cells (Raw.mk k is ng d e s (some ⟨kb,ko,none⟩) ks.length kc (some ⟨vb,vo,none⟩) vs.length vc).arr 29 (0,0))):=(B6.out.block _ (by omega)).trans V5.out;have B16:Hid (Below w.heap.size w w6):=B5.out.trans (B6.out.mono (by omega));have HT0:Hid (TurnR w6 w5.heap.size (turn ks ⟨#[]⟩ bn 0) (turn rs Raw.zero bn 0) w6):=TurnR.start V6.out;have hl6:=heap_lt V6.out;clear x0 x1 x2 x3 x4 x5 x6 x7 hw6 hw6'
  go_loopw [29] (fun p wr=>∃ i:Nat,p=.int .i64 i/\i<=ks.length/\Hid (TurnR w6 w5.heap.size (turn ks ⟨#[]⟩ bn i) (turn rs Raw.zero bn i) wr)) (fun p _=>ks.length-(intOf p).toNat)
  case atStart=>exact ⟨0,rfl,Nat.zero_le _,HT0.out⟩
  case round=>
    obtain ⟨i,rfl,hi,hR⟩:=hrel;by_cases hlt:i<ks.length
    · obtain ⟨ka1,kc1,va1,vc1,hM⟩:=hR.out;rw [turn_len,turn_len] at hM;have Vr:Hid (wr.heap[w.heap.size]?=some (.cells (Raw.mk k is ng d e s (some ⟨kb,ko,none⟩) ks.length kc (some ⟨vb,vo,none⟩) vs.length vc).arr 29 (0,0))):=(hM.below.block _ (by omega)).trans V06.out;have HM:=Hid.out (p:=Hid _) hM;clear hM;obtain ⟨⟨u0,u1,u2,u3,u4,u5,u6,u7⟩,_⟩:=val_cells Vr.out;go_wp2_with fail
      obtain ⟨q,hq,hqi⟩:∃ q:Nat,(i+bn) % ks.length=q/\((i:Int)+(bn:Int)) % (ks.length:Int)=(q:Int):=⟨_,rfl,by simp⟩;have hqk:q<ks.length:=by rw [<-hq];exact Nat.mod_lt _ (by omega)
      have hqv:q<vs.length:=by rw [<-HLEN.out];exact hqk
      have hqz:(q:Int)<(ks.length:Int):=by omega
      have hqy:(q:Int)<(vs.length:Int):=by omega
      rw [hqi];obtain ⟨key,hkey⟩:∃ key,ks[q]=key:=⟨_,rfl⟩;obtain ⟨x,hx⟩:∃ x,f q=x:=⟨_,rfl⟩;have HM0:=Hid.out (p:=Hid _) ((HM.out.again key x).drew);have K0:Hid (w.cell? ⟨kb,ko+q,none⟩=some (.string key)):=by rw [<-hkey];exact HKC.out q hqk
      have X0:Hid (CellsAt w vb (vo+q*8) x):=by rw [<-hx];exact HVC.out q hqv
      have HKY:Hid (ks.getD ((i+bn) % ks.length) ⟨#[]⟩=key):=by rw [Hid,hq,<-hkey];simp [List.getD,hqk]
      have HXY:Hid (rs.getD ((i+bn) % rs.length) Raw.zero=x):=by rw [Hid,hrs,<-HLEN.out,hq,<-hx];exact HRF.out q hqv
      have SM:∀ TA TB vk lk vv lv w',Mid w6 w5.heap.size (.cells (Raw.mk 6 false false ⟨#[]⟩ 0 ⟨#[]⟩ ka1 i kc1 va1 i vc1).arr 29 (0,0)) key x TA TB vk lk vv lv w'->OrdS w.heap.size w5.heap.size kb ko ks.length kc vb vo vs.length vc ka1 kc1 va1 vc1 i q key x w':=fun TA TB vk lk vv lv w' h=>ordS h V06 B16 h06 hkb hvb K0 X0;clear hq hqi hkey hx HM;have HS:=SM _ _ _ _ _ _ _ HM0.out;refine wp_region_g (OrdS w.heap.size w5.heap.size kb ko ks.length kc vb vo vs.length vc ka1 kc1 va1 vc1 i q key x) [19,21] (by kernel_rfl) ?_;refine wpAnyG_take [19,21] (i:=0) (v:=?v1) rfl (by kernel_rfl) (by kernel_rfl) (by kernel_rfl) (by kernel_rfl) (fun _ _ _ h=>h) (Or.inl ⟨by rfl,?hy1⟩) HS ?rest1
      case hy1=>(intro w hSw;obtain ⟨s0,s1,s2,s3,s4,y0,y1,y2,y3,y4,y5,y6,y7⟩:=hSw;go_simp;with_reducible rfl)
      simp only [List.getElem_toArray,List.getElem_cons_succ,List.getElem_cons_zero,Act.put,List.setIfInBounds_toArray,List.set_cons_zero,List.set_cons_succ]
      refine wpAnyG_take [19,21] (i:=1) (v:=?v2) rfl (by kernel_rfl) (by kernel_rfl) (by kernel_rfl) (by kernel_rfl) (fun _ _ _ h=>h) (Or.inl ⟨by rfl,?hy2⟩) HS ?rest2
      case hy2=>(intro w hSw;obtain ⟨s0,s1,s2,s3,s4,y0,y1,y2,y3,y4,y5,y6,y7⟩:=hSw;go_simp;with_reducible rfl)
      simp only [List.getElem_toArray,List.getElem_cons_succ,List.getElem_cons_zero,Act.put,List.setIfInBounds_toArray,List.set_cons_zero,List.set_cons_succ]
      refine wpAnyG_take [19,21] (i:=2) (v:=?v3) rfl (by kernel_rfl) (by kernel_rfl) (by kernel_rfl) (by kernel_rfl) (fun _ _ _ h=>h) (Or.inl ⟨by rfl,?hy3⟩) HS ?rest3
      case hy3=>(intro w hSw;obtain ⟨s0,s1,s2,s3,s4,y0,y1,y2,y3,y4,y5,y6,y7⟩:=hSw;go_simp;with_reducible rfl)
      simp only [List.getElem_toArray,List.getElem_cons_succ,List.getElem_cons_zero,Act.put,List.setIfInBounds_toArray,List.set_cons_zero,List.set_cons_succ]
      refine wpAnyG_take [19,21] (i:=3) (v:=?v4) rfl (by kernel_rfl) (by kernel_rfl) (by kernel_rfl) (by kernel_rfl) (fun _ _ _ h=>h) (Or.inl ⟨by rfl,?hy4⟩) HS ?rest4
      case hy4=>(intro w hSw;obtain ⟨s0,s1,s2,s3,s4,y0,y1,y2,y3,y4,y5,y6,y7⟩:=hSw;go_simp;with_reducible rfl)
      simp only [List.getElem_toArray,List.getElem_cons_succ,List.getElem_cons_zero,Act.put,List.setIfInBounds_toArray,List.set_cons_zero,List.set_cons_succ]
      refine wpAnyG_take [19,21] (i:=4) (v:=?v5) rfl (by kernel_rfl) (by kernel_rfl) (by kernel_rfl) (by kernel_rfl) (fun _ _ _ h=>h) (Or.inl ⟨by rfl,?hy5⟩) HS ?rest5
      case hy5=>(intro w hSw;obtain ⟨s0,s1,s2,s3,s4,y0,y1,y2,y3,y4,y5,y6,y7⟩:=hSw;go_simp;with_reducible rfl)
      simp only [List.getElem_toArray,List.getElem_cons_succ,List.getElem_cons_zero,Act.put,List.setIfInBounds_toArray,List.set_cons_zero,List.set_cons_succ]
      refine wpAnyG_take [19,21] (i:=5) (v:=?v6) rfl (by kernel_rfl) (by kernel_rfl) (by kernel_rfl) (by kernel_rfl) (fun _ _ _ h=>h) (Or.inl ⟨by rfl,?hy6⟩) HS ?rest6
      case hy6=>(intro w hSw;obtain ⟨s0,s1,s2,s3,s4,y0,y1,y2,y3,y4,y5,y6,y7⟩:=hSw;go_simp;with_reducible rfl)
      simp only [List.getElem_toArray,List.getElem_cons_succ,List.getElem_cons_zero,Act.put,List.setIfInBounds_toArray,List.set_cons_zero,List.set_cons_succ]
      refine wpAnyG_take [19,21] (i:=6) (v:=?v7) rfl (by kernel_rfl) (by kernel_rfl) (by kernel_rfl) (by kernel_rfl) (fun _ _ _ h=>h) (Or.inl ⟨by rfl,?hy7⟩) HS ?rest7
      case hy7=>(intro w hSw;obtain ⟨s0,s1,s2,s3,s4,y0,y1,y2,y3,y4,y5,y6,y7⟩:=hSw;go_simp;with_reducible rfl)
      simp only [List.getElem_toArray,List.getElem_cons_succ,List.getElem_cons_zero,Act.put,List.setIfInBounds_toArray,List.set_cons_zero,List.set_cons_succ]
      refine wpAnyG_take [19,21] (i:=9) (v:=?v8) rfl (by kernel_rfl) (by kernel_rfl) (by kernel_rfl) (by kernel_rfl) (fun _ _ _ h=>h) (Or.inl ⟨by rfl,?hy8⟩) HS ?rest8
      case hy8=>(intro w hSw;obtain ⟨s0,s1,s2,s3,s4,y0,y1,y2,y3,y4,y5,y6,y7⟩:=hSw;go_simp;with_reducible rfl)
      simp only [List.getElem_toArray,List.getElem_cons_succ,List.getElem_cons_zero,Act.put,List.setIfInBounds_toArray,List.set_cons_zero,List.set_cons_succ]
      refine wpAnyG_take [19,21] (i:=10) (v:=?v9) rfl (by kernel_rfl) (by kernel_rfl) (by kernel_rfl) (by kernel_rfl) (fun _ _ _ h=>h) (Or.inl ⟨by rfl,?hy9⟩) HS ?rest9
      case hy9=>(intro w hSw;obtain ⟨s0,s1,s2,s3,s4,y0,y1,y2,y3,y4,y5,y6,y7⟩:=hSw;go_simp;with_reducible rfl)
      simp only [List.getElem_toArray,List.getElem_cons_succ,List.getElem_cons_zero,Act.put,List.setIfInBounds_toArray,List.set_cons_zero,List.set_cons_succ]
      refine wpAnyG_take [12,14,15,16,17,19,21] (i:=11) (v:=?v10) rfl (by kernel_rfl) (by kernel_rfl) (by kernel_rfl) (by kernel_rfl) (fun _ _ _ h=>h) (Or.inl ⟨by rfl,?hy10⟩) HS ?rest10
      case hy10=>(intro w hSw;obtain ⟨s0,s1,s2,s3,s4,y0,y1,y2,y3,y4,y5,y6,y7⟩:=hSw;go_simp;with_reducible rfl)
      simp only [List.getElem_toArray,List.getElem_cons_succ,List.getElem_cons_zero,Act.put,List.setIfInBounds_toArray,List.set_cons_zero,List.set_cons_succ]
      refine wpAnyG_take [14,15,16,17,19,21] (i:=12) (v:=?v11) rfl (by kernel_rfl) (by kernel_rfl) (by kernel_rfl) (by kernel_rfl) (fun _ _ _ h=>h) (Or.inl ⟨by rfl,?hy11⟩) HS ?rest11
      case hy11=>(intro w hSw;obtain ⟨s0,s1,s2,s3,s4,y0,y1,y2,y3,y4,y5,y6,y7⟩:=hSw;go_simp;with_reducible rfl)
      simp only [List.getElem_toArray,List.getElem_cons_succ,List.getElem_cons_zero,Act.put,List.setIfInBounds_toArray,List.set_cons_zero,List.set_cons_succ]
      refine wpAnyG_take [14,15,16,17,19,21] (i:=13) (v:=?v12) rfl (by kernel_rfl) (by kernel_rfl) (by kernel_rfl) (by kernel_rfl) (fun _ _ _ h=>h) (Or.inl ⟨by rfl,?hy12⟩) HS ?rest12
      case hy12=>(intro w hSw;obtain ⟨s0,s1,s2,s3,s4,y0,y1,y2,y3,y4,y5,y6,y7⟩:=hSw;go_simp;with_reducible rfl)
      simp only [List.getElem_toArray,List.getElem_cons_succ,List.getElem_cons_zero,Act.put,List.setIfInBounds_toArray,List.set_cons_zero,List.set_cons_succ]
      refine wpAnyG_take [15,16,17,19,21] (i:=14) (v:=?v13) rfl (by kernel_rfl) (by kernel_rfl) (by kernel_rfl) (by kernel_rfl) (fun _ _ _ h=>h) (Or.inl ⟨by rfl,?hy13⟩) HS ?rest13
      case hy13=>(intro w hSw;obtain ⟨s0,s1,s2,s3,s4,y0,y1,y2,y3,y4,y5,y6,y7⟩:=hSw;go_simp;with_reducible rfl)
      simp only [List.getElem_toArray,List.getElem_cons_succ,List.getElem_cons_zero,Act.put,List.setIfInBounds_toArray,List.set_cons_zero,List.set_cons_succ]
      refine wpAnyG_take [16,17,19,21] (i:=15) (v:=?v14) rfl (by kernel_rfl) (by kernel_rfl) (by kernel_rfl) (by kernel_rfl) (fun _ _ _ h=>h) (Or.inl ⟨by rfl,?hy14⟩) HS ?rest14
      case hy14=>(intro w hSw;obtain ⟨s0,s1,s2,s3,s4,y0,y1,y2,y3,y4,y5,y6,y7⟩:=hSw;go_simp;with_reducible rfl)
      simp only [List.getElem_toArray,List.getElem_cons_succ,List.getElem_cons_zero,Act.put,List.setIfInBounds_toArray,List.set_cons_zero,List.set_cons_succ]
      refine wpAnyG_ready (rs:=[7,16]) (by kernel_rfl) (by simp) ?_;refine AllReadyG.cons rfl (fun K hK=>?_) (AllReadyG.cons rfl (fun K hK=>?_) AllReadyG.nil)
      · -- the key is laid first
        simp only [List.getElem_toArray,List.getElem_cons_succ,List.getElem_cons_zero]
        refine Jdec.step_build_one 26 9 #[.string key] (.string key) (build_key _ key) (by rfl) _ (by rfl) (by rfl) ?_;have HM1:=Hid.out (p:=Hid _) (HM0.out.allocA);refine hK.out _ _ (fun _=>SM _ _ _ _ _ _ _ HM1.out) ?_;clear hK K;simp only [List.getElem_toArray,List.getElem_cons_succ,List.getElem_cons_zero,Act.put,List.setIfInBounds_toArray,List.set_cons_zero,List.set_cons_succ]
        refine wpAnyG_ready (rs:=[8,16]) (by kernel_rfl) (by simp) ?_;refine AllReadyG.cons rfl (fun K hK=>?_) (AllReadyG.cons rfl (fun K hK=>?_) AllReadyG.nil)
        · -- the key is appended
          simp only [List.getElem_toArray,List.getElem_cons_succ,List.getElem_cons_zero]
          obtain ⟨ka2,kc2,w2,hr2,hM2⟩:=HM1.out.appA rfl (by rw [turn_len];omega);refine Jdec.step_append_run _ _ 26 hr2 (by rfl) _ _ (by rfl) (by rfl) (by rfl) ?_;have HM2:=Hid.out (p:=Hid _) hM2;refine hK.out _ _ (fun _=>SM _ _ _ _ _ _ _ hM2) ?_;clear hK K hr2 hM2;simp only [List.getElem_toArray,List.getElem_cons_succ,List.getElem_cons_zero,Act.put,List.setIfInBounds_toArray,List.set_cons_zero,List.set_cons_succ]
          refine wpAnyG_take [19,21] (i:=18) (v:=?v15) rfl (by kernel_rfl) (by kernel_rfl) (by kernel_rfl) (by kernel_rfl) (fun _ _ _ h=>h) (Or.inl ⟨by rfl,?hy15⟩) (SM _ _ _ _ _ _ _ HM2.out) ?rest15
          case hy15=>(intro w hSw;obtain ⟨s0,s1,s2,s3,s4,y0,y1,y2,y3,y4,y5,y6,y7⟩:=hSw;go_simp;with_reducible rfl)
          simp only [List.getElem_toArray,List.getElem_cons_succ,List.getElem_cons_zero,Act.put,List.setIfInBounds_toArray,List.set_cons_zero,List.set_cons_succ]
          refine wpAnyG_ready (rs:=[16]) (by kernel_rfl) (by simp) ?_;refine AllReadyG.cons rfl (fun K hK=>?_) AllReadyG.nil;simp only [List.getElem_toArray,List.getElem_cons_succ,List.getElem_cons_zero]
          refine Jdec.step_build_one 27 29 x.arr x.val (build_kid _ x) (by rfl) _ (by rfl) (by rfl) ?_;have HM3:=Hid.out (p:=Hid _) (HM2.out.allocB);refine hK.out _ _ (fun _=>SM _ _ _ _ _ _ _ HM3.out) ?_;clear hK K;simp only [List.getElem_toArray,List.getElem_cons_succ,List.getElem_cons_zero,Act.put,List.setIfInBounds_toArray,List.set_cons_zero,List.set_cons_succ]
          refine wpAnyG_ready (rs:=[17]) (by kernel_rfl) (by simp) ?_;refine AllReadyG.cons rfl (fun K hK=>?_) AllReadyG.nil;simp only [List.getElem_toArray,List.getElem_cons_succ,List.getElem_cons_zero]
          obtain ⟨va4,vc4,w4,hr4,hM4⟩:=HM3.out.appB (by rw [turn_len];omega);refine Jdec.step_append_run _ _ 27 hr4 (by rfl) _ _ (by rfl) (by rfl) (by rfl) ?_;have HM4:=Hid.out (p:=Hid _) hM4;refine hK.out _ _ (fun _=>SM _ _ _ _ _ _ _ hM4) ?_;clear hK K hr4 hM4;simp only [List.getElem_toArray,List.getElem_cons_succ,List.getElem_cons_zero,Act.put,List.setIfInBounds_toArray,List.set_cons_zero,List.set_cons_succ]
          obtain ⟨⟨z0,z1,z2,z3,z4,z5,z6,z7⟩,g0,g1,g2,g3,g4,g5,g6,g7⟩:=val_cells (Hid.out (p:=Hid _) HM4.out.own);refine wpAnyG_ready (rs:=[19]) (by kernel_rfl) (by simp) ?_;refine AllReadyG.cons rfl (fun K hK=>?_) AllReadyG.nil;simp only [List.getElem_toArray,List.getElem_cons_succ,List.getElem_cons_zero]
          go_simp
          refine hK.out _ _ (fun h=>absurd h (by decide)) ?_;clear hK K
          try simp only [List.getElem_toArray,List.getElem_cons_succ,List.getElem_cons_zero,Act.put,List.setIfInBounds_toArray,List.set_cons_zero,List.set_cons_succ]
          refine wpAnyG_ready (rs:=[20]) (by kernel_rfl) (by simp) ?_;refine AllReadyG.cons rfl (fun K hK=>?_) AllReadyG.nil;simp only [List.getElem_toArray,List.getElem_cons_succ,List.getElem_cons_zero]
          go_simp
          refine hK.out _ _ (fun h=>absurd h (by decide)) ?_;clear hK K
          try simp only [List.getElem_toArray,List.getElem_cons_succ,List.getElem_cons_zero,Act.put,List.setIfInBounds_toArray,List.set_cons_zero,List.set_cons_succ]
          refine wpAnyG_ready (rs:=[21]) (by kernel_rfl) (by simp) ?_;refine AllReadyG.cons rfl (fun K hK=>?_) AllReadyG.nil;simp only [List.getElem_toArray,List.getElem_cons_succ,List.getElem_cons_zero]
          go_simp
          refine hK.out _ _ (fun h=>absurd h (by decide)) ?_;clear hK K
          try simp only [List.getElem_toArray,List.getElem_cons_succ,List.getElem_cons_zero,Act.put,List.setIfInBounds_toArray,List.set_cons_zero,List.set_cons_succ]
          refine wpAnyG_done (by kernel_rfl) ?_ _;have hn:TurnR w6 w5.heap.size (turn ks ⟨#[]⟩ bn i++[key]) (turn rs Raw.zero bn i++[x]) _:=TurnR.next HM4.out;have e1:turn ks ⟨#[]⟩ bn (i+1)=turn ks ⟨#[]⟩ bn i++[key]:=by rw [turn_succ,HKY.out]
          have e2:turn rs Raw.zero bn (i+1)=turn rs Raw.zero bn i++[x]:=by rw [turn_succ,HXY.out]
          rw [<-e1,<-e2] at hn;simp only [turn_len] at hn ⊢
          have HN:=Hid.out (p:=Hid _) hn;clear hn e1 e2;go_wp2_with fail
          go_roundw
          case rel=>exact ⟨i+1,by go_num,by omega,HN.out⟩
          case measure=>simp [intOf];omega
        · -- the kid is laid
          simp only [List.getElem_toArray,List.getElem_cons_succ,List.getElem_cons_zero]
          refine Jdec.step_build_one 27 29 x.arr x.val (build_kid _ x) (by rfl) _ (by rfl) (by rfl) ?_;have HM2:=Hid.out (p:=Hid _) (HM1.out.allocB);refine hK.out _ _ (fun _=>SM _ _ _ _ _ _ _ HM2.out) ?_;clear hK K;simp only [List.getElem_toArray,List.getElem_cons_succ,List.getElem_cons_zero,Act.put,List.setIfInBounds_toArray,List.set_cons_zero,List.set_cons_succ]
          refine wpAnyG_ready (rs:=[8]) (by kernel_rfl) (by simp) ?_;refine AllReadyG.cons rfl (fun K hK=>?_) AllReadyG.nil;simp only [List.getElem_toArray,List.getElem_cons_succ,List.getElem_cons_zero]
          obtain ⟨ka3,kc3,w3,hr3,hM3⟩:=HM2.out.appA rfl (by rw [turn_len];omega);refine Jdec.step_append_run _ _ 26 hr3 (by rfl) _ _ (by rfl) (by rfl) (by rfl) ?_;have HM3:=Hid.out (p:=Hid _) hM3;refine hK.out _ _ (fun _=>SM _ _ _ _ _ _ _ hM3) ?_;clear hK K hr3 hM3;simp only [List.getElem_toArray,List.getElem_cons_succ,List.getElem_cons_zero,Act.put,List.setIfInBounds_toArray,List.set_cons_zero,List.set_cons_succ]
          refine wpAnyG_take [19,21] (i:=18) (v:=?v16) rfl (by kernel_rfl) (by kernel_rfl) (by kernel_rfl) (by kernel_rfl) (fun _ _ _ h=>h) (Or.inl ⟨by rfl,?hy16⟩) (SM _ _ _ _ _ _ _ HM3.out) ?rest16
          case hy16=>(intro w hSw;obtain ⟨s0,s1,s2,s3,s4,y0,y1,y2,y3,y4,y5,y6,y7⟩:=hSw;go_simp;with_reducible rfl)
          simp only [List.getElem_toArray,List.getElem_cons_succ,List.getElem_cons_zero,Act.put,List.setIfInBounds_toArray,List.set_cons_zero,List.set_cons_succ]
          refine wpAnyG_ready (rs:=[17]) (by kernel_rfl) (by simp) ?_;refine AllReadyG.cons rfl (fun K hK=>?_) AllReadyG.nil;simp only [List.getElem_toArray,List.getElem_cons_succ,List.getElem_cons_zero]
          obtain ⟨va4,vc4,w4,hr4,hM4⟩:=HM3.out.appB (by rw [turn_len];omega);refine Jdec.step_append_run _ _ 27 hr4 (by rfl) _ _ (by rfl) (by rfl) (by rfl) ?_;have HM4:=Hid.out (p:=Hid _) hM4;refine hK.out _ _ (fun _=>SM _ _ _ _ _ _ _ hM4) ?_;clear hK K hr4 hM4;simp only [List.getElem_toArray,List.getElem_cons_succ,List.getElem_cons_zero,Act.put,List.setIfInBounds_toArray,List.set_cons_zero,List.set_cons_succ]
          obtain ⟨⟨z0,z1,z2,z3,z4,z5,z6,z7⟩,g0,g1,g2,g3,g4,g5,g6,g7⟩:=val_cells (Hid.out (p:=Hid _) HM4.out.own);refine wpAnyG_ready (rs:=[19]) (by kernel_rfl) (by simp) ?_;refine AllReadyG.cons rfl (fun K hK=>?_) AllReadyG.nil;simp only [List.getElem_toArray,List.getElem_cons_succ,List.getElem_cons_zero]
          go_simp
          refine hK.out _ _ (fun h=>absurd h (by decide)) ?_;clear hK K
          try simp only [List.getElem_toArray,List.getElem_cons_succ,List.getElem_cons_zero,Act.put,List.setIfInBounds_toArray,List.set_cons_zero,List.set_cons_succ]
          refine wpAnyG_ready (rs:=[20]) (by kernel_rfl) (by simp) ?_;refine AllReadyG.cons rfl (fun K hK=>?_) AllReadyG.nil;simp only [List.getElem_toArray,List.getElem_cons_succ,List.getElem_cons_zero]
          go_simp
          refine hK.out _ _ (fun h=>absurd h (by decide)) ?_;clear hK K
          try simp only [List.getElem_toArray,List.getElem_cons_succ,List.getElem_cons_zero,Act.put,List.setIfInBounds_toArray,List.set_cons_zero,List.set_cons_succ]
          refine wpAnyG_ready (rs:=[21]) (by kernel_rfl) (by simp) ?_;refine AllReadyG.cons rfl (fun K hK=>?_) AllReadyG.nil;simp only [List.getElem_toArray,List.getElem_cons_succ,List.getElem_cons_zero]
          go_simp
          refine hK.out _ _ (fun h=>absurd h (by decide)) ?_;clear hK K
          try simp only [List.getElem_toArray,List.getElem_cons_succ,List.getElem_cons_zero,Act.put,List.setIfInBounds_toArray,List.set_cons_zero,List.set_cons_succ]
          refine wpAnyG_done (by kernel_rfl) ?_ _;have hn:TurnR w6 w5.heap.size (turn ks ⟨#[]⟩ bn i++[key]) (turn rs Raw.zero bn i++[x]) _:=TurnR.next HM4.out;have e1:turn ks ⟨#[]⟩ bn (i+1)=turn ks ⟨#[]⟩ bn i++[key]:=by rw [turn_succ,HKY.out]
          have e2:turn rs Raw.zero bn (i+1)=turn rs Raw.zero bn i++[x]:=by rw [turn_succ,HXY.out]
          rw [<-e1,<-e2] at hn;simp only [turn_len] at hn ⊢
          have HN:=Hid.out (p:=Hid _) hn;clear hn e1 e2;go_wp2_with fail
          go_roundw
          case rel=>exact ⟨i+1,by go_num,by omega,HN.out⟩
          case measure=>simp [intOf];omega
      · -- the kid is laid first
        simp only [List.getElem_toArray,List.getElem_cons_succ,List.getElem_cons_zero]
        refine Jdec.step_build_one 27 29 x.arr x.val (build_kid _ x) (by rfl) _ (by rfl) (by rfl) ?_;have HM1:=Hid.out (p:=Hid _) (HM0.out.allocB);refine hK.out _ _ (fun _=>SM _ _ _ _ _ _ _ HM1.out) ?_;clear hK K;simp only [List.getElem_toArray,List.getElem_cons_succ,List.getElem_cons_zero,Act.put,List.setIfInBounds_toArray,List.set_cons_zero,List.set_cons_succ]
        refine wpAnyG_ready (rs:=[7]) (by kernel_rfl) (by simp) ?_;refine AllReadyG.cons rfl (fun K hK=>?_) AllReadyG.nil;simp only [List.getElem_toArray,List.getElem_cons_succ,List.getElem_cons_zero]
        refine Jdec.step_build_one 26 9 #[.string key] (.string key) (build_key _ key) (by rfl) _ (by rfl) (by rfl) ?_;have HM2:=Hid.out (p:=Hid _) (HM1.out.allocA);refine hK.out _ _ (fun _=>SM _ _ _ _ _ _ _ HM2.out) ?_;clear hK K;simp only [List.getElem_toArray,List.getElem_cons_succ,List.getElem_cons_zero,Act.put,List.setIfInBounds_toArray,List.set_cons_zero,List.set_cons_succ]
        refine wpAnyG_ready (rs:=[8]) (by kernel_rfl) (by simp) ?_;refine AllReadyG.cons rfl (fun K hK=>?_) AllReadyG.nil;simp only [List.getElem_toArray,List.getElem_cons_succ,List.getElem_cons_zero]
        obtain ⟨ka3,kc3,w3,hr3,hM3⟩:=HM2.out.appA rfl (by rw [turn_len];omega);refine Jdec.step_append_run _ _ 26 hr3 (by rfl) _ _ (by rfl) (by rfl) (by rfl) ?_;have HM3:=Hid.out (p:=Hid _) hM3;refine hK.out _ _ (fun _=>SM _ _ _ _ _ _ _ hM3) ?_;clear hK K hr3 hM3;simp only [List.getElem_toArray,List.getElem_cons_succ,List.getElem_cons_zero,Act.put,List.setIfInBounds_toArray,List.set_cons_zero,List.set_cons_succ]
        refine wpAnyG_take [19,21] (i:=18) (v:=?v17) rfl (by kernel_rfl) (by kernel_rfl) (by kernel_rfl) (by kernel_rfl) (fun _ _ _ h=>h) (Or.inl ⟨by rfl,?hy17⟩) (SM _ _ _ _ _ _ _ HM3.out) ?rest17
        case hy17=>(intro w hSw;obtain ⟨s0,s1,s2,s3,s4,y0,y1,y2,y3,y4,y5,y6,y7⟩:=hSw;go_simp;with_reducible rfl)
        simp only [List.getElem_toArray,List.getElem_cons_succ,List.getElem_cons_zero,Act.put,List.setIfInBounds_toArray,List.set_cons_zero,List.set_cons_succ]
        refine wpAnyG_ready (rs:=[17]) (by kernel_rfl) (by simp) ?_;refine AllReadyG.cons rfl (fun K hK=>?_) AllReadyG.nil;simp only [List.getElem_toArray,List.getElem_cons_succ,List.getElem_cons_zero]
        obtain ⟨va4,vc4,w4,hr4,hM4⟩:=HM3.out.appB (by rw [turn_len];omega);refine Jdec.step_append_run _ _ 27 hr4 (by rfl) _ _ (by rfl) (by rfl) (by rfl) ?_;have HM4:=Hid.out (p:=Hid _) hM4;refine hK.out _ _ (fun _=>SM _ _ _ _ _ _ _ hM4) ?_;clear hK K hr4 hM4;simp only [List.getElem_toArray,List.getElem_cons_succ,List.getElem_cons_zero,Act.put,List.setIfInBounds_toArray,List.set_cons_zero,List.set_cons_succ]
        obtain ⟨⟨z0,z1,z2,z3,z4,z5,z6,z7⟩,g0,g1,g2,g3,g4,g5,g6,g7⟩:=val_cells (Hid.out (p:=Hid _) HM4.out.own);refine wpAnyG_ready (rs:=[19]) (by kernel_rfl) (by simp) ?_;refine AllReadyG.cons rfl (fun K hK=>?_) AllReadyG.nil;simp only [List.getElem_toArray,List.getElem_cons_succ,List.getElem_cons_zero]
        go_simp
        refine hK.out _ _ (fun h=>absurd h (by decide)) ?_;clear hK K
        try simp only [List.getElem_toArray,List.getElem_cons_succ,List.getElem_cons_zero,Act.put,List.setIfInBounds_toArray,List.set_cons_zero,List.set_cons_succ]
        refine wpAnyG_ready (rs:=[20]) (by kernel_rfl) (by simp) ?_;refine AllReadyG.cons rfl (fun K hK=>?_) AllReadyG.nil;simp only [List.getElem_toArray,List.getElem_cons_succ,List.getElem_cons_zero]
        go_simp
        refine hK.out _ _ (fun h=>absurd h (by decide)) ?_;clear hK K
        try simp only [List.getElem_toArray,List.getElem_cons_succ,List.getElem_cons_zero,Act.put,List.setIfInBounds_toArray,List.set_cons_zero,List.set_cons_succ]
        refine wpAnyG_ready (rs:=[21]) (by kernel_rfl) (by simp) ?_;refine AllReadyG.cons rfl (fun K hK=>?_) AllReadyG.nil;simp only [List.getElem_toArray,List.getElem_cons_succ,List.getElem_cons_zero]
        go_simp
        refine hK.out _ _ (fun h=>absurd h (by decide)) ?_;clear hK K
        try simp only [List.getElem_toArray,List.getElem_cons_succ,List.getElem_cons_zero,Act.put,List.setIfInBounds_toArray,List.set_cons_zero,List.set_cons_succ]
        refine wpAnyG_done (by kernel_rfl) ?_ _;have hn:TurnR w6 w5.heap.size (turn ks ⟨#[]⟩ bn i++[key]) (turn rs Raw.zero bn i++[x]) _:=TurnR.next HM4.out;have e1:turn ks ⟨#[]⟩ bn (i+1)=turn ks ⟨#[]⟩ bn i++[key]:=by rw [turn_succ,HKY.out]
        have e2:turn rs Raw.zero bn (i+1)=turn rs Raw.zero bn i++[x]:=by rw [turn_succ,HXY.out]
        rw [<-e1,<-e2] at hn;simp only [turn_len] at hn ⊢
        have HN:=Hid.out (p:=Hid _) hn;clear hn e1 e2;go_wp2_with fail
        go_roundw
        case rel=>exact ⟨i+1,by go_num,by omega,HN.out⟩
        case measure=>simp [intOf];omega
    · obtain rfl:i=ks.length:=by omega
      obtain ⟨ka1,kc1,va1,vc1,hM⟩:=hR.out;have hB:=B16.out.trans (hM.below.mono (Nat.le_of_lt h06));have hrl:(turn rs Raw.zero bn ks.length).length=(turn vs JV.zero bn vs.length).length:=by rw [turn_len,turn_len];exact HLEN.out
      have hj1:∀ W,Below w.heap.size w W->∀ j (hj:j<(turn vs JV.zero bn vs.length).length),IsV W (fun b=>b<w.heap.size) ((turn rs Raw.zero bn ks.length).getD j Raw.zero) (turn vs JV.zero bn vs.length)[j]:=fun W hW j hj=>by
        have hj':j<vs.length:=by rw [turn_len] at hj;exact hj
        have hm:(j+bn) % vs.length<vs.length:=Nat.mod_lt _ (by omega);have hm2:(j+bn) % rs.length<rs.length:=by rw [hrs];exact hm
        have e1:(turn rs Raw.zero bn ks.length).getD j Raw.zero=rs.getD ((j+bn) % rs.length) Raw.zero:=by
          have:j<(turn rs Raw.zero bn ks.length).length:=by rw [turn_len,HLEN.out];exact hj'
          rw [show (turn rs Raw.zero bn ks.length).getD j Raw.zero=(turn rs Raw.zero bn ks.length)[j] by simp [List.getD,this],turn_get rs _ bn _ j this hm2];simp [List.getD,hm2]
        rw [e1,turn_get vs _ bn _ j hj hm,hrs,HRF.out _ hm];exact ((HI2.out _ hm).turn (Turn.mono w (A':=fun b=>b<w.heap.size) fun b _ hb=>hb)).behind hW
      have HJ1:=Hid.out (p:=Hid _) hj1;have hj0:∀ W,Below w.heap.size w W->∀ j (hj:j<vs.length),IsV W (fun b=>b<w.heap.size) (rs.getD j Raw.zero) vs[j]:=fun W hW j hj=>by
        rw [HRF.out _ hj];exact ((HI2.out _ hj).turn (Turn.mono w (A':=fun b=>b<w.heap.size) fun b _ hb=>hb)).behind hW
      have HJ0:=Hid.out (p:=Hid _) hj0;rw [turn_len,turn_len] at hM;have V1:Hid (wr.heap[w5.heap.size]?=some (.cells (Raw.mk 6 false false ⟨#[]⟩ 0 ⟨#[]⟩ ka1 ks.length kc1 va1 ks.length vc1).arr 29 (0,0))):=hM.own;have V0:Hid (wr.heap[w.heap.size]?=some (.cells (Raw.mk k is ng d e s (some ⟨kb,ko,none⟩) ks.length kc (some ⟨vb,vo,none⟩) vs.length vc).arr 29 (0,0))):=(hM.below.block _ (by omega)).trans V06.out;have HB:=Hid.out (p:=Hid _) hB;have RK:Hid (wr.ownsRow (w5.heap.size+1) 9 1 (.slice ka1 ks.length kc1) ks.length ((turn ks ⟨#[]⟩ bn ks.length).map Value.string)):=by
        have h:=hM.keys;rw [turn_len] at h;exact h
      have RV:Hid (wr.ownsRow (w5.heap.size+1) 29 8 (.slice va1 ks.length vc1) ks.length ((turn rs Raw.zero bn ks.length).flatMap Raw.cells)):=by
        have h:=hM.kids;rw [turn_len] at h;exact h
      have HRS:Hid (rs.length=vs.length):=hrs;have HHB:Hid (kb<w.heap.size/\vb<w.heap.size/\w.heap.size<w5.heap.size):=⟨hkb,hvb,h06⟩;clear hB hM hR hj0 hj1 hrl hrs hkb hvb h06 h5;have HSZ:Hid (w.heap.size<=wr.heap.size):=HB.out.size;have HV0:Hid (∀ W,Below wr.heap.size wr W->W.heap[w.heap.size]?=some (.cells (Raw.mk k is ng d e s (some ⟨kb,ko,none⟩) ks.length kc (some ⟨vb,vo,none⟩) vs.length vc).arr 29 (0,0))):=fun W hW=>(hW.block _ (heap_lt V0.out)).trans V0.out;have HKB:Hid (∀ W,Below wr.heap.size wr W->∀ j u,(ks.map Value.string)[j]?=some u->W.cell? ((⟨kb,ko,none⟩:Addr).add j)=some u):=fun W hW j u hu=>by
        rw [List.getElem?_map] at hu;obtain ⟨x,hx,rfl⟩:=Option.map_eq_some_iff.1 hu;obtain ⟨hj,rfl⟩:=List.getElem?_eq_some_iff.1 hx;rw [cell_add];exact (World.cell?_of_block (w:=w) ((HB.out.trans (hW.mono HSZ.out)).block kb HHB.out.1)).trans (HKC.out j hj)
      have HVB:Hid (∀ W,Below wr.heap.size wr W->∀ j u,(rs.flatMap Raw.cells)[j]?=some u->W.cell? ((⟨vb,vo,none⟩:Addr).add j)=some u):=fun W hW j u hu=>by
        have hj:j<rs.length*8:=by have:=(List.getElem?_eq_some_iff.1 hu).1;rw [flat_cells_len] at this;exact this
        have h8:=flat8_at rs (j / 8) (by omega) (j % 8) (Nat.mod_lt _ (by omega));rw [show j / 8*8+j % 8=j by omega,hu] at h8;have hjv:j / 8<vs.length:=by have:=HRS.out;omega
        have e1:rs[j / 8]'(by omega)=f (j / 8):=by rw [<-HRF.out _ hjv];simp [List.getD,show j / 8<rs.length by omega]
        rw [e1] at h8;rw [cell_add];have:=(World.cell?_of_block (w:=w) ((HB.out.trans (hW.mono HSZ.out)).block vb HHB.out.2.1)).trans (HVC.out _ hjv (j % 8) u h8.symm);rw [show vo+j / 8*8+j % 8=vo+j by omega] at this;exact this
      have V1:=Hid.out (p:=Hid _) V1;clear V0
      go_upto_region 13 with (fail)
      go_cut [9] from 15 to 106 (fun p9 wx=>∃ (b9:Nat) (z9:Raw),p9=.pointer (some ⟨b9,0,none⟩)/\Hid (wr.heap.size<=b9)/\Hid (Below wr.heap.size wr wx)/\Hid (wx.heap[b9]?=some (.cells z9.arr 29 (0,0)))/\Hid (IsV wx (fun b=>b≠b9) z9 (objectOf (ks++[kMore]) (vs++[numV 1]))))
      case first=>
        haveI:OldA wr.heap.size (fun b=>b<w.heap.size):=⟨fun b hb=>by have hb:b<w.heap.size:=hb;have:=HSZ.out;omega⟩
        haveI:OldA wr.heap.size (fun _=>False):=⟨fun b hb=>hb.elim⟩
        refine reg_last [FR wr.heap.size 9 1 0 [],FC (.pointer (some ⟨w.heap.size,6,none⟩)),FC (.slice (some ⟨kb,ko,none⟩) ks.length kc),FR wr.heap.size 9 1 (0+ks.length) ([]++(ks.map Value.string)),FT [kMore],FR wr.heap.size 9 1 ((0+ks.length)+1) (([]++(ks.map Value.string))++([kMore].map Value.string)),FR wr.heap.size 29 8 0 [],FC (.pointer (some ⟨w.heap.size,7,none⟩)),FC (.slice (some ⟨vb,vo,none⟩) vs.length vc),FR wr.heap.size 29 8 (0+vs.length) ([]++(rs.flatMap Raw.cells)),FV (fun _=>False) (numV 1),FK (fun _=>False) [(numV 1)],FRz wr.heap.size (0+vs.length+1) ([]++(rs.flatMap Raw.cells)) (numV 1),FV (fun b=>b<w.heap.size) (objectOf (ks++[kMore]) (vs++[numV 1])),FB,FC undef] [(3,0),(5,3),(9,6),(12,9)] [0,3,6,9,14] 15 (fun u A=>((((((((((((((((A.put (some 59) (u 0)).put (some 60) (u 1)).put (some 61) (u 2)).put (some 62) (u 3)).put (some 63) (u 4)).put (some 64) (u 5)).put (some 65) (u 6)).put (some 66) (u 7)).put (some 67) (u 8)).put (some 68) (u 9)).put (some 69) (u 10)).put (some 70) (u 11)).put (some 71) (u 12)).put (some 72) (u 13)).put (some 9) (u 14)).put none (u 15))) (by intro u A;kernel_rfl) (by kernel_rfl) (by kernel_rfl) (by kernel_rfl) (by kernel_rfl) ?_ ?_
        · refine .cons ?_ (.cons ?_ (.cons ?_ (.cons ?_ (.cons ?_ (.cons ?_ (.cons ?_ (.cons ?_ (.cons ?_ (.cons ?_ (.cons ?_ (.cons ?_ (.cons ?_ (.cons ?_ (.cons ?_ (.last (.nil rfl))))))))))))))))
          · exact sE 26 9 1 rfl (fun w=>by kernel_rfl) rfl (fun _=>rfl)
          · exact sC _ rfl (fun _=>rfl) fun aa ww KK BB RR DD=>exec_field rfl (rest_at RR 2 (by kernel_rfl) rfl) (by kernel_rfl)
          · exact sC _ rfl (fun _=>rfl) fun aa ww KK BB RR DD=>exec_load rfl (dep_at DD 1 60 (by kernel_rfl)) (run_slice6 (HV0.out ww BB))
          · exact sA wr.heap.size 26 9 1 0 ks.length [] (ks.map Value.string) 0 59 (.tmp 61) rfl rfl rfl rfl rfl (fun _=>rfl) (by kernel_rfl) (fun w v ad c h hB hn=>app_texts h ks ad c rfl hn (by omega) hB) (fun aa ww KK BB RR DD=>⟨⟨kb,ko,none⟩,kc,(dep_at DD 2 61 (by kernel_rfl)),HKB.out ww BB⟩)
          · exact sT [kMore] 9 rfl (fun _=>rfl) (fun a w=>by kernel_rfl)
          · exact sA wr.heap.size 26 9 1 (0+ks.length) 1 ([]++(ks.map Value.string)) ([kMore].map Value.string) 3 62 (.tmp 63) rfl rfl rfl rfl rfl (fun _=>rfl) (by kernel_rfl) (fun w v ad c h hB hn=>app_texts h [kMore] ad c rfl hn (by omega) hB) (fun aa ww KK BB RR DD=>src_texts (dep_at DD 4 63 (by kernel_rfl)))
          · exact sE 27 29 8 rfl (fun w=>by kernel_rfl) rfl (fun _=>rfl)
          · exact sC _ rfl (fun _=>rfl) fun aa ww KK BB RR DD=>exec_field rfl (rest_at RR 2 (by kernel_rfl) rfl) (by kernel_rfl)
          · exact sC _ rfl (fun _=>rfl) fun aa ww KK BB RR DD=>exec_load rfl (dep_at DD 7 66 (by kernel_rfl)) (run_slice7 (HV0.out ww BB))
          · exact sA wr.heap.size 27 29 8 0 vs.length [] (rs.flatMap Raw.cells) 6 65 (.tmp 67) rfl rfl rfl rfl rfl (fun _=>rfl) (by kernel_rfl) (fun w v ad c h hB hn=>app_vals h rs ad c HRS.out.symm hn (by omega) hB) (fun aa ww KK BB RR DD=>⟨⟨vb,vo,none⟩,vc,(dep_at DD 8 67 (by kernel_rfl)),HVB.out ww BB⟩)
          · exact sV (fun _=>False) (numV 1) rfl (fun _=>rfl) fun aa ww KK BB RR DD=>⟨15,#[.int .u64 1],(fun _=>False),exec_fn rfl rfl (enters_of Tryz.func15 (by kernel_rfl) rfl) (args1 rfl),rnum_any 1 (by decide) (fun _=>False) ww,fun _ h=>.inl h⟩
          · exact sK (fun _=>False) [(10,(numV 1))] 27 _ rfl rfl rfl (fun _=>rfl) (allc ⟨by kernel_rfl,rfl⟩ alln) (allc rfl alln) rfl (by simp) (by simp) (fun a=>by kernel_rfl)
          · exact sAz wr.heap.size (0+vs.length) ([]++(rs.flatMap Raw.cells)) (numV 1) 9 68 11 70 rfl rfl rfl (by omega) (num_bare 1) rfl rfl rfl (fun _=>rfl) (by kernel_rfl) (by kernel_rfl)
          · exact sOz (fun b=>b<w.heap.size) wr.heap.size (0+ks.length+1) (0+vs.length+1) (ks++[kMore]) vs rs (numV 1) 5 12 _ _ rfl rfl (by simp) rfl _ rfl rfl (fun _=>rfl) (by kernel_rfl) HRS.out inferInstance (fun w B=>HJ0.out w (HB.out.trans (B.mono HSZ.out))) (fun a=>by kernel_rfl)
          · exact sB rfl rfl (fun _=>rfl)
        · intro u wX K a ha hu D F1 N1 N2
          obtain ⟨bz,e14,c14,VZ⟩:=F1 14 (by decide +kernel) (by decide) (by intro j _ _;simp);obtain ⟨zo,e13,I13⟩:=F1 13 (by decide +kernel) (by decide) (by intro j _ _;simp);have hbz:=N1 14 bz (by decide +kernel) (by decide) c14;have hlone:=N2 14 13 bz (by decide +kernel) (by decide +kernel) (by decide) (by decide) (by intro j _ _;simp) rfl (by decide) c14;have IM:Hid (IsV wX (fun b=>b≠bz) zo (objectOf (ks++[kMore]) (vs++[numV 1]))):=I13.turn (Turn.mono wX fun b hb _=>by rcases hb with hb | hb;have hb:b<w.heap.size:=hb;have:=HSZ.out;have:=hbz.1;show b≠bz;omega;exact fun e=>hlone (by rw [<-e];exact hb));have HBZ:Hid (wr.heap.size<=bz):=hbz.1;have D:Hid (Below wr.heap.size wr wX):=D;have VZ:Hid (wX.heap[bz]?=some (.cells Raw.zero.arr 29 (0,0))):=VZ;refine oper_skip (exec_store rfl ((hu 14 9 (by kernel_rfl)).trans e14) ((hu 13 72 (by kernel_rfl)).trans e13) (run_store8 VZ.out zo)) ?_;rw [ha,e14];clear ha hu;clear F1 N1 N2 e13 e14 c14 I13 hbz hlone;simp only [nz]
          go_wp2_with fail
          go_meet
          exact ⟨_,_,rfl,HBZ.out,below8 D.out HBZ.out _ _ _ _ _ _ _ _,set8 VZ.out zo,dn2 (A:=fun k=>k≠bz) (isv_w IM (fun _ h=>⟨h,h⟩)) _ _ _ _ _ _ _ _⟩
      case rest=>
      obtain ⟨b9,z9,rfl,h9,E9,V9,I9⟩:=hcut;have HV1:Hid (∀ W,Below wc.heap.size wc W->W.heap[w5.heap.size]?=some (.cells (Raw.mk 6 false false ⟨#[]⟩ 0 ⟨#[]⟩ ka1 ks.length kc1 va1 ks.length vc1).arr 29 (0,0))):=fun W hW=>(hst (hst V1 E9) (Hid.out (p:=Hid _) hW)).out;obtain ⟨g1,rfl,hg1⟩:∃ g,ka1=some ⟨g,0,none⟩/\Hid (g<wr.heap.size/\3<=kc1/\kc1<=maxLen):=by
        rcases row_form RK.out with ⟨h,_⟩ | ⟨g,h1,_,h2,h3,h4⟩
        · exact absurd h h0
        · exact ⟨g,h1,h2,by have:=HK3.out;omega,h3⟩
      obtain ⟨g2,rfl,hg2⟩:∃ g,va1=some ⟨g,0,none⟩/\Hid (g<wr.heap.size/\3<=vc1/\vc1<=maxLen):=by
        rcases row_form RV.out with ⟨h,_⟩ | ⟨g,h1,_,h2,h3,h4⟩
        · exact absurd h h0
        · exact ⟨g,h1,h2,by have:=HK3.out;omega,h3⟩
      have HRK:Hid (∀ W,Below wr.heap.size wr W->W.ownsRow (w5.heap.size+1) 9 1 (.slice (some ⟨g1,0,none⟩) ks.length kc1) ks.length ((turn ks ⟨#[]⟩ bn ks.length).map Value.string)):=fun W hW=>owns_grew RK.out (Grew.below (E:=fun _=>False) hW) fun _ _ h=>h;have HRV:Hid (∀ W,Below wr.heap.size wr W->W.ownsRow (w5.heap.size+1) 29 8 (.slice (some ⟨g2,0,none⟩) ks.length vc1) ks.length ((turn rs Raw.zero bn ks.length).flatMap Raw.cells)):=fun W hW=>owns_grew RV.out (Grew.below (E:=fun _=>False) hW) fun _ _ h=>h;have HTL:Hid ((turn rs Raw.zero bn ks.length).length=(turn vs JV.zero bn vs.length).length):=by rw [Hid,turn_len,turn_len];exact HLEN.out
      have HJW:Hid (∀ W,Below wr.heap.size wr W->Below w.heap.size w W):=fun W hW=>HB.out.trans (hW.mono HSZ.out);have B9:=Hid.out (p:=Hid _) (HJW.out _ E9.out);clear RK RV
      go_upto_region 14 with (fail)
      go_cut [10] from 15 to 106 (fun p10 wx=>∃ (b10:Nat) (z10:Raw),p10=.pointer (some ⟨b10,0,none⟩)/\Hid (Below wc.heap.size wc wx)/\Hid (wx.heap[b10]?=some (.cells z10.arr 29 (0,0)))/\Hid (IsV wx (fun b=>b<wr.heap.size) z10 (objectOf (turn ks ⟨#[]⟩ bn ks.length).tail (turn vs JV.zero bn vs.length).tail)))
      case first=>
        refine reg_last [FC (.pointer (some ⟨w5.heap.size,6,none⟩)),FC (.slice (some ⟨g1,0,none⟩) ks.length kc1),FC (.slice (some ⟨g1,0+1,none⟩) (ks.length-1) (kc1-1)),FC (.pointer (some ⟨w5.heap.size,7,none⟩)),FC (.slice (some ⟨g2,0,none⟩) ks.length vc1),FC (.slice (some ⟨g2,0+8,none⟩) (ks.length-1) (vc1-1)),FC (objR (some ⟨g1,0+1,none⟩) (ks.length-1) (kc1-1) (some ⟨g2,0+8,none⟩) (ks.length-1) (vc1-1)).val,FB,FC undef] [] [7] 8 (fun u A=>(((((((((A.put (some 73) (u 0)).put (some 74) (u 1)).put (some 75) (u 2)).put (some 76) (u 3)).put (some 77) (u 4)).put (some 78) (u 5)).put (some 79) (u 6)).put (some 10) (u 7)).put none (u 8))) (by intro u A;kernel_rfl) (by kernel_rfl) (by kernel_rfl) (by kernel_rfl) (by kernel_rfl) ?_ ?_
        · refine .cons ?_ (.cons ?_ (.cons ?_ (.cons ?_ (.cons ?_ (.cons ?_ (.cons ?_ (.cons ?_ (.last (.nil rfl)))))))))
          · exact sC _ rfl (fun _=>rfl) fun aa ww KK BB RR DD=>exec_field rfl (rest_at RR 6 (by kernel_rfl) rfl) (by kernel_rfl)
          · exact sC _ rfl (fun _=>rfl) fun aa ww KK BB RR DD=>exec_load rfl (dep_at DD 0 73 (by kernel_rfl)) (run_slice6 (HV1.out ww BB))
          · exact sC _ rfl (fun _=>rfl) fun aa ww KK BB RR DD=>exec_slice rfl (dep_at DD 1 74 (by kernel_rfl)) rfl rfl rfl (run_slice1 26 9 rfl rfl rfl (by have:=HK3.out;omega) (by have:=HK3.out;have:=hg1.out.2.1;omega) hg1.out.2.2 (by have:=hg1.out.2.1;omega) ww)
          · exact sC _ rfl (fun _=>rfl) fun aa ww KK BB RR DD=>exec_field rfl (rest_at RR 6 (by kernel_rfl) rfl) (by kernel_rfl)
          · exact sC _ rfl (fun _=>rfl) fun aa ww KK BB RR DD=>exec_load rfl (dep_at DD 3 76 (by kernel_rfl)) (run_slice7 (HV1.out ww BB))
          · exact sC _ rfl (fun _=>rfl) fun aa ww KK BB RR DD=>exec_slice rfl (dep_at DD 4 77 (by kernel_rfl)) rfl rfl rfl (run_slice1 27 29 rfl rfl rfl (by have:=HK3.out;omega) (by have:=HK3.out;have:=hg2.out.2.1;omega) hg2.out.2.2 (by have:=hg2.out.2.1;omega) ww)
          · exact sC _ rfl (fun _=>rfl) fun aa ww KK BB RR DD=>exec_obj rfl (by kernel_rfl) (dep_at DD 2 75 (by kernel_rfl)) (dep_at DD 5 78 (by kernel_rfl))
          · exact sB rfl rfl (fun _=>rfl)
        · intro u wX K a ha hu D F1 N1 N2
          obtain ⟨bz,e7,c7,VZ⟩:=F1 7 (by decide +kernel) (by decide) (fun _ _ _=>rfl);have e6:u 6=(objR (some ⟨g1,0+1,none⟩) (ks.length-1) (kc1-1) (some ⟨g2,0+8,none⟩) (ks.length-1) (vc1-1)).val:=F1 6 (by decide +kernel) (by decide) (fun _ _ _=>rfl);have hbz:=N1 7 bz (by decide +kernel) (by decide) c7;have D:Hid (Below wc.heap.size wc wX):=D;have EW:=bel E9 D;have BW:=Hid.out (p:=Hid _) (HJW.out _ EW.out);have HBZ:Hid (wc.heap.size<=bz):=hbz.1;have IL:Hid (IsV wX (fun b=>b<wr.heap.size) (objR (some ⟨g1,0+1,none⟩) (ks.length-1) (kc1-1) (some ⟨g2,0+8,none⟩) (ks.length-1) (vc1-1)) (objectOf (turn ks ⟨#[]⟩ bn ks.length).tail (turn vs JV.zero bn vs.length).tail)):=row_tail (HRK.out _ EW.out) (HRV.out _ EW.out) HTL.out (by have:=HK3.out;omega) (fun j hj=>(HJ1.out _ BW.out j hj).turn (Turn.mono _ fun b hb _=>by have hb:b<w.heap.size:=hb;have:=HSZ.out;show b<wr.heap.size;omega)) hg1.out.1 hg2.out.1;have VZ:Hid (wX.heap[bz]?=some (.cells Raw.zero.arr 29 (0,0))):=VZ;have HNE:∀ b,b<wr.heap.size->b≠bz:=fun b hb=>by have:=HBZ.out;have:=E9.out.size;omega
          refine oper_skip (exec_store rfl ((hu 7 10 (by kernel_rfl)).trans e7) ((hu 6 79 (by kernel_rfl)).trans e6) (run_store8 VZ.out (objR (some ⟨g1,0+1,none⟩) (ks.length-1) (kc1-1) (some ⟨g2,0+8,none⟩) (ks.length-1) (vc1-1)))) ?_;rw [ha,e7];clear ha hu;have HNE:=Hid.out (p:=Hid _) HNE;clear F1 N1 N2 e6 e7 c7 hbz;simp only [nz]
          go_wp2_with fail
          go_meet
          exact ⟨_,_,rfl,below8 D.out HBZ.out _ _ _ _ _ _ _ _,set8 VZ.out (objR (some ⟨g1,0+1,none⟩) (ks.length-1) (kc1-1) (some ⟨g2,0+8,none⟩) (ks.length-1) (vc1-1)),dn2 (A:=fun b=>b<wr.heap.size) (isv_w IL (fun b hb=>⟨hb,HNE.out b hb⟩)) _ _ _ _ _ _ _ _⟩
      case rest=>
      rename World=>wd
      obtain ⟨b10,z10,rfl,E10,V10,I10⟩:=hcut;have EX:=bel E9 E10;have BX:=Hid.out (p:=Hid _) (HJW.out _ EX.out);have VX0:=Hid.out (p:=Hid _) (HV0.out _ EX.out);have VX1:=Hid.out (p:=Hid _) (HV1.out _ E10.out);have VX9:=hst V9 E10;have IX9:=kp I9 E10;have H3:=Hid.out (p:=Hid _) (up_any HQ.out HF.out.1 (by have:=HF.out.2;omega) (HI0.out wd BX.out) (HT.out wd BX.out));unfold Raw.val at H3;obtain ⟨⟨u0,u1,u2,u3,u4,u5,u6,u7⟩,_⟩:=val_cells VX0.out;clear V9 I9 E9 E10;go_wp2_with fail
      refine (Calls.mono H3.out ?_);rintro z wA hz;obtain ⟨zA,rfl,IA,EA⟩:=hz.to;obtain ⟨wB,hwB,VB,EB⟩:=own8 wA zA;have EAB:=bel EA EB;have EXB:=bel EX EAB;have BB:=Hid.out (p:=Hid _) (HJW.out _ EXB.out);have VB1:=hst VX1 EAB;have VB9:=hst VX9 EAB;have IB9:=kp IX9 EAB;have VB10:=hst V10 EAB;have IB10:=kp I10 EAB;have IAB:=kp IA EB;have IT:Hid (IsV wB (fun _=>True) (Raw.mk 6 false false ⟨#[]⟩ 0 ⟨#[]⟩ (some ⟨g1,0,none⟩) ks.length kc1 (some ⟨g2,0,none⟩) ks.length vc1) (turnJ bn (.mk k is ng d e s ks vs))):=row_obj (HRK.out _ EXB.out) (HRV.out _ EXB.out) HTL.out (fun j hj=>(HJ1.out _ BB.out j hj).turn (Turn.mono _ fun _ _ _=>trivial)) (fun _ _=>trivial) (fun _ _=>trivial);have H4:=Hid.out (p:=Hid _) (up_any HON.out.1 HON.out.2.1 (by have:=HON.out.2.2.1;omega) IT (HT.out wB BB.out));unfold Raw.val at H4;clear hz H3 u0 u1 u2 u3 u4 u5 u6 u7 IA VX0 VX1 VX9 IX9 V10 I10;obtain ⟨⟨u0,u1,u2,u3,u4,u5,u6,u7⟩,_⟩:=val_cells VB1.out;unfold Raw.val;go_wp2_with fail
      refine (Calls.mono H4.out ?_);rintro z wC hz;obtain ⟨zC,rfl,IC,EC⟩:=hz.to;obtain ⟨wD,hwD,VD,ED⟩:=own8 wC zC;have ECD:=bel EC ED;have BD:=bel BB ECD;have VDB:=hst VB ECD;have VD9:=hst VB9 ECD;have ID9:=kp IB9 ECD;have VD10:=hst VB10 ECD;have ID10:=kp IB10 ECD;have IDA:=kp IAB ECD;have IDC:Hid (IsV wD (fun _=>True) zC (upJ (.mk k is ng d e s ks vs))):=by rw [<-HON.out.2.2.2.1];exact kp IC ED
      have H5:=Hid.out (p:=Hid _) (same_val (up_fine HF.out.1) (by have:=up_mass (.mk k is ng d e s ks vs);have:=HF.out.2;omega) IDA IDC);unfold Raw.val at H5;clear hz H4 u0 u1 u2 u3 u4 u5 u6 u7 IT VB1 hwB VB9 IB9 VB10 IB10 IAB IC;obtain ⟨⟨u0,u1,u2,u3,u4,u5,u6,u7⟩,_⟩:=val_cells VDB.out;obtain ⟨⟨v0,v1,v2,v3,v4,v5,v6,v7⟩,_⟩:=val_cells VD.out;unfold Raw.val;go_wp2_with fail
      refine (Calls.mono H5.out ?_);rintro z wE hz;obtain ⟨rfl,EE⟩:=hz.to;have BE:=bel BD EE;have VE9:=hst VD9 EE;have IE9:=kp ID9 EE;have VE10:=hst VD10 EE;have IE10:=kp ID10 EE;have HM9:=Hid.out (p:=Hid _) (one_more HON.out.2.2.2.2.1 HF.out.1 HF.out.2);have H6:=Hid.out (p:=Hid _) (isF (one_right _ HM9.out.2.1 HM9.out.2.2 z9 _ wE IE9.out (HT.out wE BE.out)) HM9.out.1);unfold Raw.val at H6;clear hz H5 u0 u1 u2 u3 u4 u5 u6 u7 v0 v1 v2 v3 v4 v5 v6 v7 VDB VD hwD VD9 ID9 VD10 ID10 IDA IDC;obtain ⟨⟨u0,u1,u2,u3,u4,u5,u6,u7⟩,_⟩:=val_cells VE9.out;go_wp2_with fail
      refine (Calls.mono H6.out ?_);rintro z wF hz;obtain ⟨rfl,EF⟩:=hz.to;have BF:=bel BE EF;have VF10:=hst VE10 EF;have IF10:=kp IE10 EF;have HM10:=Hid.out (p:=Hid _) (one_less (t:=turnJ bn (.mk k is ng d e s ks vs)) ((turn_len _ _ _ _).trans HK3.out) HON.out.2.1 HON.out.2.2.1);have H7:=Hid.out (p:=Hid _) (isF (one_right _ HM10.out.2.1 HM10.out.2.2 z10 _ wF IF10.out (HT.out wF BF.out)) HM10.out.1);unfold Raw.val at H7;clear hz H6 u0 u1 u2 u3 u4 u5 u6 u7 VE9 IE9 VE10 IE10;obtain ⟨⟨u0,u1,u2,u3,u4,u5,u6,u7⟩,_⟩:=val_cells VF10.out;go_wp2_with fail
      refine (Calls.mono H7.out ?_);rintro z wG hz;obtain ⟨rfl,EG⟩:=hz.to;have BG:=bel BF EG;clear hz H7 u0 u1 u2 u3 u4 u5 u6 u7 VF10 IF10;go_wp2_with fail
      go_ret
      exact ⟨rfl,BG.out⟩
theorem oneKeys_arg (u0:Value) (x0:JV) (w:World) (w0:∃ ra:Raw,u0=ra.val/\IsV w (fun _=>True) ra x0/\Held rb x0) (a1:Int) (w1:(Lit.int .u8 a1).wf=true) (T:TabsP w):Calls Tryz.prog 4 #[u0,.int .u8 a1] w (BoolP true w):=by
  obtain ⟨ra,rfl,hi,hh⟩:=w0;exact oneKeys_any ra x0 a1 w1 w T hi hh
end Go.Proofs.YtliekocamnklfaaGreatDoor.One
