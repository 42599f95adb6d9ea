/- tabulariumref20.Up. (Written by gen/tvn.py.) -/
import Derived.Test.YtliekocamnklfaaGreatDoorPTvM
import Derived.Test.YtliekocamnklfaaGreatDoorPTvI
import Derived.Test.YtliekocamnklfaaGreatDoorPSvF
set_option linter.unusedVariables false
set_option linter.unusedSimpArgs false
set_option maxRecDepth 100000
set_option maxHeartbeats 64000000
namespace Go.Proofs.YtliekocamnklfaaGreatDoor.One
open Go.RowKit Strs Jdec Save Go.Proofs.YtliekocamnklfaaGreatDoor.Addr
theorem rts {w w':World} {B:Nat} {v:Value} {l:List ByteArray} (h:Hid (RowT w B v l)) (e:Hid (Below w.heap.size w w')):Hid (RowT w' B v l):=h.out.stays e.out
theorem k6w {w:World} {C D:Nat->Prop} {z:Raw} {t:JV} (h:Hid (IsV w D z t)) (hC:∀ b,D b->C b):Hid (IsV w C z t):=h.out.turn (Turn.mono w fun b hb _=>hC b hb)
theorem iv_keep {w w':World} {A A':Nat->Prop} {row:Option Nat} {z:Raw} {t:JV} (h:Hid (IsV w A z t)) (g:w.grownBy w' row) (hA:∀ b,A b->b<w.heap.size->some b≠row/\A' b):Hid (IsV w' A' z t):=
  h.out.turn ⟨g.size,fun b hb hl=>⟨g.block b hl (hA b hb hl).1,(hA b hb hl).2⟩⟩
theorem cells_keep {w w':World} {g o:Nat} {r:Raw} {row:Option Nat} (h:CellsAt w g o r) (G:w.grownBy w' row) (hg:g<w.heap.size) (hn:some g≠row):CellsAt w' g o r:=fun j u hu=>(World.cell?_of_block (G.block g hg hn)).trans (h j u hu)
theorem kobj {w:World} {kb vb:Nat} {ks:List ByteArray} {xs:Array Value} {T:TypeId} (K:Hid (IsTexts w (fun _=>True) (some ⟨kb,0,none⟩) ks)) (V:Hid (w.heap[vb]?=some (.cells xs T (0,0)))) (n m:Nat):∃ w1,w.alloc (.cells #[.int .i64 6,.bool false,.bool false,.string ⟨#[]⟩,.int .i64 0,.string ⟨#[]⟩,.slice (some ⟨kb,0,none⟩) n n,.slice (some ⟨vb,0,none⟩) m m] 29)=w1/\Hid (w1.heap[w.heap.size]?=some (.cells (objR (some ⟨kb,0,none⟩) n n (some ⟨vb,0,none⟩) m m).arr 29 (0,0)))/\Hid (Below w.heap.size w w1):=
  ⟨_,rfl,heap_alloc_new _ _,(Below.refl _ _).alloc (Nat.le_refl _) _⟩
theorem parts2 {w:World} {A:Nat->Prop} {r:Raw} {k:Int} {i n:Bool} {d:ByteArray} {e:Int} {s:ByteArray} {ks:List ByteArray} {vs:List JV} (h:IsV w A r (.mk k i n d e s ks vs)):∃ ka kc va vc,r=Raw.mk k i n d e s ka ks.length kc va vs.length vc/\IsTexts w A ka ks/\∃ f:Nat->Raw,(vs=[]∨∃ b o,va=some ⟨b,o,none⟩/\A b/\b<w.heap.size/\∀ i,i<vs.length->CellsAt w b (o+i*8) (f i))/\∀ i (h:i<vs.length),IsV w A (f i) vs[i]:=by
  generalize hz:JV.mk k i n d e s ks vs=z at h
  cases h with
  | mk _ keys kids f h1 h2 h3 h4 h5=>
    injection hz with e1 e2 e3 e4 e5 e6 e7 e8
    subst e7 e8;obtain ⟨kd,is,ng,dg,ex,st,ka,kn,kc,va,vn,vc⟩:=r;simp only at h1 h2 e1 e2 e3 e4 e5 e6
    subst e1 e2 e3 e4 e5 e6 h1 h2;exact ⟨ka,kc,va,vc,rfl,h3,f,h4,h5⟩
theorem set7s {w:World} {b:Nat} {a:Raw} {T:TypeId} (h:w.heap[b]?=some (.cells a.arr T (0,0))):(((((((w.setCell ⟨b,1,none⟩ (.bool a.is)).setCell ⟨b,2,none⟩ (.bool a.neg)).setCell ⟨b,3,none⟩ (.string a.dig)).setCell ⟨b,4,none⟩ (.int .i64 a.exp)).setCell ⟨b,5,none⟩ (.string a.str)).setCell ⟨b,6,none⟩ (.slice a.ka a.kn a.kc)).setCell ⟨b,7,none⟩ (.slice a.va a.vn a.vc)).heap[b]?=some (.cells a.arr T (0,0)):=by
  have h1:=heap_set_same h (i:=1) (.bool a.is);have h2:=heap_set_same h1 (i:=2) (.bool a.neg);have h3:=heap_set_same h2 (i:=3) (.string a.dig);have h4:=heap_set_same h3 (i:=4) (.int .i64 a.exp);have h5:=heap_set_same h4 (i:=5) (.string a.str);have h6:=heap_set_same h5 (i:=6) (.slice a.ka a.kn a.kc);have h7:=heap_set_same h6 (i:=7) (.slice a.va a.vn a.vc);rw [h7];simp [Raw.arr]
theorem val7 {w:World} {b:Nat} {a:Raw} (V:Hid (w.heap[b]?=some (.cells a.arr 29 (0,0)))):∃ w1,(((((((w.setCell ⟨b,1,none⟩ (.bool a.is)).setCell ⟨b,2,none⟩ (.bool a.neg)).setCell ⟨b,3,none⟩ (.string a.dig)).setCell ⟨b,4,none⟩ (.int .i64 a.exp)).setCell ⟨b,5,none⟩ (.string a.str)).setCell ⟨b,6,none⟩ (.slice a.ka a.kn a.kc)).setCell ⟨b,7,none⟩ (.slice a.va a.vn a.vc))=w1/\Hid (w1.heap[b]?=some (.cells a.arr 29 (0,0)))/\Hid (∀ w0:World,w0.heap.size<=b->Below w0.heap.size w0 w->Below w0.heap.size w0 w1):=
  ⟨_,rfl,set7s V.out,fun w0 hb hB=>(((((((hB.setCell hb _).setCell hb _).setCell hb _).setCell hb _).setCell hb _).setCell hb _).setCell hb _)⟩
theorem str_new (w:World) (x:ByteArray):∃ w1,w.alloc (.cells #[.string x] 9)=w1/\Hid (Below w.heap.size w w1):=⟨_,rfl,(Below.refl _ _).alloc (Nat.le_refl _) _⟩
theorem gb_trans {a b c:World} {r:Option Nat} (h:Hid (a.grownBy b r)) (g:b.grownBy c r):Hid (a.grownBy c r):=h.out.trans g
theorem zip_take {f:ByteArray->JV->JV} {ks:List ByteArray} {vs:List JV} {k:Nat} (h:k<ks.length) (h':k<vs.length):(List.zipWith f ks vs).take (k+1)=(List.zipWith f ks vs).take k++[f ks[k] vs[k]]:=by
  rw [List.take_add_one,List.getElem?_eq_getElem (by simp;omega),List.getElem_zipWith];rfl
theorem map_take {f:JV->JV} {vs:List JV} {k:Nat} (h:k<vs.length):(vs.map f).take (k+1)=(vs.map f).take k++[f vs[k]]:=by
  rw [List.take_add_one,List.getElem?_eq_getElem (by simpa using h),List.getElem_map];rfl
def CK (M N:Nat) (v:Value) (x:Nat):Prop:=(x<M∨N<=x)/\some x≠v.ownBlock
theorem app_key {w:World} {B n:Nat} {ka:Option Addr} {kc:Nat} {l:List ByteArray} (h:Hid (RowT w B (.slice ka n kc) l)) (hn:l.length=n) {b:Nat} {x:ByteArray} (hb:w.cell? ⟨b,0,none⟩=some (.string x)) (hl:n<=3000) (hB:B<=w.heap.size):∃ a c w',(Builtin.append_ #[26,26] 26 #[.slice ka n kc,.slice (some ⟨b,0,none⟩) 1 1]).run Tryz.prog w=.ok (.slice a (n+1) c) w'/\Hid (RowT w' B (.slice a (n+1) c) (l++[x]))/\Hid (w.grownBy w' (Value.slice ka n kc).ownBlock)/\Hid ((Value.slice a (n+1) c).ownBlock=(Value.slice ka n kc).ownBlock∨(Value.slice a (n+1) c).ownBlock=some w.heap.size):=by
  obtain ⟨i0,hi,hz0,hz1,hz2⟩:=info_parts infoStr;have h':w.ownsRow B 9 1 (.slice ka n kc) l.length (l.map Value.string):=h.out;obtain ⟨v',w',hrun,hown,hg,_,hl'⟩:=run_append_own_at (P:=Tryz.prog) w B 26 26 9 i0 (.string ⟨#[]⟩) 1 16 Tryz.underlying26 hi hz0 hz1 hz2 rfl (by decide) (.slice ka n kc) l.length (l.map Value.string) h' ⟨b,0,none⟩ 1 1 [.string x] rfl
    (fun j u hu=>by
      match j,hu with
      | 0,hu=>injection hu with hu;subst hu;exact hb) (fun u hu=>by rw [List.mem_singleton.1 hu];rfl) (by unfold maxLen;omega) (by omega) hB
  have hr:RowT w' B v' (l++[x]):=by
    unfold RowT;rw [List.length_append,List.map_append];exact hown
  obtain ⟨a,c,rfl⟩:=hr.form;rw [List.length_append,List.length_singleton,hn] at hr hrun hl';exact ⟨a,c,w',hrun,hr,hg,hl'⟩
def mkR (k:Int) (ka:Option Addr) (kn kc:Nat) (va:Option Addr) (vn vc:Nat):Raw:=Raw.mk k false false ⟨#[]⟩ 0 ⟨#[]⟩ ka kn kc va vn vc
theorem kids_row {w w':World} {B:Nat} {C C':Nat->Prop} {v u:Value} {ts:List JV} {l:List ByteArray} (h:Hid (KidsA w B C v ts)) (k:Hid (RowT w B u l)) (g:Hid (w.grownBy w' u.ownBlock)) (hC:∀ b,C b->b<w.heap.size->some b≠u.ownBlock/\C' b):Hid (KidsA w' B C' v ts):=by
  obtain ⟨rs,h1,h2,h3⟩:=id h.out;exact KidsA.turn h.out g.out (rows_ne h2 k.out (by decide)) hC
theorem row_kids {w w':World} {B:Nat} {C:Nat->Prop} {v u:Value} {ts:List JV} {l:List ByteArray} (k:Hid (RowT w B u l)) (h:Hid (KidsA w B C v ts)) (g:w.grownBy w' v.ownBlock):Hid (RowT w' B u l):=by
  obtain ⟨rs,h1,h2,h3⟩:=h.out;exact RowT.kept k.out g (rows_ne k.out h2 (by decide))
theorem is_as {w:World} {A:Nat->Prop} {r:Raw} {t t':JV} (e:t'=t) (h:Hid (IsV w A r t)):Hid (IsV w A r t'):=by rw [e];exact h
theorem row_len {w:World} {B:Nat} {a:Option Addr} {c n:Nat} {l:List ByteArray} {x:ByteArray} (h:l.length=n) (k:Hid (RowT w B (.slice a (n+1) c) (l++[x]))):RowT w B (.slice a (n+1) c) (l++[x]):=k.out
theorem keep15 {w w':World} {g o b:Nat} {z zr:Raw} {T:TypeId} {row:Option Nat} (h:CellsAt w g o z/\w.heap[b]?=some (.cells zr.arr T (0,0))) (G:w.grownBy w' row) (h1:some g≠row) (h2:some b≠row) (hg:g<w.heap.size):CellsAt w' g o z/\w'.heap[b]?=some (.cells zr.arr T (0,0)):=
  ⟨cells_keep h.1 G hg h1,(G.block b (heap_lt h.2) h2).trans h.2⟩
theorem rup2_any (t:JV) (hq:TwoQ t) (hf:Fine t) (hm:t.mass<=3000) (ra:Raw) (A:Nat->Prop) (w:World) (hi:IsV w A ra t):Calls Tryz.prog 23 #[ra.val] w (ValP (up2J t) (fun _=>True) w):=by
  obtain ⟨⟨hg,hd⟩,h⟩:=id hq;obtain ⟨ho,_,_,_,h5,hmd⟩:=mods_parts h;have gm:=got_good hg (ho kMod (by simp [kFour]));have fm:=got_fine hf kMod;have mm:=got_mass t kMod;obtain ⟨w2,hw2,V2,B2⟩:=own8 w ra;obtain ⟨w3,hw3,V3,B3⟩:=own8 w2 Raw.zero;obtain ⟨v4,hv4,V4a,B4a⟩:=own8 w3 (mkR 5 none 0 0 none 0 0);obtain ⟨w4,hw4,V4,D4⟩:=val7 V4a;have B4:=Hid.out (p:=Hid _) (D4.out w3 (Nat.le_refl _) B4a.out);have V24:=hst (hst V2 B3) B4;have V34:=hst V3 B4;have B04:=bel (bel B2 B3) B4;have hl2:=heap_lt V2.out;have hl3:=heap_lt V3.out;have HSZ:Hid (w.heap.size<w2.heap.size/\w2.heap.size<w3.heap.size/\w3.heap.size<w4.heap.size):=⟨hl2,hl3,heap_lt V4.out⟩;obtain ⟨M,hM⟩:∃ M,w.heap.size=M:=⟨_,rfl⟩;have hlo:IsV w (fun b=>b<M) ra t:=by rw [<-hM];exact hi.turn (Turn.mono w fun b _ hb=>hb)
  have HOF:Hid (∀ (w':World) (x:ByteArray),Below w.heap.size w w'->Calls Tryz.prog 26 #[ra.val,.string x] w' (OfP t x (fun b=>b<M) w')):=fun w' x h=>rof_any t hg hm ra (fun b=>b<M) w' (hlo.behind h) x;obtain ⟨tm,htm⟩:∃ x,got t kMod=x:=⟨_,rfl⟩;have hUp:up2J t=objectOf kFour [numV 3,got t kSer,got t kLin,listOf ((kidsJ tm).map mod3)]:=by rw [up2J,htm]
  rw [htm] at gm fm mm hmd;have HTM:=Hid.out (p:=Hid _) htm;obtain ⟨tr,htr⟩:∃ tr,up2J t=tr:=⟨_,rfl⟩;rw [htr] at hUp ⊢;have HUP:=Hid.out (p:=Hid _) hUp
  cases tm with
  | mk k is ng d e s ks0 ms=>
  rw [mass_mk] at mm;have hml:=masses_len ms;have HMS:Hid (ms.length<=3000/\∀ i (h:i<ms.length),GoodQ ms[i]/\Fine ms[i]/\ms[i].mass<=3000/\modB [kId,kAtt] ms[i]=true):=⟨by omega,fun i h=>⟨GoodQ.kids gm _ (List.getElem_mem h),fine_kid fm (List.getElem_mem h),by have:=masses_mem ms i h;omega,hmd _ (List.getElem_mem h)⟩⟩;have H1:=Hid.out (p:=Hid _) (HOF.out w4 kMod B04.out);have HMM:Hid (w.heap.size=M):=hM;clear hq hf hm hi hg hd h ho h5 hmd gm fm mm hml hUp htr htm hlo hl2 hl3 hM
  dsimp only [Raw.zero] at hw3
  dsimp only [mkR] at hv4 hw4
  unfold Raw.val kMod at H1;obtain ⟨⟨r0,r1,r2,r3,r4,r5,r6,r7⟩,g0,g1,g2,g3,g4,g5,g6,g7⟩:=val_cells V4a.out;unfold Raw.val at HOF ⊢;obtain ⟨⟨x0,x1,x2,x3,x4,x5,x6,x7⟩,_⟩:=val_cells V24.out
  dsimp only [mkR] at r0 r1 r2 r3 r4 r5 r6 r7
  go_enter Tryz.func23,Tryz.ntmps23
  go_wp2_with fail
  refine (Calls.mono H1.out ?_);rintro z w5 hz;obtain ⟨zl,rfl,il,E5⟩:=hz.to;have il:Hid (IsV w5 (fun b=>b<M) zl (.mk k is ng d e s ks0 ms)):=by rw [<-HTM.out];exact il
  obtain ⟨ka,kc,va,vc,rfl,_,F,hc,hv⟩:=parts2 il.out;have hfl:=kids_field (Raw.mk k is ng d e s ka ks0.length kc va ms.length vc)
  dsimp only at hfl
  have HC:=Hid.out (p:=Hid _) hc;have HV:=Hid.out (p:=Hid _) hv;have V45:=hst V4 E5;have V25:=hst V24 E5;have V35:=hst V34 E5;have B05:=bel B04 E5;clear hz x0 x1 x2 x3 x4 x5 x6 x7 H1 hw2 hw3 hw4 hv4 r0 r1 r2 r3 r4 r5 r6 r7 g0 g1 g2 g3 g4 g5 g6 g7 il hc hv;unfold Raw.val
  dsimp only
  go_wp2_with fail
  clear hfl
  go_loopw [5] (fun p wr=>∃ i:Nat,p=.int .i64 i/\i<=ms.length/\∃ va' vc',Hid (wr.heap[w3.heap.size]?=some (.cells (mkR 5 none 0 0 va' i vc').arr 29 (0,0)))/\Hid (KidsA wr w5.heap.size (fun x=>x<M∨w5.heap.size<=x) (.slice va' i vc') ((ms.map mod3).take i))/\Hid (w5.grownBy wr (some w3.heap.size))) (fun p _=>ms.length-(intOf p).toNat)
  case atStart=>exact ⟨0,rfl,Nat.zero_le _,none,0,V45.out,KidsA.nil _ _ _,gb_refl _ _⟩
  case round=>
    obtain ⟨i,rfl,hi,va',vc',VO,KO,GO⟩:=hrel;have hsN:=GO.out.size;have BR:Hid (Below w.heap.size w wr):=B05.out.grown GO.out B05.out.size (fun k hk=>by injection hk with hk;have:=HSZ.out;omega);by_cases hlt:i<ms.length
    · have hne:ms≠[]:=fun e=>by rw [e] at hlt;simp at hlt
      obtain ⟨g,o,rfl,hgM,hgb,hcs⟩:=HC.out.resolve_left hne;have HGM:Hid (g<M):=hgM;have hgne:some g≠some w3.heap.size:=fun e=>by injection e with e;have:=HSZ.out;have:=HMM.out;have:=HGM.out;omega
      have K1:CellsAt wr g (o+i*8) (F i):=cells_keep (hcs i hlt) GO.out hgb hgne;have IM:Hid (IsV wr (fun b=>b<M) (F i) ms[i]):=iv_keep (HV.out i hlt) GO.out fun b hb _=>⟨fun e=>by injection e with e;have hb:b<M:=hb;have:=HSZ.out;have:=HMM.out;omega,hb⟩;have HGL:Hid (g<wr.heap.size):=by rw [Hid];omega
      have HK1:=Hid.out (p:=Hid _) K1;have HMG:=Hid.out (p:=Hid _) (HMS.out.2 i hlt);have HTK:=Hid.out (p:=Hid _) (map_take (f:=mod3) hlt);have HTL:Hid (((ms.map mod3).take i).length=i):=by rw [Hid,List.length_take,List.length_map];omega
      clear hcs;generalize ms[i]=m at *;generalize F i=zm at *;generalize hlo:(ms.map mod3).take i=lo at *;obtain ⟨hmg,hmf,hmm,hmb⟩:=id HMG.out;obtain ⟨hp1,hp2,hp3,hp4⟩:=mod_parts hmb;have gr:=got_good hmg hp2;have fr:=got_fine hmf kRes;have mr:=got_mass m kRes;obtain ⟨hr6,hrk,hrv⟩:=ress_parts hp4;have hkl:=(goodq_keys gr hr6).1;obtain ⟨tt,hto⟩:∃ tt,got m kRes=tt:=⟨_,rfl⟩;have hMod:mod3 m=objectOf [kPath,kRes] [got m kPath,ress3 tt]:=by rw [mod3,hto]
      rw [hto] at gr fr mr hr6 hrk hrv hkl;have hks:=key_size fr;have HTO:=Hid.out (p:=Hid _) hto;have HMOD:=Hid.out (p:=Hid _) hMod
      cases tt with
      | mk k' is' ng' d' e' s' ks vs=>
      obtain rfl:k'=6:=hr6;have hkl:ks.length=vs.length:=hkl;rw [mass_mk] at mr;have HKS:Hid (ks.length=vs.length/\ks.length<=3000/\∀ j (h:j<ks.length) (h':j<vs.length),ks[j].size<=6000/\(oldP ks[j].data.toList).isSome=true/\GoodQ vs[j]/\vs[j].mass<=3000/\resB [kId,kAtt] vs[j]=true):=⟨hkl,by omega,fun j h h'=>⟨hks _ (List.getElem_mem h),hrk _ (List.getElem_mem h),GoodQ.kids gr _ (List.getElem_mem h'),by have:=masses_mem vs j h';omega,hrv _ (List.getElem_mem h')⟩⟩;have HRS:Hid (ress3 (.mk 6 is' ng' d' e' s' ks vs)=objectOf ks (List.zipWith res3 ks vs)):=rfl;have H2:=Hid.out (p:=Hid _) (rof_any m hmg hmm zm (fun b=>b<M) wr IM.out kRes);have HPA:Hid (∀ W,Below wr.heap.size wr W->Calls Tryz.prog 26 #[zm.val,.string kPath] W (OfP m kPath (fun b=>b<M) W)):=fun W hW=>rof_any m hmg hmm zm (fun b=>b<M) W (IM.out.behind hW) kPath;clear hmg hmf hmm hmb hp1 hp2 hp3 hp4 gr fr mr hrk hrv hkl hks hto hMod IM;obtain ⟨u0,u1,u2,u3,u4,u5,u6,u7⟩:=K1.eight;unfold Raw.val kRes at H2;unfold Raw.val kPath at HPA;clear K1;go_wp2_with fail
      refine (Calls.mono H2.out ?_);rintro z w6 hz;obtain ⟨zo,rfl,io,E6⟩:=hz.to;have io:Hid (IsV w6 (fun b=>b<M) zo (.mk 6 is' ng' d' e' s' ks vs)):=by rw [<-HTO.out];exact io
      obtain ⟨ka2,kc2,va2,vc2,rfl,ht2,F2,hc2,hv2⟩:=parts2 io.out;obtain ⟨w7,hw7,V7,B7⟩:=own8 w6 (Raw.mk 6 is' ng' d' e' s' ka2 ks.length kc2 va2 vs.length vc2);obtain ⟨v8,hv8,V8a,B8a⟩:=own8 w7 (mkR 6 none 0 0 none 0 0);obtain ⟨w8,hw8,V8,D8⟩:=val7 V8a;have B8:=Hid.out (p:=Hid _) (D8.out w7 (Nat.le_refl _) B8a.out);have E78:=bel E6 B7;have ER8:=bel E78 B8;have V78:=hst V7 B8;have HT2:Hid (∀ W,w8.grownBy W (some w7.heap.size)->IsTexts W (fun b=>b<M) ka2 ks):=fun W hW=>((ht2.turn (Turn.below (bel B7 B8).out))).turn ⟨hW.size,fun b hb hl=>⟨hW.block b hl (fun e=>by injection e with e;have hb:b<M:=hb;have:=BR.out.size;have:=E78.out.size;have:=HMM.out;omega),hb⟩⟩;have HC2:Hid (vs≠[]->∃ g o,va2=some ⟨g,o,none⟩/\g<M/\∀ W,w8.grownBy W (some w7.heap.size)->g<W.heap.size/\∀ j,j<vs.length->CellsAt W g (o+j*8) (F2 j)):=fun hn=>by
        obtain ⟨g,o,h1,h2,h3,h4⟩:=hc2.resolve_left hn;have h3':g<w8.heap.size:=Nat.lt_of_lt_of_le h3 (bel B7 B8).out.size;exact ⟨g,o,h1,h2,fun W hW=>⟨Nat.lt_of_lt_of_le h3' hW.size,fun j hj=>cells_keep ((h4 j hj).below h3 (bel B7 B8).out) hW h3' (fun e=>by injection e with e;have h2:g<M:=h2;have:=BR.out.size;have:=E78.out.size;have:=HMM.out;omega)⟩⟩
      have HV2:Hid (∀ W,w8.grownBy W (some w7.heap.size)->∀ j (h:j<vs.length),Hid (IsV W (fun b=>b<M) (F2 j) vs[j])):=fun W hW j h=>iv_keep (Hid.out (p:=Hid _) ((hv2 j h).behind (bel B7 B8).out)) hW fun b hb _=>⟨fun e=>by injection e with e;have hb:b<M:=hb;have:=BR.out.size;have:=E78.out.size;have:=HMM.out;omega,hb⟩;have V7G:Hid (∀ W,w8.grownBy W (some w7.heap.size)->W.heap[w6.heap.size]?=some (.cells (Raw.mk 6 is' ng' d' e' s' ka2 ks.length kc2 va2 vs.length vc2).arr 29 (0,0))):=fun W hW=>(hW.block _ (heap_lt V78.out) (fun e=>by injection e with e;have:=heap_lt V7.out;omega)).trans V78.out;have HSI:Hid (wr.heap.size<=w6.heap.size/\w6.heap.size<w7.heap.size/\w7.heap.size<w8.heap.size):=⟨E6.out.size,heap_lt V7.out,heap_lt V8.out⟩;clear hz u0 u1 u2 u3 u4 u5 u6 u7 H2 io ht2 hc2 hv2
      dsimp only [mkR] at hv8 hw8
      obtain ⟨⟨r0,r1,r2,r3,r4,r5,r6,r7⟩,g0,g1,g2,g3,g4,g5,g6,g7⟩:=val_cells V8a.out
      dsimp only [mkR] at r0 r1 r2 r3 r4 r5 r6 r7
      unfold Raw.val
      dsimp only
      obtain ⟨⟨y0,y1,y2,y3,y4,y5,y6,y7⟩,_⟩:=val_cells V7.out;go_wp2_with fail
      clear hw7 hv8 hw8 y0 y1 y2 y3 y4 y5 y6 y7 r0 r1 r2 r3 r4 r5 r6 r7 g0 g1 g2 g3 g4 g5 g6 g7
      go_loopw [8] (fun p wi=>∃ k:Nat,p=.int .i64 k/\k<=ks.length/\∃ ka' kc' vb' vd',Hid (wi.heap[w7.heap.size]?=some (.cells (mkR 6 ka' k kc' vb' k vd').arr 29 (0,0)))/\Hid (RowT wi w8.heap.size (.slice ka' k kc') (ks.take k))/\Hid (KidsA wi w8.heap.size (CK M w8.heap.size (.slice ka' k kc')) (.slice vb' k vd') ((List.zipWith res3 ks vs).take k))/\Hid (w8.grownBy wi (some w7.heap.size))) (fun p _=>ks.length-(intOf p).toNat)
      case atStart=>exact ⟨0,rfl,Nat.zero_le _,none,0,none,0,V8.out,RowT.nil _ _,KidsA.nil _ _ _,gb_refl _ _⟩
      case round=>
        rename World=>wo
        obtain ⟨k,rfl,hk,ka',kc',vb',vd',VI,KI,TI,GI⟩:=hrel;have hsI:=GI.out.size;have V6I:=Hid.out (p:=Hid _) (V7G.out _ GI.out);by_cases hlk:k<ks.length
        · have hlv:k<vs.length:=by have:=HKS.out.1;omega
          have hnk:ks≠[]:=fun e=>by rw [e] at hlk;simp at hlk
          have hnv:vs≠[]:=fun e=>by rw [e] at hlv;simp at hlv
          obtain ⟨gv,ov,rfl,hgv,hcv⟩:=HC2.out hnv;obtain ⟨gk,ok,rfl,hgk,hgkl,hck⟩:=(HT2.out _ GI.out).resolve_left hnk;have c1:=hck k hlk;obtain ⟨hx1,hx2,hx3,hx4,hx5⟩:=HKS.out.2.2 k hlk hlv;have HCV:Hid (∀ W,w8.grownBy W (some w7.heap.size)->CellsAt W gv (ov+k*8) (F2 k)):=fun W hW=>(hcv W hW).2 k hlv;have HCK:Hid (∀ W,w8.grownBy W (some w7.heap.size)->W.cell? ⟨gk,ok+k,none⟩=some (.string ks[k])):=fun W hW=>by
            obtain ⟨g',o',h1,_,_,h4⟩:=(HT2.out W hW).resolve_left hnk;injection h1 with h1;injection h1 with h1 h2
            subst h1 h2;exact h4 k hlk
          have HIV:Hid (∀ W,w8.grownBy W (some w7.heap.size)->Hid (IsV W (fun b=>b<M) (F2 k) vs[k])):=fun W hW=>HV2.out W hW k hlv;have HZT:=Hid.out (p:=Hid _) (zip_take (f:=res3) hlk hlv);have HKT:Hid (ks.take (k+1)=ks.take k++[ks[k]]):=by rw [Hid,List.take_add_one,List.getElem?_eq_getElem hlk];rfl
          have HLN:Hid ((ks.take k).length=k/\((List.zipWith res3 ks vs).take k).length=k):=⟨by rw [List.length_take];omega,by rw [List.length_take,List.length_zipWith];omega⟩;clear hck hcv;obtain ⟨kq,hkq⟩:∃ q,ks.take k=q:=⟨_,rfl⟩;obtain ⟨vq,hvq⟩:∃ q,(List.zipWith res3 ks vs).take k=q:=⟨_,rfl⟩;rw [hkq] at KI HKT HLN;rw [hvq] at TI HZT HLN;clear hkq hvq;generalize ks[k]=x at *;generalize vs[k]=v at *;generalize F2 k=z2 at *;obtain ⟨a,ha⟩:∃ a,(oldR x.data.toList).getD zeroA=a:=⟨_,rfl⟩;have haa:oldA x=a:=by rw [oldA,old_eq,ha]
          have hts:=old_size hx2;rw [haa] at hts;have HTY:Hid (a.type.size<=1000000):=by rw [Hid];omega
          have HR3:Hid (res3 x v=objectOf [kProv,kId,kAtt] [strV (provB a.type),got v kId,got v kAtt]):=by rw [Hid,res3,haa]
          have HOA:=Hid.out (p:=Hid _) ha;have HO:=Hid.out (p:=Hid _) (rold_any x wo hx1);have HVG:Hid (GoodQ v/\v.mass<=3000):=⟨hx3,hx4⟩;obtain ⟨oo,hoo⟩:∃ oo,(oldR x.data.toList).isSome=oo:=⟨_,rfl⟩;have HOO:=Hid.out (p:=Hid _) hoo;clear hx1 hx2 hx3 hx4 hx5 ha haa hts hoo;obtain ⟨⟨y0,y1,y2,y3,y4,y5,y6,y7⟩,_⟩:=val_cells V6I.out
          dsimp only at y6
          clear y0 y1 y2 y3 y4 y5 y7;go_wp2_with fail
          refine (Calls.mono HO.out ?_);rintro zz w9 hz;obtain ⟨pa,pc,rfl,_,E9⟩:=hz.to a HOA.out oo HOO.out;obtain ⟨wA,hwA,VA,BA⟩:=adr_new w9 pa pc a;have EA:=bel E9 BA;obtain ⟨C,hC⟩:∃ C:Nat->Prop,(fun b=>b<M∨wo.heap.size<=b)=C:=⟨_,rfl⟩;have HCE:Hid (∀ b,C b->b<M∨wo.heap.size<=b):=by rw [<-hC];exact fun _ h=>h
          have HCM:Hid (∀ b,b<M->C b):=by rw [<-hC];exact fun _ h=>.inl h
          have HA:Hid (∀ b,wA.heap.size<=b->C b):=by rw [<-hC];exact fun b hb=>.inr (Nat.le_trans EA.out.size hb)
          have GA:=gr_below GI EA;have HS:Hid (∀ W,Below wA.heap.size wA W->W.heap[w6.heap.size]?=some (.cells (Raw.mk 6 is' ng' d' e' s' (some ⟨gk,ok,none⟩) ks.length kc2 (some ⟨gv,ov,none⟩) vs.length vc2).arr 29 (0,0))/\W.heap[w9.heap.size]?=some (.cells (arrA pa pc a) 67 (0,0))/\CellsAt W gv (ov+k*8) z2):=fun W hW=>⟨V7G.out W (gr_below GA hW).out,(hW.block _ (heap_lt VA.out)).trans VA.out,HCV.out W (gr_below GA hW).out⟩;have HLV:Hid (k<vs.length):=hlv;have HOV:Hid (∀ W y,Below wA.heap.size wA W->Calls Tryz.prog 26 #[z2.val,.string y] W (OfP v y (fun b=>b<M) W)):=fun W y hW=>rof_any v HVG.out.1 HVG.out.2 z2 (fun b=>b<M) W (HIV.out W (gr_below GA hW).out).out y;have HML:Hid (∀ m,wo.heap.size<=m->∀ b,b<M->C b/\b≠m):=fun m hm b hb=>⟨HCM.out b hb,by have:=BR.out.size;have:=HSI.out;have:=HMM.out;omega⟩;clear hz hC HO y6 c1
          go_upto_region 12 with (fail)
          clear hwA
          go_cut [11] from 28 to 78 (fun p11 wx=>∃ (b11:Nat) (z11:Raw),p11=.pointer (some ⟨b11,0,none⟩)/\Hid (wA.heap.size<=b11)/\Hid (Below wA.heap.size wA wx)/\Hid (wx.heap[b11]?=some (.cells z11.arr 29 (0,0)))/\Hid (IsV wx (fun b=>C b/\b≠b11) z11 (res3 x v)))
          case first=>
            haveI:OldA wA.heap.size (fun b=>b<M):=⟨fun b hb=>by have hb:b<M:=hb;have:=EA.out.size;have:=BR.out.size;have:=HSI.out;have:=hsI;have:=HMM.out;omega⟩
            refine reg_last [FT [kProv,kId,kAtt],FC (.pointer (some ⟨w9.heap.size,1,none⟩)),FC (.string a.type),FC (.string (provB a.type)),FV (fun b=>b<M) (strV (provB a.type)),FC (.pointer (some ⟨w6.heap.size,7,none⟩)),FC (.slice (some ⟨gv,ov,none⟩) vs.length vc2),FC (.int .i64 k),FC (.pointer (some ⟨gv,ov+k*8,none⟩)),FC z2.val,FV (fun b=>b<M) (got v kId),FC (.pointer (some ⟨w6.heap.size,7,none⟩)),FC (.slice (some ⟨gv,ov,none⟩) vs.length vc2),FC (.int .i64 k),FC (.pointer (some ⟨gv,ov+k*8,none⟩)),FC z2.val,FV (fun b=>b<M) (got v kAtt),FK (fun b=>b<M) [(strV (provB a.type)),(got v kId),(got v kAtt)],FV (fun b=>b<M) (objectOf [kProv,kId,kAtt] [strV (provB a.type),got v kId,got v kAtt]),FB,FC undef] [] [19] 20 (fun u A=>(((((((((((((((((((((A.put (some 44) (u 0)).put (some 45) (u 1)).put (some 46) (u 2)).put (some 47) (u 3)).put (some 48) (u 4)).put (some 49) (u 5)).put (some 50) (u 6)).put (some 51) (u 7)).put (some 52) (u 8)).put (some 53) (u 9)).put (some 54) (u 10)).put (some 55) (u 11)).put (some 56) (u 12)).put (some 57) (u 13)).put (some 58) (u 14)).put (some 59) (u 15)).put (some 60) (u 16)).put (some 61) (u 17)).put (some 62) (u 18)).put (some 11) (u 19)).put none (u 20))) (by intro u A;kernel_rfl) (by kernel_rfl) (by kernel_rfl) (by kernel_rfl) (by kernel_rfl) ?_ ?_
            · refine .cons ?_ (.cons ?_ (.cons ?_ (.cons ?_ (.cons ?_ (.cons ?_ (.cons ?_ (.cons ?_ (.cons ?_ (.cons ?_ (.cons ?_ (.cons ?_ (.cons ?_ (.cons ?_ (.cons ?_ (.cons ?_ (.cons ?_ (.cons ?_ (.cons ?_ (.cons ?_ (.last (.nil rfl)))))))))))))))))))))
              · exact sT [kProv,kId,kAtt] 9 rfl (fun _=>rfl) (fun a w=>by kernel_rfl)
              · exact sC _ rfl (fun _=>rfl) fun aa ww KK BB RR DD=>exec_field rfl (rest_at RR 9 (by kernel_rfl) rfl) (by kernel_rfl)
              · exact sC _ rfl (fun _=>rfl) fun aa ww KK BB RR DD=>exec_load rfl (dep_at DD 1 45 (by kernel_rfl)) (run_str (cell_of (HS.out ww BB).2.1 1))
              · exact sS (.string (provB a.type)) rfl (fun _=>rfl) fun aa ww KK BB RR DD=>⟨73,#[.string a.type],exec_fn rfl rfl (enters_of Tryz.func73 (by kernel_rfl) rfl) (args1 (dep_at DD 2 46 (by kernel_rfl))),rprov_any a.type HTY.out ww⟩
              · exact sV (fun b=>b<M) (strV (provB a.type)) rfl (fun _=>rfl) fun aa ww KK BB RR DD=>⟨72,#[.string (provB a.type)],(fun b=>b<M),exec_fn rfl rfl (enters_of Tryz.func72 (by kernel_rfl) rfl) (args1 (dep_at DD 3 47 (by kernel_rfl))),rstr_any (provB a.type) _ ww,fun _ h=>.inl h⟩
              · exact sC _ rfl (fun _=>rfl) fun aa ww KK BB RR DD=>exec_field rfl (rest_at RR 6 (by kernel_rfl) rfl) (by kernel_rfl)
              · exact sC _ rfl (fun _=>rfl) fun aa ww KK BB RR DD=>exec_load rfl (dep_at DD 5 49 (by kernel_rfl)) (run_slice7 (HS.out ww BB).1)
              · exact sC _ rfl (fun _=>rfl) fun aa ww KK BB RR DD=>exec_move rfl (rest_at RR 8 (by kernel_rfl) rfl)
              · exact sC _ rfl (fun _=>rfl) fun aa ww KK BB RR DD=>exec_index rfl (dep_at DD 6 50 (by kernel_rfl)) (dep_at DD 7 51 (by kernel_rfl)) (run_at 27 rfl HLV.out _)
              · exact sC _ rfl (fun _=>rfl) fun aa ww KK BB RR DD=>exec_load rfl (dep_at DD 8 52 (by kernel_rfl)) (run_cells8 (HS.out ww BB).2.2)
              · exact sV (fun b=>b<M) (got v kId) rfl (fun _=>rfl) fun aa ww KK BB RR DD=>⟨26,#[z2.val,.string kId],(fun b=>b<M),exec_fn rfl rfl (enters_of Tryz.func26 (by kernel_rfl) rfl) (args2 (dep_at DD 9 53 (by kernel_rfl)) rfl),HOV.out ww kId BB,fun _ h=>.inl h⟩
              · exact sC _ rfl (fun _=>rfl) fun aa ww KK BB RR DD=>exec_field rfl (rest_at RR 6 (by kernel_rfl) rfl) (by kernel_rfl)
              · exact sC _ rfl (fun _=>rfl) fun aa ww KK BB RR DD=>exec_load rfl (dep_at DD 11 55 (by kernel_rfl)) (run_slice7 (HS.out ww BB).1)
              · exact sC _ rfl (fun _=>rfl) fun aa ww KK BB RR DD=>exec_move rfl (rest_at RR 8 (by kernel_rfl) rfl)
              · exact sC _ rfl (fun _=>rfl) fun aa ww KK BB RR DD=>exec_index rfl (dep_at DD 12 56 (by kernel_rfl)) (dep_at DD 13 57 (by kernel_rfl)) (run_at 27 rfl HLV.out _)
              · exact sC _ rfl (fun _=>rfl) fun aa ww KK BB RR DD=>exec_load rfl (dep_at DD 14 58 (by kernel_rfl)) (run_cells8 (HS.out ww BB).2.2)
              · exact sV (fun b=>b<M) (got v kAtt) rfl (fun _=>rfl) fun aa ww KK BB RR DD=>⟨26,#[z2.val,.string kAtt],(fun b=>b<M),exec_fn rfl rfl (enters_of Tryz.func26 (by kernel_rfl) rfl) (args2 (dep_at DD 15 59 (by kernel_rfl)) rfl),HOV.out ww kAtt BB,fun _ h=>.inl h⟩
              · exact sK (fun b=>b<M) [(4,(strV (provB a.type))),(10,(got v kId)),(16,(got v kAtt))] 27 _ rfl rfl rfl (fun _=>rfl) (allc ⟨by kernel_rfl,rfl⟩ (allc ⟨by kernel_rfl,rfl⟩ (allc ⟨by kernel_rfl,rfl⟩ alln))) (allc rfl (allc rfl (allc rfl alln))) rfl (by simp) (by simp) (fun a=>by kernel_rfl)
              · exact sO (fun b=>b<M) [kProv,kId,kAtt] [strV (provB a.type),got v kId,got v kAtt] 0 17 rfl rfl _ rfl rfl (fun _=>rfl) (by kernel_rfl) (fun a=>by kernel_rfl)
              · exact sB rfl rfl (fun _=>rfl)
            · intro u wX KK aa ha hu D F1 N1 N2
              obtain ⟨bz,e19,c19,VZ⟩:=F1 19 (by decide +kernel) (by decide) (fun _ _ _=>rfl);obtain ⟨zo,e18,I18⟩:=F1 18 (by decide +kernel) (by decide) (fun _ _ _=>rfl);have hbz:=N1 19 bz (by decide +kernel) (by decide) c19;have hk8:=N1 18;have hlone:=N2 19 18 bz (by decide +kernel) (by decide +kernel) (by decide) (by decide) (fun _ _ _=>⟨rfl,rfl⟩) rfl (by decide) c19;have hMz:M<=bz:=by have:=EA.out.size;have:=hsI;have:=hbz.1;have:=BR.out.size;have:=HSI.out;have:=HMM.out;omega
              have OBJ:Hid (IsV wX (fun b=>C b/\b≠bz) zo (res3 x v)):=by rw [HR3.out];exact I18.turn (Turn.mono wX fun b hb _=>by rcases hb with hb | hb;exact ⟨HCM.out b hb,by have hb:b<M:=hb;omega⟩;exact ⟨HA.out b (hk8 b (by decide +kernel) (by decide) hb).1,fun e=>hlone (by rw [<-e];exact hb)⟩)
              have HBZ:Hid (wA.heap.size<=bz):=hbz.1;have D:Hid (Below wA.heap.size wA wX):=D;have VZ:Hid (wX.heap[bz]?=some (.cells Raw.zero.arr 29 (0,0))):=VZ;refine oper_skip (exec_store rfl ((hu 19 11 (by kernel_rfl)).trans e19) ((hu 18 62 (by kernel_rfl)).trans e18) (run_store8 VZ.out zo)) ?_;rw [ha,e19];clear ha hu;clear F1 N1 N2 e18 e19 c19 I18 hbz hk8 hlone hMz;simp only [nz]
              go_wp2_with fail
              go_meet
              exact ⟨_,_,rfl,HBZ.out,below8 D.out HBZ.out _ _ _ _ _ _ _ _,set8 VZ.out zo,dn2 (A:=fun k=>C k/\k≠bz) (k6w OBJ (fun _ h=>⟨h,h.2⟩)) _ _ _ _ _ _ _ _⟩
          case rest=>
            obtain ⟨b11,z11,rfl,h11,hBx,V11,I11⟩:=hcut;have EX:=bel EA hBx;have VIX:=hst VI EX;have KIX:=rts KI EX;have TIX:=kkb TI EX;have GIX:=gr_below GI EX;have HKO:Hid (∀ q,(Value.slice ka' k kc').ownBlock=some q->w8.heap.size<=q/\q<wo.heap.size):=fun q hq=>(World.ownsRow.lt KI.out q hq);have HTO2:Hid (∀ q,(Value.slice vb' k vd').ownBlock=some q->w8.heap.size<=q/\q<wo.heap.size):=fun q hq=>Save.KidsA.lt TI.out q hq;have HGK:Hid (k<ks.length):=hlk;have HS13:Hid (∀ W,w8.grownBy W (some w7.heap.size)->W.heap[w6.heap.size]?=some (.cells (Raw.mk 6 is' ng' d' e' s' (some ⟨gk,ok,none⟩) ks.length kc2 (some ⟨gv,ov,none⟩) vs.length vc2).arr 29 (0,0))/\W.cell? ⟨gk,ok+k,none⟩=some (.string x)):=fun W hW=>⟨V7G.out W hW,HCK.out W hW⟩;clear VI KI TI GI HOV HS HML HA VA;go_wp2_with fail
            refine wp_region_held_drew (S:=(fun W=>W.heap[w6.heap.size]?=some (.cells (Raw.mk 6 is' ng' d' e' s' (some ⟨gk,ok,none⟩) ks.length kc2 (some ⟨gv,ov,none⟩) vs.length vc2).arr 29 (0,0))/\W.cell? ⟨gk,ok+k,none⟩=some (.string x))) (by kernel_rfl) ?_ (fun hHeld=>?_)
            · exact HS13.out _ (gr_below GIX (Hid.out (p:=Hid _) (Below.refl _ _).drew)).out
            obtain ⟨wd,hwd⟩:∃ x,wc.drew=x:=⟨_,rfl⟩;have D:Hid (Below wc.heap.size wc wd):=by rw [<-hwd];exact (Below.refl _ _).drew
            rw [hwd] at hHeld ⊢;clear hwd;have GIX0:=Hid.out (p:=Hid _) (Nat.le_trans GIX.out.size D.out.size);have GIX0:Hid (w8.heap.size<=wo.heap.size):=hsI;replace VIX:=hst VIX D;replace KIX:=rts KIX D;replace TIX:=kkb TIX D;replace GIX:=gr_below GIX D;have V11X:=hst V11 D;have I11X:=kp I11 D
            repeat' first
              | (refine tkT 0 (by decide +kernel) ?_)
              | (refine tkT 2 (by decide +kernel) ?_)
              | (refine tkT 3 (v:=.slice (some ⟨gk,ok,none⟩) ks.length kc2) (by decide +kernel) ?_ (hy:=by (intro w hs;obtain ⟨⟨e0,e1,e2,e3,e4,e5,e6,e7⟩,_⟩:=val_cells hs.1;clear hs;go_simp <;> with_reducible rfl)))
              | (refine tkT 4 (by decide +kernel) ?_)
              | (refine tkT 5 (by decide +kernel) ?_)
              | (refine tkT 6 (v:=.string x) (by decide +kernel) ?_ (hy:=by (intro w hs;have e1:=hs.2;clear hs;go_simp <;> with_reducible rfl)))
              | (refine tkT 9 (by decide +kernel) ?_)
              | (refine rdT [1,7] (by decide +kernel) (by simp) ?_;try simp only [nz])
              | (refine rdT [7] (by decide +kernel) (by simp) ?_;try simp only [nz])
              | (refine rdT [8] (by decide +kernel) (by simp) ?_;try simp only [nz])
              | (refine rdT [10] (by decide +kernel) (by simp) ?_;try simp only [nz])
              | (refine rdT [1] (by decide +kernel) (by simp) ?_;try simp only [nz])
              | exact AllReadyH.nil
              | refine consT ?_ ?_
              | (refine (⟨fun K hK=>?_⟩:Tag 1 _)
                 try simp only [nz]
                 obtain ⟨⟨e0,e1,e2,e3,e4,e5,e6,e7⟩,_⟩:=val_cells VIX.out
                 dsimp only [mkR] at e6
                 go_simp
                 clear e0 e1 e2 e3 e4 e5 e6 e7;clear hHeld;refine hK.out _ _ ?_ (fun hHeld=>?_)
                 · exact HS13.out _ GIX.out
                 clear hK K
                 try simp only [nz])
              | (refine (⟨fun K hK=>?_⟩:Tag 7 _)
                 obtain ⟨q,hq,E⟩:=wof D (str_new · x)
                 try simp only [nz]
                 go_simp
                 have c0:q.cell? ⟨_,0,none⟩=some (.string x):=cell_of (tblk hq).out 0;have C0:=Hid.out (p:=Hid _) c0;clear hq c0;replace D:=bel D E;(try replace DA:=bel DA E);(try replace VIX:=hst VIX E);(try replace KIX:=rts KIX E);(try replace TIX:=kkb TIX E);(try replace GIX:=gr_below GIX E);(try replace V11X:=hst V11X E);(try replace I11X:=kp I11X E);clear hHeld;refine hK.out _ _ ?_ (fun hHeld=>?_)
                 · exact HS13.out _ GIX.out
                 clear hK K
                 try simp only [nz])
              | (refine (⟨fun K hK=>?_⟩:Tag 8 _)
                 try simp only [nz]
                 obtain ⟨aK,cK,wK,hrK,RK,GK,OK⟩:=app_key KIX HLN.out.1 C0.out (by have:=HKS.out.2.1;have:=HGK.out;omega) GIX.out.size;rw [if_pos (by rfl)];refine Save.wp_append_run (.slice ka' k kc') (.slice (some ⟨_,0,none⟩) 1 1) 26 hrK _ _ rfl rfl rfl ?_;have GIK:=gr_own GIX GK.out (fun q hq=>(HKO.out q hq).1);have VIK:=Hid.out (p:=Hid _) ((GK.out.block _ (heap_lt VIX.out) (fun e=>by have:=(HKO.out _ e.symm).1;have:=HSI.out;omega)).trans VIX.out);have TIK:=kids_row (C':=CK M w8.heap.size (.slice aK (k+1) cK)) TIX KIX GK (fun b hb hl=>⟨fun e=>hb.2 e,hb.1,fun e=>by rcases OK.out with h | h;exact hb.2 (e.trans h);rw [h] at e;injection e with e;omega⟩);have I11K:=iv_keep (A':=fun b=>(C b/\b≠b11)/\some b≠(Value.slice aK (k+1) cK).ownBlock) I11X GK.out (fun b hb hl=>by have h1:some b≠(Value.slice ka' k kc').ownBlock:=(fun e=>by have h1:=HKO.out _ e.symm;have h2:=HCE.out b hb.1;have:=HSI.out;have:=BR.out.size;have:=HMM.out;omega);exact ⟨h1,hb,fun e=>by rcases OK.out with h | h;exact h1 (e.trans h);rw [h] at e;injection e with e;omega⟩);have V11K:=Hid.out (p:=Hid _) ((GK.out.block _ (heap_lt V11X.out) (fun e=>by have h1:=HKO.out _ e.symm;have:=h11.out;have:=EA.out.size;omega)).trans V11X.out);clear hrK;clear hHeld;refine hK.out _ _ ?_ (fun hHeld=>?_)
                 · exact HS13.out _ GIK.out
                 clear hK K
                 try simp only [nz])
              | (refine (⟨fun K hK=>?_⟩:Tag 10 _)
                 try simp only [nz]
                 obtain ⟨⟨v0,v1,v2,v3,v4,v5,v6,v7⟩,y0,y1,y2,y3,y4,y5,y6,y7⟩:=val_cells VIK.out
                 dsimp only [mkR] at v6
                 go_simp
                 clear v0 v1 v2 v3 v4 v5 v6 v7 y0 y1 y2 y3 y4 y5 y6 y7;have GIS:=gb_trans GIK (gb_set _ w7.heap.size 6 (.slice (aK) (k+1) cK));clear hHeld;refine hK.out _ _ ?_ (fun hHeld=>?_)
                 · exact HS13.out _ GIS.out
                 clear hK K
                 try simp only [nz])
              | (refine dnT (by decide +kernel) ?_
                 clear hHeld;have VIS:=Hid.out (p:=Hid _) (set6 (ka':=aK) (kn':=k+1) (kc':=cK) VIK.out);obtain ⟨wS,hwS⟩:∃ x,World.setCell wK ⟨w7.heap.size,6,none⟩ (.slice (aK) (k+1) cK)=x:=⟨_,rfl⟩;have KIS:=Hid.out (p:=Hid _) (RowT.kept RK.out (gb_set _ w7.heap.size 6 (.slice (aK) (k+1) cK)) (.inr (RowT.ne RK.out (by have:=HSI.out;omega))));have TIS:=Hid.out (p:=Hid _) (KidsA.turn TIK.out (gb_set _ w7.heap.size 6 (.slice (aK) (k+1) cK)) (.inr (fun e=>by have:=HTO2.out _ e;have:=HSI.out;omega)) (fun b hb _=>⟨fun e=>by injection e with e;have hb:=hb.1;have:=HSI.out;have:=BR.out.size;have:=HMM.out;omega,hb⟩));have I11S:=iv_keep (A':=fun b=>(C b/\b≠b11)/\some b≠(Value.slice aK (k+1) cK).ownBlock) I11K (gb_set _ w7.heap.size 6 (.slice (aK) (k+1) cK)) (fun b hb hl=>⟨fun e=>by injection e with e;have h2:=HCE.out b hb.1.1;have:=HSI.out;have:=BR.out.size;have:=HMM.out;have:=GIX0.out;omega,hb⟩);have V11S:=Hid.out (p:=Hid _) (((gb_set _ w7.heap.size 6 (.slice (aK) (k+1) cK)).block _ (heap_lt V11K.out) (fun e=>by injection e with e;have:=h11.out;have:=EA.out.size;have:=HSI.out;have:=GIX0.out;omega)).trans V11K.out);rw [hwS] at VIS KIS TIS I11S V11S GIS ⊢;clear hwS VIK TIK I11K V11K GIK VIX TIX I11X V11X GIX RK GK KIX C0 OK;obtain ⟨wT,hwT,VT,ET⟩:=kid1 wS z11;have VIT:=hst VIS ET;have TIT:=kkb TIS ET;have KIT:=rts KIS ET;have GIT:=gr_below GIS ET;have I11T:=kp I11S ET;have I11U:=k6w (C:=fun y=>CK M w8.heap.size (.slice aK (k+1) cK) y/\some y≠(Value.slice vb' k vd').ownBlock) I11T (fun b hb=>by have h2:=HCE.out b hb.1.1;refine ⟨⟨by have:=GIX0.out;omega,hb.2⟩,fun e=>?_⟩;have h3:=HTO2.out b e.symm;have:=HSI.out;have:=BR.out.size;have:=HMM.out;omega);obtain ⟨aU,cU,wU,hrU,hkU,hgU,_⟩:=app_kids TIT.out _ z11 (res3 x v) VT.out I11U.out (by rw [HLN.out.2];have:=HKS.out.2.1;have:=HGK.out;omega) GIT.out.size;rw [HLN.out.2] at hrU hkU;have HRU:=Hid.out (p:=Hid _) hrU;have VIU:=Hid.out (p:=Hid _) ((hgU.block _ (heap_lt VIT.out) (fun e=>by have:=HTO2.out _ e.symm;have:=HSI.out;omega)).trans VIT.out);have GIU:=gr_own GIT hgU (fun q hq=>(HTO2.out q hq).1);have KIU:=row_kids KIT TIT hgU;have TIU:=Hid.out (p:=Hid _) hkU;obtain ⟨⟨e0,e1,e2,e3,e4,e5,e6,e7⟩,_⟩:=val_cells VIS.out
                 dsimp only [mkR] at e7
                 obtain ⟨⟨f0,f1,f2,f3,f4,f5,f6,f7⟩,_⟩:=val_cells V11S.out;obtain ⟨⟨v0,v1,v2,v3,v4,v5,v6,v7⟩,y0,y1,y2,y3,y4,y5,y6,y7⟩:=val_cells VIU.out
                 dsimp only [mkR] at v7
                 clear hrU hkU hgU I11U I11T VT TIT KIT GIT VIT I11S e0 e1 e2 e3 e4 e5 e6 v0 v1 v2 v3 v4 v5 v6 y0 y1 y2 y3 y4 y5 y6;have hkb:k+1<=3000:=by have:=HKS.out.2.1;have:=HGK.out;omega
                 go_wp2_with (at_builtin;refine Jdec.wpList_append_run (.slice vb' k vd') (.slice (some ⟨wS.heap.size,0,none⟩) 1 1) 27 HRU.out rfl _ _ rfl rfl rfl ?_)
                 go_roundw
                 case rel=>
                   refine ⟨k+1,by go_num,HGK.out,aK,cK,aU,cU,set7 VIU.out,?_,?_,?_⟩
                   · rw [Hid,HKT.out];exact (row_len (HLN.out.1) KIU).kept (gb_set _ w7.heap.size 7 _) (.inr (RowT.ne (row_len (HLN.out.1) KIU) (by have:=HSI.out;omega)))
                   · rw [Hid,HZT.out];exact KidsA.turn TIU.out (gb_set _ w7.heap.size 7 _) (.inr (fun e=>by have:=(Save.KidsA.lt TIU.out _ e).1;have:=HSI.out;omega)) (fun b hb _=>⟨fun e=>by injection e with e;have hb:=hb.1;have:=HSI.out;have:=BR.out.size;have:=HMM.out;omega,hb⟩)
                   · exact (gb_trans GIU (gb_set _ w7.heap.size 7 _)).out
                 case measure=>have:=HGK.out;simp [intOf];omega)
        · obtain rfl:k=ks.length:=by omega
          have hln:=HKS.out.1;have ez:(List.zipWith res3 ks vs).take ks.length=List.zipWith res3 ks vs:=List.take_of_length_le (by rw [List.length_zipWith];omega);have hzl:(List.zipWith res3 ks vs).length=ks.length:=by simp [hln]
          have hT:=KI.out;have hK:=TI.out;rw [List.take_length] at hT;rw [ez,<-hzl] at hK;have BI:Hid (Below w6.heap.size w6 wo):=(bel B7 B8).out.grown GI.out (bel B7 B8).out.size (fun k hk=>by injection hk with hk;have:=HSI.out;omega);have ER:=bel E6 BI;have IR:=Hid.out (p:=Hid _) (obj_row (kc:=kc') (ka:=ka') (C':=fun b=>b<M∨w8.heap.size<=b) 6 hK (fun b hb=>by rcases hb with hb | hb;exact hb.1;exact .inr hb) (hT.texts.turn (Turn.mono _ fun b hb _=>.inr hb)));rw [hzl] at IR;have IR:Hid (IsV wo (fun b=>b<M∨w8.heap.size<=b) (mkR 6 ka' ks.length kc' vb' ks.length vd') (ress3 (.mk 6 is' ng' d' e' s' ks vs))):=by rw [HRS.out];exact IR
          obtain ⟨zr,hzr⟩:∃ z,mkR 6 ka' ks.length kc' vb' ks.length vd'=z:=⟨_,rfl⟩;have IR:Hid (IsV wo (fun b=>b<M∨w8.heap.size<=b) zr (ress3 (.mk 6 is' ng' d' e' s' ks vs))):=by rw [<-hzr];exact IR
          rw [hzr] at VI;have VOX:=hst VO ER;have KOX:=kkb KO ER;have GOX:=gr_below GO ER;have HKO:Hid (∀ q,(Value.slice va' i vc').ownBlock=some q->w5.heap.size<=q/\q<wr.heap.size):=fun q hq=>Save.KidsA.lt KO.out q hq;obtain ⟨C,hC⟩:∃ C:Nat->Prop,(fun b=>b<M∨w8.heap.size<=b)=C:=⟨_,rfl⟩;have HCE:Hid (∀ b,C b->b<M∨w8.heap.size<=b):=by rw [<-hC];exact fun _ h=>h
          have HCM:Hid (∀ b,b<M->C b):=by rw [<-hC];exact fun _ h=>.inl h
          have HA:Hid (∀ b,wo.heap.size<=b->C b):=by rw [<-hC];exact fun b hb=>.inr (Nat.le_trans hsI hb)
          rw [hC] at IR;have HS15:Hid (∀ W,Below wo.heap.size wo W->CellsAt W g (o+i*8) zm/\W.heap[w7.heap.size]?=some (.cells zr.arr 29 (0,0))):=fun W hW=>⟨CellsAt.below HK1.out HGL.out (ER.out.trans (hW.mono ER.out.size)),(hW.block _ (heap_lt VI.out)).trans VI.out⟩;have HPW:Hid (∀ W,Below wo.heap.size wo W->Calls Tryz.prog 26 #[.agg #[.int .i64 zm.kind,.bool zm.is,.bool zm.neg,.string zm.dig,.int .i64 zm.exp,.string zm.str,.slice zm.ka zm.kn zm.kc,.slice zm.va zm.vn zm.vc],.string ⟨#[112,97,116,104]⟩] W (OfP m kPath (fun b=>b<M) W)):=fun W hW=>HPA.out W (ER.out.trans (hW.mono ER.out.size));have HGI:Hid (i<ms.length):=hlt;clear hln ez hzl hT hK hzr hC VO KO GO TI KI GI;obtain ⟨⟨y0,y1,y2,y3,y4,y5,y6,y7⟩,_⟩:=val_cells V6I.out
          dsimp only at y6
          clear y0 y1 y2 y3 y4 y5 y7;go_wp2_with fail
          clear y6;refine wp_region_held_drew (S:=(fun W=>CellsAt W g (o+i*8) zm/\W.heap[w7.heap.size]?=some (.cells zr.arr 29 (0,0)))) (by kernel_rfl) ?_ (fun hHeld=>?_)
          · exact HS15.out _ (Below.refl _ _).drew
          obtain ⟨wd,hwd⟩:∃ x,wo.drew=x:=⟨_,rfl⟩;have D:Hid (Below wo.heap.size wo wd):=by rw [<-hwd];exact (Below.refl _ _).drew
          rw [hwd] at hHeld ⊢;clear hwd;have DA:=D;replace VOX:=hst VOX D;replace KOX:=kkb KOX D;replace GOX:=gr_below GOX D;replace IR:=kp IR D
          repeat' first
            | (refine tkT 0 (by decide +kernel) ?_)
            | (refine tkT 3 (by decide +kernel) ?_)
            | (refine tkT 4 (by decide +kernel) ?_)
            | (refine tkT 5 (by decide +kernel) ?_)
            | (refine tkT 6 (v:=.agg #[.int .i64 zm.kind,.bool zm.is,.bool zm.neg,.string zm.dig,.int .i64 zm.exp,.string zm.str,.slice zm.ka zm.kn zm.kc,.slice zm.va zm.vn zm.vc]) (by decide +kernel) ?_ (hy:=by (intro w hs;obtain ⟨e0,e1,e2,e3,e4,e5,e6,e7⟩:=CellsAt.eight hs.1;clear hs;go_simp <;> with_reducible rfl)))
            | (refine tkT 8 (v:=.agg #[.int .i64 zr.kind,.bool zr.is,.bool zr.neg,.string zr.dig,.int .i64 zr.exp,.string zr.str,.slice zr.ka zr.kn zr.kc,.slice zr.va zr.vn zr.vc]) (by decide +kernel) ?_ (hy:=by (intro w hs;obtain ⟨⟨e0,e1,e2,e3,e4,e5,e6,e7⟩,_⟩:=val_cells hs.2;clear hs;go_simp <;> with_reducible rfl)))
            | (refine tkT 10 (by decide +kernel) ?_)
            | (refine tkT 13 (by decide +kernel) ?_)
            | (refine rdT [1,2,7] (by decide +kernel) (by simp) ?_;try simp only [nz])
            | (refine rdT [2,7] (by decide +kernel) (by simp) ?_;try simp only [nz])
            | (refine rdT [7] (by decide +kernel) (by simp) ?_;try simp only [nz])
            | (refine rdT [9] (by decide +kernel) (by simp) ?_;try simp only [nz])
            | (refine rdT [11] (by decide +kernel) (by simp) ?_;try simp only [nz])
            | (refine rdT [12] (by decide +kernel) (by simp) ?_;try simp only [nz])
            | (refine rdT [14] (by decide +kernel) (by simp) ?_;try simp only [nz])
            | (refine rdT [2,9] (by decide +kernel) (by simp) ?_;try simp only [nz])
            | (refine rdT [2] (by decide +kernel) (by simp) ?_;try simp only [nz])
            | (refine rdT [1,7] (by decide +kernel) (by simp) ?_;try simp only [nz])
            | (refine rdT [1,9] (by decide +kernel) (by simp) ?_;try simp only [nz])
            | (refine rdT [1,11] (by decide +kernel) (by simp) ?_;try simp only [nz])
            | (refine rdT [1] (by decide +kernel) (by simp) ?_;try simp only [nz])
            | (refine rdT [1,2,9] (by decide +kernel) (by simp) ?_;try simp only [nz])
            | (refine rdT [1,2] (by decide +kernel) (by simp) ?_;try simp only [nz])
            | exact AllReadyH.nil
            | refine consT ?_ ?_
            | (refine (⟨fun K hK=>?_⟩:Tag 1 _)
               try simp only [nz]
               obtain ⟨⟨e0,e1,e2,e3,e4,e5,e6,e7⟩,_⟩:=val_cells VOX.out
               dsimp only [mkR] at e7
               go_simp
               clear e0 e1 e2 e3 e4 e5 e6 e7;clear hHeld;refine hK.out _ _ ?_ (fun hHeld=>?_)
               · exact HS15.out _ D.out
               clear hK K
               try simp only [nz])
            | (refine (⟨fun K hK=>?_⟩:Tag 2 _)
               obtain ⟨q,hq,KT,E⟩:=wof D (pair_new · kPath kRes);unfold kPath kRes at hq
               try simp only [nz]
               go_simp
               have MKT:=Hid.out (p:=Hid _) (upn HA DA _ (Nat.le_refl _));have VKT:=tblk hq;clear hq;replace D:=bel D E;(try replace DA:=bel DA E);(try replace VOX:=hst VOX E);(try replace KOX:=kkb KOX E);(try replace GOX:=gr_below GOX E);(try replace IR:=kp IR E);(try replace I8:=kp I8 E);(try replace VX:=hst VX E);(try replace VKT:=hst VKT E);(try replace KT:=ktx KT E);(try replace VL:=hst VL E);(try replace IO:=kp IO E);clear hHeld;refine hK.out _ _ ?_ (fun hHeld=>?_)
               · exact HS15.out _ D.out
               clear hK K
               try simp only [nz])
            | (refine (⟨fun K hK=>?_⟩:Tag 7 _)
               try simp only [nz]
               go_simp
               go_at_call 26;refine (Calls.mono (HPW.out _ D.out) ?_)
               rintro z q hz;obtain ⟨z8,rfl,I8,E⟩:=hz.to;clear hz;unfold Raw.val;replace D:=bel D E;(try replace DA:=bel DA E);(try replace VOX:=hst VOX E);(try replace KOX:=kkb KOX E);(try replace GOX:=gr_below GOX E);(try replace IR:=kp IR E);(try replace I8:=kp I8 E);(try replace VX:=hst VX E);(try replace VKT:=hst VKT E);(try replace KT:=ktx KT E);(try replace VL:=hst VL E);(try replace IO:=kp IO E);clear hHeld;refine hK.out _ _ ?_ (fun hHeld=>?_)
               · exact HS15.out _ D.out
               clear hK K
               try simp only [nz])
            | (refine (⟨fun K hK=>?_⟩:Tag 9 _)
               obtain ⟨q,hq,VX,E⟩:=wof D (kid2 · z8 zr)
               try simp only [nz]
               go_simp
               have MVX:=Hid.out (p:=Hid _) (upn HA DA _ (Nat.le_refl _));clear hq;replace D:=bel D E;(try replace DA:=bel DA E);(try replace VOX:=hst VOX E);(try replace KOX:=kkb KOX E);(try replace GOX:=gr_below GOX E);(try replace IR:=kp IR E);(try replace I8:=kp I8 E);(try replace VX:=hst VX E);(try replace VKT:=hst VKT E);(try replace KT:=ktx KT E);(try replace VL:=hst VL E);(try replace IO:=kp IO E);clear hHeld;refine hK.out _ _ ?_ (fun hHeld=>?_)
               · exact HS15.out _ D.out
               clear hK K
               try simp only [nz])
            | (refine (⟨fun K hK=>?_⟩:Tag 11 _)
               have OBJ:=Hid.out (p:=Hid _) (obj_is [(z8,got m kPath),(zr,ress3 (.mk 6 is' ng' d' e' s' ks vs))] KT VX MKT.out MVX.out (vem2 (k6w I8 (fun b hb=>HCM.out b hb)) IR) 2 2 rfl rfl);replace OBJ:=is_as HMOD.out OBJ;obtain ⟨q,hq,VL,E⟩:=kobj KT VX 2 2
               try simp only [nz]
               go_simp
               clear hq;replace OBJ:=kp OBJ E;replace D:=bel D E;(try replace DA:=bel DA E);(try replace VOX:=hst VOX E);(try replace KOX:=kkb KOX E);(try replace GOX:=gr_below GOX E);(try replace IR:=kp IR E);(try replace I8:=kp I8 E);(try replace VX:=hst VX E);(try replace VKT:=hst VKT E);(try replace KT:=ktx KT E);(try replace VL:=hst VL E);(try replace IO:=kp IO E);clear hHeld;refine hK.out _ _ ?_ (fun hHeld=>?_)
               · exact HS15.out _ D.out
               clear hK K
               try simp only [nz])
            | (refine (⟨fun K hK=>?_⟩:Tag 12 _)
               try simp only [nz]
               have OBU:=k6w (C:=fun y=>(y<M∨w5.heap.size<=y)/\some y≠(Value.slice va' i vc').ownBlock) OBJ (fun b hb=>by have h2:=HCE.out b hb;refine ⟨by have:=HSI.out;omega,fun e=>?_⟩;have h3:=HKO.out b e.symm;have:=HSI.out;have:=B05.out.size;have:=HMM.out;omega);obtain ⟨aU,cU,wU,hrU,hkU,hgU,_⟩:=app_kids KOX.out _ _ (mod3 m) VL.out OBU.out (by rw [HTL.out];have:=HMS.out.1;have:=HGI.out;omega) GOX.out.size;rw [HTL.out] at hrU hkU;rw [if_pos (by rfl)];refine Save.wp_append_run (.slice va' i vc') (.slice (some ⟨_,0,none⟩) 1 1) 27 hrU _ _ rfl rfl rfl ?_;have VOU:=Hid.out (p:=Hid _) ((hgU.block _ (heap_lt VOX.out) (fun e=>by have:=(HKO.out _ e.symm).1;have:=HSZ.out;have:=E5.out.size;omega)).trans VOX.out);have GOU:=gr_own GOX hgU (fun q hq=>(HKO.out q hq).1);have KOU:=Hid.out (p:=Hid _) hkU;have HSU:=Hid.out (p:=Hid _) (keep15 (HS15.out _ D.out) hgU (fun e=>by have:=HKO.out _ e.symm;have:=HGM.out;have:=B05.out.size;have:=HMM.out;omega) (fun e=>by have:=HKO.out _ e.symm;have:=HSI.out;omega) (Nat.lt_of_lt_of_le HGL.out (bel ER D).out.size));clear hrU hkU hgU OBU OBJ;clear hHeld;refine hK.out _ _ ?_ (fun hHeld=>?_)
               · exact HSU.out
               clear hK K
               try simp only [nz])
            | (refine (⟨fun K hK=>?_⟩:Tag 14 _)
               try simp only [nz]
               obtain ⟨⟨v0,v1,v2,v3,v4,v5,v6,v7⟩,y0,y1,y2,y3,y4,y5,y6,y7⟩:=val_cells VOU.out
               dsimp only [mkR] at v7
               go_simp
               clear v0 v1 v2 v3 v4 v5 v6 v7 y0 y1 y2 y3 y4 y5 y6 y7;clear hHeld;refine hK.out _ _ ?_ (fun hHeld=>?_)
               · exact keep15 HSU.out (gb_set _ w3.heap.size 7 _) (fun e=>by injection e with e;have:=HGM.out;have:=HSZ.out;have:=HMM.out;omega) (fun e=>by injection e with e;have:=HSI.out;have:=hsN;have:=HSZ.out;have:=E5.out.size;omega) (Nat.lt_of_lt_of_le HGM.out (by have:=GOU.out.size;have:=B05.out.size;have:=HMM.out;omega))
               clear hK K
               try simp only [nz])
            | (refine dnT (by decide +kernel) ?_
               clear hHeld;have hib:i+1<=3000:=by have:=HMS.out.1;have:=HGI.out;omega
               go_wp2_with fail
               go_roundw
               case rel=>
                 refine ⟨i+1,by go_num,HGI.out,aU,cU,set7 VOU.out,?_,(gb_trans GOU (gb_set _ w3.heap.size 7 _)).out⟩;rw [Hid,HTK.out];exact KidsA.turn KOU.out (gb_set _ w3.heap.size 7 _) (.inr (fun e=>by have:=(Save.KidsA.lt KOU.out _ e).1;have:=HSZ.out;have:=E5.out.size;omega)) (fun b hb _=>⟨fun e=>by injection e with e;have hb:b<M∨w5.heap.size<=b:=hb;have:=HSZ.out;have:=E5.out.size;have:=HMM.out;omega,hb⟩)
               case measure=>have:=HGI.out;simp [intOf];omega)
    · obtain rfl:i=ms.length:=by omega
      have e1:(ms.map mod3).take ms.length=ms.map mod3:=List.take_of_length_le (by simp);have hk:=KO.out;have hl:(ms.map mod3).length=ms.length:=by simp
      rw [e1,<-hl] at hk;have IL:Hid (IsV wr (fun b=>b<M∨w5.heap.size<=b) (mkR 5 none 0 0 va' ms.length vc') (listOf (ms.map mod3))):=by
        rw [<-hl];exact obj_row (ks:=[]) (ka:=none) (kc:=0) 5 hk (fun b hb=>by rcases hb with hb | hb;exact hb;exact .inr hb) (.inl rfl)
      obtain ⟨zr,hzr⟩:∃ z,mkR 5 none 0 0 va' ms.length vc'=z:=⟨_,rfl⟩;rw [hzr] at IL VO;obtain ⟨C,hC⟩:∃ C:Nat->Prop,(fun b=>b≠w2.heap.size)=C:=⟨_,rfl⟩;have HC:Hid (∀ k,C k->k≠w2.heap.size):=by rw [<-hC];exact fun _ h=>h
      have HML:Hid (∀ b,b<M->C b):=by rw [<-hC];exact fun b hb=>by show b≠_;have:=HSZ.out;have:=HMM.out;omega
      have IL:Hid (IsV wr C zr (listOf (ms.map mod3))):=k6w IL fun b hb=>by
        rcases hb with hb | hb
        · exact HML.out b hb
        · rw [<-hC];show b≠_;have:=HSZ.out;have:=E5.out.size;omega
      have HA:Hid (∀ b,wr.heap.size<=b->C b):=by rw [<-hC];exact fun b hb=>by show b≠_;have:=HSZ.out;have:=E5.out.size;omega
      have VVR:=Hid.out (p:=Hid _) ((GO.out.block _ (heap_lt V25.out) (fun e=>by injection e with e;have:=HSZ.out;omega)).trans V25.out);have VZR:=Hid.out (p:=Hid _) ((GO.out.block _ (heap_lt V35.out) (fun e=>by injection e with e;have:=HSZ.out;omega)).trans V35.out);have HS16:Hid (∀ W,Below wr.heap.size wr W->W.heap[w.heap.size]?=some (.cells ra.arr 29 (0,0))/\W.heap[w3.heap.size]?=some (.cells zr.arr 29 (0,0))):=fun W hW=>⟨(hW.block _ (heap_lt VVR.out)).trans VVR.out,(hW.block _ (heap_lt VO.out)).trans VO.out⟩;have HZW:Hid (∀ W,Below wr.heap.size wr W->Hid (W.heap[w2.heap.size]?=some (.cells Raw.zero.arr 29 (0,0)))):=fun W hW=>(hW.block _ (heap_lt VZR.out)).trans VZR.out;have HOW:Hid (∀ W x,Below wr.heap.size wr W->Calls Tryz.prog 26 #[.agg #[.int .i64 ra.kind,.bool ra.is,.bool ra.neg,.string ra.dig,.int .i64 ra.exp,.string ra.str,.slice ra.ka ra.kn ra.kc,.slice ra.va ra.vn ra.vc],.string x] W (OfP t x (fun b=>b<M) W)):=fun W x hW=>HOF.out W x (BR.out.trans (hW.mono BR.out.size));have HN:Hid (w.heap.size≠w2.heap.size/\w3.heap.size≠w2.heap.size):=⟨by have:=HSZ.out;omega,by have:=HSZ.out;omega⟩;clear e1 hk hl hzr hC KO GO VO;go_wp2_with fail
      refine wp_region_held_drew (S:=(fun W=>W.heap[w.heap.size]?=some (.cells ra.arr 29 (0,0))/\W.heap[w3.heap.size]?=some (.cells zr.arr 29 (0,0)))) (by kernel_rfl) ?_ (fun hHeld=>?_)
      · exact HS16.out _ (Below.refl _ _).drew
      obtain ⟨wd,hwd⟩:∃ x,wr.drew=x:=⟨_,rfl⟩;have D:Hid (Below wr.heap.size wr wd):=by rw [<-hwd];exact (Below.refl _ _).drew
      rw [hwd] at hHeld ⊢;clear hwd;have DA:=D;replace IL:=kp IL D
      repeat' first
        | (refine tkT 2 (v:=.agg #[.int .i64 ra.kind,.bool ra.is,.bool ra.neg,.string ra.dig,.int .i64 ra.exp,.string ra.str,.slice ra.ka ra.kn ra.kc,.slice ra.va ra.vn ra.vc]) (by decide +kernel) ?_ (hy:=by (intro w hs;obtain ⟨⟨e0,e1,e2,e3,e4,e5,e6,e7⟩,_⟩:=val_cells hs.1;clear hs;go_simp <;> with_reducible rfl)))
        | (refine tkT 4 (v:=.agg #[.int .i64 ra.kind,.bool ra.is,.bool ra.neg,.string ra.dig,.int .i64 ra.exp,.string ra.str,.slice ra.ka ra.kn ra.kc,.slice ra.va ra.vn ra.vc]) (by decide +kernel) ?_ (hy:=by (intro w hs;obtain ⟨⟨e0,e1,e2,e3,e4,e5,e6,e7⟩,_⟩:=val_cells hs.1;clear hs;go_simp <;> with_reducible rfl)))
        | (refine tkT 6 (v:=.agg #[.int .i64 zr.kind,.bool zr.is,.bool zr.neg,.string zr.dig,.int .i64 zr.exp,.string zr.str,.slice zr.ka zr.kn zr.kc,.slice zr.va zr.vn zr.vc]) (by decide +kernel) ?_ (hy:=by (intro w hs;obtain ⟨⟨e0,e1,e2,e3,e4,e5,e6,e7⟩,_⟩:=val_cells hs.2;clear hs;go_simp <;> with_reducible rfl)))
        | (refine tkT 8 (by decide +kernel) ?_)
        | (refine rdT [0,1] (by decide +kernel) (by simp) ?_;try simp only [nz])
        | (refine rdT [1] (by decide +kernel) (by simp) ?_;try simp only [nz])
        | (refine rdT [3] (by decide +kernel) (by simp) ?_;try simp only [nz])
        | (refine rdT [5] (by decide +kernel) (by simp) ?_;try simp only [nz])
        | (refine rdT [7] (by decide +kernel) (by simp) ?_;try simp only [nz])
        | (refine rdT [9] (by decide +kernel) (by simp) ?_;try simp only [nz])
        | (refine rdT [0,3] (by decide +kernel) (by simp) ?_;try simp only [nz])
        | (refine rdT [0,5] (by decide +kernel) (by simp) ?_;try simp only [nz])
        | (refine rdT [0,7] (by decide +kernel) (by simp) ?_;try simp only [nz])
        | (refine rdT [0] (by decide +kernel) (by simp) ?_;try simp only [nz])
        | exact AllReadyH.nil
        | refine consT ?_ ?_
        | (refine (⟨fun K hK=>?_⟩:Tag 0 _)
           obtain ⟨q,hq,KT,E⟩:=wof D (dfour_new · kVer kSer kLin kMod);unfold kVer kSer kLin kMod at hq
           try simp only [nz]
           go_simp
           have MKT:=Hid.out (p:=Hid _) (upn HA DA _ (Nat.le_refl _));have VKT:=tblk hq;clear hq;replace D:=bel D E;(try replace DA:=bel DA E);(try replace IL:=kp IL E);(try replace I1:=kp I1 E);(try replace I2:=kp I2 E);(try replace I3:=kp I3 E);(try replace VX:=hst VX E);(try replace VKT:=hst VKT E);(try replace KT:=ktx KT E);clear hHeld;refine hK.out _ _ ?_ (fun hHeld=>?_)
           · exact HS16.out _ D.out
           clear hK K
           try simp only [nz])
        | (refine (⟨fun K hK=>?_⟩:Tag 1 _)
           try simp only [nz]
           go_simp
           go_at_call 15;refine (Calls.mono (rnum_any 3 (by decide) C _) ?_)
           rintro z q hz;obtain ⟨z1,rfl,I1,E⟩:=hz.to;clear hz;unfold Raw.val;replace D:=bel D E;(try replace DA:=bel DA E);(try replace IL:=kp IL E);(try replace I1:=kp I1 E);(try replace I2:=kp I2 E);(try replace I3:=kp I3 E);(try replace VX:=hst VX E);(try replace VKT:=hst VKT E);(try replace KT:=ktx KT E);clear hHeld;refine hK.out _ _ ?_ (fun hHeld=>?_)
           · exact HS16.out _ D.out
           clear hK K
           try simp only [nz])
        | (refine (⟨fun K hK=>?_⟩:Tag 3 _)
           try simp only [nz]
           have HC:=HOW.out _ kSer D.out;unfold kSer at HC
           go_simp
           go_at_call 26;refine (Calls.mono HC ?_)
           rintro z q hz;obtain ⟨z2,rfl,I2,E⟩:=hz.to;clear hz HC;unfold Raw.val;replace D:=bel D E;(try replace DA:=bel DA E);(try replace IL:=kp IL E);(try replace I1:=kp I1 E);(try replace I2:=kp I2 E);(try replace I3:=kp I3 E);(try replace VX:=hst VX E);(try replace VKT:=hst VKT E);(try replace KT:=ktx KT E);clear hHeld;refine hK.out _ _ ?_ (fun hHeld=>?_)
           · exact HS16.out _ D.out
           clear hK K
           try simp only [nz])
        | (refine (⟨fun K hK=>?_⟩:Tag 5 _)
           try simp only [nz]
           have HC:=HOW.out _ kLin D.out;unfold kLin at HC
           go_simp
           go_at_call 26;refine (Calls.mono HC ?_)
           rintro z q hz;obtain ⟨z3,rfl,I3,E⟩:=hz.to;clear hz HC;unfold Raw.val;replace D:=bel D E;(try replace DA:=bel DA E);(try replace IL:=kp IL E);(try replace I1:=kp I1 E);(try replace I2:=kp I2 E);(try replace I3:=kp I3 E);(try replace VX:=hst VX E);(try replace VKT:=hst VKT E);(try replace KT:=ktx KT E);clear hHeld;refine hK.out _ _ ?_ (fun hHeld=>?_)
           · exact HS16.out _ D.out
           clear hK K
           try simp only [nz])
        | (refine (⟨fun K hK=>?_⟩:Tag 7 _)
           obtain ⟨q,hq,VX,E⟩:=wof D (kid4 · z1 z2 z3 zr)
           try simp only [nz]
           go_simp
           have MVX:=Hid.out (p:=Hid _) (upn HA DA _ (Nat.le_refl _));clear hq;replace D:=bel D E;(try replace DA:=bel DA E);(try replace IL:=kp IL E);(try replace I1:=kp I1 E);(try replace I2:=kp I2 E);(try replace I3:=kp I3 E);(try replace VX:=hst VX E);(try replace VKT:=hst VKT E);(try replace KT:=ktx KT E);clear hHeld;refine hK.out _ _ ?_ (fun hHeld=>?_)
           · exact HS16.out _ D.out
           clear hK K
           try simp only [nz])
        | (refine (⟨fun K hK=>?_⟩:Tag 9 _)
           have ZR:=HZW.out _ D.out;have OBJ:=Hid.out (p:=Hid _) (obj_is [(z1,numV 3),(z2,got t kSer),(z3,got t kLin),(zr,listOf (ms.map mod3))] KT VX MKT.out MVX.out (vem4 I1 (k6w I2 (fun b hb=>HML.out b hb)) (k6w I3 (fun b hb=>HML.out b hb)) IL) 4 4 rfl rfl);obtain ⟨⟨v0,v1,v2,v3,v4,v5,v6,v7⟩,y0,y1,y2,y3,y4,y5,y6,y7⟩:=val_cells ZR.out
           try simp only [nz]
           go_simp
           clear v0 v1 v2 v3 v4 v5 v6 v7 y0 y1 y2 y3 y4 y5 y6 y7;have HKE:=HS16.out _ D.out;clear hHeld;refine hK.out _ _ ?_ (fun hHeld=>?_)
           · exact keep8 HKE (hd HN.out.1) (hd HN.out.2) _ _ _ _ _ _ _ _
           clear hK K
           try simp only [nz])
        | (refine dnT (by decide +kernel) ?_
           clear hHeld;go_wp2_with fail
           refine val_ret (a:=objR _ 4 4 _ 4 4) (b:=w2.heap.size) rfl (set8 ZR.out (objR _ 4 4 _ 4 4)) rfl ?_;exact ⟨_,rfl,by rw [HUP.out];exact dn OBJ HC.out _ _ _ _ _ _ _ _,below8 (bel BR D).out (by have:=HSZ.out;omega) _ _ _ _ _ _ _ _⟩)
end Go.Proofs.YtliekocamnklfaaGreatDoor.One
