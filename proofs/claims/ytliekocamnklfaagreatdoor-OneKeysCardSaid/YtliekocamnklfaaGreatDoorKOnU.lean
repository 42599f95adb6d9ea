/- one.Up. (Written by gen/onu.py.) -/
import Derived.Test.YtliekocamnklfaaGreatDoorKOnE
import Derived.Test.YtliekocamnklfaaGreatDoorKSvD
set_option linter.unusedVariables false
set_option linter.unusedSimpArgs false
set_option maxRecDepth 100000
set_option maxHeartbeats 16000000
namespace Go.Proofs.YtliekocamnklfaaGreatDoor.One
open Go.RowKit Strs Jdec Save Go.Proofs.YtliekocamnklfaaGreatDoor.Addr
theorem upn {w c:World} {A:Nat->Prop} (h:Hid (∀ b,w.heap.size<=b->A b)) (e:Hid (Below w.heap.size w c)):∀ b,c.heap.size<=b->A b:=fun b hb=>h.out b (Nat.le_trans e.out.size hb)
theorem km {w:World} {A:Nat->Prop} {b:Nat} {o:Obj} (h:Hid (A b)) (v:Hid (w.heap[b]?=some o)):Hid (A b/\b≠w.heap.size):=⟨h.out,by have:=heap_lt v.out;omega⟩
theorem kw {w c c':World} {A:Nat->Prop} (h:Hid (∀ b,w.heap.size<=b->A b)) (d:Hid (Below w.heap.size w c)) (hl:c.heap.size<c'.heap.size):Hid (∀ b,c'.heap.size<=b->A b/\b≠c.heap.size):=fun b hb=>⟨h.out b (by have:=d.out.size;omega),by omega⟩
theorem fdk {w w':World} {b:Nat} {F:List Fd} (h:Hid (FdsAt w b F)) (hb:Hid (b<w.heap.size)) (e:Hid (Below w.heap.size w w')):Hid (FdsAt w' b F):=fun i hi=>⟨(World.cell?_of_block (e.out.block b hb.out)).trans (h.out i hi).1,fun j u hu=>(World.cell?_of_block (e.out.block b hb.out)).trans ((h.out i hi).2 j u hu)⟩
theorem ltk {w w':World} {b:Nat} (h:Hid (b<w.heap.size)) (e:Hid (Below w.heap.size w w')):Hid (b<w'.heap.size):=Nat.lt_of_lt_of_le h.out e.out.size
theorem mem2 {w:World} {A:Nat->Prop} {k1 k2:ByteArray} {r1 r2:Raw} {t1 t2:JV} (h1:Hid (IsV w A r1 t1)) (h2:Hid (IsV w A r2 t2)):∀ x∈([(k1,r1,t1),(k2,r2,t2)]:List Fd),IsV w A x.2.1 x.2.2:=fun x hx=>by
  simp only [List.mem_cons,List.mem_nil_iff,or_false] at hx
  rcases hx with rfl | rfl
  · exact h1.out
  · exact h2.out
theorem mem4 {w:World} {A:Nat->Prop} {k1 k2 k3 k4:ByteArray} {r1 r2 r3 r4:Raw} {t1 t2 t3 t4:JV} (h1:Hid (IsV w A r1 t1)) (h2:Hid (IsV w A r2 t2)) (h3:Hid (IsV w A r3 t3)) (h4:Hid (IsV w A r4 t4)):∀ x∈([(k1,r1,t1),(k2,r2,t2),(k3,r3,t3),(k4,r4,t4)]:List Fd),IsV w A x.2.1 x.2.2:=fun x hx=>by
  simp only [List.mem_cons,List.mem_nil_iff,or_false] at hx
  rcases hx with rfl | rfl | rfl | rfl
  · exact h1.out
  · exact h2.out
  · exact h3.out
  · exact h4.out
theorem dn2 {w:World} {A:Nat->Prop} {z:Raw} {t:JV} {b:Nat} (h:Hid (IsV w (fun k=>A k/\k≠b) z t)) (x0 x1 x2 x3 x4 x5 x6 x7:Value):IsV ((((((((w.setCell ⟨b,0,none⟩ x0).setCell ⟨b,1,none⟩ x1).setCell ⟨b,2,none⟩ x2).setCell ⟨b,3,none⟩ x3).setCell ⟨b,4,none⟩ x4).setCell ⟨b,5,none⟩ x5).setCell ⟨b,6,none⟩ x6).setCell ⟨b,7,none⟩ x7) A z t:=
  h.out.turn ⟨(gb8 _ _ _ _ _ _ _ _ _ _).size,fun k hk hl=>⟨(gb8 _ _ _ _ _ _ _ _ _ _).block _ hl (fun e=>by injection e with e;exact hk.2 e),hk.1⟩⟩
theorem keep8 {w:World} {b b1 b2:Nat} {o1 o2:Obj} (h:w.heap[b1]?=some o1/\w.heap[b2]?=some o2) (n1:Hid (b1≠b)) (n2:Hid (b2≠b)) (x0 x1 x2 x3 x4 x5 x6 x7:Value):((((((((w.setCell ⟨b,0,none⟩ x0).setCell ⟨b,1,none⟩ x1).setCell ⟨b,2,none⟩ x2).setCell ⟨b,3,none⟩ x3).setCell ⟨b,4,none⟩ x4).setCell ⟨b,5,none⟩ x5).setCell ⟨b,6,none⟩ x6).setCell ⟨b,7,none⟩ x7).heap[b1]?=some o1/\((((((((w.setCell ⟨b,0,none⟩ x0).setCell ⟨b,1,none⟩ x1).setCell ⟨b,2,none⟩ x2).setCell ⟨b,3,none⟩ x3).setCell ⟨b,4,none⟩ x4).setCell ⟨b,5,none⟩ x5).setCell ⟨b,6,none⟩ x6).setCell ⟨b,7,none⟩ x7).heap[b2]?=some o2:=
  have g:=gb8 w b x0 x1 x2 x3 x4 x5 x6 x7
  ⟨(g.block _ (heap_lt h.1) (fun e=>by injection e with e;exact n1.out e)).trans h.1,(g.block _ (heap_lt h.2) (fun e=>by injection e with e;exact n2.out e)).trans h.2⟩
theorem ltn {w q:World} {cs:Array Value} {T:TypeId} (h:w.alloc (.cells cs T)=q):Hid (w.heap.size<q.heap.size):=by rw [<-h];simp [Hid]
theorem altn {w q:World} {cs:Array Value} {T:TypeId} (h:w.alloc (.cells cs T)=q):w.heap.size<q.heap.size:=by rw [<-h];simp
theorem hid_refl (w:World):Hid (Below w.heap.size w w):=Below.refl _ _
theorem vtextA (s:ByteArray) {A:Nat->Prop} {w:World} (h:∀ b,w.heap.size<=b->A b):Calls Tryz.prog 46 #[.string s] w (ValP (strV s) A w):=vtext s A w
theorem vnumA (n:Nat) (hn:n<18446744073709551616) {A:Nat->Prop} {w:World} (h:∀ b,w.heap.size<=b->A b) (T:Jdec.Pow10 w):Calls Tryz.prog 48 #[.int .u64 n] w (ValP (numV n) A w):=vnum n hn A w T
def UpP (t:JV) (e0:Int) (w:World) (e:Ending) (w':World):Prop:=∃ rr:Raw,e=.returned (.tuple #[rr.val,.int .i64 e0])/\IsV w' (fun _=>True) rr t/\Below w.heap.size w w'
theorem UpP.to {t:JV} {e0:Int} {w w':World} {e:Ending} (h:UpP t e0 w e w'):∃ rr:Raw,e=.returned (.tuple #[rr.val,.int .i64 e0])/\Hid (IsV w' (fun _=>True) rr t)/\Hid (Below w.heap.size w w'):=h
theorem oup_no (t:JV) (hq:¬ OneQ t) (hf:Fine t) (hm:t.mass<=3000) (ra:Raw) (A:Nat->Prop) (w:World) (hi:IsV w A ra t) (T:TabsP w):Calls Tryz.prog 16 #[ra.val] w (UpP .zero 10 w):=by
  obtain ⟨w2,hw2,V2,B2⟩:=own8 w ra;obtain ⟨w3,hw3,V3,B3⟩:=own8 w2 Raw.zero;have V23:=hst V2 B3;have B03:=bel B2 B3;have HR:=Hid.out (p:=Hid _) (one_right t hf hm ra A w3 (hi.behind B03.out) (T.stays B03.out));have HQ:=Hid.out (p:=Hid _) hq;have HS:=Hid.out (p:=Hid _) B2.out.size;clear hq hf hm hi T
  dsimp only [Raw.zero] at hw3
  unfold Raw.val at HR;obtain ⟨⟨x0,x1,x2,x3,x4,x5,x6,x7⟩,_⟩:=val_cells V23.out;unfold Raw.val;go_enter Tryz.func16,Tryz.ntmps16
  go_wp2_with fail
  refine (Calls.mono HR.out ?_);rintro z w4 ⟨b,rfl,hb,hb4⟩;obtain rfl:false=b:=by
    cases b with
    | false=>rfl
    | true=>exact absurd (hb.1 rfl) HQ.out
  have E4:=Hid.out (p:=Hid _) hb4;have V4:=hst V3 E4;have B04:=bel B03 E4;clear hb hb4 x0 x1 x2 x3 x4 x5 x6 x7 hw2 hw3;obtain ⟨⟨r0,r1,r2,r3,r4,r5,r6,r7⟩,g0,g1,g2,g3,g4,g5,g6,g7⟩:=val_cells V4.out;go_wp2_with fail
  refine fin2 (a:=Raw.zero) (b:=w2.heap.size) rfl (set8 V4.out Raw.zero) rfl ?_;exact ⟨Raw.zero,rfl,zero_is _ _,below8 B04.out HS.out _ _ _ _ _ _ _ _⟩
theorem oup_yes (t:JV) (hq:OneQ t) (hf:Fine t) (hm:t.mass<=3000) (ra:Raw) (A:Nat->Prop) (w:World) (hi:IsV w A ra t) (T:TabsP w):Calls Tryz.prog 16 #[ra.val] w (UpP (upJ t) 0 w):=by
  obtain ⟨w2,hw2,V2,B2⟩:=own8 w ra;obtain ⟨w3,hw3,V3,B3⟩:=own8 w2 Raw.zero;have V23:=hst V2 B3;have B03:=bel B2 B3;have HR:=Hid.out (p:=Hid _) (one_right t hf hm ra A w3 (hi.behind B03.out) (T.stays B03.out));have HQ:=Hid.out (p:=Hid _) hq;have HS:=Hid.out (p:=Hid _) B2.out.size;have HPT:=Hid.out (p:=Hid _) (one_parts hq.2);have HG:Hid (∀ (w':World) (x:ByteArray),Below w.heap.size w w'->Calls Tryz.prog 43 #[ra.val,.string x] w' (GetP t x (fun b=>w'.heap.size<=b) w')):=fun w' x hb=>tget_is t hq.1.1 hm ra A w' (hi.behind hb) x;have GS:Hid (GoodQ (got t kSer)/\(got t kSer).mass<=3000):=⟨got_good hq.1.1 (HPT.out.1 kSer (by simp)),by have:=got_mass t kSer;omega⟩;have GR:Hid (GoodQ (got t kRes)/\(got t kRes).mass<=3000):=⟨got_good hq.1.1 (HPT.out.1 kRes (by simp)),by have:=got_mass t kRes;omega⟩;have HP10:Hid (∀ w',Below w.heap.size w w'->Jdec.Pow10 w'):=fun w' h=>(T.stays h).p;obtain ⟨ts,hts⟩:∃ x,got t kSer=x:=⟨_,rfl⟩;obtain ⟨tr,htr⟩:∃ x,got t kRes=x:=⟨_,rfl⟩;have HTS:=Hid.out (p:=Hid _) hts;have HTR:=Hid.out (p:=Hid _) htr;rw [hts] at GS;rw [htr] at GR;have HUP:Hid (upJ t=objectOf [kVer,kSer,kLin,kMod] [numV 2,ts,strV ⟨#[]⟩,listOf [objectOf [kPath,kRes] [listOf [strV kRoot],tr]]]):=by rw [Hid,upJ,rootV,hts,htr]
  have HLS:Hid ((look t kSer).isSome=true):=HPT.out.1 kSer (by simp);have HLR:Hid ((look t kRes).isSome=true):=HPT.out.1 kRes (by simp);clear hq hf hm hi T hts htr HPT
  dsimp only [Raw.zero] at hw3
  unfold Raw.val at HR HG ⊢;obtain ⟨⟨x0,x1,x2,x3,x4,x5,x6,x7⟩,_⟩:=val_cells V23.out;go_enter Tryz.func16,Tryz.ntmps16
  go_wp2_with fail
  refine (Calls.mono HR.out ?_);rintro z w4 ⟨b,rfl,hb,hb4⟩;obtain rfl:true=b:=(hb.2 HQ.out).symm;have E4:=Hid.out (p:=Hid _) hb4;have B04:=bel B03 E4;have V24:=hst V23 E4;have V34:=hst V3 E4;have C1:=Hid.out (p:=Hid _) (HG.out w4 kSer B04.out);clear hb hb4 x0 x1 x2 x3 x4 x5 x6 x7 hw2 hw3;obtain ⟨⟨x0,x1,x2,x3,x4,x5,x6,x7⟩,_⟩:=val_cells V24.out;unfold kSer at C1;go_wp2_with fail
  refine (Calls.mono C1.out ?_);rintro z w5 hz;obtain ⟨zs,rfl,hzs,E5⟩:=hz.to;obtain ⟨w6,hw6,V6,E6⟩:=own8 w5 zs;have B06:=bel (bel B04 E5) E6;have V26:=hst (hst V24 E5) E6;have V36:=hst (hst V34 E5) E6;have C2:=Hid.out (p:=Hid _) (HG.out w6 kRes B06.out);rw [show (look t ⟨#[115,101,114,105,97,108]⟩).isSome=true from HLS.out];clear hz x0 x1 x2 x3 x4 x5 x6 x7 C1;obtain ⟨⟨x0,x1,x2,x3,x4,x5,x6,x7⟩,_⟩:=val_cells V26.out;unfold kRes at C2;unfold Raw.val;go_wp2_with fail
  refine (Calls.mono C2.out ?_);rintro z w7 hz;obtain ⟨zr,rfl,hzr,E7⟩:=hz.to;obtain ⟨w8,hw8,V8,E8⟩:=own8 w7 zr;have B08:=bel (bel B06 E7) E8;have V38:=hst (hst V36 E7) E8;have V68:=hst (hst V6 E7) E8;rw [show (look t ⟨#[114,101,115,111,117,114,99,101,115]⟩).isSome=true from HLR.out];have hl3:=heap_lt V34.out;have hl6:w4.heap.size<=w6.heap.size:=(bel E5 E6).out.size;have hzs:IsV w5 (fun b=>w4.heap.size<=b) zs ts:=by rw [<-HTS.out];exact hzs.out
  have hzr:IsV w7 (fun b=>w6.heap.size<=b) zr tr:=by rw [<-HTR.out];exact hzr.out
  obtain ⟨C,hC⟩:∃ C:Nat->Prop,(fun b=>b≠w2.heap.size)=C:=⟨_,rfl⟩;have HC:Hid (∀ k,C k->k≠w2.heap.size):=by rw [<-hC];exact fun _ h=>h
  have HA:Hid (∀ b,w8.heap.size<=b->C b):=by rw [<-hC];exact fun b h=>by show b≠_;have:=heap_lt V38.out;omega
  have HIS:Hid (∀ W,Below w8.heap.size w8 W->IsV W C zs ts):=by
    rw [<-hC];exact fun W hW=>(((hzs.turn (Turn.mono _ fun b hb _=>by show b≠_;omega)).behind E6.out).behind E7.out |>.behind E8.out).behind hW
  have HIR:Hid (∀ W,Below w8.heap.size w8 W->IsV W C zr tr):=by
    rw [<-hC];exact fun W hW=>((hzr.turn (Turn.mono _ fun b hb _=>by show b≠_;omega)).behind E8.out).behind hW
  have HS5:Hid (∀ W,Below w8.heap.size w8 W->W.heap[w7.heap.size]?=some (.cells zr.arr 29 (0,0))):=fun W hW=>(hW.block _ (heap_lt V8.out)).trans V8.out;have HP8:Hid (∀ W,Below w8.heap.size w8 W->Jdec.Pow10 W):=fun W hW=>HP10.out W (B08.out.trans (hW.mono B08.out.size));clear hz x0 x1 x2 x3 x4 x5 x6 x7 C2 hC hzs hzr hl3 hl6 HG;unfold Raw.val
  go_upto_region 5 with (fail)
  go_cut [8] from 8 (fun p8 wx=>∃ (b8:Nat) (z8:Raw),p8=.pointer (some ⟨b8,0,none⟩)/\Hid (w8.heap.size<=b8)/\Hid (Below w8.heap.size w8 wx)/\Hid (wx.heap[b8]?=some (.cells z8.arr 29 (0,0)))/\Hid (IsV wx C z8 (objectOf [kPath,kRes] [listOf [strV kRoot],tr])))
  case first=>
    refine wp_region_held_drew (S:=(fun W=>W.heap[w7.heap.size]?=some (.cells zr.arr 29 (0,0)))) (by kernel_rfl) ?_ (fun hHeld=>?_)
    · exact HS5.out _ (Below.refl _ _).drew
    obtain ⟨wd,hwd⟩:∃ x,w8.drew=x:=⟨_,rfl⟩;have D:Hid (Below w8.heap.size w8 wd):=by rw [<-hwd];exact (Below.refl _ _).drew
    rw [hwd] at hHeld ⊢;clear hwd;have DA:=D
    repeat' first
      | (refine tkT 4 (v:=.agg #[.int .i64 zr.kind,.bool zr.is,.bool zr.neg,.string zr.dig,.int .i64 zr.exp,.string zr.str,.slice zr.ka zr.kn zr.kc,.slice zr.va zr.vn zr.vc]) (by decide +kernel) ?_ (hy:=by (intro w hs;obtain ⟨⟨e0,e1,e2,e3,e4,e5,e6,e7⟩,_⟩:=val_cells hs;clear hs;go_simp <;> with_reducible rfl)))
      | (refine tkT 3 (by decide +kernel) ?_)
      | (refine tkT 6 (by decide +kernel) ?_)
      | (refine rdT [0,9] (by decide +kernel) (by simp) ?_;try simp only [nz])
      | (refine rdT [1,9] (by decide +kernel) (by simp) ?_;try simp only [nz])
      | (refine rdT [2,9] (by decide +kernel) (by simp) ?_;try simp only [nz])
      | (refine rdT [5,9] (by decide +kernel) (by simp) ?_;try simp only [nz])
      | (refine rdT [7,9] (by decide +kernel) (by simp) ?_;try simp only [nz])
      | (refine rdT [8,9] (by decide +kernel) (by simp) ?_;try simp only [nz])
      | (refine rdT [9] (by decide +kernel) (by simp) ?_;try simp only [nz])
      | (refine rdT [10] (by decide +kernel) (by simp) ?_;try simp only [nz])
      | (refine rdT [8] (by decide +kernel) (by simp) ?_;try simp only [nz])
      | (refine rdT [7] (by decide +kernel) (by simp) ?_;try simp only [nz])
      | (refine rdT [5] (by decide +kernel) (by simp) ?_;try simp only [nz])
      | (refine rdT [2] (by decide +kernel) (by simp) ?_;try simp only [nz])
      | (refine rdT [1] (by decide +kernel) (by simp) ?_;try simp only [nz])
      | (refine rdT [0] (by decide +kernel) (by simp) ?_;try simp only [nz])
      | exact AllReadyH.nil
      | refine consT ?_ ?_
      | (refine (⟨fun K hK=>?_⟩:Tag 0 _)
         try simp only [nz]
         go_simp
         go_at_call 46;refine (Calls.mono (vtextA _ (upn HA DA)) ?_)
         rintro z q hz;obtain ⟨z1,rfl,I1,E⟩:=hz.to;clear hz;unfold Raw.val;replace D:=bel D E;(try replace DA:=bel DA E);(try replace I1:=kp I1 E);(try replace I2:=kp I2 E);(try replace I3:=kp I3 E);(try replace I4:=kp I4 E);(try replace VL:=hst VL E);(try replace MVL:=fdk MVL L E);(try replace VZ:=hst VZ E);(try replace XF:=fdk XF LXF E);(try replace LXF:=ltk LXF E);clear hHeld;refine hK.out _ _ ?_ (fun hHeld=>?_)
         · exact HS5.out _ D.out
         clear hK K
         try simp only [nz])
      | (refine (⟨fun K hK=>?_⟩:Tag 1 _)
         obtain ⟨q,hq,VL,E⟩:=wof D (kid1 · z1)
         try simp only [nz]
         go_simp
         have MVL:=Hid.out (p:=Hid _) (upn HA DA _ (Nat.le_refl _));clear hq;replace D:=bel D E;(try replace DA:=bel DA E);(try replace I1:=kp I1 E);(try replace I2:=kp I2 E);(try replace I3:=kp I3 E);(try replace I4:=kp I4 E);(try replace VL:=hst VL E);(try replace MVL:=fdk MVL L E);(try replace VZ:=hst VZ E);(try replace XF:=fdk XF LXF E);(try replace LXF:=ltk LXF E);clear hHeld;refine hK.out _ _ ?_ (fun hHeld=>?_)
         · exact HS5.out _ D.out
         clear hK K
         try simp only [nz])
      | (refine (⟨fun K hK=>?_⟩:Tag 2 _)
         try simp only [nz]
         go_simp
         go_at_call 45;refine (Calls.mono (vlist VL I1 MVL.out) ?_)
         rintro z q hz;obtain ⟨z2,rfl,I2,E⟩:=hz.to;clear hz;unfold Raw.val;replace D:=bel D E;(try replace DA:=bel DA E);(try replace I1:=kp I1 E);(try replace I2:=kp I2 E);(try replace I3:=kp I3 E);(try replace I4:=kp I4 E);(try replace VL:=hst VL E);(try replace MVL:=fdk MVL L E);(try replace VZ:=hst VZ E);(try replace XF:=fdk XF LXF E);(try replace LXF:=ltk LXF E);clear hHeld;refine hK.out _ _ ?_ (fun hHeld=>?_)
         · exact HS5.out _ D.out
         clear hK K
         try simp only [nz])
      | (refine (⟨fun K hK=>?_⟩:Tag 5 _)
         try simp only [nz]
         go_simp
         go_at_call 47;refine (Calls.mono (vcopy GR.out.1 GR.out.2 (Hid.out (p:=Hid _) (HIR.out _ D.out)) (upn HA DA)) ?_)
         rintro z q hz;obtain ⟨z3,rfl,I3,E⟩:=hz.to;clear hz;unfold Raw.val;replace D:=bel D E;(try replace DA:=bel DA E);(try replace I1:=kp I1 E);(try replace I2:=kp I2 E);(try replace I3:=kp I3 E);(try replace I4:=kp I4 E);(try replace VL:=hst VL E);(try replace MVL:=fdk MVL L E);(try replace VZ:=hst VZ E);(try replace XF:=fdk XF LXF E);(try replace LXF:=ltk LXF E);clear hHeld;refine hK.out _ _ ?_ (fun hHeld=>?_)
         · exact HS5.out _ D.out
         clear hK K
         try simp only [nz])
      | (refine (⟨fun K hK=>?_⟩:Tag 7 _)
         obtain ⟨q,hq,XF,E⟩:=wof D (fds2 · kPath kRes z2 z3 (listOf [strV kRoot]) tr);unfold kPath kRes at hq
         try simp only [nz]
         go_simp
         have LXF:=ltn hq;clear hq;replace D:=bel D E;(try replace DA:=bel DA E);(try replace I1:=kp I1 E);(try replace I2:=kp I2 E);(try replace I3:=kp I3 E);(try replace I4:=kp I4 E);(try replace VL:=hst VL E);(try replace MVL:=fdk MVL L E);(try replace VZ:=hst VZ E);(try replace XF:=fdk XF LXF E);(try replace LXF:=ltk LXF E);clear hHeld;refine hK.out _ _ ?_ (fun hHeld=>?_)
         · exact HS5.out _ D.out
         clear hK K
         try simp only [nz])
      | (refine (⟨fun K hK=>?_⟩:Tag 8 _)
         try simp only [nz]
         go_simp
         go_at_call 44;refine (Calls.mono (object_any [(kPath,z2,listOf [strV kRoot]),(kRes,z3,tr)] _ 2 _ _ (fun _=>LXF.out) XF.out (mem2 I2 I3) (by simp) (upn HA DA) _ (fun _=>rfl)) ?_)
         rintro z q hz;obtain ⟨z4,rfl,I4,E⟩:=hz.to;clear hz;unfold Raw.val;replace D:=bel D E;(try replace DA:=bel DA E);(try replace I1:=kp I1 E);(try replace I2:=kp I2 E);(try replace I3:=kp I3 E);(try replace I4:=kp I4 E);(try replace VL:=hst VL E);(try replace MVL:=fdk MVL L E);(try replace VZ:=hst VZ E);(try replace XF:=fdk XF LXF E);(try replace LXF:=ltk LXF E);clear hHeld;refine hK.out _ _ ?_ (fun hHeld=>?_)
         · exact HS5.out _ D.out
         clear hK K
         try simp only [nz])
      | (refine (⟨fun K hK=>?_⟩:Tag 9 _)
         obtain ⟨q,hq,VZ,E⟩:=wof D (own8 · Raw.zero)
         dsimp only [Raw.zero] at hq
         try simp only [nz]
         go_simp
         have KW:=kw HA DA (altn hq);have HBZ:=Hid.out (p:=Hid _) D.out.size;clear hq;replace D:=bel D E;(try replace MVL:=km MVL VL);(try replace I1:=kn I1 E);(try replace I2:=kn I2 E);(try replace I3:=kn I3 E);(try replace I4:=kn I4 E);(try replace VL:=hst VL E);(try replace VZ:=hst VZ E);(try replace XF:=fdk XF LXF E);(try replace LXF:=ltk LXF E);replace HA:=KW;clear KW DA;have DA:=hid_refl q;clear hHeld;refine hK.out _ _ ?_ (fun hHeld=>?_)
         · exact HS5.out _ D.out
         clear hK K
         try simp only [nz])
      | (refine (⟨fun K hK=>?_⟩:Tag 10 _)
         obtain ⟨⟨v0,v1,v2,v3,v4,v5,v6,v7⟩,y0,y1,y2,y3,y4,y5,y6,y7⟩:=val_cells VZ.out
         try simp only [nz]
         go_simp
         clear v0 v1 v2 v3 v4 v5 v6 v7 y0 y1 y2 y3 y4 y5 y6 y7;have DF:=below8 D.out HBZ.out (.int .i64 z4.kind) (.bool z4.is) (.bool z4.neg) (.string z4.dig) (.int .i64 z4.exp) (.string z4.str) (.slice z4.ka z4.kn z4.kc) (.slice z4.va z4.vn z4.vc);clear hHeld;refine hK.out _ _ ?_ (fun hHeld=>?_)
         · exact HS5.out _ DF
         clear hK K
         try simp only [nz])
      | (refine dnT (by decide +kernel) ?_
         clear hHeld;go_wp2_with fail
         go_meet
         exact ⟨_,z4,rfl,HBZ.out,DF,set8 VZ.out z4,dn2 I4 _ _ _ _ _ _ _ _⟩)
  case rest=>
    obtain ⟨b8,z8,rfl,h8x,hBx,Vx,Ix⟩:=hcut;have HN5:Hid (w5.heap.size≠w2.heap.size):=by have:=heap_lt V34.out;have:=E5.out.size;show _≠_;omega
    have HN8:Hid (b8≠w2.heap.size):=by have:=heap_lt V38.out;have:=h8x.out;show _≠_;omega
    have HIX:Hid (∀ W,Below wc.heap.size wc W->IsV W C z8 (objectOf [kPath,kRes] [listOf [strV kRoot],tr])):=fun W hW=>Ix.out.behind hW;have HS6:Hid (∀ W,Below wc.heap.size wc W->W.heap[w5.heap.size]?=some (.cells zs.arr 29 (0,0))/\W.heap[b8]?=some (.cells z8.arr 29 (0,0))):=fun W hW=>⟨((hBx.out.trans (hW.mono hBx.out.size)).block _ (heap_lt V68.out)).trans V68.out,(hW.block _ (heap_lt Vx.out)).trans Vx.out⟩;have HIS6:Hid (∀ W,Below wc.heap.size wc W->IsV W C zs ts):=fun W hW=>HIS.out W (hBx.out.trans (hW.mono hBx.out.size));have HP6:Hid (∀ W,Below wc.heap.size wc W->Jdec.Pow10 W):=fun W hW=>HP8.out W (hBx.out.trans (hW.mono hBx.out.size));have HZ6:Hid (∀ W,Below wc.heap.size wc W->W.heap[w2.heap.size]?=some (.cells Raw.zero.arr 29 (0,0))):=fun W hW=>((hBx.out.trans (hW.mono hBx.out.size)).block _ (heap_lt V38.out)).trans V38.out;have HA6:Hid (∀ b,wc.heap.size<=b->C b):=fun b hb=>HA.out b (Nat.le_trans hBx.out.size hb);have BX:=bel B08 hBx;go_wp2_with fail
    refine wp_region_held_drew (S:=(fun W=>W.heap[w5.heap.size]?=some (.cells zs.arr 29 (0,0))/\W.heap[b8]?=some (.cells z8.arr 29 (0,0)))) (by kernel_rfl) ?_ (fun hHeld=>?_)
    · exact HS6.out _ (Below.refl _ _).drew
    obtain ⟨wd,hwd⟩:∃ x,wc.drew=x:=⟨_,rfl⟩;have D:Hid (Below wc.heap.size wc wd):=by rw [<-hwd];exact (Below.refl _ _).drew
    rw [hwd] at hHeld ⊢;clear hwd;have DA:=D;have HA:=HA6
    repeat' first
      | (refine tkT 2 (v:=.agg #[.int .i64 zs.kind,.bool zs.is,.bool zs.neg,.string zs.dig,.int .i64 zs.exp,.string zs.str,.slice zs.ka zs.kn zs.kc,.slice zs.va zs.vn zs.vc]) (by decide +kernel) ?_ (hy:=by (intro w hs;obtain ⟨⟨e0,e1,e2,e3,e4,e5,e6,e7⟩,_⟩:=val_cells hs.1;clear hs;go_simp <;> with_reducible rfl)))
      | (refine tkT 7 (v:=.agg #[.int .i64 z8.kind,.bool z8.is,.bool z8.neg,.string z8.dig,.int .i64 z8.exp,.string z8.str,.slice z8.ka z8.kn z8.kc,.slice z8.va z8.vn z8.vc]) (by decide +kernel) ?_ (hy:=by (intro w hs;obtain ⟨⟨e0,e1,e2,e3,e4,e5,e6,e7⟩,_⟩:=val_cells hs.2;clear hs;go_simp <;> with_reducible rfl)))
      | (refine tkT 1 (by decide +kernel) ?_)
      | (refine tkT 4 (by decide +kernel) ?_)
      | (refine tkT 6 (by decide +kernel) ?_)
      | (refine tkT 10 (by decide +kernel) ?_)
      | (refine tkT 14 (by decide +kernel) ?_)
      | (refine rdT [0,8] (by decide +kernel) (by simp) ?_;try simp only [nz])
      | (refine rdT [3,8] (by decide +kernel) (by simp) ?_;try simp only [nz])
      | (refine rdT [5,8] (by decide +kernel) (by simp) ?_;try simp only [nz])
      | (refine rdT [8] (by decide +kernel) (by simp) ?_;try simp only [nz])
      | (refine rdT [9] (by decide +kernel) (by simp) ?_;try simp only [nz])
      | (refine rdT [11] (by decide +kernel) (by simp) ?_;try simp only [nz])
      | (refine rdT [12] (by decide +kernel) (by simp) ?_;try simp only [nz])
      | (refine rdT [13] (by decide +kernel) (by simp) ?_;try simp only [nz])
      | (refine rdT [5] (by decide +kernel) (by simp) ?_;try simp only [nz])
      | (refine rdT [3] (by decide +kernel) (by simp) ?_;try simp only [nz])
      | (refine rdT [0] (by decide +kernel) (by simp) ?_;try simp only [nz])
      | exact AllReadyH.nil
      | refine consT ?_ ?_
      | (refine (⟨fun K hK=>?_⟩:Tag 0 _)
         try simp only [nz]
         go_simp
         go_at_call 48;refine (Calls.mono (vnumA 2 (by decide) (upn HA DA) (HP6.out _ D.out)) ?_)
         rintro z q hz;obtain ⟨z1,rfl,I1,E⟩:=hz.to;clear hz;unfold Raw.val;replace D:=bel D E;(try replace DA:=bel DA E);(try replace I1:=kp I1 E);(try replace I2:=kp I2 E);(try replace I3:=kp I3 E);(try replace I5:=kp I5 E);(try replace I6:=kp I6 E);(try replace VL:=hst VL E);(try replace XF:=fdk XF LXF E);(try replace LXF:=ltk LXF E);clear hHeld;refine hK.out _ _ ?_ (fun hHeld=>?_)
         · exact HS6.out _ D.out
         clear hK K
         try simp only [nz])
      | (refine (⟨fun K hK=>?_⟩:Tag 3 _)
         try simp only [nz]
         go_simp
         go_at_call 47;refine (Calls.mono (vcopy GS.out.1 GS.out.2 (Hid.out (p:=Hid _) (HIS6.out _ D.out)) (upn HA DA)) ?_)
         rintro z q hz;obtain ⟨z2,rfl,I2,E⟩:=hz.to;clear hz;unfold Raw.val;replace D:=bel D E;(try replace DA:=bel DA E);(try replace I1:=kp I1 E);(try replace I2:=kp I2 E);(try replace I3:=kp I3 E);(try replace I5:=kp I5 E);(try replace I6:=kp I6 E);(try replace VL:=hst VL E);(try replace XF:=fdk XF LXF E);(try replace LXF:=ltk LXF E);clear hHeld;refine hK.out _ _ ?_ (fun hHeld=>?_)
         · exact HS6.out _ D.out
         clear hK K
         try simp only [nz])
      | (refine (⟨fun K hK=>?_⟩:Tag 5 _)
         try simp only [nz]
         go_simp
         go_at_call 46;refine (Calls.mono (vtextA _ (upn HA DA)) ?_)
         rintro z q hz;obtain ⟨z3,rfl,I3,E⟩:=hz.to;clear hz;unfold Raw.val;replace D:=bel D E;(try replace DA:=bel DA E);(try replace I1:=kp I1 E);(try replace I2:=kp I2 E);(try replace I3:=kp I3 E);(try replace I5:=kp I5 E);(try replace I6:=kp I6 E);(try replace VL:=hst VL E);(try replace XF:=fdk XF LXF E);(try replace LXF:=ltk LXF E);clear hHeld;refine hK.out _ _ ?_ (fun hHeld=>?_)
         · exact HS6.out _ D.out
         clear hK K
         try simp only [nz])
      | (refine (⟨fun K hK=>?_⟩:Tag 8 _)
         obtain ⟨q,hq,VL,E⟩:=wof D (kid1 · z8)
         try simp only [nz]
         go_simp
         have MVL:=Hid.out (p:=Hid _) (upn HA DA _ (Nat.le_refl _));clear hq;replace D:=bel D E;(try replace DA:=bel DA E);(try replace I1:=kp I1 E);(try replace I2:=kp I2 E);(try replace I3:=kp I3 E);(try replace I5:=kp I5 E);(try replace I6:=kp I6 E);(try replace VL:=hst VL E);(try replace XF:=fdk XF LXF E);(try replace LXF:=ltk LXF E);clear hHeld;refine hK.out _ _ ?_ (fun hHeld=>?_)
         · exact HS6.out _ D.out
         clear hK K
         try simp only [nz])
      | (refine (⟨fun K hK=>?_⟩:Tag 9 _)
         try simp only [nz]
         go_simp
         go_at_call 45;refine (Calls.mono (vlist VL (Hid.out (p:=Hid _) (HIX.out _ D.out)) MVL.out) ?_)
         rintro z q hz;obtain ⟨z5,rfl,I5,E⟩:=hz.to;clear hz;unfold Raw.val;replace D:=bel D E;(try replace DA:=bel DA E);(try replace I1:=kp I1 E);(try replace I2:=kp I2 E);(try replace I3:=kp I3 E);(try replace I5:=kp I5 E);(try replace I6:=kp I6 E);(try replace VL:=hst VL E);(try replace XF:=fdk XF LXF E);(try replace LXF:=ltk LXF E);clear hHeld;refine hK.out _ _ ?_ (fun hHeld=>?_)
         · exact HS6.out _ D.out
         clear hK K
         try simp only [nz])
      | (refine (⟨fun K hK=>?_⟩:Tag 11 _)
         obtain ⟨q,hq,XF,E⟩:=wof D (fds4 · kVer kSer kLin kMod z1 z2 z3 z5 (numV 2) ts (strV ⟨#[]⟩) (listOf [objectOf [kPath,kRes] [listOf [strV kRoot],tr]]));unfold kVer kSer kLin kMod at hq
         try simp only [nz]
         go_simp
         have LXF:=ltn hq;clear hq;replace D:=bel D E;(try replace DA:=bel DA E);(try replace I1:=kp I1 E);(try replace I2:=kp I2 E);(try replace I3:=kp I3 E);(try replace I5:=kp I5 E);(try replace I6:=kp I6 E);(try replace VL:=hst VL E);(try replace XF:=fdk XF LXF E);(try replace LXF:=ltk LXF E);clear hHeld;refine hK.out _ _ ?_ (fun hHeld=>?_)
         · exact HS6.out _ D.out
         clear hK K
         try simp only [nz])
      | (refine (⟨fun K hK=>?_⟩:Tag 12 _)
         try simp only [nz]
         go_simp
         go_at_call 44;refine (Calls.mono (object_any [(kVer,z1,numV 2),(kSer,z2,ts),(kLin,z3,strV ⟨#[]⟩),(kMod,z5,listOf [objectOf [kPath,kRes] [listOf [strV kRoot],tr]])] _ 4 _ _ (fun _=>LXF.out) XF.out (mem4 I1 I2 I3 I5) (by simp) (upn HA DA) _ (fun _=>rfl)) ?_)
         rintro z q hz;obtain ⟨z6,rfl,I6,E⟩:=hz.to;clear hz;unfold Raw.val;replace D:=bel D E;(try replace DA:=bel DA E);(try replace I1:=kp I1 E);(try replace I2:=kp I2 E);(try replace I3:=kp I3 E);(try replace I5:=kp I5 E);(try replace I6:=kp I6 E);(try replace VL:=hst VL E);(try replace XF:=fdk XF LXF E);(try replace LXF:=ltk LXF E);clear hHeld;refine hK.out _ _ ?_ (fun hHeld=>?_)
         · exact HS6.out _ D.out
         clear hK K
         try simp only [nz])
      | (refine (⟨fun K hK=>?_⟩:Tag 13 _)
         have ZR:=Hid.out (p:=Hid _) (HZ6.out _ D.out);obtain ⟨⟨v0,v1,v2,v3,v4,v5,v6,v7⟩,y0,y1,y2,y3,y4,y5,y6,y7⟩:=val_cells ZR.out
         try simp only [nz]
         go_simp
         clear v0 v1 v2 v3 v4 v5 v6 v7 y0 y1 y2 y3 y4 y5 y6 y7;have HKE:=HS6.out _ D.out;clear hHeld;refine hK.out _ _ ?_ (fun hHeld=>?_)
         · exact keep8 HKE HN5 HN8 _ _ _ _ _ _ _ _
         clear hK K
         try simp only [nz])
      | (refine dnT (by decide +kernel) ?_
         clear hHeld;go_wp2_with fail
         refine fin2 (a:=z6) (b:=w2.heap.size) rfl (set8 ZR.out z6) rfl ?_;exact ⟨z6,rfl,by rw [HUP.out];exact dn I6 HC.out _ _ _ _ _ _ _ _,below8 (bel BX D).out HS.out _ _ _ _ _ _ _ _⟩)
end Go.Proofs.YtliekocamnklfaaGreatDoor.One
