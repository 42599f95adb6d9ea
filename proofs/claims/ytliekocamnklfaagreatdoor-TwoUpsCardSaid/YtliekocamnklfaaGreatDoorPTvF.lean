/- two.change: each kid by a function that is handed in. (Written by gen/tvf.py.) -/
import Derived.Test.YtliekocamnklfaaGreatDoorPTvC
import Derived.Test.YtliekocamnklfaaGreatDoorPOnU
import Derived.Test.YtliekocamnklfaaGreatDoorPSvF
set_option linter.unusedVariables false
set_option linter.unusedSimpArgs false
set_option maxRecDepth 100000
set_option maxHeartbeats 16000000
namespace Go.Proofs.YtliekocamnklfaaGreatDoor.One
open Go.RowKit Strs Jdec Save Go.Proofs.YtliekocamnklfaaGreatDoor.Addr
theorem kids_field (r:Raw):∀ w,Sem.run Tryz.prog (Instr.field 29 (.agg #[.int .i64 r.kind,.bool r.is,.bool r.neg,.string r.dig,.int .i64 r.exp,.string r.str,.slice r.ka r.kn r.kc,.slice r.va r.vn r.vc]) 5) w=.ok (.slice r.va r.vn r.vc) w:=fun _=>by kernel_rfl
def changeJ (g:Nat->JV->JV) (t:JV):JV:=.mk (kindOf t) false false ⟨#[]⟩ 0 ⟨#[]⟩ (keysJ t) ((kidsJ t).mapIdx g)
theorem ktn {w w':World} {A:Nat->Prop} {k:Option Addr} {l:List ByteArray} (h:Hid (IsTexts w A k l)) (e:Hid (Below w.heap.size w w')):Hid (IsTexts w' (fun b=>A b/\b≠w.heap.size) k l):=
  h.out.turn ⟨e.out.size,fun b hb hl=>⟨e.out.block b hl,hb,by omega⟩⟩
theorem gr_below {wc c q:World} {row:Option Nat} (G:Hid (wc.grownBy c row)) (e:Hid (Below c.heap.size c q)):Hid (wc.grownBy q row):=
  ⟨e.out.os.trans G.out.os,e.out.tape.trans G.out.tape,e.out.output.trans G.out.output,Nat.le_trans G.out.size e.out.size,fun k hk hne=>(e.out.block k (Nat.lt_of_lt_of_le hk G.out.size)).trans (G.out.block k hk hne)⟩
theorem gr_own {wc c q:World} {row r2:Option Nat} (G:Hid (wc.grownBy c row)) (e:c.grownBy q r2) (h:∀ k,r2=some k->wc.heap.size<=k):Hid (wc.grownBy q row):=
  ⟨e.os.trans G.out.os,e.tape.trans G.out.tape,e.output.trans G.out.output,Nat.le_trans G.out.size e.size,fun k hk hne=>(e.block k (Nat.lt_of_lt_of_le hk G.out.size) (fun x=>by have:=h k x.symm;omega)).trans (G.out.block k hk hne)⟩
theorem kkb {w w':World} {B:Nat} {C:Nat->Prop} {v:Value} {ts:List JV} (h:Hid (KidsA w B C v ts)) (e:Hid (Below w.heap.size w w')):Hid (KidsA w' B C v ts):=Save.KidsA.below h.out e.out fun _ hb _=>hb
theorem texts_of_row {w:World} {B T n c:Nat} {a:Option Addr} {l:List ByteArray} (h:w.ownsRow B T 1 (.slice a n c) n (l.map Value.string)) {C:Nat->Prop} (hC:∀ b,B<=b->C b):IsTexts w C a l:=by
  rcases row_form h with ⟨h0,_⟩ | ⟨g,rfl,hB,hg,_⟩
  · refine .inl (List.length_eq_zero_iff.1 ?_);have:=h.1;rw [List.length_map] at this;omega
  · refine .inr ⟨g,0,rfl,hC _ hB,hg,fun j hj=>?_⟩;have:=h.1;rw [List.length_map] at this;rw [Nat.zero_add,h.cellAt j (by omega)];simp [hj]
theorem kid_apart {w c q:World} {B:Nat} {C:Nat->Prop} {v:Value} {ts:List JV} {z:Raw} {t:JV} (h:Hid (KidsA w B C v ts)) (d:Hid (Below w.heap.size w c)) (hC:∀ b,w.heap.size<=b->C b) (hi:Hid (IsV q (fun b=>c.heap.size<=b) z t)):Hid (IsV q (fun x=>C x/\some x≠v.ownBlock) z t):=
  hi.out.turn (Turn.mono _ fun b hb _=>by
    have h1:=d.out.size;have hb:c.heap.size<=b:=hb;exact ⟨hC b (by omega),fun e=>by have:=(Save.KidsA.lt h.out b e.symm).2;omega⟩)
theorem obj_row {w:World} {B:Nat} {C C':Nat->Prop} {a ka:Option Addr} {c kc:Nat} {ts:List JV} {ks:List ByteArray} (k:Int) (h:KidsA w B C (.slice a ts.length c) ts) (hC:∀ b,(C b∨B<=b)->C' b) (hT:IsTexts w C' ka ks):IsV w C' (Raw.mk k false false ⟨#[]⟩ 0 ⟨#[]⟩ ka ks.length kc a ts.length c) (.mk k false false ⟨#[]⟩ 0 ⟨#[]⟩ ks ts):=by
  obtain ⟨rs,h1,h2,h3⟩:=h;refine .mk (Raw.mk k false false ⟨#[]⟩ 0 ⟨#[]⟩ ka ks.length kc a ts.length c) ks ts (fun i=>rs.getD i Raw.zero) rfl rfl hT ?_ (fun i hi=>?_)
  · rcases h2.2 with ⟨hx,h0⟩ | ⟨g,cap,cur,hx,hg,_⟩
    · exact .inl (List.length_eq_zero_iff.1 h0)
    · injection hx with x1 x2 x3
      refine .inr ⟨g,0,x1,hC g (.inr (h2.lt g (by rw [x1];rfl)).1),(h2.lt g (by rw [x1];rfl)).2,fun i hi j u hu=>?_⟩;have hir:i<rs.length:=by omega
      have hu':rs[i].cells[j]?=some u:=by
        have:rs.getD i Raw.zero=rs[i]:=by simp [List.getD,hir]
        rw [<-this];exact hu
      have:=h2.cells (g:=g) (by rw [x1];rfl) _ _ (flat_cells_at rs i hir j u hu');rw [Addr.add_lit,Nat.zero_add] at this;rw [Nat.zero_add];exact this
  · have hir:i<rs.length:=by omega
    have:rs.getD i Raw.zero=rs[i]:=by simp [List.getD,hir]
    show IsV w C' (rs.getD i Raw.zero) ts[i];rw [this];exact (h3 i hir hi).turn (Turn.mono w (fun b hb _=>hC b (.inl hb.1)))
theorem mapIdx_take {α β:Type} (g:Nat->α->β) (l:List α) (i:Nat) (h:i<l.length):(l.mapIdx g).take (i+1)=(l.mapIdx g).take i++[g i l[i]]:=by
  rw [List.take_add_one,List.getElem?_eq_getElem (by simpa using h),List.getElem_mapIdx];rfl
theorem change_any (Kf:Nat) (lb:Array Value) (hE:Go.Proofs.Enters Tryz.prog Kf) (g:Nat->JV->JV) (t:JV) (hm:t.mass<=3000) (ra:Raw) (A B:Nat->Prop) (w:World) (hi:IsV w A ra t) (hB:∀ b,w.heap.size<=b->B b)
    (hK:∀ (i:Nat) (h:i<(kidsJ t).length) (rr:Raw) (w':World),Below w.heap.size w w'->IsV w' (fun _=>True) rr (kidsJ t)[i]->Calls Tryz.prog Kf (#[.int .i64 i,rr.val]++lb) w' (ValP (g i (kidsJ t)[i]) (fun b=>w'.heap.size<=b) w')) :
    Calls Tryz.prog 57 #[ra.val,.func (.func Kf) #[] lb] w (ValP (changeJ g t) B w):=by
  have HK:=Hid.out (p:=Hid _) hK;have HB0:=Hid.out (p:=Hid _) hB
  cases t with
  | mk k is ng d e s ks vs=>
  obtain ⟨ka,kc,va,vc,rfl,hts,F,hc,hv⟩:=hi.parts;rw [mass_mk] at hm;have hvl:=masses_len vs;obtain ⟨w2,hw2,V2,B2⟩:=own8 w (Raw.mk k is ng d e s ka ks.length kc va vs.length vc);obtain ⟨w3,hw3,V3,B3⟩:=own8 w2 Raw.zero;have V23:=hst V2 B3;have B03:=bel B2 B3;have HC:=Hid.out (p:=Hid _) hc;have HV:Hid (∀ i (h:i<vs.length),IsV w (fun _=>True) (F i) vs[i]):=fun i h=>(hv i h).turn (Turn.mono _ fun _ _ _=>trivial);have HT:Hid (∀ W,Below w3.heap.size w3 W->IsTexts W A ka ks):=fun W hW=>hts.turn (Turn.below (B03.out.trans (hW.mono B03.out.size)));have HVL:Hid (vs.length<=3000/\ks.length<=3000):=⟨by omega,by omega⟩;have HS2:Hid (w.heap.size<=w2.heap.size/\w2.heap.size<w3.heap.size):=⟨B2.out.size,heap_lt V3.out⟩;show Calls _ _ _ _ (ValP (.mk k false false ⟨#[]⟩ 0 ⟨#[]⟩ ks (vs.mapIdx g)) B w);obtain ⟨ts,hts2⟩:∃ ts,vs.mapIdx g=ts:=⟨_,rfl⟩;rw [hts2];have HTS:=Hid.out (p:=Hid _) hts2;have HTL:Hid (ts.length=vs.length):=by rw [Hid,<-hts2,List.length_mapIdx]
  clear hi hm hK hc hv hvl hB hts hts2;unfold Raw.val
  dsimp only [Raw.zero] at hw3
  obtain ⟨⟨x0,x1,x2,x3,x4,x5,x6,x7⟩,_⟩:=val_cells V23.out;go_enter Tryz.func57,Tryz.ntmps57
  go_wp2_with fail
  go_cut [5] from 5 to 32 (fun p5 wx=>∃ (b5:Nat) (ka':Option Addr) (kc':Nat),p5=.pointer (some ⟨b5,0,none⟩)/\Hid (w3.heap.size<=b5)/\Hid (Below w3.heap.size w3 wx)/\Hid (wx.heap[b5]?=some (.cells (Raw.mk k false false ⟨#[]⟩ 0 ⟨#[]⟩ ka' ks.length kc' none 0 0).arr 29 (0,0)))/\Hid (IsTexts wx (fun b=>w3.heap.size<=b/\b≠b5) ka' ks))
  case first=>
    have HA:Hid (∀ b,w3.heap.size<=b->w3.heap.size<=b):=fun _ h=>h;have HS1:Hid (∀ W,Below w3.heap.size w3 W->W.heap[w.heap.size]?=some (.cells (Raw.mk k is ng d e s ka ks.length kc va vs.length vc).arr 29 (0,0))):=fun W hW=>(hW.block _ (heap_lt V23.out)).trans V23.out;refine wp_region_held_drew (S:=(fun W=>W.heap[w.heap.size]?=some (.cells (Raw.mk k is ng d e s ka ks.length kc va vs.length vc).arr 29 (0,0)))) (by kernel_rfl) ?_ (fun hHeld=>?_)
    · exact HS1.out _ (Below.refl _ _).drew
    obtain ⟨wd,hwd⟩:∃ x,w3.drew=x:=⟨_,rfl⟩;have D:Hid (Below w3.heap.size w3 wd):=by rw [<-hwd];exact (Below.refl _ _).drew
    rw [hwd] at hHeld ⊢;clear hwd;have DA:=D
    repeat' first
      | (refine tkT 0 (by decide +kernel) ?_)
      | (refine tkT 1 (v:=.int .i64 k) (by decide +kernel) ?_ (hy:=by (intro w hs;obtain ⟨⟨e0,e1,e2,e3,e4,e5,e6,e7⟩,_⟩:=val_cells hs;clear hs;go_simp <;> with_reducible rfl)))
      | (refine tkT 2 (by decide +kernel) ?_)
      | (refine tkT 3 (v:=.slice ka ks.length kc) (by decide +kernel) ?_ (hy:=by (intro w hs;obtain ⟨⟨e0,e1,e2,e3,e4,e5,e6,e7⟩,_⟩:=val_cells hs;clear hs;go_simp <;> with_reducible rfl)))
      | (refine tkT 5 (by decide +kernel) ?_)
      | (refine rdT [4,6] (by decide +kernel) (by simp) ?_;try simp only [nz])
      | (refine rdT [6] (by decide +kernel) (by simp) ?_;try simp only [nz])
      | (refine rdT [7] (by decide +kernel) (by simp) ?_;try simp only [nz])
      | (refine rdT [4] (by decide +kernel) (by simp) ?_;try simp only [nz])
      | exact AllReadyH.nil
      | refine consT ?_ ?_
      | (refine (⟨fun K hK=>?_⟩:Tag 4 _)
         try simp only [nz]
         obtain ⟨ka2,kc2,q,hr,ho,hq⟩:=app_keys _ A ks ka kc (HT.out _ D.out) HVL.out.2;rw [if_pos (by rfl)];refine Save.wp_append_run (.slice none 0 0) (.slice ka ks.length kc) 26 hr _ _ rfl rfl rfl ?_;have E:=Hid.out (p:=Hid _) hq;have TK:=Hid.out (p:=Hid _) (texts_of_row ho (upn HA DA));clear hr ho hq;replace D:=bel D E;(try replace DA:=bel DA E);(try replace VZ:=hst VZ E);clear hHeld;refine hK.out _ _ ?_ (fun hHeld=>?_)
         · exact HS1.out _ D.out
         clear hK K
         try simp only [nz])
      | (refine (⟨fun K hK=>?_⟩:Tag 6 _)
         obtain ⟨q,hq,VZ,E⟩:=wof D (own8 · Raw.zero)
         dsimp only [Raw.zero] at hq
         try simp only [nz]
         go_simp
         have KW:=kw HA DA (altn hq);have HBZ:=Hid.out (p:=Hid _) D.out.size;clear hq;replace D:=bel D E;(try replace TK:=ktn TK E);(try replace VZ:=hst VZ E);replace HA:=KW;clear KW DA;have DA:=hid_refl q;clear hHeld;refine hK.out _ _ ?_ (fun hHeld=>?_)
         · exact HS1.out _ D.out
         clear hK K
         try simp only [nz])
      | (refine (⟨fun K hK=>?_⟩:Tag 7 _)
         obtain ⟨⟨v0,v1,v2,v3,v4,v5,v6,v7⟩,y0,y1,y2,y3,y4,y5,y6,y7⟩:=val_cells VZ.out
         try simp only [nz]
         go_simp
         clear v0 v1 v2 v3 v4 v5 v6 v7 y0 y1 y2 y3 y4 y5 y6 y7;have DF:=below8 D.out HBZ.out (.int .i64 k) (.bool false) (.bool false) (.string ⟨#[]⟩) (.int .i64 0) (.string ⟨#[]⟩) (.slice ka2 ks.length kc2) (.slice none 0 0);clear hHeld;refine hK.out _ _ ?_ (fun hHeld=>?_)
         · exact HS1.out _ DF
         clear hK K
         try simp only [nz])
      | (refine dnT (by decide +kernel) ?_
         clear hHeld;go_wp2_with fail
         go_meet
         refine ⟨_,ka2,kc2,rfl,HBZ.out,DF,set8 VZ.out (Raw.mk k false false ⟨#[]⟩ 0 ⟨#[]⟩ ka2 ks.length kc2 none 0 0),?_⟩;exact IsTexts.turn TK.out ⟨(gb8 _ _ _ _ _ _ _ _ _ _).size,fun b hb hl=>⟨(gb8 _ _ _ _ _ _ _ _ _ _).block _ hl (fun e=>by injection e with e;exact hb.2 e),hb⟩⟩)
  case rest=>
    obtain ⟨b5,ka',kc',rfl,h5,hBx,V5,T5⟩:=hcut;have V2c:=hst V23 hBx;obtain ⟨⟨x0,x1,x2,x3,x4,x5,x6,x7⟩,_⟩:=val_cells V2c.out;have HB3:=bel B03 hBx;have H5L:=Hid.out (p:=Hid _) (heap_lt V5.out);go_wp2_with fail
    clear x0 x1 x2 x3 x4 x5 x6 x7
    go_loopw [17] (fun p wr=>∃ i:Nat,p=.int .i64 i/\i<=vs.length/\∃ va' vc',Hid (wr.heap[b5]?=some (.cells (Raw.mk k false false ⟨#[]⟩ 0 ⟨#[]⟩ ka' ks.length kc' va' i vc').arr 29 (0,0)))/\Hid (KidsA wr wc.heap.size (fun b=>wc.heap.size<=b) (.slice va' i vc') (ts.take i))/\Hid (wc.grownBy wr (some b5))) (fun p _=>vs.length-(intOf p).toNat)
    case atStart=>exact ⟨0,rfl,Nat.zero_le _,none,0,V5.out,KidsA.nil _ _ _,gb_refl _ _⟩
    case round=>
      obtain ⟨i,rfl,hi,va',vc',VR,KR,GR⟩:=hrel;have hvl:=HVL.out;have hsz:=GR.out.size;have BR:Hid (Below w3.heap.size w3 wr):=hBx.out.grown GR.out hBx.out.size (fun k hk=>by injection hk with hk;rw [<-hk];exact h5.out);have B0R:=bel B03 BR;by_cases hlt:i<vs.length
      · have hne:vs≠[]:=fun e=>by rw [e] at hlt;simp at hlt
        obtain ⟨gb,o,rfl,hgb,hcs⟩:=HC.out.resolve_left hne;have K1:CellsAt wr gb (o+i*8) (F i):=(hcs i hlt).below hgb B0R.out;obtain ⟨w4,hw4,V4,B4⟩:=own8 wr (F i);have I1:=Hid.out (p:=Hid _) (((HV.out i hlt).behind B0R.out).behind B4.out);obtain ⟨u,hu⟩:∃ u,g i vs[i]=u:=⟨_,rfl⟩;have HTK:Hid (ts.take (i+1)=ts.take i++[u]):=by
          rw [Hid,<-HTS.out,<-hu];exact mapIdx_take g vs i hlt
        have HCL:Hid (∀ W,Below w4.heap.size w4 W->Calls Tryz.prog Kf (#[.int .i64 i,(F i).val]++lb) W (ValP u (fun b=>W.heap.size<=b) W)):=fun W hW=>by
          have:=HK.out i hlt (F i) W ((bel B0R B4).out.trans (hW.mono (bel B0R B4).out.size)) (I1.out.behind hW);rw [<-hu];exact this
        have VR4:=hst VR B4;have GR4:=gr_below GR B4;have KR4:=kkb KR B4;have htl:(ts.take i).length=i:=by rw [List.length_take];have:=HTL.out;omega
        have HLT:=Hid.out (p:=Hid _) htl;clear hcs I1 hu;generalize F i=z at *;generalize ts.take i=tk at *;unfold Raw.val at HCL;obtain ⟨u0,u1,u2,u3,u4,u5,u6,u7⟩:=K1.eight;clear K1 htl;have hEE:=hE;unfold Go.Proofs.Enters at hEE;go_wp2_with fail
        clear u0 u1 u2 u3 u4 u5 u6 u7;refine wp_region_held_drew (S:=(fun _=>True)) (by kernel_rfl) ?_ (fun hHeld=>?_)
        · trivial
        obtain ⟨wd,hwd⟩:∃ x,w4.drew=x:=⟨_,rfl⟩;have D:Hid (Below w4.heap.size w4 wd):=by rw [<-hwd];exact (Below.refl _ _).drew
        rw [hwd];clear hwd;replace VR4:=hst VR4 D;replace V4:=hst V4 D;replace GR4:=gr_below GR4 D;replace KR4:=kkb KR4 D
        repeat' first
          | (refine tkT 0 (by decide +kernel) ?_)
          | (refine tkT 2 (by decide +kernel) ?_)
          | (refine tkT 3 (by decide +kernel) ?_)
          | (refine tkT 8 (by decide +kernel) ?_)
          | (refine rdT [1,4] (by decide +kernel) (by simp) ?_;try simp only [nz])
          | (refine rdT [4] (by decide +kernel) (by simp) ?_;try simp only [nz])
          | (refine rdT [5] (by decide +kernel) (by simp) ?_;try simp only [nz])
          | (refine rdT [6] (by decide +kernel) (by simp) ?_;try simp only [nz])
          | (refine rdT [7] (by decide +kernel) (by simp) ?_;try simp only [nz])
          | (refine rdT [9] (by decide +kernel) (by simp) ?_;try simp only [nz])
          | (refine rdT [1,5] (by decide +kernel) (by simp) ?_;try simp only [nz])
          | (refine rdT [1,6] (by decide +kernel) (by simp) ?_;try simp only [nz])
          | (refine rdT [1] (by decide +kernel) (by simp) ?_;try simp only [nz])
          | exact AllReadyH.nil
          | refine consT ?_ ?_
          | (refine (⟨fun K hK=>?_⟩:Tag 1 _)
             try simp only [nz]
             obtain ⟨⟨e0,e1,e2,e3,e4,e5,e6,e7⟩,_⟩:=val_cells VR4.out
             go_simp
             clear e0 e1 e2 e3 e4 e5 e6 e7;clear hHeld;refine hK.out _ _ ?_ (fun hHeld=>?_)
             · trivial
             clear hK K
             try simp only [nz])
          | (refine (⟨fun K hK=>?_⟩:Tag 4 _)
             try simp only [nz]
             obtain ⟨⟨e0,e1,e2,e3,e4,e5,e6,e7⟩,_⟩:=val_cells V4.out
             go_simp
             clear e0 e1 e2 e3 e4 e5 e6 e7;clear hHeld;refine hK.out _ _ ?_ (fun hHeld=>?_)
             · trivial
             clear hK K
             try simp only [nz])
          | (refine (⟨fun K hK=>?_⟩:Tag 5 _)
             try simp only [nz]
             go_simp
             go_at_fn Kf;refine (Calls.mono (HCL.out _ D.out) ?_)
             rintro zz q hz;obtain ⟨z5,rfl,I5,E⟩:=hz.to;clear hz;unfold Raw.val;replace I5:=kid_apart KR4 (hid_refl _) (fun b hb=>by have:=GR4.out.size;omega) I5;replace D:=bel D E;(try replace DA:=bel DA E);(try replace VR4:=hst VR4 E);(try replace V4:=hst V4 E);(try replace GR4:=gr_below GR4 E);(try replace KR4:=kkb KR4 E);(try replace I5:=kp I5 E);(try replace VL:=hst VL E);clear hHeld;refine hK.out _ _ ?_ (fun hHeld=>?_)
             · trivial
             clear hK K
             try simp only [nz])
          | (refine (⟨fun K hK=>?_⟩:Tag 6 _)
             obtain ⟨q,hq,VL,E⟩:=wof D (kid1 · z5)
             try simp only [nz]
             go_simp
             clear hq;replace D:=bel D E;(try replace DA:=bel DA E);(try replace VR4:=hst VR4 E);(try replace V4:=hst V4 E);(try replace GR4:=gr_below GR4 E);(try replace KR4:=kkb KR4 E);(try replace I5:=kp I5 E);(try replace VL:=hst VL E);clear hHeld;refine hK.out _ _ ?_ (fun hHeld=>?_)
             · trivial
             clear hK K
             try simp only [nz])
          | (refine (⟨fun K hK=>?_⟩:Tag 7 _)
             try simp only [nz]
             obtain ⟨a7,c7,q,hr,hk,hg,_⟩:=app_kids KR4.out _ z5 u VL.out I5.out (by have:=HVL.out.1;have:=HLT.out;omega) GR4.out.size;rw [if_pos (by rfl)];rw [HLT.out] at hr hk;refine Save.wp_append_run (.slice va' i vc') (.slice (some ⟨_,0,none⟩) 1 1) 27 hr _ _ rfl rfl rfl ?_;have VR7:=Hid.out (p:=Hid _) ((hg.block b5 (heap_lt VR4.out) (fun e=>by have:=(Save.KidsA.lt KR4.out b5 e.symm).1;have:=H5L.out;omega)).trans VR4.out);have GR7:=gr_own GR4 hg (fun k hk=>(Save.KidsA.lt KR4.out k hk).1);have KR7:=Hid.out (p:=Hid _) hk;clear hr hk hg D VR4 GR4 KR4 VL I5 V4;clear hHeld;refine hK.out _ _ ?_ (fun hHeld=>?_)
             · trivial
             clear hK K
             try simp only [nz])
          | (refine (⟨fun K hK=>?_⟩:Tag 9 _)
             try simp only [nz]
             obtain ⟨⟨v0,v1,v2,v3,v4,v5,v6,v7⟩,y0,y1,y2,y3,y4,y5,y6,y7⟩:=val_cells VR7.out
             go_simp
             clear v0 v1 v2 v3 v4 v5 v6 v7 y0 y1 y2 y3 y4 y5 y6 y7;clear hHeld;refine hK.out _ _ ?_ (fun hHeld=>?_)
             · trivial
             clear hK K
             try simp only [nz])
          | (refine dnT (by decide +kernel) ?_
             clear hHeld;go_wp2_with fail
             go_roundw
             case rel=>
               refine ⟨i+1,by go_num,by omega,a7,c7,set7 VR7.out,?_,?_⟩
               · rw [Hid,HTK.out];exact KidsA.turn KR7.out (gb_set _ _ _ _) (by cases ho:(Value.slice a7 (i+1) c7).ownBlock with | none=>exact .inl rfl | some k=>exact .inr (fun e=>by injection e with e;have:=(Save.KidsA.lt KR7.out k ho).1;have:=H5L.out;omega)) (fun b hb _=>⟨fun e=>by injection e with e;have hb:wc.heap.size<=b:=hb;have:=H5L.out;omega,hb⟩)
               · exact ⟨(gb_set _ _ _ _).os.trans GR7.out.os,(gb_set _ _ _ _).tape.trans GR7.out.tape,(gb_set _ _ _ _).output.trans GR7.out.output,Nat.le_trans GR7.out.size (gb_set _ _ _ _).size,fun k hk hne=>((gb_set _ _ _ _).block k (Nat.lt_of_lt_of_le hk GR7.out.size) hne).trans (GR7.out.block k hk hne)⟩
             case measure=>simp [intOf];omega)
      · obtain rfl:i=vs.length:=by omega
        have htl:=HTL.out;have e1:ts.take vs.length=ts:=by rw [<-htl,List.take_length]
        have IR:Hid (IsV wr (fun b=>w3.heap.size<=b) (Raw.mk k false false ⟨#[]⟩ 0 ⟨#[]⟩ ka' ks.length kc' va' vs.length vc') (.mk k false false ⟨#[]⟩ 0 ⟨#[]⟩ ks ts)):=by
          have hk:=KR.out;rw [e1,<-htl] at hk;rw [<-htl];have hs:=hBx.out.size;exact obj_row k hk (fun b hb=>by rcases hb with hb | hb <;> (show w3.heap.size<=b;omega)) (T5.out.turn ⟨GR.out.size,fun b hb hl=>⟨GR.out.block b hl (fun e=>by injection e with e;exact hb.2 e),hb.1⟩⟩)
        have V3r:=hst V3 BR;obtain ⟨⟨x0,x1,x2,x3,x4,x5,x6,x7⟩,_⟩:=val_cells VR.out;obtain ⟨⟨r0,r1,r2,r3,r4,r5,r6,r7⟩,g0,g1,g2,g3,g4,g5,g6,g7⟩:=val_cells V3r.out;have h23:=HS2.out;clear hsz htl e1;go_wp2_with fail
        refine val_ret (a:=Raw.mk k false false ⟨#[]⟩ 0 ⟨#[]⟩ ka' ks.length kc' va' vs.length vc') (b:=w2.heap.size) rfl (set8 V3r.out (Raw.mk k false false ⟨#[]⟩ 0 ⟨#[]⟩ ka' ks.length kc' va' vs.length vc')) rfl ?_;refine ⟨_,rfl,?_,below8 B0R.out HS2.out.1 _ _ _ _ _ _ _ _⟩;exact IR.out.turn ⟨(gb8 _ _ _ _ _ _ _ _ _ _).size,fun b hb hl=>⟨(gb8 _ _ _ _ _ _ _ _ _ _).block _ hl (fun e=>by injection e with e;have hb:w3.heap.size<=b:=hb;have:=HS2.out.2;omega),HB0.out b (by have hb:w3.heap.size<=b:=hb;have:=HS2.out;omega)⟩⟩
end Go.Proofs.YtliekocamnklfaaGreatDoor.One
