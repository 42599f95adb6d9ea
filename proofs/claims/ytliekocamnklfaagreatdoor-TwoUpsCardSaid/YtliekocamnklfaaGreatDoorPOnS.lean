/- tabulariumref19.Resources, Head, Right. (Written by gen/ons.py.) -/
import Derived.Test.YtliekocamnklfaaGreatDoorPOnR
import Derived.Test.YtliekocamnklfaaGreatDoorPOnD
set_option linter.unusedVariables false
set_option linter.unusedSimpArgs false
set_option maxRecDepth 100000
set_option maxHeartbeats 16000000
namespace Go.Proofs.YtliekocamnklfaaGreatDoor.One
open Go.RowKit Strs Jdec Save Go.Proofs.YtliekocamnklfaaGreatDoor.Addr
theorem ress_yes {js:List ByteArray} {is ng:Bool} {d:ByteArray} {e:Int} {s:ByteArray} {ks:List ByteArray} {vs:List JV} (hl:ks.length=vs.length) (h:∀ j (h:j<ks.length) (h':j<vs.length),(oldP ks[j].data.toList).isSome=true/\resB js vs[j]=true):ressB js (.mk 6 is ng d e s ks vs)=true:=by
  unfold ressB;rw [show kindOf (.mk 6 is ng d e s ks vs)=6 from rfl,show keysJ (.mk 6 is ng d e s ks vs)=ks from rfl,show kidsJ (.mk 6 is ng d e s ks vs)=vs from rfl];simp only [decide_true,Bool.true_and,Bool.and_eq_true,List.all_eq_true]
  refine ⟨fun x hx=>?_,fun v hv=>?_⟩
  · obtain ⟨j,hj,rfl⟩:=List.getElem_of_mem hx;exact (h j hj (by omega)).1
  · obtain ⟨j,hj,rfl⟩:=List.getElem_of_mem hv;exact (h j (by omega) hj).2
theorem ress_no1 {js:List ByteArray} {is ng:Bool} {d:ByteArray} {e:Int} {s:ByteArray} {ks:List ByteArray} {vs:List JV} {j:Nat} (h:j<ks.length) (hj:(oldP ks[j].data.toList).isSome=false):ressB js (.mk 6 is ng d e s ks vs)=false:=by
  rw [Bool.eq_false_iff];intro hh
  unfold ressB at hh;simp only [Bool.and_eq_true,List.all_eq_true] at hh
  have:=hh.2.1 _ (List.getElem_mem (l:=keysJ (.mk 6 is ng d e s ks vs)) (n:=j) h);have this:(oldP ks[j].data.toList).isSome=true:=this;rw [hj] at this;cases this
theorem ress_no2 {js:List ByteArray} {is ng:Bool} {d:ByteArray} {e:Int} {s:ByteArray} {ks:List ByteArray} {vs:List JV} {j:Nat} (h:j<vs.length) (hj:resB js vs[j]=false):ressB js (.mk 6 is ng d e s ks vs)=false:=by
  rw [Bool.eq_false_iff];intro hh
  unfold ressB at hh;simp only [Bool.and_eq_true,List.all_eq_true] at hh
  have:=hh.2.2 _ (List.getElem_mem (l:=kidsJ (.mk 6 is ng d e s ks vs)) (n:=j) h);have this:resB js vs[j]=true:=this;rw [hj] at this;cases this
theorem ressB_ne {js:List ByteArray} {k:Int} {is ng:Bool} {d:ByteArray} {e:Int} {s:ByteArray} {ks:List ByteArray} {vs:List JV} (h:k≠6):ressB js (.mk k is ng d e s ks vs)=false:=by
  unfold ressB;rw [show kindOf (.mk k is ng d e s ks vs)=k from rfl,decide_eq_false h];rfl
theorem rress_any (js:List ByteArray) (hj:js.length<=10) (t:JV) (hg:GoodQ t) (hf:Fine t) (hm:t.mass<=3000) (ra:Raw) (A B:Nat->Prop) (w:World) (hi:IsV w A ra t) (ja:Option Addr) (jc:Nat) (ht:IsTexts w B ja js):Calls Tryz.prog 41 #[ra.val,.slice ja js.length jc] w (BoolP (ressB js t) w):=by
  obtain ⟨ok,hok⟩:∃ b,ressB js t=b:=⟨_,rfl⟩;rw [hok];have HOK:=Hid.out (p:=Hid _) hok;have HKG:=Hid.out (p:=Hid _) (GoodQ.kids hg);have HKM:Hid (∀ v∈kidsJ t,v.mass<=3000):=fun v hv=>by have:=mass_kid hv;omega
  have HTX:Hid (∀ w',Below w.heap.size w w'->IsTexts w' B ja js):=fun w' h=>ht.turn (Turn.below h);have HJ:=Hid.out (p:=Hid _) hj
  cases t with
  | mk k is ng d e s ks vs=>
  obtain ⟨ka,kc,va,vc,rfl,hkt,F,hc,hv⟩:=hi.parts;have hbo:k=6->ks.length=vs.length:=by cases hg with | mk _ _ _ _ _ _ _ _ o _=>exact o.both
  have hz:∀ x∈ks,x.size<=6000:=by cases hf with | mk _ _ _ _ _ _ _ _ _ _ f3 _=>exact f3
  rw [mass_mk] at hm;have hvl:=masses_len vs;obtain ⟨w2,hw2,V2,B2⟩:=own8 w (Raw.mk k is ng d e s ka ks.length kc va vs.length vc);have HC:=Hid.out (p:=Hid _) hc;have HV:=Hid.out (p:=Hid _) hv;have HKT:=Hid.out (p:=Hid _) hkt;have HZ:=Hid.out (p:=Hid _) hz;have HKL:Hid (ks.length<=3000/\vs.length<=3000):=by rw [Hid];omega
  clear hi hok hm hc hv hvl hg hf hj ht hkt hz;unfold Raw.val;obtain ⟨⟨x0,x1,x2,x3,x4,x5,x6,x7⟩,_⟩:=val_cells V2.out;by_cases h6:k=6
  case neg=>
    have nk:(k != 6)=true:=by rw [bne_iff_ne];exact h6
    obtain rfl:false=ok:=by rw [<-HOK.out,ressB_ne h6]
    clear h6 hbo;go_enter Tryz.func41,Tryz.ntmps41
    go_wp2_with fail
    go_ret
    exact ⟨rfl,B2.out⟩
  case pos=>
  subst h6;have nk:((6:Int) != 6)=false:=by decide
  have HKV:=Hid.out (p:=Hid _) (hbo rfl);clear hbo;go_enter Tryz.func41,Tryz.ntmps41
  go_wp2_with fail
  clear x0 x1 x2 x3 x4 x5 x6 x7
  go_loopw [5] (fun p wr=>∃ i:Nat,p=.int .i64 i/\i<=ks.length/\Hid (∀ j (h:j<ks.length) (h':j<vs.length),j<i->(oldP ks[j].data.toList).isSome=true/\resB js vs[j]=true)/\Hid (Below w2.heap.size w2 wr)) (fun p _=>ks.length-(intOf p).toNat)
  case atStart=>exact ⟨0,rfl,Nat.zero_le _,fun _ _ _ h=>absurd h (Nat.not_lt_zero _),Below.refl _ _⟩
  case round=>
    obtain ⟨i,rfl,hi,hA,hB⟩:=hrel;have hkl:=HKL.out;have V3:=hst V2 hB;have B3:=bel B2 hB;obtain ⟨⟨x0,x1,x2,x3,x4,x5,x6,x7⟩,_⟩:=val_cells V3.out;by_cases hlk:i<ks.length
    · have hkv:=HKV.out;have hlt:i<vs.length:=by omega
      have hne:ks≠[]:=fun e=>by rw [e] at hlk;simp at hlk
      have hnv:vs≠[]:=fun e=>by rw [e] at hlt;simp at hlt
      obtain ⟨kb,ko,rfl,_,hkb,hkc⟩:=HKT.out.resolve_left hne;obtain ⟨g,o,rfl,hgb,hcs⟩:=HC.out.resolve_left hnv;have c1:=(World.cell?_of_block (B3.out.block kb hkb)).trans (hkc i hlk);have HMK:Hid ((oldP ks[i].data.toList).isSome=true->resB js vs[i]=true->∀ j (h:j<ks.length) (h':j<vs.length),j<i+1->(oldP ks[j].data.toList).isSome=true/\resB js vs[j]=true):=fun h1 h2 j hj hj' hji=>by
        by_cases e:j=i
        · subst e;exact ⟨h1,h2⟩
        · exact hA.out j hj hj' (by omega)
      obtain ⟨oo,hoo⟩:∃ b,(oldP ks[i].data.toList).isSome=b:=⟨_,rfl⟩;have HN1:Hid (oo=false->ok=false):=fun h=>by rw [<-HOK.out];exact ress_no1 hlk (by rw [hoo,h])
      have HN2:Hid (resB js vs[i]=false->ok=false):=fun h=>by rw [<-HOK.out];exact ress_no2 hlt h
      have HO:=Hid.out (p:=Hid _) (rold_any ks[i] wr (HZ.out _ (List.getElem_mem hlk)));obtain ⟨a,ha⟩:∃ a,(oldR ks[i].data.toList).getD zeroA=a:=⟨_,rfl⟩;have HAA:=Hid.out (p:=Hid _) ha;have HOO:Hid ((oldR ks[i].data.toList).isSome=oo):=by rw [Hid,<-old_eq,hoo]
      rw [hoo] at HMK;have GV:=Hid.out (p:=Hid _) (HKG.out vs[i] (List.getElem_mem (l:=vs) hlt));have GM:=Hid.out (p:=Hid _) (HKM.out vs[i] (List.getElem_mem (l:=vs) hlt));have K1:Hid (CellsAt wr g (o+i*8) (F i)):=(hcs i hlt).below hgb B3.out;have I1:Hid (IsV wr A (F i) vs[i]):=(HV.out i hlt).behind B3.out;clear hkc hcs hoo ha hkv;generalize ks[i]=x at *;generalize vs[i]=v at *;generalize F i=zr at *;go_wp2_with fail
      refine (Calls.mono HO.out ?_);rintro z w4 hz;obtain ⟨pa,pc,rfl,_,B4⟩:=hz.to a HAA.out oo HOO.out;obtain ⟨w5,hw5,V5,B5⟩:=adr_new w4 pa pc a;obtain ⟨w6,hw6,V6,B6⟩:=own8 w5 zr;have B35:=bel B4 B5;have V35:=hst V3 B35;have B26:=bel (bel hB B35) B6;have B06:=bel B2 B26;have K5:CellsAt w5 g (o+i*8) zr:=K1.out.below (Nat.lt_of_lt_of_le hgb B3.out.size) B35.out;have I6:=Hid.out (p:=Hid _) ((I1.out.behind B35.out).behind B6.out);obtain ⟨u0,u1,u2,u3,u4,u5,u6,u7⟩:=K5.eight;clear hz x0 x1 x2 x3 x4 x5 x6 x7 K5 K1 I1;obtain ⟨⟨x0,x1,x2,x3,x4,x5,x6,x7⟩,_⟩:=val_cells V35.out;obtain ⟨⟨y0,y1,y2,y3,y4,y5,y6,y7⟩,_⟩:=val_cells V6.out;cases oo
      case false=>
        obtain rfl:=HN1.out rfl;go_wp2_with fail
        go_ret
        exact ⟨rfl,B06.out⟩
      have HOB:=Hid.out (p:=Hid _) (robject_any v GV.out GM.out zr A B w6 I6.out js HJ.out ja jc (HTX.out w6 B06.out));obtain ⟨b1,hb1⟩:∃ b,ofB v js=b:=⟨_,rfl⟩;rw [hb1] at HOB;have HB1:=Hid.out (p:=Hid _) hb1;clear hb1;unfold Raw.val at HOB;go_wp2_with fail
      refine (Calls.mono HOB.out ?_);rintro z w7 hz;obtain ⟨rfl,B7⟩:=hz.to;have B27:=bel B26 B7;have V7:=hst V6 B7;have I7:=Hid.out (p:=Hid _) (I6.out.behind B7.out);clear hz x0 x1 x2 x3 x4 x5 x6 x7 y0 y1 y2 y3 y4 y5 y6 y7 u0 u1 u2 u3 u4 u5 u6 u7 hw5 hw6;cases b1
      case false=>
        obtain rfl:=HN2.out (by rw [resB,HB1.out];rfl);go_wp2_with fail
        go_ret
        exact ⟨rfl,(bel B2 B27).out⟩
      have HOF:=Hid.out (p:=Hid _) (rof_any v GV.out GM.out zr A w7 I7.out kAtt);obtain ⟨⟨y0,y1,y2,y3,y4,y5,y6,y7⟩,_⟩:=val_cells V7.out;unfold Raw.val kAtt at HOF;go_wp2_with fail
      refine (Calls.mono HOF.out ?_);rintro z w8 hz;obtain ⟨ar,rfl,hr8,B8⟩:=hz.to;have B28:=bel B27 B8;have V8:=hst V7 B8;have I8:=Hid.out (p:=Hid _) (I7.out.behind B8.out);have hr8:Hid (IsV w8 A ar (got v kAtt)):=hr8;have HTT:=Hid.out (p:=Hid _) (rtexts_any (got v kAtt) (by have:=got_mass v kAtt;have:=GM.out;omega) ar A w8 hr8.out);obtain ⟨b2,hb2⟩:∃ b,eachB textB (got v kAtt)=b:=⟨_,rfl⟩;rw [hb2] at HTT;have HB2:=Hid.out (p:=Hid _) hb2;clear hz y0 y1 y2 y3 y4 y5 y6 y7 hb2;unfold Raw.val at HTT;unfold Raw.val;go_wp2_with fail
      refine (Calls.mono HTT.out ?_);rintro z w9 hz;obtain ⟨rfl,B9⟩:=hz.to;have B29:=bel B28 B9;have V9:=hst V8 B9;have I9:=Hid.out (p:=Hid _) (I8.out.behind B9.out);clear hz;cases b2
      case false=>
        obtain rfl:=HN2.out (by rw [resB,HB1.out,HB2.out];rfl);go_wp2_with fail
        go_ret
        exact ⟨rfl,(bel B2 B29).out⟩
      have hl6:=heap_lt V9.out;go_wp2_with fail
      go_loopw [9] (fun p wq=>∃ m:Nat,p=.int .i64 m/\m<=js.length/\Hid ((js.take m).all (fun x=>decide (x=kAtt) || textB (got v x))=true)/\Hid (Below w9.heap.size w9 wq)) (fun p _=>js.length-(intOf p).toNat)
      case atStart=>exact ⟨0,rfl,Nat.zero_le _,rfl,Below.refl _ _⟩
      case round=>
        obtain ⟨m,rfl,hmi,hM,hQ⟩:=hrel;have hjl:=HJ.out;have hkl:=HKL.out;have BQ:=bel (bel B2 B29) hQ;have VQ:=hst V9 hQ;by_cases hlm:m<js.length
        · have hnj:js≠[]:=fun e=>by rw [e] at hlm;simp at hlm
          obtain ⟨jb,jo,rfl,_,hjb,hjc⟩:=(HTX.out wr BQ.out).resolve_left hnj;have cj:=hjc m hlm;have htk:js.take (m+1)=js.take m++[js[m]]:=by rw [List.take_add_one,List.getElem?_eq_getElem hlm];rfl
          obtain ⟨y,hy⟩:∃ y,js[m]=y:=⟨_,rfl⟩;rw [hy] at cj htk;have HYM:Hid (y∈js):=by rw [<-hy];exact List.getElem_mem hlm
          have HS:Hid (∀ W,Below wr.heap.size wr W->W.cell? ⟨jb,jo+m,none⟩=some (.string y)/\W.heap[w5.heap.size]?=some (.cells zr.arr 29 (0,0))):=fun W hW=>⟨(World.cell?_of_block (hW.block _ hjb)).trans cj,(hW.block _ (heap_lt VQ.out)).trans VQ.out⟩;have HMM:Hid ((decide (y=kAtt) || textB (got v y))=true->(js.take (m+1)).all (fun x=>decide (x=kAtt) || textB (got v x))=true):=fun h=>by rw [htk,List.all_append,hM.out,List.all_cons,List.all_nil,h];rfl
          clear hjc cj hy htk;by_cases hya:y=kAtt
          · subst hya;have M:=Hid.out (p:=Hid _) (HMM.out (by rw [decide_eq_true rfl,Bool.true_or]));clear HMM;unfold kAtt at HS;go_wp2_with fail
            refine wp_region_held_drew (S:=(fun W=>W.cell? ⟨jb,jo+m,none⟩=some (.string ⟨#[97,116,116,114,105,98,117,116,101,115]⟩)/\W.heap[w5.heap.size]?=some (.cells zr.arr 29 (0,0)))) (by kernel_rfl) ?_ (fun hHeld=>?_)
            · exact HS.out _ (Below.refl _ _).drew
            have DR:Hid (Below wr.heap.size wr wr.drew):=(Below.refl _ _).drew;refine tk 0 ?_;refine tk 1 ?_;refine tk 2 ?_
            try simp only [nz]
            refine tv 3 (.string ⟨#[97,116,116,114,105,98,117,116,101,115]⟩) ?_ ?_
            · (intro w hs;have ee:=hs.1;clear hs;go_simp <;> with_reducible rfl)
            refine tv 4 (.bool false) ?_ ?_
            · (intro w hs;clear hs;go_simp <;> first | with_reducible rfl | kernel_rfl)
            refine tk 5 ?_
            try simp only [nz]
            refine tn 6 ?_;refine tn 7 ?_;refine tn 8 ?_
            try simp only [nz]
            refine tn 9 ?_;refine tn 10 ?_;refine tn 11 ?_
            try simp only [nz]
            refine tn 12 ?_;refine tn 13 ?_;refine tk 14 ?_
            try simp only [nz]
            refine wpAnyH_done (by kernel_rfl) ?_ _;clear hHeld;go_wp2_with fail
            go_roundw
            case rel=>exact ⟨m+1,by go_num,by omega,M.out,(bel hQ DR).out⟩
            case measure=>simp [intOf];omega
          · have q1:(y.toList == (⟨#[97,116,116,114,105,98,117,116,101,115]⟩:ByteArray).toList)=false:=by
              rw [beq_eq_false_iff_ne];intro h
              rw [ByteArray.toList_eq,ByteArray.toList_eq] at h;exact hya (ByteArray.ext (Array.toList_inj.1 h))
            have hyn:¬ y.toList=[97,116,116,114,105,98,117,116,101,115]:=fun h=>by
              rw [ByteArray.toList_eq] at h;exact hya (ByteArray.ext (Array.toList_inj.1 h))
            have q2:(y.toList != (⟨#[97,116,116,114,105,98,117,116,101,115]⟩:ByteArray).toList)=true:=by rw [bne,q1];rfl
            have HDY:Hid (decide (y=kAtt)=false):=decide_eq_false hya;have HOFY:Hid (∀ W,Below wr.heap.size wr W->Calls Tryz.prog 26 #[zr.val,.string y] W (OfP v y A W)):=fun W hW=>rof_any v GV.out GM.out zr A W ((I9.out.behind hQ.out).behind hW) y;have HFN:Hid (textB (got v y)=false->ok=false):=fun h=>HN2.out (by
              rw [resB,HB1.out,HB2.out,Bool.true_and,Bool.true_and,List.all_eq_false];exact ⟨y,HYM.out,by rw [HDY.out,h];simp⟩)
            clear hya;go_wp2_with fail
            refine wp_region_held_drew (S:=(fun W=>W.cell? ⟨jb,jo+m,none⟩=some (.string y)/\W.heap[w5.heap.size]?=some (.cells zr.arr 29 (0,0)))) (by kernel_rfl) ?_ (fun hHeld=>?_)
            · exact HS.out _ (Below.refl _ _).drew
            have DR:Hid (Below wr.heap.size wr wr.drew):=(Below.refl _ _).drew;refine tk 0 ?_;refine tk 1 ?_;refine tk 2 ?_
            try simp only [nz]
            refine tv 3 (.string y) ?_ ?_
            · (intro w hs;have ee:=hs.1;clear hs;go_simp <;> with_reducible rfl)
            refine tv 4 (.bool true) ?_ ?_
            · (intro w hs;clear hs;go_simp <;> exact hyn)
            refine tk 5 ?_
            try simp only [nz]
            refine tv 6 (.agg #[.int .i64 zr.kind,.bool zr.is,.bool zr.neg,.string zr.dig,.int .i64 zr.exp,.string zr.str,.slice zr.ka zr.kn zr.kc,.slice zr.va zr.vn zr.vc]) ?_ ?_
            · (intro w hs;obtain ⟨⟨e0,e1,e2,e3,e4,e5,e6,e7⟩,_⟩:=val_cells hs.2;clear hs;go_simp <;> with_reducible rfl)
            refine tk 7 ?_;refine tk 8 ?_
            try simp only [nz]
            refine tk 9 ?_;refine tv 10 (.string y) ?_ ?_
            · (intro w hs;have ee:=hs.1;clear hs;go_simp <;> with_reducible rfl)
            try simp only [nz]
            refine rd 11 (fun K hK=>?_);have HC:=HOFY.out wr.drew DR.out;unfold Raw.val at HC
            try simp only [nz]
            go_simp
            go_at_call 26;refine (Calls.mono HC ?_)
            rintro z q1 hz;obtain ⟨rr,rfl,hr,E1⟩:=hz.to;clear hz HC;have D1:=bel DR E1;have HKD:=kind_is hr.out;obtain ⟨b4,hb4⟩:∃ b,(rr.kind != 4)=b:=⟨_,rfl⟩;have HTB:Hid (textB (got v y)=!b4):=by
              rw [Hid,textB,HKD,<-hb4,bne,Bool.not_not];by_cases h:rr.kind=4
              · rw [decide_eq_true h,h];rfl
              · rw [decide_eq_false h,eq_comm,beq_eq_false_iff_ne];exact h
            clear HKD;unfold Raw.val;clear hHeld;refine hK.out _ _ ?_ (fun hHeld=>?_)
            · exact HS.out _ D1.out
            clear hK K
            try simp only [nz]
            refine tv 12 (.int .i64 rr.kind) ?_ ?_
            · (intro w hs;clear hs;kernel_rfl)
            try simp only [nz]
            refine tk 13 ?_;refine tk 14 ?_
            try simp only [nz]
            refine wpAnyH_done (by kernel_rfl) ?_ _;clear hHeld;cases b4
            case true=>
              obtain rfl:=HFN.out (by rw [HTB.out];rfl);go_wp2_with fail
              go_ret
              exact ⟨rfl,(bel BQ D1).out⟩
            case false=>
              have M:=Hid.out (p:=Hid _) (HMM.out (by rw [HTB.out];simp));clear HMM HFN;go_wp2_with fail
              go_roundw
              case rel=>exact ⟨m+1,by go_num,by omega,M.out,(bel hQ D1).out⟩
              case measure=>simp [intOf];omega
        · have HRB:Hid (resB js v=true):=by
            have:=hM.out;rw [List.take_of_length_le (by omega)] at this;rw [Hid,resB,HB1.out,HB2.out,this];rfl
          have M:=Hid.out (p:=Hid _) (HMK.out (by trivial) HRB.out);go_wp2_with fail
          go_roundw
          case rel=>exact ⟨i+1,by go_num,by omega,M.out,(bel B29 hQ).out⟩
          case measure=>simp [intOf];omega
    · obtain rfl:true=ok:=by
        rw [<-HOK.out];exact (ress_yes HKV.out fun j hj hj'=>hA.out j hj hj' (by omega)).symm
      go_wp2_with fail
      go_ret
      exact ⟨rfl,B3.out⟩
theorem held_of {t:JV} (hf:Fine t):t.mass<=6000->Held 6000 t:=by
  induction hf with
  | mk k i n d e s ks vs f1 f2 f3 f4 ih=>
    intro hm
    rw [mass_mk] at hm;have hl:=masses_len vs;exact .mk k i n d e s ks vs (by omega) (by omega) (by omega) (by omega) (fun x hx=>Nat.le_trans (f3 x hx) (by omega)) (fun j hj=>ih j hj (by have:=masses_mem vs j hj;omega))
def headB (n:Nat) (js:List ByteArray) (t:JV):Bool:=ofB t js && (decide (wholeJ (got t kVer)=some n) && (wholeJ (got t kSer)).isSome)
theorem rhead_any (vn:Nat) (js:List ByteArray) (hj:js.length<=10) (hjv:kVer∈js) (hjs:kSer∈js) (t:JV) (hf:Fine t) (hm:t.mass<=3000) (hd:t.deepN<=1000) (ra:Raw) (A B:Nat->Prop) (w:World) (hi:IsV w A ra t) (ja:Option Addr) (jc:Nat) (ht:IsTexts w B ja js):Calls Tryz.prog 40 #[ra.val,.int .u64 vn,.slice ja js.length jc] w (IsPost (TR t/\headB vn js t=true) w):=by
  obtain ⟨w2,hw2,V2,B2⟩:=own8 w ra;have HR:=Hid.out (p:=Hid _) (right_is 6000 (by omega) t (held_of hf (by omega)) hd ra A w2 (hi.behind B2.out));have HOB:Hid (GoodQ t->∀ w',Below w.heap.size w w'->Calls Tryz.prog 96 #[ra.val,.slice ja js.length jc] w' (BoolP (ofB t js) w')):=fun hg w' h=>robject_any t hg hm ra A B w' (hi.behind h) js hj ja jc (ht.turn (Turn.below h));have HOF:Hid (GoodQ t->∀ w' x,Below w.heap.size w w'->Calls Tryz.prog 26 #[ra.val,.string x] w' (OfP t x A w')):=fun hg w' x h=>rof_any t hg hm ra A w' (hi.behind h) x;have HWH:Hid (GoodQ t->ofB t js=true->∀ x∈js,∀ w' rr,IsV w' A rr (got t x)->Calls Tryz.prog 25 #[rr.val] w' (WPst (wholeJ (got t x)) w')):=fun hg ho x hx w' rr hr=>rwholeJ_any (got t x) (got_good hg (of_look ho x hx)) rr A w' hr;obtain ⟨Q,hQ⟩:∃ Q,(GoodQ t/\t.deepN<=64)=Q:=⟨_,rfl⟩;have HG:Hid (Q->GoodQ t):=by rw [Hid,<-hQ];exact fun h=>h.1
  rw [show TR t=Q from hQ];rw [hQ] at HR;obtain ⟨b1,hb1⟩:∃ b,ofB t js=b:=⟨_,rfl⟩;have HB1:=Hid.out (p:=Hid _) hb1;rw [hb1] at HOB HWH;obtain ⟨r1,hr1⟩:∃ r,wholeJ (got t kVer)=r:=⟨_,rfl⟩;obtain ⟨r2,hr2⟩:∃ r,wholeJ (got t kSer)=r:=⟨_,rfl⟩;have HHB:Hid (headB vn js t=(b1 && (decide (r1=some vn) && r2.isSome))):=by rw [Hid,headB,hb1,hr1,hr2]
  have HW1:Hid (GoodQ t->b1=true->∀ w' rr,IsV w' A rr (got t kVer)->Calls Tryz.prog 25 #[rr.val] w' (WPst r1 w')):=fun h1 h2 w' rr h3=>by have:=HWH.out h1 h2 kVer hjv w' rr h3;rwa [hr1] at this
  have HW2:Hid (GoodQ t->b1=true->∀ w' rr,IsV w' A rr (got t kSer)->Calls Tryz.prog 25 #[rr.val] w' (WPst r2 w')):=fun h1 h2 w' rr h3=>by have:=HWH.out h1 h2 kSer hjs w' rr h3;rwa [hr2] at this
  obtain ⟨o2,ho2⟩:∃ o,r2.isSome=o:=⟨_,rfl⟩;obtain ⟨o1,ho1⟩:∃ o,r1.isSome=o:=⟨_,rfl⟩;have HO1:=Hid.out (p:=Hid _) ho1;have HO2:=Hid.out (p:=Hid _) ho2;have HX:Hid (∀ n c,(∀ m,r1=some m->n=m)->((n:Int) == (vn:Int))=c->headB vn js t=(b1 && (o1 && c && o2))):=fun n c hn hc=>by
    rw [HHB.out,ho2,<-ho1,<-hc]
    cases r1 with
    | none=>rfl
    | some m=>
      obtain rfl:=hn m rfl;by_cases h1:n=vn
      · subst h1;simp
      · rw [decide_eq_false (fun e=>h1 (by injection e)),show ((n:Int) == (vn:Int))=false by rw [beq_eq_false_iff_ne];omega];simp
  clear hi hf hm hd ht hQ hb1 hr1 hr2 ho1 ho2 HWH HHB hjv hjs;unfold Raw.val at HR HOB HOF ⊢;obtain ⟨⟨x0,x1,x2,x3,x4,x5,x6,x7⟩,_⟩:=val_cells V2.out;go_enter Tryz.func40,Tryz.ntmps40
  go_wp2_with fail
  refine (Calls.mono HR.out ?_);rintro z w3 ⟨b,rfl,hb,hb3⟩;have HB:=Hid.out (p:=Hid _) hb;have E3:=Hid.out (p:=Hid _) hb3;have B3:=bel B2 E3;have V3:=hst V2 E3;clear hb hb3 x0 x1 x2 x3 x4 x5 x6 x7 hw2 HR;cases b
  case false=>
    go_wp2_with fail
    go_ret
    exact .no rfl (fun h=>by have:=HB.out.2 h.1;cases this) B3.out
  have HQ:Hid Q:=HB.out.1 rfl;have C1:=Hid.out (p:=Hid _) (HOB.out (HG.out HQ.out) w3 B3.out);obtain ⟨⟨x0,x1,x2,x3,x4,x5,x6,x7⟩,_⟩:=val_cells V3.out;go_wp2_with fail
  refine (Calls.mono C1.out ?_);rintro z w4 hz;obtain ⟨rfl,E4⟩:=hz.to;have B4:=bel B3 E4;have V4:=hst V3 E4;clear hz x0 x1 x2 x3 x4 x5 x6 x7;cases b1
  case false=>
    go_wp2_with fail
    go_ret
    exact .no rfl (fun h=>by have h:=h.2;rw [headB,HB1.out] at h;cases h) B4.out
  have C2:=Hid.out (p:=Hid _) (HOF.out (HG.out HQ.out) w4 kVer B4.out);unfold kVer at C2;obtain ⟨⟨x0,x1,x2,x3,x4,x5,x6,x7⟩,_⟩:=val_cells V4.out;go_wp2_with fail
  refine (Calls.mono C2.out ?_);rintro z w5 hz;obtain ⟨z1,rfl,i1,E5⟩:=hz.to;have B5:=bel B4 E5;have V5:=hst V4 E5;have C3:=Hid.out (p:=Hid _) (HW1.out (HG.out HQ.out) (by trivial) w5 z1 i1.out);clear hz x0 x1 x2 x3 x4 x5 x6 x7;unfold Raw.val at C3 ⊢;go_wp2_with fail
  refine (Calls.mono C3.out ?_);rintro z w6 ⟨n1,rfl,hn1,hb6⟩;have HN1:=Hid.out (p:=Hid _) hn1;have E6:=Hid.out (p:=Hid _) hb6;rw [HO1.out];have B6:=bel B5 E6;have V6:=hst V5 E6;have C4:=Hid.out (p:=Hid _) (HOF.out (HG.out HQ.out) w6 kSer B6.out);unfold kSer at C4;obtain ⟨⟨x0,x1,x2,x3,x4,x5,x6,x7⟩,_⟩:=val_cells V6.out;clear hn1 hb6;go_wp2_with fail
  refine (Calls.mono C4.out ?_);rintro z w7 hz;obtain ⟨z2,rfl,i2,E7⟩:=hz.to;have B7:=bel B6 E7;have C5:=Hid.out (p:=Hid _) (HW2.out (HG.out HQ.out) (by trivial) w7 z2 i2.out);clear hz x0 x1 x2 x3 x4 x5 x6 x7;unfold Raw.val at C5 ⊢;go_wp2_with fail
  refine (Calls.mono C5.out ?_);rintro z w8 ⟨n2,rfl,hn2,hb8⟩;have E8:=Hid.out (p:=Hid _) hb8;rw [HO2.out];have B8:=bel B7 E8;obtain ⟨c,hc⟩:∃ c,((n1:Int) == (vn:Int))=c:=⟨_,rfl⟩;have HC:=Hid.out (p:=Hid _) hc;clear hn2 hb8;have HF:Hid (headB vn js t=(o1 && c && o2)):=by rw [Hid,HX.out n1 c HN1.out HC.out,Bool.true_and]
  cases o1
  case false=>
    go_wp2_with fail
    go_ret
    exact .no rfl (fun h=>by have h:=h.2;rw [HF.out] at h;simp at h) B8.out
  cases c
  case false=>
    go_wp2_with fail
    go_ret
    exact .no rfl (fun h=>by have h:=h.2;rw [HF.out] at h;simp at h) B8.out
  go_wp2_with fail
  go_ret
  exact ⟨o2,by simp,⟨fun h=>⟨HQ.out,by rw [HF.out,h];rfl⟩,fun h=>by have h:=h.2;rw [HF.out] at h;simpa using h⟩,B8.out⟩
end Go.Proofs.YtliekocamnklfaaGreatDoor.One
