/- addr.Old. -/
import Derived.Test.YtliekocamnklfaaGreatDoorPAdY
import Derived.Test.YtliekocamnklfaaGreatDoorPRtC
set_option linter.unusedVariables false
set_option linter.unusedSimpArgs false
set_option maxRecDepth 100000
set_option maxHeartbeats 8000000
namespace Go.Proofs.YtliekocamnklfaaGreatDoor.Addr
open Go.RowKit Go.Shelf Utf Strs Lex
open Jdec (gb_refl gb_drew gb_set gb_below IsTexts infoStr)
theorem right_zero:rightO zeroA=none:=by
  have h:identB []=false:=by
    unfold identB;rw [toksAt]
    rfl
  unfold rightO;rw [if_neg];intro hr
  have:=(right_parts hr).type;have h2:identB []=true:=this;rw [h] at h2;cases h2
theorem cell_gb {w w':World} {b o r:Nat} (h:w.grownBy w' (some r)) (hb:b<w.heap.size) (hne:b≠r):w'.cell? ⟨b,o,none⟩=w.cell? ⟨b,o,none⟩:=by
  have:=h.block b hb (by intro e;injection e with e;exact hne e);simp only [World.cell?,this]
theorem OI.named {w wx:World} {b n:Nat} {a:Adr} {x y:ByteArray} (h:OI w wx b n a) (hx:x.size<=n) (hy:y.size<=n):OI w ((wx.drew.setCell ⟨b,1,none⟩ (.string x)).setCell ⟨b,2,none⟩ (.string y)) b n { a with type:=x,name:=y }:=by
  have hg:wx.grownBy ((wx.drew.setCell ⟨b,1,none⟩ (.string x)).setCell ⟨b,2,none⟩ (.string y)) (some b):=(gb_drew wx 1 _).trans ((gb_set _ _ _ _).trans (gb_set _ _ _ _));have hb:=h.bb;refine ⟨?_,(hg.block _ (heap_lt h.R) (by intro e;injection e with e;omega)).trans h.R,h.B.grown hg h.B.size (fun k hk=>by injection hk with hk;omega),h.bb,h.cp,hx,hy,h.wd⟩;have h1:wx.drew.heap[b]?=some (.cells (arrA none 0 a) 67 (0,0)):=h.A;rw [heap_set_same (heap_set_same h1 _)];simp [arrA]
/-! ## No more than so many pieces -/
theorem splitC_full:∀ (k:Nat) (l:List UInt8),l.length<=k->splitC k l=partsB l:=by
  intro k
  induction k with
  | zero=>
    intro l h
    rw [List.length_eq_zero_iff.1 (Nat.le_zero.1 h)];rfl
  | succ k ih=>
    intro l h
    rw [splitC,partsB_cut]
    cases hc:cutB 46 l with
    | none=>rfl
    | some y=>
      obtain ⟨a,b⟩:=y;obtain ⟨e,_⟩:=cutB_some hc;have hl:=congrArg List.length e;simp only [List.length_append,List.length_cons] at hl
      simp only []
      rw [ih b (by omega)]
theorem splitC_min (l:List UInt8):splitC (min 4 l.length) l=splitC 4 l:=by
  rcases Nat.le_or_le 4 l.length with h | h
  · rw [Nat.min_eq_left h]
  · rw [Nat.min_eq_right h,splitC_full _ _ (Nat.le_refl _),splitC_full _ _ h]
theorem splitC_ne:∀ (k:Nat) (l:List UInt8),splitC k l≠[]:=by
  intro k l
  cases k with
  | zero=>simp [splitC]
  | succ k=>rw [splitC];split <;> simp
theorem splitC_le:∀ (k:Nat) (l:List UInt8),∀ p∈splitC k l,p.length<=l.length:=by
  intro k
  induction k with
  | zero=>intro l p hp;rw [splitC,List.mem_singleton] at hp;rw [hp];exact Nat.le_refl _
  | succ k ih=>
    intro l p hp
    rw [splitC] at hp
    cases hc:cutB 46 l with
    | none=>rw [hc] at hp;rw [List.mem_singleton.1 hp];exact Nat.le_refl _
    | some y=>
      obtain ⟨a,b⟩:=y;obtain ⟨e,_⟩:=cutB_some hc;have hl:=congrArg List.length e;simp only [List.length_append,List.length_cons] at hl
      rw [hc] at hp;rcases List.mem_cons.1 hp with rfl | hp
      · omega
      · have:=ih b p hp;omega
theorem cellsOf_get (ps:List ByteArray) (N i:Nat) (h:i<ps.length):(Lib.cellsOf ps N)[i]?=some (.string ps[i]):=by
  simp only [Lib.cellsOf,List.getElem?_toArray]
  rw [List.getElem?_append_left (by simpa using h),List.getElem?_map,List.getElem?_eq_getElem h]
  rfl
def SpPost (s:ByteArray) (w:World) (e:Ending) (w':World):Prop:=
  ∃ (ps:List ByteArray) (N:Nat),e=.returned (.slice (some ⟨w.heap.size,0,none⟩) ps.length N)/\lists ps=splitC 4 s.data.toList/\(∀ i (h:i<ps.length),w'.cell? ⟨w.heap.size,i,none⟩=some (.string ps[i]))/\Below w.heap.size w w'/\ps.length<=N/\N<=5/\w.heap.size<w'.heap.size
theorem splitN_any (s:ByteArray) (w:World) (hs:s.size<=6000) (T:MaxL w):Calls Tryz.prog 105 #[.string s,.string ⟨#[46]⟩,.int .i64 5] w (SpPost s w):=by
  obtain ⟨m,hm⟩:=T.cell;have hl:s.data.toList.length=s.size:=by simp
  obtain ⟨N,hN⟩:∃ N,min 5 (s.size+1)=N:=⟨_,rfl⟩;have hN1:N-1=min 4 s.data.toList.length:=by omega
  have hsp:lists (Lib.splitB ⟨#[46]⟩ 0 (N-1) s)=splitC 4 s.data.toList:=by
    have h1:=Lib.splitB_data ⟨#[46]⟩ 0 (N-1) s;have h2:lists (Lib.splitB ⟨#[46]⟩ 0 (N-1) s)=Lib.splitK [46] 0 (N-1) s.data.toList:=h1;rw [h2,split_eq,hN1,splitC_min]
  have hle:=Lib.splitB_length_le ⟨#[46]⟩ 0 (N-1) s;have hmin:(min 5 (s.size+1))-1=N-1:=by rw [hN]
  have hsn:=Tryz.strings_SplitN s ⟨#[46]⟩ 5 m w (by omega) hm (by decide) (by omega) (by omega);rw [hN] at hsn;refine hsn.mono ?_;rintro e w' ⟨rfl,rfl⟩;refine ⟨Lib.splitB ⟨#[46]⟩ 0 (N-1) s,N,rfl,hsp,fun i h=>?_,(Below.refl _ _).alloc (Nat.le_refl _) _,by omega,by omega,by simp⟩;rw [cell_of (heap_alloc_new _ _) i];rw [cellsOf_get _ _ _ h]
theorem old_ret (r:Option Adr) (w w':World) (tm:Array Value) (pa:Option Addr) (pc:Nat) (a:Adr) (er:Int) (hb:w'.heap[w.heap.size]?=some (.cells (arrA pa pc a) 67 (0,0)))
    (h2:tm[2]?=some (.pointer (some ⟨w.heap.size,0,none⟩))) (h3:tm[3]?=some (.int .i64 er)) (hp:APost r w (.returned (.tuple #[wordsA pa pc a,.int .i64 er])) w') :
    bodyPost Tryz.prog Tryz.f61 (APost r w) Exit.ret { tmps:=tm,defers:=[] } w':=by
  obtain ⟨c0,c1,c2,c3,c4,c5⟩:=adr_cells hb;refine bodyPost_ret (v:=.tuple #[wordsA pa pc a,.int .i64 er]) ?_ rfl hp;simp [results,Tryz.results61,go_sem,h2,h3,c0,c1,c2,c3,c4,c5,wordsA]
theorem old_none (s:ByteArray) (w w2:World) (tm:Array Value) (pa:Option Addr) (pc:Nat) (a:Adr) (hb:w2.heap[w.heap.size]?=some (.cells (arrA pa pc a) 67 (0,0))) (hB:Below w.heap.size w w2) (hr:oldP s.data.toList=none)
    (h2:tm[2]?=some (.pointer (some ⟨w.heap.size,0,none⟩))) (h3:tm[3]?=some (.int .i64 3)) :
    bodyPost Tryz.prog Tryz.f61 (APost (oldP s.data.toList) w) Exit.ret { tmps:=tm,defers:=[] }
      ((((((w2.setCell ⟨w.heap.size,0,none⟩ (.slice none 0 0)).setCell ⟨w.heap.size,1,none⟩ (.string ⟨#[]⟩)).setCell ⟨w.heap.size,2,none⟩ (.string ⟨#[]⟩)).setCell ⟨w.heap.size,3,none⟩ (.int .i64 0)).setCell ⟨w.heap.size,4,none⟩ (.int .u64 0)).setCell ⟨w.heap.size,5,none⟩ (.string ⟨#[]⟩)):=by
  refine old_ret _ w _ tm none 0 zeroA 3 (setA hb none 0 zeroA) h2 h3 ?_;rw [hr];exact ⟨none,0,rfl,.inl rfl,hB.grown (gb6 w2 w.heap.size _ _ _ _ _ _) hB.size (fun k hk=>by injection hk with hk;omega)⟩
theorem old_some (r:Option Adr) (w w2:World) (tm:Array Value) (pa:Option Addr) (pc:Nat) (a c:Adr) (hb:w2.heap[w.heap.size]?=some (.cells (arrA pa pc a) 67 (0,0))) (hB:Below w.heap.size w w2) (hr:r=some c) (hc:c.path=[])
    (h2:tm[2]?=some (.pointer (some ⟨w.heap.size,0,none⟩))) (h3:tm[3]?=some (.int .i64 0)) :
    bodyPost Tryz.prog Tryz.f61 (APost r w) Exit.ret { tmps:=tm,defers:=[] }
      ((((((w2.setCell ⟨w.heap.size,0,none⟩ (.slice none 0 0)).setCell ⟨w.heap.size,1,none⟩ (.string c.type)).setCell ⟨w.heap.size,2,none⟩ (.string c.name)).setCell ⟨w.heap.size,3,none⟩ (.int .i64 c.key)).setCell ⟨w.heap.size,4,none⟩ (.int .u64 c.place)).setCell ⟨w.heap.size,5,none⟩ (.string c.word)):=by
  have hs:=setA hb none 0 c;have hl:c.path.length=0:=by rw [hc];rfl
  rw [hl] at hs;refine old_ret _ w _ tm none 0 c 0 hs h2 h3 ?_;rw [hr];exact ⟨none,0,rfl,.inl hc,hB.grown (gb6 w2 w.heap.size _ _ _ _ _ _) hB.size (fun k hk=>by injection hk with hk;omega)⟩
theorem old_any (s:ByteArray) (w:World) (hs:s.size<=6000) (T:TabsP w):Calls Tryz.prog 61 #[.string s] w (APost (oldP s.data.toList) w):=by
  obtain ⟨w1,hw1,R1,B1,Z1⟩:=zero_new w;have HT:=Hid.out (p:=Hid _) T;have HPT:Hid (Calls Tryz.prog 105 #[.string s,.string ⟨#[46]⟩,.int .i64 5] w1 (SpPost s w1)):=splitN_any s w1 hs (T.stays B1.out).t.m;have hl1:=heap_lt R1.out;clear T;go_enter Tryz.func61,Tryz.ntmps61
  go_wp2_with fail
  refine (Calls.mono HPT.out ?_);rintro z w2 ⟨ps,N,rfl,hps,hc,hb2,hpN,hN5,hbl⟩;obtain ⟨b,hb⟩:∃ b,w1.heap.size=b:=⟨_,rfl⟩;have hwb:w.heap.size<b:=by omega
  rw [hb] at hc hbl hb2 ⊢;have R2:Hid (w2.heap[w.heap.size]?=some (.cells (arrA none 0 zeroA) 67 (0,0))):=(hb2.block _ (by omega)).trans R1.out;have B2:Hid (Below w.heap.size w w2):=B1.out.trans (hb2.mono (by omega));have HLP:Hid (lists ps=splitC 4 s.data.toList):=hps;have HPZ:Hid (∀ x∈ps,x.size<=s.size):=fun x hx=>by
    have h1:x.data.toList∈lists ps:=List.mem_map_of_mem hx;rw [hps] at h1;have h2:=splitC_le _ _ _ h1
    simpa using h2
  have hp0:0<ps.length:=by
    have h1:=congrArg List.length hps;rw [lists_len] at h1;have h2:=splitC_ne 4 s.data.toList;rcases Nat.eq_zero_or_pos ps.length with h | h
    · rw [h] at h1;exact absurd (List.length_eq_zero_iff.1 h1.symm) h2
    · exact h
  have HC:=Hid.out (p:=Hid _) hc;obtain ⟨d,hd⟩:∃ d,decide ((lists ps).head?=some dataL/\3<=(lists ps).length)=d:=⟨_,rfl⟩;have HD:=Hid.out (p:=Hid _) hd;have k00:=HC.out 0 hp0;obtain ⟨x0,hx0⟩:∃ x,ps[0]=x:=⟨_,rfl⟩;rw [hx0] at k00;have hdat:((x0.toList == [100,97,116,97])=true↔(lists ps).head?=some dataL):=by
    rw [head_data hp0,hx0,beq_iff_eq,Lib.toList_data];rfl
  have HDT:=Hid.out (p:=Hid _) hdat;clear hps hb2 hc hd hx0 hdat HPT hw1 R1 B1 Z1 hb
  go_upto_region 2 with (fail)
  go_cut [18] (fun p wx=>w2=wx/\p=.bool d)
  case first=>
    obtain ⟨t,ht⟩:∃ t,(x0.toList == [100,97,116,97])=t:=⟨_,rfl⟩;have HTT:=Hid.out (p:=Hid _) ht;cases t
    · have HF:Hid (d=false):=by
        rw [Hid,<-HD.out,decide_eq_false_iff_not];rintro ⟨h,_⟩;have:=HDT.out.2 h;rw [HTT.out] at this;cases this
      go_wp2_with fail
      go_meet
      exact ⟨rfl,by rw [HF.out]⟩
    · obtain ⟨t3,ht3⟩:∃ t,decide (3<=ps.length)=t:=⟨_,rfl⟩;have ht3':decide ((3:Int)<=(ps.length:Int))=t3:=by rw [<-ht3];apply decide_eq_decide.2;omega
      have HF:Hid (d=t3):=by
        rw [Hid,<-HD.out,<-ht3,lists_len];apply decide_eq_decide.2
        exact ⟨fun h=>h.2,fun h=>⟨HDT.out.1 HTT.out,h⟩⟩
      go_wp2_with fail
      go_meet
      exact ⟨rfl,by rw [HF.out]⟩
  case rest=>
  obtain ⟨rfl,rfl⟩:=hcut
  go_upto_if 18 with (fail)
  go_cut [4] (fun p wx=>w2=wx/\∃ (o:Nat) (qs:List ByteArray) (M:Nat),p=.slice (some ⟨b,o,none⟩) qs.length M/\qs.length<=5/\qs.length<=M/\M<=5/\Hid (lists qs=undata (splitC 4 s.data.toList))/\Hid (∀ j (h:j<qs.length),w2.cell? ⟨b,o+j,none⟩=some (.string qs[j])/\qs[j].size<=s.size))
  case first=>
    cases d
    · have HF:Hid (lists ps=undata (splitC 4 s.data.toList)):=by
        rw [Hid,<-HLP.out,undata,if_neg (of_decide_eq_false HD.out)]
      have HCC:Hid (∀ j (h:j<ps.length),w2.cell? ⟨b,0+j,none⟩=some (.string ps[j])/\ps[j].size<=s.size):=fun j h=>by
        rw [Nat.zero_add];exact ⟨HC.out j h,HPZ.out _ (List.getElem_mem _)⟩
      go_wp2_with fail
      go_meet
      exact ⟨rfl,0,ps,N,rfl,by omega,by omega,by omega,HF.out,HCC.out⟩
    · have hd3:=of_decide_eq_true HD.out;rw [lists_len] at hd3;have h3:=hd3.2;have HF:Hid (lists (ps.drop 1)=undata (splitC 4 s.data.toList)):=by
        rw [Hid,lists_drop,<-HLP.out,undata,if_pos (of_decide_eq_true HD.out)]
      obtain ⟨q,hq⟩:∃ q,q+1=ps.length:=⟨ps.length-1,by omega⟩;obtain ⟨M,hM⟩:∃ M,M+1=N:=⟨N-1,by omega⟩;have hql:(ps.drop 1).length=q:=by rw [List.length_drop];omega
      have HCC:Hid (∀ j (h:j<(ps.drop 1).length),w2.cell? ⟨b,1+j,none⟩=some (.string (ps.drop 1)[j])/\(ps.drop 1)[j].size<=s.size):=fun j h=>by
        rw [List.getElem_drop];exact ⟨HC.out (1+j) (by rw [hql] at h;omega),HPZ.out _ (List.getElem_mem _)⟩
      have hg1:(ps.length:Int)-1=(q:Int):=by omega
      have hg2:(N:Int)-1=(M:Int):=by omega
      have hg3:ps.length-1=q:=by omega
      have hg4:N-1=M:=by omega
      have HQL:=Hid.out (p:=Hid _) hql;clear hd3 hql;go_wp2_with fail
      go_meet
      exact ⟨rfl,1,ps.drop 1,M,by rw [HQL.out],by rw [HQL.out];omega,by rw [HQL.out];omega,by omega,HF.out,HCC.out⟩
  case rest=>
  obtain ⟨rfl,o,qs,M,rfl,hq5,hqM,hM5,hU,hQ⟩:=hcut;have HOLD:Hid (oldP s.data.toList=oldOf digitsP (lists qs)):=by rw [Hid,oldP,hU.out]
  have hlR:=heap_lt R2.out;obtain ⟨w3,hw3,A3,B3,Z3⟩:=zero_new w2;have hI3:OI w w3 w2.heap.size s.size zeroA:=⟨A3.out,(B3.out.block _ hlR).trans R2.out,B2.out.trans (B3.out.mono (by omega)),hlR,rfl,Nat.zero_le _,Nat.zero_le _,rfl⟩;have HI3:=Hid.out (p:=Hid _) hI3;have HQ3:Hid (∀ W,Below w2.heap.size w2 W->∀ j (h:j<qs.length),W.cell? ⟨b,o+j,none⟩=some (.string qs[j])):=fun W hW j h=>(cell_stays hW hbl).trans (hQ.out j h).1;have B23:Hid (Below w2.heap.size w2 w3):=B3.out;clear hI3 A3 B3 Z3
  go_upto_block 0 with (fail)
  clear hw3
  go_cut [] (fun wx=>∃ c,Hid (OI w wx w2.heap.size s.size c)/\Hid (oldP s.data.toList=rightO c))
  case first=>
    by_cases h3:qs.length=3
    · have q3:((qs.length:Int) == 3)=true:=by rw [beq_iff_eq];omega
      have k0:=HQ3.out w3 B23.out 0 (by omega);have k1:=HQ3.out w3 B23.out 1 (by omega);have k2:=HQ3.out w3 B23.out 2 (by omega);obtain ⟨x,hx⟩:∃ x,qs[0]=x:=⟨_,rfl⟩;obtain ⟨y,hy⟩:∃ y,qs[1]=y:=⟨_,rfl⟩;obtain ⟨z,hz⟩:∃ z,qs[2]=z:=⟨_,rfl⟩;have zx:=(hQ.out 0 (by omega)).2;have zy:=(hQ.out 1 (by omega)).2;have zz:=(hQ.out 2 (by omega)).2;rw [hx,Nat.add_zero] at k0;rw [hx] at zx;rw [hy] at k1 zy;rw [hz] at k2 zz;have KX:Hid (∀ W,Below w2.heap.size w2 W->W.cell? ⟨b,o,none⟩=some (.string x)):=fun W hW=>by have:=HQ3.out W hW 0 (by omega);rw [hx,Nat.add_zero] at this;exact this
      have KY:Hid (∀ W,Below w2.heap.size w2 W->W.cell? ⟨b,o+1,none⟩=some (.string y)):=fun W hW=>by have:=HQ3.out W hW 1 (by omega);rw [hy] at this;exact this
      have HF:Hid (oldP s.data.toList=match digitsP z.data.toList with | none=>none | some n=>rightO (withKey (adr0 [] x y) (1,n,⟨#[]⟩))):=by
        rw [Hid,HOLD.out,oldOf_three h3,hx,hy,hz]
        all_goals (cases digitsP z.data.toList <;> rfl)
      have hdg:=digits_any z w3 (by omega) (HT.out.stays HI3.out.B).e;have HDG:Hid (Calls Tryz.prog 106 #[.string z] w3 (DPost z.data.toList w3)):=hdg;have H3:=Hid.out (p:=Hid _) h3;have l0:0<qs.length:=by omega
      have l1:1<qs.length:=by omega
      have l2:2<qs.length:=by omega
      clear hx hy hz hdg h3;go_wp2_with fail
      refine (Calls.mono HDG.out ?_);rintro v w4 ⟨n,rfl,hnn,hb4⟩;have hlA:=heap_lt HI3.out.A;have A4:Hid (w4.heap[w2.heap.size]?=some (.cells (arrA none 0 zeroA) 67 (0,0))):=(hb4.block _ hlA).trans HI3.out.A;have R4:Hid (w4.heap[w.heap.size]?=some (.cells (arrA none 0 zeroA) 67 (0,0))):=(hb4.block _ (by omega)).trans HI3.out.R;have B4:Hid (Below w.heap.size w w4):=HI3.out.B.trans (hb4.mono (by omega));have B24:Hid (Below w2.heap.size w2 w4):=B23.out.trans (hb4.mono (by omega));clear hb4 k0 k1 k2
      cases hnb:digitsP z.data.toList with
      | none=>
        have HN:Hid (oldP s.data.toList=none):=by rw [Hid,HF.out,hnb]
        obtain ⟨g0,g1,g2,g3,g4,g5⟩:=adr_frozen R4.out;obtain ⟨u0,u1,u2,u3,u4,u5⟩:=adr_cells R4.out;clear hnn;go_wp2_with fail
        exact old_none s w w4 _ _ _ _ R4.out B4.out HN.out rfl rfl
      | some n0=>
        obtain rfl:n=n0:=hnn n0 hnb;have HN:Hid (oldP s.data.toList=rightO (withKey (adr0 [] x y) (1,n,⟨#[]⟩))):=by rw [Hid,HF.out,hnb]
        have hI4:OI w w4 w2.heap.size s.size zeroA:=⟨A4.out,R4.out,B4.out,HI3.out.bb,rfl,Nat.zero_le _,Nat.zero_le _,rfl⟩;obtain ⟨w5,hw5⟩:∃ w5,(w4.setCell ⟨w2.heap.size,3,none⟩ (.int .i64 1)).setCell ⟨w2.heap.size,4,none⟩ (.int .u64 n)=w5:=⟨_,rfl⟩;have HI5:Hid (OI w w5 w2.heap.size s.size (withKey zeroA (1,n,⟨#[]⟩))):=by rw [<-hw5];exact OI.two (x:=⟨#[]⟩) (y:=⟨#[]⟩) hI4 n
        have hg5:w4.grownBy w5 (some w2.heap.size):=by rw [<-hw5];exact (gb_set _ _ _ _).trans (gb_set _ _ _ _)
        have hb4:b<w4.heap.size:=by have:=B24.out.size;omega
        have k0:w5.cell? ⟨b,o,none⟩=some (.string x):=by rw [cell_gb hg5 hb4 (by omega)];exact KX.out w4 B24.out
        have k1:w5.cell? ⟨b,o+1,none⟩=some (.string y):=by rw [cell_gb hg5 hb4 (by omega)];exact KY.out w4 B24.out
        have f3:=frozen_of A4.out 3;have f4:=frozen_of A4.out 4;have v3:w4.cell? ⟨w2.heap.size,3,none⟩=some (.int .i64 0):=cell_of A4.out 3;have v4:w4.cell? ⟨w2.heap.size,4,none⟩=some (.int .u64 0):=cell_of A4.out 4;have g1:=frozen_of HI5.out.A 1;have g2:=frozen_of HI5.out.A 2;have u1:w5.cell? ⟨w2.heap.size,1,none⟩=some (.string ⟨#[]⟩):=cell_of HI5.out.A 1;have u2:w5.cell? ⟨w2.heap.size,2,none⟩=some (.string ⟨#[]⟩):=cell_of HI5.out.A 2;have HF5:Hid (OI w ((w5.drew.setCell ⟨w2.heap.size,1,none⟩ (.string x)).setCell ⟨w2.heap.size,2,none⟩ (.string y)) w2.heap.size s.size (withKey (adr0 [] x y) (1,n,⟨#[]⟩))):=HI5.out.named zx zy;clear hI4 hg5 hnn hb4;go_wp2_with fail
        go_region
        go_wp2_with fail
        go_meet
        exact ⟨_,HF5.out,HN.out⟩
    · have q3:((qs.length:Int) == 3)=false:=by rw [beq_eq_false_iff_ne];omega
      by_cases h2:qs.length=2
      · have q2:((qs.length:Int) == 2)=true:=by rw [beq_iff_eq];omega
        have k0:=HQ3.out w3 B23.out 0 (by omega);have k1:=HQ3.out w3 B23.out 1 (by omega);obtain ⟨x,hx⟩:∃ x,qs[0]=x:=⟨_,rfl⟩;obtain ⟨y,hy⟩:∃ y,qs[1]=y:=⟨_,rfl⟩;have zx:=(hQ.out 0 (by omega)).2;have zy:=(hQ.out 1 (by omega)).2;rw [hx,Nat.add_zero] at k0;rw [hx] at zx;rw [hy] at k1 zy;have HF:Hid (oldP s.data.toList=rightO (adr0 [] x y)):=by
          rw [Hid,HOLD.out,oldOf_two h2,hx,hy]
        have g1:=frozen_of HI3.out.A 1;have g2:=frozen_of HI3.out.A 2;have u1:w3.cell? ⟨w2.heap.size,1,none⟩=some (.string ⟨#[]⟩):=cell_of HI3.out.A 1;have u2:w3.cell? ⟨w2.heap.size,2,none⟩=some (.string ⟨#[]⟩):=cell_of HI3.out.A 2;have HF5:Hid (OI w ((w3.drew.setCell ⟨w2.heap.size,1,none⟩ (.string x)).setCell ⟨w2.heap.size,2,none⟩ (.string y)) w2.heap.size s.size (adr0 [] x y)):=HI3.out.named zx zy;have l0:0<qs.length:=by omega
        have l1:1<qs.length:=by omega
        clear hx hy h2 h3;go_wp2_with fail
        go_region
        go_wp2_with fail
        go_meet
        exact ⟨_,HF5.out,HF.out⟩
      · have q2:((qs.length:Int) == 2)=false:=by rw [beq_eq_false_iff_ne];omega
        have HF:Hid (oldP s.data.toList=rightO zeroA):=by
          rw [Hid,HOLD.out,oldOf_other h2 h3];exact right_zero.symm
        go_wp2_with fail
        go_meet
        exact ⟨_,HI3.out,HF.out⟩
  case rest=>
  obtain ⟨c,hI,hO⟩:=hcut;have hcp:=hI.out.cp;have hra:=right_any c none 0 (fun _=>True) wc (.inl hcp) (by rw [hcp];simp) (by rw [hcp];intro x hx;cases hx) (by have:=hI.out.ty;omega) (by have:=hI.out.nm;omega) (by rw [hI.out.wd];exact Nat.zero_le _) (HT.out.stays hI.out.B).t;rw [words0 c hcp] at hra;obtain ⟨r,hr⟩:∃ r,rightA c=r:=⟨_,rfl⟩;rw [hr] at hra;have HRR:=Hid.out (p:=Hid _) hr;have HRA:Hid (Calls Tryz.prog 107 #[.agg #[.slice none 0 0,.string c.type,.string c.name,.int .i64 c.key,.int .u64 c.place,.string c.word]] wc fun e w'=>e=.returned (.bool r)/\Below (wc:World).heap.size wc w'):=hra;have hbw:=hI.out.bb;have hlA:=heap_lt hI.out.A;obtain ⟨y0,y1,y2,y3,y4,y5⟩:wc.cell? ⟨w2.heap.size,0,none⟩=some (.slice none 0 0)/\wc.cell? ⟨w2.heap.size,1,none⟩=some (.string c.type)/\wc.cell? ⟨w2.heap.size,2,none⟩=some (.string c.name)/\wc.cell? ⟨w2.heap.size,3,none⟩=some (.int .i64 c.key)/\wc.cell? ⟨w2.heap.size,4,none⟩=some (.int .u64 c.place)/\wc.cell? ⟨w2.heap.size,5,none⟩=some (.string c.word):=adr_cells0 hI.out.A hcp;have HCP:=Hid.out (p:=Hid _) hcp;clear hra hr hcp;go_wp2_with fail
  refine (Calls.mono HRA.out ?_);rintro z w8 ⟨rfl,hb8⟩;have A8:Hid (w8.heap[w2.heap.size]?=some (.cells (arrA none 0 c) 67 (0,0))):=(hb8.block _ hlA).trans hI.out.A;have R8:Hid (w8.heap[w.heap.size]?=some (.cells (arrA none 0 zeroA) 67 (0,0))):=(hb8.block _ (by omega)).trans hI.out.R;have B8:Hid (Below w.heap.size w w8):=hI.out.B.trans (hb8.mono (by omega));clear hb8 y0 y1 y2 y3 y4 y5 HRA;obtain ⟨f0,f1,f2,f3,f4,f5⟩:=adr_frozen R8.out;obtain ⟨x0,x1,x2,x3,x4,x5⟩:=adr_cells R8.out;cases r
  · have HN:Hid (oldP s.data.toList=none):=by rw [Hid,hO.out,rightO,HRR.out];rfl
    go_wp2_with fail
    exact old_none s w w8 _ _ _ _ R8.out B8.out HN.out rfl rfl
  · have HN:Hid (oldP s.data.toList=some c):=by rw [Hid,hO.out,rightO,HRR.out];rfl
    obtain ⟨y0,y1,y2,y3,y4,y5⟩:w8.cell? ⟨w2.heap.size,0,none⟩=some (.slice none 0 0)/\w8.cell? ⟨w2.heap.size,1,none⟩=some (.string c.type)/\w8.cell? ⟨w2.heap.size,2,none⟩=some (.string c.name)/\w8.cell? ⟨w2.heap.size,3,none⟩=some (.int .i64 c.key)/\w8.cell? ⟨w2.heap.size,4,none⟩=some (.int .u64 c.place)/\w8.cell? ⟨w2.heap.size,5,none⟩=some (.string c.word):=adr_cells0 A8.out HCP.out;go_wp2_with fail
    exact old_some _ w w8 _ _ _ _ c R8.out B8.out HN.out HCP.out rfl rfl
end Go.Proofs.YtliekocamnklfaaGreatDoor.Addr
namespace Go.Proofs.YtliekocamnklfaaGreatDoor.Jdec
open Go.RowKit Strs
theorem mass_pos (v:JV):1<=v.mass:=by
  cases v with
  | mk k i n d e s ks vs=>rw [mass_mk];omega
theorem masses_len:∀ vs:List JV,vs.length<=masses vs
  | []=>Nat.zero_le _
  | v::t=>by have:=masses_len t;have:=mass_pos v;rw [masses_cons,List.length_cons];omega
theorem masses_mem:∀ (vs:List JV) (j:Nat) (h:j<vs.length),vs[j].mass<=masses vs
  | [],j,h=>absurd h (Nat.not_lt_zero _)
  | v::t,0,h=>by rw [masses_cons];show v.mass<=_;omega
  | v::t,j+1,h=>by
    have:=masses_mem t j (by simpa using h);rw [masses_cons,List.getElem_cons_succ];omega
end Go.Proofs.YtliekocamnklfaaGreatDoor.Jdec
