/- tabulariumref17.Old. -/
import Derived.Test.YtliekocamnklfaaGreatDoorPAdT
set_option linter.unusedVariables false
set_option linter.unusedSimpArgs false
set_option maxRecDepth 100000
set_option maxHeartbeats 8000000
namespace Go.Proofs.YtliekocamnklfaaGreatDoor.Addr
open Go.RowKit Go.Shelf Utf Strs Lex
open Jdec (gb_refl gb_drew gb_set gb_below IsTexts infoStr)
/-! ## The pieces -/
theorem lists_len (ps:List ByteArray):(lists ps).length=ps.length:=by simp [lists]
theorem lists_drop (ps:List ByteArray) (i:Nat):lists (ps.drop i)=(lists ps).drop i:=by simp [lists]
theorem head_data {ps:List ByteArray} (h:0<ps.length):(lists ps).head?=some dataL↔ps[0].data.toList=dataL:=by
  cases ps with
  | nil=>cases h
  | cons x t=>simp [lists]
theorem oldOf_two {num:List UInt8->Option Nat} {ps:List ByteArray} (h:ps.length=2):oldOf num (lists ps)=rightO (adr0 [] ps[0] ps[1]):=by
  match ps,h with
  | [x,y],_=>rfl
theorem oldOf_three {num:List UInt8->Option Nat} {ps:List ByteArray} (h:ps.length=3):oldOf num (lists ps)=match num ps[2].data.toList with | none=>none | some n=>rightO (withKey (adr0 [] ps[0] ps[1]) (1,n,⟨#[]⟩)):=by
  match ps,h with
  | [x,y,z],_=>rfl
theorem oldOf_other {num:List UInt8->Option Nat} {ps:List ByteArray} (h2:ps.length≠2) (h3:ps.length≠3):oldOf num (lists ps)=none:=by
  match ps,h2,h3 with
  | [],_,_=>rfl
  | [x],_,_=>rfl
  | [x,y],h,_=>exact absurd rfl h
  | [x,y,z],_,h=>exact absurd rfl h
  | x::y::z::u::t,_,_=>rfl
structure OI (w wx:World) (b:Nat) (n:Nat) (c:Adr):Prop where
  A:wx.heap[b]?=some (.cells (arrA none 0 c) 67 (0,0))
  R:wx.heap[w.heap.size]?=some (.cells (arrA none 0 zeroA) 67 (0,0))
  B:Below w.heap.size w wx
  bb:w.heap.size<b
  cp:c.path=[]
  ty:c.type.size<=n
  nm:c.name.size<=n
  wd:c.word=⟨#[]⟩
theorem OI.two {w wx:World} {b n:Nat} {x y:ByteArray} (h:OI w wx b n (adr0 [] x y)) (m:Nat):OI w ((wx.setCell ⟨b,3,none⟩ (.int .i64 1)).setCell ⟨b,4,none⟩ (.int .u64 m)) b n (withKey (adr0 [] x y) (1,m,⟨#[]⟩)):=by
  have hg:wx.grownBy ((wx.setCell ⟨b,3,none⟩ (.int .i64 1)).setCell ⟨b,4,none⟩ (.int .u64 m)) (some b):=(gb_set _ _ _ _).trans (gb_set _ _ _ _);have hb:=h.bb;exact ⟨two_set h.A rfl m rfl,(hg.block _ (heap_lt h.R) (by intro e;injection e with e;omega)).trans h.R,h.B.grown hg h.B.size (fun k hk=>by injection hk with hk;omega),h.bb,rfl,h.ty,h.nm,rfl⟩
theorem adr_cells0 {w:World} {b:Nat} {a:Adr} (h:w.heap[b]?=some (.cells (arrA none 0 a) 67 (0,0))) (hp:a.path=[]):w.cell? ⟨b,0,none⟩=some (.slice none 0 0)/\w.cell? ⟨b,1,none⟩=some (.string a.type)/\w.cell? ⟨b,2,none⟩=some (.string a.name)/\w.cell? ⟨b,3,none⟩=some (.int .i64 a.key)/\w.cell? ⟨b,4,none⟩=some (.int .u64 a.place)/\w.cell? ⟨b,5,none⟩=some (.string a.word):=by
  have h0:=adr_cells h;rw [hp] at h0;exact h0
theorem words0 (c:Adr) (hc:c.path=[]):wordsA none 0 c=.agg #[.slice none 0 0,.string c.type,.string c.name,.int .i64 c.key,.int .u64 c.place,.string c.word]:=by unfold wordsA;rw [hc];rfl
theorem cell_stays {w w':World} {b o:Nat} (h:Below w.heap.size w w') (hb:b<w.heap.size):w'.cell? ⟨b,o,none⟩=w.cell? ⟨b,o,none⟩:=by
  have:=h.block b hb;simp only [World.cell?,this]
theorem rold_ret (r:Option Adr) (w w':World) (tm:Array Value) (pa:Option Addr) (pc:Nat) (a:Adr) (er:Bool) (hb:w'.heap[w.heap.size]?=some (.cells (arrA pa pc a) 67 (0,0)))
    (h2:tm[2]?=some (.pointer (some ⟨w.heap.size,0,none⟩))) (h3:tm[3]?=some (.bool er)) (hp:RPost r w (.returned (.tuple #[wordsA pa pc a,.bool er])) w') :
    bodyPost Tryz.prog Tryz.f71 (RPost r w) Exit.ret { tmps:=tm,defers:=[] } w':=by
  obtain ⟨c0,c1,c2,c3,c4,c5⟩:=adr_cells hb;refine bodyPost_ret (v:=.tuple #[wordsA pa pc a,.bool er]) ?_ rfl hp;simp [results,Tryz.results71,go_sem,h2,h3,c0,c1,c2,c3,c4,c5,wordsA]
theorem rold_none (s:ByteArray) (w w2:World) (tm:Array Value) (pa:Option Addr) (pc:Nat) (a:Adr) (hb:w2.heap[w.heap.size]?=some (.cells (arrA pa pc a) 67 (0,0))) (hB:Below w.heap.size w w2) (hr:oldR s.data.toList=none)
    (h2:tm[2]?=some (.pointer (some ⟨w.heap.size,0,none⟩))) (h3:tm[3]?=some (.bool false)) :
    bodyPost Tryz.prog Tryz.f71 (RPost (oldR s.data.toList) w) Exit.ret { tmps:=tm,defers:=[] }
      ((((((w2.setCell ⟨w.heap.size,0,none⟩ (.slice none 0 0)).setCell ⟨w.heap.size,1,none⟩ (.string ⟨#[]⟩)).setCell ⟨w.heap.size,2,none⟩ (.string ⟨#[]⟩)).setCell ⟨w.heap.size,3,none⟩ (.int .i64 0)).setCell ⟨w.heap.size,4,none⟩ (.int .u64 0)).setCell ⟨w.heap.size,5,none⟩ (.string ⟨#[]⟩)):=by
  refine rold_ret _ w _ tm none 0 zeroA false (setA hb none 0 zeroA) h2 h3 ?_;rw [hr];exact ⟨none,0,rfl,.inl rfl,hB.grown (gb6 w2 w.heap.size _ _ _ _ _ _) hB.size (fun k hk=>by injection hk with hk;omega)⟩
theorem rold_some (r:Option Adr) (w w2:World) (tm:Array Value) (pa:Option Addr) (pc:Nat) (a c:Adr) (hb:w2.heap[w.heap.size]?=some (.cells (arrA pa pc a) 67 (0,0))) (hB:Below w.heap.size w w2) (hr:r=some c) (hc:c.path=[])
    (h2:tm[2]?=some (.pointer (some ⟨w.heap.size,0,none⟩))) (h3:tm[3]?=some (.bool true)) :
    bodyPost Tryz.prog Tryz.f71 (RPost r w) Exit.ret { tmps:=tm,defers:=[] }
      ((((((w2.setCell ⟨w.heap.size,0,none⟩ (.slice none 0 0)).setCell ⟨w.heap.size,1,none⟩ (.string c.type)).setCell ⟨w.heap.size,2,none⟩ (.string c.name)).setCell ⟨w.heap.size,3,none⟩ (.int .i64 c.key)).setCell ⟨w.heap.size,4,none⟩ (.int .u64 c.place)).setCell ⟨w.heap.size,5,none⟩ (.string c.word)):=by
  have hs:=setA hb none 0 c;have hl:c.path.length=0:=by rw [hc];rfl
  rw [hl] at hs;refine rold_ret _ w _ tm none 0 c true hs h2 h3 ?_;rw [hr];exact ⟨none,0,rfl,.inl hc,hB.grown (gb6 w2 w.heap.size _ _ _ _ _ _) hB.size (fun k hk=>by injection hk with hk;omega)⟩
theorem rold_any (s:ByteArray) (w:World) (hs:s.size<=6000):Calls Tryz.prog 71 #[.string s] w (RPost (oldR s.data.toList) w):=by
  obtain ⟨w1,hw1,R1,B1,Z1⟩:=zero_new w;have HPT:Hid (Calls Tryz.prog 112 #[.string s] w1 (PtPost s w1)):=parts_any s w1 (by omega);have hl1:=heap_lt R1.out;go_enter Tryz.func71,Tryz.ntmps71
  go_wp2_with fail
  refine (Calls.mono HPT.out ?_);rintro z w2 ⟨pl,plc,ps,rfl,hps,hrow,hb2,hpz,hpn⟩;have R2:Hid (w2.heap[w.heap.size]?=some (.cells (arrA none 0 zeroA) 67 (0,0))):=(hb2.block _ hl1).trans R1.out;have B2:Hid (Below w.heap.size w w2):=B1.out.trans (hb2.mono (by omega));have HTX:Hid (IsTexts w2 (fun _=>True) pl ps):=hrow.texts.turn (Jdec.Turn.mono w2 (fun _ _ _=>trivial));have HLP:Hid (lists ps=partsB s.data.toList):=hps;have HPZ:Hid (∀ x∈ps,x.size<=s.size):=hpz;have hp0:0<ps.length:=by
    have h1:=congrArg List.length hps;rw [lists_len] at h1;have h2:=partsB_ne s.data.toList;rcases Nat.eq_zero_or_pos ps.length with h | h
    · rw [h] at h1;exact absurd (List.length_eq_zero_iff.1 h1.symm) h2
    · exact h
  obtain ⟨b,o,rfl,_,hbl,hc⟩:=HTX.out.resolve_left (by intro e;rw [e] at hp0;simp at hp0);have HC:=Hid.out (p:=Hid _) hc;obtain ⟨d,hd⟩:∃ d,decide ((lists ps).head?=some dataL/\3<=(lists ps).length)=d:=⟨_,rfl⟩;have HD:=Hid.out (p:=Hid _) hd;have k00:=HC.out 0 hp0;obtain ⟨x0,hx0⟩:∃ x,ps[0]=x:=⟨_,rfl⟩;rw [hx0,Nat.add_zero] at k00;have hdat:((x0.toList == [100,97,116,97])=true↔(lists ps).head?=some dataL):=by
    rw [head_data hp0,hx0,beq_iff_eq,Lib.toList_data];rfl
  have HDT:=Hid.out (p:=Hid _) hdat;have hpn1:ps.length<=6001:=by omega
  clear hps hrow hpz hpn hb2 hc hd hx0 hdat HPT hw1 R1 B1 Z1
  go_upto_region 3 with (fail)
  go_cut [20] (fun p wx=>w2=wx/\p=.bool d)
  case first=>
    obtain ⟨t,ht⟩:∃ t,(x0.toList == [100,97,116,97])=t:=⟨_,rfl⟩;have HT:=Hid.out (p:=Hid _) ht;by_cases h3:3<=ps.length
    · have q1:decide ((3:Int)<=(ps.length:Int))=true:=by rw [decide_eq_true_eq];omega
      have q2:decide (3<=ps.length)=true:=by rw [decide_eq_true_eq];omega
      have HF:Hid (d=t):=by
        have h1:=HDT.out;rw [HT.out] at h1;rw [Hid,<-HD.out,lists_len];cases t
        · rw [decide_eq_false_iff_not];rintro ⟨h,_⟩;exact absurd (h1.2 h) (by simp)
        · rw [decide_eq_true_eq];exact ⟨h1.1 rfl,h3⟩
      clear h3;go_wp2_with fail
      go_meet
      exact ⟨rfl,by rw [HF.out]⟩
    · have q1:decide ((3:Int)<=(ps.length:Int))=false:=by rw [decide_eq_false_iff_not];omega
      have q2:decide (3<=ps.length)=false:=by rw [decide_eq_false_iff_not];omega
      have HF:Hid (d=false):=by
        rw [Hid,<-HD.out,lists_len,decide_eq_false_iff_not];rintro ⟨_,h⟩;exact h3 h
      clear h3;go_wp2_with fail
      go_meet
      exact ⟨rfl,by rw [HF.out]⟩
  case rest=>
  obtain ⟨rfl,rfl⟩:=hcut
  go_upto_if 20 with (fail)
  go_cut [5] (fun p wx=>w2=wx/\∃ i:Nat,p=.int .i64 i/\i<=1/\i<=ps.length/\Hid (lists (ps.drop i)=undata (partsB s.data.toList)))
  case first=>
    cases d
    · have HF:Hid (lists (ps.drop 0)=undata (partsB s.data.toList)):=by
        rw [Hid,List.drop_zero,<-HLP.out,undata,if_neg (of_decide_eq_false HD.out)]
      go_wp2_with fail
      go_meet
      exact ⟨rfl,0,rfl,by omega,by omega,HF.out⟩
    · have HF:Hid (lists (ps.drop 1)=undata (partsB s.data.toList)):=by
        rw [Hid,lists_drop,<-HLP.out,undata,if_pos (of_decide_eq_true HD.out)]
      go_wp2_with fail
      go_meet
      exact ⟨rfl,1,rfl,by omega,by omega,HF.out⟩
  case rest=>
  obtain ⟨rfl,i,rfl,hi1,hi,hU⟩:=hcut;obtain ⟨qs,hqs⟩:∃ qs,ps.drop i=qs:=⟨_,rfl⟩;rw [hqs] at hU;obtain ⟨n,hn0⟩:∃ n,qs.length=n:=⟨_,rfl⟩;have hql:n=ps.length-i:=by rw [<-hn0,<-hqs,List.length_drop]
  have hcd:(ps.length:Int)-(i:Int)=(n:Int):=by omega
  have hil2:n=2∨n=3->i+1<ps.length:=by omega
  have hil3:n=3->i+2<ps.length:=by omega
  have HQ:Hid (∀ j (h:j<n),∃ x,qs[j]?=some x/\w2.cell? ⟨b,o+(i+j),none⟩=some (.string x)/\x.size<=s.size):=fun j h=>by
    have hj:i+j<ps.length:=by omega
    refine ⟨ps[i+j],?_,HC.out (i+j) hj,HPZ.out _ (List.getElem_mem _)⟩;rw [<-hqs,List.getElem?_drop,List.getElem?_eq_getElem hj]
  have HN:=Hid.out (p:=Hid _) hn0;clear hql hqs hn0;obtain ⟨j1,hj1⟩:∃ j,i+1=j:=⟨_,rfl⟩;obtain ⟨j2,hj2⟩:∃ j,i+2=j:=⟨_,rfl⟩;have gj1:(i:Int)+1=(j1:Int):=by omega
  have gj2:(i:Int)+2=(j2:Int):=by omega
  have wj1:IntKind.i64.wrap (j1:Int)=(j1:Int):=IntWalk.i64_in _ (by omega);have wj2:IntKind.i64.wrap (j2:Int)=(j2:Int):=IntWalk.i64_in _ (by omega);have HOLD:Hid (oldR s.data.toList=oldOf numB (lists qs)):=by rw [Hid,oldR,hU.out]
  have hlR:=heap_lt R2.out;by_cases hn:n=2∨n=3
  case neg=>
    have HF:Hid (oldR s.data.toList=none):=by rw [Hid,HOLD.out,oldOf_other (by rw [HN.out];omega) (by rw [HN.out];omega)]
    have q1:((n:Int) != 2)=true:=by rw [bne_iff_ne];omega
    have q2:((n:Int) != 3)=true:=by rw [bne_iff_ne];omega
    obtain ⟨f0,f1,f2,f3,f4,f5⟩:=adr_frozen R2.out;obtain ⟨u0,u1,u2,u3,u4,u5⟩:=adr_cells R2.out;clear hn hj1 hj2 hil2 hil3;go_wp2_with fail
    exact rold_none s w w2 _ _ _ _ R2.out B2.out HF.out rfl rfl
  case pos=>
  have hjl:j1<ps.length:=by have:=hil2 hn;omega
  have hil:i<ps.length:=by omega
  obtain ⟨x,hx,k0,z0⟩:=HQ.out 0 (by omega);obtain ⟨y,hy,k1,z1⟩:=HQ.out 1 (by omega);rw [Nat.add_zero] at k0;rw [hj1] at k1;have HX:=Hid.out (p:=Hid _) hx;have HY:=Hid.out (p:=Hid _) hy;obtain ⟨wa,hwa,A3,B3⟩:=adr_new w2 none 0 (adr0 [] x y);obtain ⟨w3,hw3⟩:∃ w3,wa.drew=w3:=⟨_,rfl⟩;have HW3:Hid ((w2.alloc (.cells #[.slice none 0 0,.string x,.string y,.int .i64 0,.int .u64 0,.string ⟨#[]⟩] 67)).drew=w3):=by
    have hwa':w2.alloc (.cells #[.slice none 0 0,.string x,.string y,.int .i64 0,.int .u64 0,.string ⟨#[]⟩] 67)=wa:=hwa;rw [Hid,hwa',hw3]
  have B23:Hid (Below w2.heap.size w2 w3):=by rw [<-hw3];exact B3.out.drew
  have A33:w3.heap[w2.heap.size]?=some (.cells (arrA none 0 (adr0 [] x y)) 67 (0,0)):=by rw [<-hw3];exact A3.out
  have hI3:OI w w3 w2.heap.size s.size (adr0 [] x y):=⟨A33,(B23.out.block _ hlR).trans R2.out,B2.out.trans (B23.out.mono (by omega)),hlR,rfl,z0,z1,rfl⟩;have HI3:=Hid.out (p:=Hid _) hI3;clear hx hy hI3 A3 B3 A33 hwa hw3;rcases hn with rfl | rfl
  case inl=>
    have HF:Hid (oldR s.data.toList=rightO (adr0 [] x y)):=by
      have h2:qs.length=2:=HN.out;have hx:=HX.out;have hy:=HY.out;rw [List.getElem?_eq_getElem (by omega)] at hx hy;injection hx with hx
      injection hy with hy
      rw [Hid,HOLD.out,oldOf_two h2,hx,hy]
    clear hj1 hj2 hil2 hil3;go_wp2_with fail
    go_region
    rw [HW3.out];have hcp:=HI3.out.cp;have hra:=rright_any (adr0 [] x y) none 0 (fun _=>True) w3 (.inl hcp) (by rw [hcp];simp) (by rw [hcp];intro x hx;cases hx) (by have:=HI3.out.ty;omega) (by have:=HI3.out.nm;omega) (by rw [HI3.out.wd];exact Nat.zero_le _);rw [words0 (adr0 [] x y) hcp] at hra;obtain ⟨r,hr⟩:∃ r,rightA (adr0 [] x y)=r:=⟨_,rfl⟩;rw [hr] at hra;have HRR:=Hid.out (p:=Hid _) hr;have HRA:Hid (Calls Tryz.prog 114 #[.agg #[.slice none 0 0,.string x,.string y,.int .i64 0,.int .u64 0,.string ⟨#[]⟩]] w3 fun e w'=>e=.returned (.bool r)/\Below (w3:World).heap.size w3 w'):=hra;have hbw:=HI3.out.bb;have hlA:=heap_lt HI3.out.A;obtain ⟨y0,y1,y2,y3,y4,y5⟩:w3.cell? ⟨w2.heap.size,0,none⟩=some (.slice none 0 0)/\w3.cell? ⟨w2.heap.size,1,none⟩=some (.string x)/\w3.cell? ⟨w2.heap.size,2,none⟩=some (.string y)/\w3.cell? ⟨w2.heap.size,3,none⟩=some (.int .i64 0)/\w3.cell? ⟨w2.heap.size,4,none⟩=some (.int .u64 0)/\w3.cell? ⟨w2.heap.size,5,none⟩=some (.string ⟨#[]⟩):=adr_cells0 HI3.out.A hcp;have HCP:=Hid.out (p:=Hid _) hcp;clear hra hr hcp;go_wp2_with fail
    refine (Calls.mono HRA.out ?_);rintro z w8 ⟨rfl,hb8⟩;have A8:Hid (w8.heap[w2.heap.size]?=some (.cells (arrA none 0 (adr0 [] x y)) 67 (0,0))):=(hb8.block _ hlA).trans HI3.out.A;have R8:Hid (w8.heap[w.heap.size]?=some (.cells (arrA none 0 zeroA) 67 (0,0))):=(hb8.block _ (by omega)).trans HI3.out.R;have B8:Hid (Below w.heap.size w w8):=HI3.out.B.trans (hb8.mono (by omega));clear hb8 y0 y1 y2 y3 y4 y5 HRA;obtain ⟨f0,f1,f2,f3,f4,f5⟩:=adr_frozen R8.out;obtain ⟨x0,x1,x2,x3,x4,x5⟩:=adr_cells R8.out;cases r
    · have HN:Hid (oldR s.data.toList=none):=by rw [Hid,HF.out,rightO,HRR.out];rfl
      go_wp2_with fail
      exact rold_none s w w8 _ _ _ _ R8.out B8.out HN.out rfl rfl
    · have HN:Hid (oldR s.data.toList=some (adr0 [] x y)):=by rw [Hid,HF.out,rightO,HRR.out];rfl
      obtain ⟨y0,y1,y2,y3,y4,y5⟩:w8.cell? ⟨w2.heap.size,0,none⟩=some (.slice none 0 0)/\w8.cell? ⟨w2.heap.size,1,none⟩=some (.string x)/\w8.cell? ⟨w2.heap.size,2,none⟩=some (.string y)/\w8.cell? ⟨w2.heap.size,3,none⟩=some (.int .i64 0)/\w8.cell? ⟨w2.heap.size,4,none⟩=some (.int .u64 0)/\w8.cell? ⟨w2.heap.size,5,none⟩=some (.string ⟨#[]⟩):=adr_cells0 A8.out HCP.out;go_wp2_with fail
      exact rold_some _ w w8 _ _ _ _ (adr0 [] x y) R8.out B8.out HN.out HCP.out rfl rfl
  case inr=>
    obtain ⟨z,hz,k2,z2⟩:=HQ.out 2 (by omega);rw [hj2] at k2;have K2:w3.cell? ⟨b,o+j2,none⟩=some (.string z):=by
      rw [<-k2];exact cell_stays B23.out hbl
    have HF:Hid (oldR s.data.toList=match numB z.data.toList with | none=>none | some n=>rightO (withKey (adr0 [] x y) (1,n,⟨#[]⟩))):=by
      have h3:qs.length=3:=HN.out;have hx:=HX.out;have hy:=HY.out;rw [List.getElem?_eq_getElem (by omega)] at hx hy hz;injection hx with hx
      injection hy with hy
      injection hz with hz
      rw [Hid,HOLD.out,oldOf_three h3,hx,hy,hz]
    have HNU:Hid (Calls Tryz.prog 113 #[.string z] w3 (NPst (numB z.data.toList) w3)):=number_any z w3 (by omega);have hj2l:j2<ps.length:=by have:=hil3 rfl;omega
    clear hz k2 hj1 hj2 hil2 hil3;go_wp2_with fail
    go_region
    rw [HW3.out];go_wp2_with fail
    refine (Calls.mono HNU.out ?_);rintro v w4 ⟨n,rfl,hnn,rfl⟩;obtain ⟨f3,f4⟩:w3.frozen? ⟨w2.heap.size,3,none⟩=false/\w3.frozen? ⟨w2.heap.size,4,none⟩=false:=⟨frozen_of HI3.out.A 3,frozen_of HI3.out.A 4⟩;obtain ⟨v3,v4⟩:w3.cell? ⟨w2.heap.size,3,none⟩=some (.int .i64 0)/\w3.cell? ⟨w2.heap.size,4,none⟩=some (.int .u64 0):=⟨cell_of HI3.out.A 3,cell_of HI3.out.A 4⟩
    cases hnb:numB z.data.toList with
    | none=>
      have HN:Hid (oldR s.data.toList=none):=by rw [Hid,HF.out,hnb]
      obtain ⟨g0,g1,g2,g3,g4,g5⟩:=adr_frozen HI3.out.R;obtain ⟨u0,u1,u2,u3,u4,u5⟩:=adr_cells HI3.out.R;clear hnn;go_wp2_with fail
      exact rold_none s w w3 _ _ _ _ HI3.out.R HI3.out.B HN.out rfl rfl
    | some n0=>
      obtain rfl:n=n0:=hnn n0 hnb;have HN:Hid (oldR s.data.toList=rightO (withKey (adr0 [] x y) (1,n,⟨#[]⟩))):=by rw [Hid,HF.out,hnb]
      obtain ⟨w5,hw5⟩:∃ w5,(w3.setCell ⟨w2.heap.size,3,none⟩ (.int .i64 1)).setCell ⟨w2.heap.size,4,none⟩ (.int .u64 n)=w5:=⟨_,rfl⟩;have HI5:Hid (OI w w5 w2.heap.size s.size (withKey (adr0 [] x y) (1,n,⟨#[]⟩))):=by rw [<-hw5];exact HI3.out.two n
      generalize withKey (adr0 [] x y) (1,n,⟨#[]⟩)=c at HI5 HN;clear hnn;have hcp:=HI5.out.cp;have hra:=rright_any c none 0 (fun _=>True) w5 (.inl hcp) (by rw [hcp];simp) (by rw [hcp];intro x hx;cases hx) (by have:=HI5.out.ty;omega) (by have:=HI5.out.nm;omega) (by rw [HI5.out.wd];exact Nat.zero_le _);rw [words0 c hcp] at hra;obtain ⟨r,hr⟩:∃ r,rightA c=r:=⟨_,rfl⟩;rw [hr] at hra;have HRR:=Hid.out (p:=Hid _) hr;have HRA:Hid (Calls Tryz.prog 114 #[.agg #[.slice none 0 0,.string c.type,.string c.name,.int .i64 c.key,.int .u64 c.place,.string c.word]] w5 fun e w'=>e=.returned (.bool r)/\Below (w5:World).heap.size w5 w'):=hra;have hbw:=HI5.out.bb;have hlA:=heap_lt HI5.out.A;obtain ⟨y0,y1,y2,y3,y4,y5⟩:w5.cell? ⟨w2.heap.size,0,none⟩=some (.slice none 0 0)/\w5.cell? ⟨w2.heap.size,1,none⟩=some (.string c.type)/\w5.cell? ⟨w2.heap.size,2,none⟩=some (.string c.name)/\w5.cell? ⟨w2.heap.size,3,none⟩=some (.int .i64 c.key)/\w5.cell? ⟨w2.heap.size,4,none⟩=some (.int .u64 c.place)/\w5.cell? ⟨w2.heap.size,5,none⟩=some (.string c.word):=adr_cells0 HI5.out.A hcp;have HCP:=Hid.out (p:=Hid _) hcp;clear hra hr hcp;go_wp2_with fail
      refine (Calls.mono HRA.out ?_);rintro z w8 ⟨rfl,hb8⟩;have A8:Hid (w8.heap[w2.heap.size]?=some (.cells (arrA none 0 c) 67 (0,0))):=(hb8.block _ hlA).trans HI5.out.A;have R8:Hid (w8.heap[w.heap.size]?=some (.cells (arrA none 0 zeroA) 67 (0,0))):=(hb8.block _ (by omega)).trans HI5.out.R;have B8:Hid (Below w.heap.size w w8):=HI5.out.B.trans (hb8.mono (by omega));clear hb8 y0 y1 y2 y3 y4 y5 HRA;obtain ⟨f0,f1,f2,f3,f4,f5⟩:=adr_frozen R8.out;obtain ⟨x0,x1,x2,x3,x4,x5⟩:=adr_cells R8.out;cases r
      · have HN:Hid (oldR s.data.toList=none):=by rw [Hid,HN.out,rightO,HRR.out];rfl
        go_wp2_with fail
        exact rold_none s w w8 _ _ _ _ R8.out B8.out HN.out rfl rfl
      · have HN:Hid (oldR s.data.toList=some c):=by rw [Hid,HN.out,rightO,HRR.out];rfl
        obtain ⟨y0,y1,y2,y3,y4,y5⟩:w8.cell? ⟨w2.heap.size,0,none⟩=some (.slice none 0 0)/\w8.cell? ⟨w2.heap.size,1,none⟩=some (.string c.type)/\w8.cell? ⟨w2.heap.size,2,none⟩=some (.string c.name)/\w8.cell? ⟨w2.heap.size,3,none⟩=some (.int .i64 c.key)/\w8.cell? ⟨w2.heap.size,4,none⟩=some (.int .u64 c.place)/\w8.cell? ⟨w2.heap.size,5,none⟩=some (.string c.word):=adr_cells0 A8.out HCP.out;go_wp2_with fail
        exact rold_some _ w w8 _ _ _ _ c R8.out B8.out HN.out HCP.out rfl rfl
end Go.Proofs.YtliekocamnklfaaGreatDoor.Addr
