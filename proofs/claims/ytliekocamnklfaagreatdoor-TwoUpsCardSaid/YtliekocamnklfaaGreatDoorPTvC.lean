/- tree.At, tree.Get, two.get: what they tell has room for its list. (Written by gen/tvg.py.) -/
import Derived.Test.YtliekocamnklfaaGreatDoorPTvB
import Derived.Laws.StructEq
set_option linter.unusedVariables false
set_option linter.unusedSimpArgs false
set_option maxRecDepth 100000
set_option maxHeartbeats 4000000
namespace Go.Proofs.YtliekocamnklfaaGreatDoor.One
open Go.RowKit Strs Jdec Save Go.Proofs.YtliekocamnklfaaGreatDoor.Addr
theorem own_cap {w:World} {S:Nat->Prop} {r:Raw} {t:JV} (h:OwnV w S r t):r.vn<=r.vc:=by
  cases h with
  | mk S k i n d e s ka va kc vc keys nds h1 h2 h3 h4 h5 h6 h7 h8=>
    show nds.length<=vc;rcases h2.2 with ⟨hv,h0⟩ | ⟨g,cap,cur,hs,_,_,h3⟩
    · injection hv with e1 e2 e3;omega
    · injection hs with e1 e2 e3;omega
def GetC (t:JV) (x:ByteArray) (A:Nat->Prop) (w:World) (e:Ending) (w':World):Prop:=∃ rr:Raw,e=.returned (.tuple #[rr.val,.bool (look t x).isSome])/\IsV w' A rr (got t x)/\rr.vn<=rr.vc/\Below w.heap.size w w'
theorem GetC.to {t:JV} {x:ByteArray} {A:Nat->Prop} {w w':World} {e:Ending} (h:GetC t x A w e w'):∃ rr:Raw,e=.returned (.tuple #[rr.val,.bool (look t x).isSome])/\Hid (IsV w' A rr (got t x))/\Hid (rr.vn<=rr.vc)/\Hid (Below w.heap.size w w'):=h
def ValC (t:JV) (A:Nat->Prop) (w:World) (e:Ending) (w':World):Prop:=∃ rr:Raw,e=.returned rr.val/\IsV w' A rr t/\rr.vn<=rr.vc/\Below w.heap.size w w'
theorem ValC.to {t:JV} {A:Nat->Prop} {w w':World} {e:Ending} (h:ValC t A w e w'):∃ rr:Raw,e=.returned rr.val/\Hid (IsV w' A rr t)/\Hid (rr.vn<=rr.vc)/\Hid (Below w.heap.size w w'):=h
theorem at_cap (t:JV) (hg:GoodQ t) (hm:t.mass<=3000) (ra:Raw) (A:Nat->Prop) (w:World) (hi:IsV w A ra t) (x:ByteArray) (pb:Nat) (hp:w.cell? ⟨pb,0,none⟩=some (.string x)):Calls Tryz.prog 99 #[ra.val,.slice (some ⟨pb,0,none⟩) 1 1] w (GetC t x (fun b=>w.heap.size<=b) w):=by
  obtain ⟨w2,hw2,V2,B2⟩:=own_new w ra;obtain ⟨w3,hw3,V3,B3⟩:=own_new w2 Raw.zero;have V2:Hid (w2.heap[w.heap.size]?=some (.cells ra.arr 29 (0,0))):=V2.out;have V3:Hid (w3.heap[w2.heap.size]?=some (.cells Raw.zero.arr 29 (0,0))):=V3.out;have hs2:=B2.out.size;have V23:Hid (w3.heap[w.heap.size]?=some (.cells ra.arr 29 (0,0))):=(B3.out.block _ (heap_lt V2.out)).trans V2.out;have B03:Hid (Below w.heap.size w w3):=B2.out.trans (B3.out.mono hs2);have hpb:pb<w.heap.size:=Lib.lt_of_cell hp;have c3:=Hid.out (p:=Hid _) ((World.cell?_of_block (B03.out.block pb hpb)).trans hp);have HS2:=Hid.out (p:=Hid _) hs2;have hl2:=heap_lt V2.out;have hl3:=heap_lt V3.out;have hgt:=get_is t hg hm ra (fun b=>b<w.heap.size) w3 ((low hi).behind B03.out) x;have HG:=Hid.out (p:=Hid _) hgt;have HGG:=Hid.out (p:=Hid _) hg;clear hgt hp hi
  dsimp only [Raw.zero] at hw2 hw3
  unfold Raw.val;obtain ⟨⟨x0,x1,x2,x3,x4,x5,x6,x7⟩,f0,f1,f2,f3,f4,f5,f6,f7⟩:=val_cells V23.out;obtain ⟨⟨r0,r1,r2,r3,r4,r5,r6,r7⟩,g0,g1,g2,g3,g4,g5,g6,g7⟩:=val_cells V3.out;go_enter Tryz.func99,Tryz.ntmps99
  go_wp2_with fail
  go_loopw [12] (fun p wr=>∃ i:Nat,p=.int .i64 i/\((i=0/\w3=wr)∨(i=1/\∃ rr:Raw,Hid (wr.heap[w.heap.size]?=some (.cells rr.arr 29 (0,0)))/\Hid (wr.heap[w2.heap.size]?=some (.cells Raw.zero.arr 29 (0,0)))/\Hid (IsV wr (fun b=>b<w.heap.size) rr (got t x))/\Hid ((look t x).isSome=true)/\Hid (Below w.heap.size w wr)))) (fun p _=>1-(intOf p).toNat)
  case atStart=>exact ⟨0,rfl,.inl ⟨rfl,rfl⟩⟩
  case round=>
    obtain ⟨i,rfl,⟨rfl,rfl⟩ | ⟨rfl,rr,V,Z,I,L,B⟩⟩:=hrel
    · have c4:=c3.out;go_wp2_with fail
      refine (Calls.mono HG.out ?_);rintro z w4 hz;obtain ⟨rr,rfl,hr,B4⟩:=hz.to;obtain ⟨ok,hok⟩:∃ b,(look t x).isSome=b:=⟨_,rfl⟩;rw [hok];have HOK:=Hid.out (p:=Hid _) hok;obtain ⟨w5,hw5,V5,B5⟩:=own_new w4 rr;have V5:Hid (w5.heap[w4.heap.size]?=some (.cells rr.arr 29 (0,0))):=V5.out;have B35:Hid (Below w3.heap.size w3 w5):=B4.out.trans (B5.out.mono B4.out.size);have V25:Hid (w5.heap[w.heap.size]?=some (.cells ra.arr 29 (0,0))):=(B35.out.block _ (heap_lt V23.out)).trans V23.out;have V35:Hid (w5.heap[w2.heap.size]?=some (.cells Raw.zero.arr 29 (0,0))):=(B35.out.block _ hl3).trans V3.out;have B05:Hid (Below w.heap.size w w5):=B03.out.trans (B35.out.mono B03.out.size);clear hz hok x0 x1 x2 x3 x4 x5 x6 x7 f0 f1 f2 f3 f4 f5 f6 f7 r0 r1 r2 r3 r4 r5 r6 r7 g0 g1 g2 g3 g4 g5 g6 g7 hw2 hw3;unfold Raw.val;obtain ⟨⟨x0,x1,x2,x3,x4,x5,x6,x7⟩,f0,f1,f2,f3,f4,f5,f6,f7⟩:=val_cells V25.out;obtain ⟨⟨r0,r1,r2,r3,r4,r5,r6,r7⟩,g0,g1,g2,g3,g4,g5,g6,g7⟩:=val_cells V35.out;obtain ⟨⟨y0,y1,y2,y3,y4,y5,y6,y7⟩,_⟩:=val_cells V5.out;cases ok
      case false=>
        have HN:Hid (look t x=none):=Option.isSome_eq_false_iff.1 HOK.out |> Option.isNone_iff_eq_none.1;go_wp2_with fail
        refine fin2 (a:=Raw.zero) (b:=w2.heap.size) rfl (set8 V35.out Raw.zero) rfl ?_;refine ⟨Raw.zero,by rw [HN.out];rfl,?_,Nat.le_refl _,below8 B05.out HS2.out _ _ _ _ _ _ _ _⟩;rw [got,HN.out];exact zero_is _ _
      case true=>
        have V6:Hid (_=_):=set8 V25.out rr;go_wp2_with fail
        go_roundw
        case rel=>
          refine ⟨1,by go_num,.inr ⟨rfl,rr,V6.out,?_,?_,HOK.out,below8 B05.out (Nat.le_refl _) _ _ _ _ _ _ _ _⟩⟩
          · exact ((gb8 _ _ _ _ _ _ _ _ _ _).block _ (heap_lt V35.out) (fun e=>by injection e with e;omega)).trans V35.out
          · exact low8 (hr.out.behind B5.out) (Nat.le_refl _) _ _ _ _ _ _ _ _
        case measure=>simp [intOf]
    · have HCP:=Hid.out (p:=Hid _) (copy_any (got t x) (got_good HGG.out L.out) (by have:=got_mass t x;omega) rr _ wr I.out);clear x0 x1 x2 x3 x4 x5 x6 x7 f0 f1 f2 f3 f4 f5 f6 f7 r0 r1 r2 r3 r4 r5 r6 r7 g0 g1 g2 g3 g4 g5 g6 g7 hw2 hw3;obtain ⟨⟨x0,x1,x2,x3,x4,x5,x6,x7⟩,_⟩:=val_cells V.out;unfold Raw.val at HCP;go_wp2_with fail
      refine (Calls.mono HCP.out ?_);rintro z w7 hz;obtain ⟨r7,rfl,hr7,B7⟩:=hz.to;have Z7:Hid (w7.heap[w2.heap.size]?=some (.cells Raw.zero.arr 29 (0,0))):=hst Z B7;have B07:Hid (Below w.heap.size w w7):=bel B B7;have hZ:=heap_lt Z.out;clear hz x0 x1 x2 x3 x4 x5 x6 x7;unfold Raw.val;obtain ⟨⟨r0,r1,r2,r3,r4,r5,r6,r7'⟩,g0,g1,g2,g3,g4,g5,g6,g7⟩:=val_cells Z7.out;go_wp2_with fail
      refine fin2 (a:=r7) (b:=w2.heap.size) rfl (set8 Z7.out r7) rfl ?_;refine ⟨r7,by rw [L.out];rfl,?_,own_cap hr7.out,below8 B07.out HS2.out _ _ _ _ _ _ _ _⟩;exact high8 (hr7.out.isV _ fun b hb=>hb.1) hZ _ (by have:=B.out.size;omega) _ _ _ _ _ _ _ _
theorem tget_cap (t:JV) (hg:GoodQ t) (hm:t.mass<=3000) (ra:Raw) (A:Nat->Prop) (w:World) (hi:IsV w A ra t) (x:ByteArray):Calls Tryz.prog 43 #[ra.val,.string x] w (GetC t x (fun b=>w.heap.size<=b) w):=by
  obtain ⟨w2,hw2,V2,B2⟩:=own_new w ra;obtain ⟨w3,hw3,V3,B3⟩:=own_new w2 Raw.zero;obtain ⟨w4,hw4,c4,B4⟩:=texts_one w3 x;have V2:Hid (w2.heap[w.heap.size]?=some (.cells ra.arr 29 (0,0))):=V2.out;have V3:Hid (w3.heap[w2.heap.size]?=some (.cells Raw.zero.arr 29 (0,0))):=V3.out;have V23:=hst V2 B3;have B03:=bel B2 B3;have B04:=bel B03 B4;have HA:=Hid.out (p:=Hid _) (at_cap t hg hm ra A w4 (hi.behind B04.out) x w3.heap.size c4.out);have HS2:=Hid.out (p:=Hid _) B2.out.size;have V34:=hst V3 B4
  dsimp only [Raw.zero] at hw2 hw3
  unfold Raw.val at HA ⊢;obtain ⟨⟨x0,x1,x2,x3,x4,x5,x6,x7⟩,_⟩:=val_cells V23.out;go_enter Tryz.func43,Tryz.ntmps43
  go_wp2_with fail
  refine (Calls.mono HA.out ?_);rintro z w5 hz;obtain ⟨rr,rfl,hr,hcap,B5⟩:=hz.to;obtain ⟨ok,hok⟩:∃ b,(look t x).isSome=b:=⟨_,rfl⟩;rw [hok];have HOK:=Hid.out (p:=Hid _) hok;have V35:=hst V34 B5;have B05:=bel B04 B5;have hl:=heap_lt V34.out;clear hz hok x0 x1 x2 x3 x4 x5 x6 x7 hw2 hw3 hw4;unfold Raw.val;obtain ⟨⟨r0,r1,r2,r3,r4,r5,r6,r7⟩,g0,g1,g2,g3,g4,g5,g6,g7⟩:=val_cells V35.out;go_wp2_with fail
  refine fin2 (a:=rr) (b:=w2.heap.size) rfl (set8 V35.out rr) rfl ?_;refine ⟨rr,by rw [HOK.out];rfl,?_,hcap.out,below8 B05.out HS2.out _ _ _ _ _ _ _ _⟩;exact high8 hr.out hl _ (by have:=B04.out.size;omega) _ _ _ _ _ _ _ _
theorem dget_cap {t:JV} (hg:GoodQ t) (hm:t.mass<=3000) {ra:Raw} {A:Nat->Prop} {w:World} (hi:Hid (IsV w A ra t)) (x:ByteArray):Calls Tryz.prog 58 #[ra.val,.string x] w (ValC (got t x) (fun _=>True) w):=by
  obtain ⟨w2,hw2,V2,B2⟩:=own8 w ra;obtain ⟨w3,hw3,V3,B3⟩:=own8 w2 Raw.zero;have V23:=hst V2 B3;have B03:=bel B2 B3;have HG:=Hid.out (p:=Hid _) (tget_cap t hg hm ra A w3 (hi.out.behind B03.out) x)
  dsimp only [Raw.zero] at hw3
  have HS:=Hid.out (p:=Hid _) B2.out.size;clear hi hg hm;unfold Raw.val at HG ⊢;obtain ⟨⟨x0,x1,x2,x3,x4,x5,x6,x7⟩,_⟩:=val_cells V23.out;go_enter Tryz.func58,Tryz.ntmps58
  go_wp2_with fail
  refine (Calls.mono HG.out ?_);rintro z w4 hz;obtain ⟨rr,rfl,hr,hcap,B4⟩:=hz.to;obtain ⟨w5,hw5,V5,B5⟩:=own8 w4 rr;have B05:=bel (bel B03 B4) B5;have V35:=hst (hst V3 B4) B5;have I5:=kp hr B5;have hlt:=heap_lt V3.out;clear hz x0 x1 x2 x3 x4 x5 x6 x7 hr;generalize (look t x).isSome=ok;unfold Raw.val;obtain ⟨⟨x0,x1,x2,x3,x4,x5,x6,x7⟩,_⟩:=val_cells V5.out;obtain ⟨⟨r0,r1,r2,r3,r4,r5,r6,r7⟩,g0,g1,g2,g3,g4,g5,g6,g7⟩:=val_cells V35.out;go_wp2_with fail
  refine val_ret (a:=rr) (b:=w2.heap.size) rfl (set8 V35.out rr) rfl ?_;refine ⟨rr,rfl,?_,hcap.out,below8 B05.out HS.out _ _ _ _ _ _ _ _⟩;exact dn I5 (fun k hk=>by have:w3.heap.size<=k:=hk;omega) _ _ _ _ _ _ _ _
set_option maxHeartbeats 8000000
theorem path_cons {is ng:Bool} {d:ByteArray} {e:Int} {s:ByteArray} {ks:List ByteArray} {vs:List JV} {v:JV} {l:List JV} (h:vs=v::l):pathB (.mk 5 is ng d e s ks vs)=(vs.all textB && (decide (strJ v=kRoot) && rightA (adr0 (l.map strJ) letA letA))):=by subst h;rfl
theorem str_cell {w:World} {A:Nat->Prop} {r:Raw} {t:JV} (h:IsV w A r t):r.str=strJ t:=by
  cases t with
  | mk k is ng d e s ks vs=>obtain ⟨_,_,_,_,rfl,_⟩:=h.parts;rfl
theorem adr_three {w:World} {b:Nat} {pa:Option Addr} {pc:Nat} {p:List ByteArray} {ty nm:ByteArray} (h:Hid (w.heap[b]?=some (.cells (arrA pa pc (adr0 p ty nm)) 67 (0,0)))):∃ w1,(((w.setCell ⟨b,3,none⟩ (.int .i64 0)).setCell ⟨b,4,none⟩ (.int .u64 0)).setCell ⟨b,5,none⟩ (.string ⟨#[]⟩))=w1/\Hid (w1.heap[b]?=some (.cells (arrA pa pc (adr0 p ty nm)) 67 (0,0)))/\Hid (∀ k o,k≠b->w.heap[k]?=some o->w1.heap[k]?=some o)/\Hid (∀ w0:World,w0.heap.size<=b->Below w0.heap.size w0 w->Below w0.heap.size w0 w1)/\Hid (w1.heap.size=w.heap.size):=by
  have h1:=heap_set_same h.out (i:=3) (.int .i64 0);have h2:=heap_set_same h1 (i:=4) (.int .u64 0);have h3:=heap_set_same h2 (i:=5) (.string ⟨#[]⟩);refine ⟨_,rfl,h3,fun k o hk ho=>?_,fun w0 hb hB=>((hB.setCell hb _).setCell hb _).setCell hb _,?_⟩
  · rw [Below.heap_setCell _ _ _ _ hk,Below.heap_setCell _ _ _ _ hk,Below.heap_setCell _ _ _ _ hk];exact ho
  · rw [Hid];simp [World.setCell]
theorem dpath_any (t:JV) (hf:Fine t) (hm:t.mass<=3000) (ra:Raw) (A:Nat->Prop) (w:World) (hi:IsV w A ra t) (hcap:ra.vn<=ra.vc) (T:TabsP w):Calls Tryz.prog 110 #[ra.val] w (BoolP (pathB t) w):=by
  have HA:Hid (∀ (w':World),Below w.heap.size w w'->Calls Tryz.prog 68 #[ra.val,.func (.func 153) #[] #[]] w' (BoolP ((kidsJ t).all textB) w')):=fun w' hb=>
    dall_any 153 (enters_of Tryz.func153 (by kernel_rfl) rfl) textB t hm ra _ w' (hi.behind hb) fun v _ r2 w'' _ h=>dwritten_any v r2 _ w'' h
  cases t with
  | mk k is ng d e s ks vs=>
  obtain ⟨ka,kc,va,vc,rfl,_,F,hc,hv⟩:=hi.parts;have HCAP:Hid (vs.length<=vc):=hcap;rw [mass_mk] at hm;have hvl:=masses_len vs;have HVL:Hid (vs.length<=3000):=by rw [Hid];omega
  have HC:=Hid.out (p:=Hid _) hc;have HS:Hid (∀ i (h:i<vs.length),(F i).str=strJ vs[i]):=fun i h=>str_cell (hv i h);have HZ:Hid (∀ v∈vs,(strJ v).size<=6000):=fun v hv=>by
    have:=fine_kid hf (v:=v) hv;cases this with | mk _ _ _ _ _ _ _ _ _ f2 _ _=>exact f2
  have HT:Hid (∀ w',Below w.heap.size w w'->TabsP w'):=fun w' h=>T.stays h;obtain ⟨w2,hw2,V2,B2⟩:=own8 w (Raw.mk k is ng d e s ka ks.length kc va vs.length vc);clear hi hcap hm hvl hc hv hf T;unfold Raw.val at HA ⊢;obtain ⟨⟨x0,x1,x2,x3,x4,x5,x6,x7⟩,_⟩:=val_cells V2.out;by_cases h5:k=5
  case neg=>
    have nk:(k != 5)=true:=by rw [bne_iff_ne];exact h5
    have hp:pathB (.mk k is ng d e s ks vs)=false:=by
      unfold pathB;rw [show kindOf (.mk k is ng d e s ks vs)=k from rfl,decide_eq_false h5];rfl
    go_enter Tryz.func110,Tryz.ntmps110
    go_wp2_with fail
    go_ret
    exact ⟨rfl,B2.out⟩
  subst h5;have nk:((5:Int) != 5)=false:=by decide
  by_cases hnil:vs=[]
  case pos=>
    subst hnil
    dsimp only [List.length_nil] at hw2 x7 ⊢
    go_enter Tryz.func110,Tryz.ntmps110
    go_wp2_with fail
    go_ret
    exact ⟨rfl,B2.out⟩
  obtain ⟨v0,l,hl⟩:=List.exists_cons_of_ne_nil hnil;have HL:=Hid.out (p:=Hid _) hl;rw [path_cons hl];have hlen:vs.length=(l.map strJ).length+1:=by rw [hl];simp
  have hS0:(F 0).str=strJ v0:=by rw [HS.out 0 (by omega)];simp [hl]
  have hS1:∀ i (h:i<(l.map strJ).length),(F (i+1)).str=(l.map strJ)[i]:=fun i h=>by rw [HS.out (i+1) (by omega)];simp [hl]
  have HZN:Hid (∀ x∈l.map strJ,x.size<=6000):=fun x hx=>by
    obtain ⟨v,hv,rfl⟩:=List.mem_map.1 hx;exact HZ.out v (by rw [hl];simp [hv])
  obtain ⟨ns,hns⟩:∃ ns,l.map strJ=ns:=⟨_,rfl⟩;rw [hns] at hlen hS1 HZN ⊢;have HLEN:=Hid.out (p:=Hid _) hlen;have HS1:=Hid.out (p:=Hid _) hS1;obtain ⟨s0,hs0⟩:∃ s0,strJ v0=s0:=⟨_,rfl⟩;rw [hs0] at hS0 ⊢;obtain ⟨b2,hb3⟩:∃ b,decide (s0=kRoot)=b:=⟨_,rfl⟩;rw [hb3];have hb2:(s0.toList == [114,111,111,116])=b2:=by
    rw [<-hb3];by_cases h:s0=kRoot
    · rw [decide_eq_true h,h,ByteArray.toList_eq];rfl
    · rw [decide_eq_false h,beq_eq_false_iff_ne];intro e
      rw [ByteArray.toList_eq] at e;exact h (ByteArray.ext (Array.toList_inj.1 e))
  have hb2':(s0.toList != [114,111,111,116])=!b2:=by rw [bne,hb2]
  clear hb3;have n0:((vs.length:Int) == 0)=false:=by rw [beq_eq_false_iff_ne];omega
  have n1:(vs.length == 0)=false:=by rw [beq_eq_false_iff_ne];omega
  have n2:decide (0<vs.length)=true:=by rw [decide_eq_true_eq];omega
  obtain ⟨b1,hb1⟩:∃ b,vs.all textB=b:=⟨_,rfl⟩;have h1:=HA.out w2 B2.out;rw [show (kidsJ (.mk 5 is ng d e s ks vs)).all textB=b1 from hb1] at h1;have H1:=Hid.out (p:=Hid _) h1;rw [hb1];have HNE:=Hid.out (p:=Hid _) hnil;clear hb1 HA h1 hlen hS1 hns hs0 HS HZ HL hnil hl
  dsimp only at H1 hw2 x0 x1 x2 x3 x4 x5 x6 x7
  go_enter Tryz.func110,Tryz.ntmps110
  go_wp2_with fail
  refine (Calls.mono H1.out ?_);rintro z w3 hz;obtain ⟨rfl,E3⟩:=hz.to;have B3:=bel B2 E3;have V3:=hst V2 E3;clear hz H1 x0 x1 x2 x3 x4 x5 x6 x7;obtain ⟨⟨x0,x1,x2,x3,x4,x5,x6,x7⟩,_⟩:=val_cells V3.out
  dsimp only at x0 x1 x2 x3 x4 x5 x6 x7
  cases b1
  case false=>
    go_wp2_with fail
    go_ret
    exact ⟨rfl,B3.out⟩
  obtain ⟨g,o,rfl,hgb,hcs⟩:=HC.out.resolve_left HNE.out;have K1:CellsAt w3 g (o+0*8) (F 0):=(hcs 0 (by have:=HLEN.out;omega)).below hgb B3.out;obtain ⟨u0,u1,u2,u3,u4,u5,u6,u7⟩:=K1.eight;rw [hS0] at u5;rw [Nat.zero_mul,Nat.add_zero] at u5;clear u0 u1 u2 u3 u4 u6 u7 K1;have n3:0<vs.length:=by have:=HLEN.out;omega
  cases b2
  case false=>
    have hb2':(s0.toList != [114,111,111,116])=true:=hb2';go_wp2_with fail
    go_ret
    exact ⟨rfl,B3.out⟩
  have hb2':(s0.toList != [114,111,111,116])=false:=hb2';have hsl:∃ sa:Option Addr,(if vc=1 then some (⟨g,o,none⟩:Addr) else some ⟨g,o+8,none⟩)=sa/\(ns≠[]->sa=some ⟨g,o+8,none⟩):=⟨_,rfl,fun h=>by
    have h1:=List.length_pos_iff.2 h;have h2:=HLEN.out;have h3:=HCAP.out;rw [if_neg (by omega)]⟩
  obtain ⟨sa,hsa,hsn⟩:=hsl;have HSN:=Hid.out (p:=Hid _) hsn;have HLE:=HLEN.out;obtain ⟨w4,hw4,V4,E4⟩:=adr_new w3 none 0 (adr0 [] letA letA);have B4:=bel B3 E4;have V34:=hst V3 E4;have hl3:=heap_lt V3.out;have HL3:=Hid.out (p:=Hid _) hl3;have HS3:=Hid.out (p:=Hid _) E4.out.size;clear hsn x0 x1 x2 x3 x4 x5 x6;obtain ⟨⟨y0,y1,y2,y3,y4,y5,y6,y7⟩,_⟩:=val_cells V34.out
  dsimp only at y7
  have hw4:w3.alloc (.cells #[.slice none 0 0,.string ⟨#[97]⟩,.string ⟨#[97]⟩,.int .i64 0,.int .u64 0,.string ⟨#[]⟩] 67)=w4:=hw4;obtain ⟨z0,z1,z2,z3,z4,z5⟩:=adr_cells V4.out;obtain ⟨f0,f1,f2,f3,f4,f5⟩:=adr_frozen V4.out;obtain ⟨w9,hw9,V9,K9,D9,S9⟩:=adr_three V4;have B9:Hid (Below w.heap.size w w9):=D9.out w (by have:=B3.out.size;omega) B4.out;have V39:Hid (w9.heap[w.heap.size]?=some (.cells (Raw.mk 5 is ng d e s ka ks.length kc (some ⟨g,o,none⟩) vs.length vc).arr 29 (0,0))):=K9.out _ _ (by omega) V34.out;obtain ⟨⟨v0',v1',v2',v3',v4',v5',v6',v7'⟩,_⟩:=val_cells V39.out
  dsimp only at v7'
  go_wp2_with fail
  clear y0 y1 y2 y3 y4 y5 y6 y7 x7 u5 hw2 hw4 n0 n1 n2 n3 hb2 hsa hw9 z0 z1 z2 z3 z4 z5 f0 f1 f2 f3 f4 f5 v0' v1' v2' v3' v4' v5' v6' v7';clear hb2'
  go_loopw [33] (fun p wr=>∃ (i:Nat) (pa:Option Addr) (pc:Nat),p=.int .i64 i/\i<=ns.length/\Hid (RowT wr w4.heap.size (.slice pa (ns.take i).length pc) (ns.take i))/\Hid (wr.heap[w3.heap.size]?=some (.cells (arrA pa pc (adr0 (ns.take i) letA letA)) 67 (0,0)))/\Hid (Below w.heap.size w wr)/\Hid (w4.heap.size<=wr.heap.size)) (fun p _=>ns.length-(intOf p).toNat)
  case atStart=>exact ⟨0,none,0,rfl,Nat.zero_le _,RowT.nil _ _,V9.out,B9.out,by rw [Hid,S9.out];exact Nat.le_refl _⟩
  case round=>
    obtain ⟨i,pa,pc,rfl,hi,hR,hV,hB,hS⟩:=hrel;by_cases hlt:i<ns.length
    · have hn:=HSN.out (fun e=>by rw [e] at hlt;simp at hlt);subst hn;have hl4:=heap_lt V4.out;have hk:=hcs (i+1) (by have:=HLEN.out;omega);rw [show o+(i+1)*8=o+8+i*8 by omega] at hk;have K1:CellsAt wr g (o+8+i*8) (F (i+1)):=hk.below hgb hB.out;have hz:=HS1.out i hlt;have htk:ns.take (i+1)=ns.take i++[ns[i]]:=by rw [List.take_add_one,List.getElem?_eq_getElem hlt];rfl
      have hln:(ns.take i).length=i:=by rw [List.length_take];omega
      have HX:=Hid.out (p:=Hid _) (HZN.out ns[i] (List.getElem_mem hlt));generalize F (i+1)=zr at *;rw [<-hz] at htk HX;clear hz hk;obtain ⟨w5,hw5,V5,E5⟩:=own8 wr zr;have hs5:=E5.out.size;have R5:=hR.out.stays E5.out;have V5b:=hst hV E5;obtain ⟨g6,c6,w6,hr6,R6,G6,hg6⟩:=app_one w5 w4.heap.size _ _ zr.str R5 (by have:=HVL.out;have:=HLEN.out;rw [hln];omega) (Nat.le_trans hS.out hs5);have HR6:=Hid.out (p:=Hid _) hr6;have hne:(Value.slice pa (ns.take i).length pc).ownBlock≠some w3.heap.size:=RowT.ne R5 hl4;have V6:Hid (w6.heap[w3.heap.size]?=some (.cells (arrA pa pc (adr0 (ns.take i) letA letA)) 67 (0,0))):=(G6.out.block _ (heap_lt V5b.out) (fun e=>hne e.symm)).trans V5b.out;have B6:Hid (Below w.heap.size w w6):=(bel hB E5).out.grown G6.out (bel hB E5).out.size (fun k hk=>by have:=(World.ownsRow.lt R5 k hk).1;have:=B4.out.size;omega);have a0:=(adr_cells V5b.out).1;have q0:=(adr_cells V6.out).1;have fq0:=(adr_frozen V6.out).1;rw [show (adr0 (ns.take i) letA letA).path.length=i from hln] at a0 q0;obtain ⟨⟨x0,x1,x2,x3,x4,x5,x6,x7⟩,_⟩:=val_cells V5.out;obtain ⟨u0,u1,u2,u3,u4,u5,u6,u7⟩:=K1.eight;have hB3:=B3.out.size;have V7:Hid (_=_):=heap_set_same V6.out (i:=0) (.slice (some ⟨g6,0,none⟩) (i+1) c6);have R7:Hid (RowT (w6.setCell ⟨w3.heap.size,0,none⟩ (.slice (some ⟨g6,0,none⟩) (i+1) c6)) w4.heap.size (.slice (some ⟨g6,0,none⟩) (ns.take (i+1)).length c6) (ns.take (i+1))):=by
        rw [htk];have h:=R6.out;rw [show (ns.take i).length+1=(ns.take i++[zr.str]).length by simp] at h;exact h.kept (gb_set w6 w3.heap.size 0 _) (.inr (RowT.ne h hl4))
      have HLT:=Hid.out (p:=Hid _) hlt;have HS7:Hid (w4.heap.size<=(w6.setCell ⟨w3.heap.size,0,none⟩ (.slice (some ⟨g6,0,none⟩) (i+1) c6)).heap.size):=by
        have h1:=G6.out.size;have h2:=hS.out;rw [Hid];simp only [World.setCell,Array.size_modify]
        omega
      have hln1:(ns.take (i+1)).length=i+1:=by rw [List.length_take];omega
      have hib:i+1<=3000:=by have:=HVL.out;have:=HLEN.out;omega
      rw [hln] at *;go_wp2_with (at_builtin;refine Addr.wpList_append_run (.slice pa i pc) (.slice (some ⟨w5.heap.size,0,none⟩) 1 1) 26 HR6.out rfl _ _ rfl rfl rfl ?_)
      go_roundw
      case rel=>
        refine ⟨i+1,some ⟨g6,0,none⟩,c6,by go_num,Nat.succ_le_of_lt HLT.out,R7.out,?_,B6.out.setCell (by show w.heap.size<=w3.heap.size;exact hB3) _,?_⟩
        · rw [V7.out];simp only [arrA,adr0,hln1]
          rfl
        · exact HS7
      case measure=>
        have h:=Nat.sub_lt_sub_left HLT.out (Nat.lt_succ_self i);simp [intOf];omega
    · have hti:ns.take i=ns:=List.take_of_length_le (by omega);rw [hti] at hV hR;have HT4:=Hid.out (p:=Hid _) (HT.out wr hB.out);have HRC:=Hid.out (p:=Hid _) (right_any (adr0 ns letA letA) pa pc _ wr hR.out.texts (by show ns.length<=3000;have:=HVL.out;have:=HLEN.out;omega) (fun x hx=>by have:=HZN.out x hx;omega) (show letA.size<=1048576 by decide) (show letA.size<=1048576 by decide) (show (⟨#[]⟩:ByteArray).size<=1048576 by decide) HT4.out.t);obtain ⟨a0,a1,a2,a3,a4,a5⟩:=adr_cells hV.out;unfold wordsA at HRC
      dsimp only [adr0] at HRC a0 a1 a2 a3 a4 a5
      clear hti hV hR;go_wp2_with fail
      refine (Calls.mono HRC.out ?_);rintro z w7 ⟨rfl,hb7⟩;go_wp2_with fail
      go_ret
      exact ⟨rfl,(bel hB (Hid.out (p:=Hid _) hb7)).out⟩
end Go.Proofs.YtliekocamnklfaaGreatDoor.One
