/- num.Whole of a number that is right. -/
import Derived.Test.YtliekocamnklfaaGreatDoorKRegG
import Derived.Test.YtliekocamnklfaaGreatDoorKSvD
import Derived.Test.YtliekocamnklfaaGreatDoorKOnG
import Derived.Shelf.Abstract
set_option linter.unusedVariables false
set_option linter.unusedSimpArgs false
set_option maxRecDepth 100000
set_option maxHeartbeats 4000000
namespace Go.Proofs.YtliekocamnklfaaGreatDoor.One
open Go.RowKit Strs Jdec Save Go.Proofs.YtliekocamnklfaaGreatDoor.Addr
def WPst (r:Option Nat) (w:World) (e:Ending) (w':World):Prop:=∃ n:Nat,e=.returned (.tuple #[.int .u64 n,.bool r.isSome])/\(∀ m,r=some m->n=m)/\Below w.heap.size w w'
theorem new3 (w:World) (n:Bool) (d:ByteArray) (e:Int):∃ w1,w.alloc (.cells #[.bool n,.string d,.int .i64 e] 25)=w1/\Hid (w1.heap[w.heap.size]?=some (.cells #[.bool n,.string d,.int .i64 e] 25 (0,0)))/\Hid (Below w.heap.size w w1):=
  ⟨_,rfl,heap_alloc_new _ _,(Below.refl _ _).alloc (Nat.le_refl _) _⟩
theorem digits48 {n:Bool} {d:List UInt8} {x:Int} (h:Num.right n d x=true):∀ c∈d,48<=c.toNat/\c.toNat<=57:=by
  unfold Num.right at h;split at h
  · rename_i h0;subst h0;intro c hc;cases hc
  · split at h
    · cases h
    · simp only [Bool.and_eq_true,List.all_eq_true] at h
      intro c hc
      have:=h.1.1 c hc;unfold Num.isDigit at this;simp only [Bool.and_eq_true,decide_eq_true_eq] at this
      exact this
def UintP:Option Nat->Nat->Value->Prop
  | some u,n,v=>n=u/\v=.nilIface
  | none,_,v=>∃ t p,v=.iface t p
theorem uint_call (s:ByteArray) (hs:s.size<=2000) (h0:s.data.toList≠[]) (hd:s.data.toList.all Num.isDigit=true) (w:World) (T:ErrT w):Calls Tryz.prog 140 #[.string s,.int .i64 10,.int .i64 64] w fun e w'=>∃ (n:Nat) (v:Value),e=.returned (.tuple #[.int .u64 n,v])/\UintP (numR 0 s.data.toList) n v/\Below w.heap.size w w':=by
  have hpu:Lib.parseUintB 64 s.data.toList=Lib.parseUintM (2 ^ 64-1) 0 s.data.toList:=by rw [Lib.parseUintB,if_neg h0]
  have hn:=numR_uint s.data.toList 0 hd;rcases uint_runs (2 ^ 64-1) s.data.toList 0 hd with ⟨u,hp⟩ | hp
  · rw [hp] at hn;have hc:=Tryz.strconv_ParseUint_10_at64_ok s (by omega) u (by rw [hpu,hp]) w;refine hc.mono ?_;rintro e w' ⟨rfl,hw⟩;refine ⟨u,.nilIface,rfl,by rw [hn];exact ⟨rfl,rfl⟩,?_⟩;rcases hw with rfl | rfl
    · exact Below.refl _ _
    · exact Lib.bytesWorld_below _ _ _
  · rw [hp] at hn;obtain ⟨ev,h1,h2⟩:=T;have hc:=Tryz.strconv_ParseUint_10_at64_range s (by omega) (by rw [hpu,hp]) ev w h1 h2;refine hc.mono ?_;rintro e w' ⟨N,rfl,_,_,hB⟩;exact ⟨_,_,rfl,by rw [hn];exact ⟨_,_,rfl⟩,hB⟩
theorem whole_any (n:Bool) (d:ByteArray) (e:Int) (hr:Num.right n d.data.toList e=true) (w:World) (T:ErrT w):Calls Tryz.prog 101 #[.agg #[.bool n,.string d,.int .i64 e]] w (WPst (wholeN n d.data.toList e) w):=by
  obtain ⟨hb1,hb2,hb3,hb4⟩:=right_bounds hr;have hl:d.data.toList.length=d.size:=by simp
  have hdig:=digits48 hr;obtain ⟨w2,hw2,V2,B2⟩:=new3 w n d e;have HP:=Hid.out (p:=Hid _) (pright_call n d e hr w2);have HT:Hid (∀ w',Below w.heap.size w w'->ErrT w'):=fun w' h=>ErrT.stays T h;have HW:Hid (∀ b,wholeN n d.data.toList e=b->wholeN n d.data.toList e=b):=fun b h=>h;have hds:d.size<=1000:=by omega
  have y0:=cell_of V2.out 0;have y1:=cell_of V2.out 1;have y2:=cell_of V2.out 2;cases n
  case true=>
    have HN:Hid (wholeN true d.data.toList e=none):=by rw [Hid,wholeN,if_neg (by simp)]
    clear hb1 hb2 hb3 hb4 hl hdig hr T HW hds;go_enter Tryz.func101,Tryz.ntmps101
    go_wp2_with fail
    refine (Calls.mono HP.out ?_);rintro z w3 ⟨rfl,hb3⟩;have V3:=hst V2 (Hid.out (p:=Hid _) hb3);have B3:=bel B2 (Hid.out (p:=Hid _) hb3);clear hb3 y0 y1 y2 hw2;have y0:=cell_of V3.out 0;have y1:=cell_of V3.out 1;have y2:=cell_of V3.out 2;go_wp2_with fail
    go_ret2
    exact ⟨0,by rw [HN.out] <;> rfl,(fun m h=>by rw [HN.out] at h;cases h),B3.out⟩
  case false=>
  by_cases he:e<0
  · have q1:decide (e<0)=true:=by rw [decide_eq_true_eq];exact he
    have HN:Hid (wholeN false d.data.toList e=none):=by rw [Hid,wholeN,if_neg (by omega)]
    clear hb1 hb2 hb3 hb4 hl hdig hr T HW hds he;go_enter Tryz.func101,Tryz.ntmps101
    go_wp2_with fail
    refine (Calls.mono HP.out ?_);rintro z w3 ⟨rfl,hb3⟩;have V3:=hst V2 (Hid.out (p:=Hid _) hb3);have B3:=bel B2 (Hid.out (p:=Hid _) hb3);clear hb3 y0 y1 y2 hw2;have y0:=cell_of V3.out 0;have y1:=cell_of V3.out 1;have y2:=cell_of V3.out 2;go_wp2_with fail
    go_ret2
    exact ⟨0,by rw [HN.out] <;> rfl,(fun m h=>by rw [HN.out] at h;cases h),B3.out⟩
  have q1:decide (e<0)=false:=by rw [decide_eq_false_iff_not];exact he
  obtain ⟨c,rfl⟩:∃ c:Nat,e=c:=⟨e.toNat,by omega⟩;have hc1:c<=10000:=by omega
  by_cases h20:20<d.size+c
  · have q2:decide ((20:Int)<(d.size:Int)+(c:Int))=true:=by rw [decide_eq_true_eq];omega
    have q3:decide (20<d.size+c)=true:=by rw [decide_eq_true_eq];omega
    have HN:Hid (wholeN false d.data.toList c=none):=by rw [Hid,wholeN,if_neg (by omega)]
    clear hb1 hb2 hb3 hb4 hl hdig hr T HW h20 he;go_enter Tryz.func101,Tryz.ntmps101
    go_wp2_with fail
    refine (Calls.mono HP.out ?_);rintro z w3 ⟨rfl,hb3⟩;have V3:=hst V2 (Hid.out (p:=Hid _) hb3);have B3:=bel B2 (Hid.out (p:=Hid _) hb3);clear hb3 y0 y1 y2 hw2;have y0:=cell_of V3.out 0;have y1:=cell_of V3.out 1;have y2:=cell_of V3.out 2;go_wp2_with fail
    go_ret2
    exact ⟨0,by rw [HN.out] <;> rfl,(fun m h=>by rw [HN.out] at h;cases h),B3.out⟩
  have q2:decide ((20:Int)<(d.size:Int)+(c:Int))=false:=by rw [decide_eq_false_iff_not];omega
  have q3:decide (20<d.size+c)=false:=by rw [decide_eq_false_iff_not];omega
  have hw:wholeN false d.data.toList c=numR 0 (d.data.toList++List.replicate c 48):=by rw [wholeN,if_pos ⟨hr,rfl,by omega,by omega⟩,Int.toNat_natCast]
  by_cases hd0:d=⟨#[]⟩
  · subst hd0;obtain rfl:c=0:=by have:(c:Int)=0:=(hb4 rfl).2;omega
    have HN:Hid (wholeN false (⟨#[]⟩:ByteArray).data.toList (0:Nat)=some 0):=by rw [Hid,hw];rfl
    have HP:Hid (Calls Tryz.prog 139 #[.agg #[.bool false,.string ⟨#[]⟩,.int .i64 0]] w2 fun e w'=>e=.returned (.bool true)/\Below w2.heap.size w2 w'):=HP;have hw2:w.alloc (.cells #[.bool false,.string ⟨#[]⟩,.int .i64 0] 25)=w2:=hw2;have V2:Hid (w2.heap[w.heap.size]?=some (.cells #[.bool false,.string ⟨#[]⟩,.int .i64 0] 25 (0,0))):=V2;have y0:w2.cell? ⟨w.heap.size,0,none⟩=some (.bool false):=y0;have y1:w2.cell? ⟨w.heap.size,1,none⟩=some (.string ⟨#[]⟩):=y1;have y2:w2.cell? ⟨w.heap.size,2,none⟩=some (.int .i64 0):=y2;clear hb1 hb2 hb3 hb4 hl hdig hr T HW h20 he hw;go_enter Tryz.func101,Tryz.ntmps101
    go_wp2_with fail
    refine (Calls.mono HP.out ?_);rintro z w3 ⟨rfl,hb3⟩;have V3:=hst V2 (Hid.out (p:=Hid _) hb3);have B3:=bel B2 (Hid.out (p:=Hid _) hb3);clear hb3 y0 y1 y2 hw2;have y0:=cell_of V3.out 0;have y1:=cell_of V3.out 1;have y2:=cell_of V3.out 2;go_wp2_with fail
    go_ret2
    exact ⟨0,by rw [HN.out] <;> rfl,(fun m h=>by rw [HN.out] at h;injection h),B3.out⟩
  have q4:=toList_nil hd0;have hdl:¬ d.size=0:=fun e=>hd0 (by have h:=str_back d;rw [List.length_eq_zero_iff.1 (hl.trans e)] at h;exact h.symm);obtain ⟨R,hR⟩:∃ R,numR 0 (d.data.toList++List.replicate c 48)=R:=⟨_,rfl⟩;have HN:Hid (wholeN false d.data.toList c=R):=hw.trans hR;have HPU:Hid (∀ (r:ByteArray) (w':World),r.data.toList=List.replicate c 48->Below w.heap.size w w'->Calls Tryz.prog 140 #[.string (d++r),.int .i64 10,.int .i64 64] w' fun e w''=>∃ (n:Nat) (v:Value),e=.returned (.tuple #[.int .u64 n,v])/\UintP R n v/\Below w'.heap.size w' w''):=fun r w' hr' hb=>by
    have he:(d++r).data.toList=d.data.toList++List.replicate c 48:=by rw [ByteArray.data_append,Array.toList_append,hr']
    have hz:(d++r).size<=2000:=by
      have:=congrArg List.length he;rw [List.length_append,List.length_replicate,hl] at this;have h2:(d++r).data.toList.length=(d++r).size:=by simp
      omega
    have h:=uint_call (d++r) hz (fun h=>by have:=congrArg List.length (he.symm.trans h);rw [List.length_append,hl,List.length_nil] at this;omega) (by
      rw [he,List.all_eq_true];intro x hx
      rcases List.mem_append.1 hx with hx | hx
      · have:=hdig x hx;rw [Num.isDigit,Bool.and_eq_true,decide_eq_true_eq,decide_eq_true_eq];exact this
      · rw [(List.mem_replicate.1 hx).2];rfl) w' (HT.out w' hb)
    rw [he,hR] at h;exact h
  have s0:¬ 9223372036854775807<d.size:=by omega
  have hc20:c<=20:=by omega
  clear hb1 hb2 hb3 hb4 hl hdig hr T HW h20 he hw hd0 hR;go_enter Tryz.func101,Tryz.ntmps101
  go_wp2_with fail
  refine (Calls.mono HP.out ?_);rintro z w3 ⟨rfl,hb3⟩;have V3:=hst V2 (Hid.out (p:=Hid _) hb3);have B3:=bel B2 (Hid.out (p:=Hid _) hb3);clear hb3 y0 y1 y2 hw2;have y0:=cell_of V3.out 0;have y1:=cell_of V3.out 1;have y2:=cell_of V3.out 2;go_wp2_with fail
  go_region_held3 (fun w'=>w'.cell? ⟨w.heap.size,1,none⟩=some (.string d)/\w'.cell? ⟨w.heap.size,2,none⟩=some (.int .i64 (c:Int))) (go_keep)
    (first
      | (go_at_call 140;refine (Calls.mono (HPU.out r w4 hr.out B4.out) ?_);rintro z w5 ⟨u,v,rfl,hu,hb5⟩;have B5:=bel B4 (Hid.out (p:=Hid _) hb5);have HU:=Hid.out (p:=Hid _) hu;have V5:=hst V4 (Hid.out (p:=Hid _) hb5);have y1:=cell_of V5.out 1;have y2:=cell_of V5.out 2;clear hb5 hu)
      | (go_at_call 141;refine (rep0_any c (by omega) w3.drew).mono ?_;rintro z w4 hz;obtain ⟨r,rfl,hr,hrs,hb4⟩:=hz.to;have hb4:Hid (Below w3.heap.size w3.drew w4):=hb4;have B4:Hid (Below w.heap.size w w4):=B3.out.drew.trans (hb4.out.mono B3.out.size);have V4:Hid (w4.heap[w.heap.size]?=some (.cells #[.bool false,.string d,.int .i64 (c:Int)] 25 (0,0))):=(hb4.out.block _ (heap_lt V3.out)).trans V3.out;have y1:=cell_of V4.out 1;have y2:=cell_of V4.out 2;have t0:¬ 9223372036854775807<d.size+r.size:=(by omega);clear hrs hz))
  cases R
  case none=>
    obtain ⟨t,p,rfl⟩:=HU.out;go_wp2_with fail
    go_ret2
    exact ⟨0,by rw [HN.out] <;> rfl,(fun m h=>by rw [HN.out] at h;cases h),B5.out⟩
  case some m=>
    obtain ⟨rfl,rfl⟩:=HU.out;go_wp2_with fail
    go_ret2
    exact ⟨u,by rw [HN.out] <;> rfl,(fun m h=>by rw [HN.out] at h;injection h),B5.out⟩
def BoolP (b:Bool) (w:World) (e:Ending) (w':World):Prop:=e=.returned (.bool b)/\Below w.heap.size w w'
theorem BoolP.to {b:Bool} {w w':World} {e:Ending} (h:BoolP b w e w'):e=.returned (.bool b)/\Hid (Below w.heap.size w w'):=h
theorem own8 (w:World) (r:Raw):∃ w1,w.alloc (.cells #[.int .i64 r.kind,.bool r.is,.bool r.neg,.string r.dig,.int .i64 r.exp,.string r.str,.slice r.ka r.kn r.kc,.slice r.va r.vn r.vc] 29)=w1/\Hid (w1.heap[w.heap.size]?=some (.cells r.arr 29 (0,0)))/\Hid (Below w.heap.size w w1):=own_new w r
theorem of_any (t:JV) (hg:GoodQ t) (hm:t.mass<=3000) (ra:Raw) (A B:Nat->Prop) (w:World) (hi:IsV w A ra t) (js:List ByteArray) (hj:js.length<=10) (ja:Option Addr) (jc:Nat) (ht:IsTexts w B ja js):Calls Tryz.prog 51 #[ra.val,.slice ja js.length jc] w (BoolP (ofB t js) w):=by
  have HG:Hid (∀ (w':World) (x:ByteArray),Below w.heap.size w w'->Calls Tryz.prog 43 #[ra.val,.string x] w' (GetP t x (fun b=>w'.heap.size<=b) w')):=fun w' x hb=>tget_is t hg hm ra A w' (hi.behind hb) x;have HTX:Hid (∀ w',Below w.heap.size w w'->IsTexts w' B ja js):=fun w' h=>ht.turn (Turn.below h);obtain ⟨ok,hok⟩:∃ b,ofB t js=b:=⟨_,rfl⟩;rw [hok];have HOK:=Hid.out (p:=Hid _) hok
  cases t with
  | mk k is ng d e s ks vs=>
  obtain ⟨ka,kc,va,vc,rfl,_,f,_,_⟩:=hi.parts;rw [mass_mk] at hm;obtain ⟨w2,hw2,V2,B2⟩:=own8 w (Raw.mk k is ng d e s ka ks.length kc va vs.length vc);have HKL:Hid (ks.length<=3000):=by rw [Hid];omega
  clear hi ht hok hm hg;unfold Raw.val at HG ⊢;obtain ⟨⟨x0,x1,x2,x3,x4,x5,x6,x7⟩,_⟩:=val_cells V2.out;by_cases h6:k=6
  case neg=>
    have nk:(k != 6)=true:=by rw [bne_iff_ne];exact h6
    obtain rfl:false=ok:=by rw [<-HOK.out,ofB,show kindOf (.mk k is ng d e s ks vs)=k from rfl,decide_eq_false h6];rfl
    clear h6;go_enter Tryz.func51,Tryz.ntmps51
    go_wp2_with fail
    go_ret
    exact ⟨rfl,B2.out⟩
  case pos=>
  subst h6;have nk:((6:Int) != 6)=false:=by decide
  by_cases hn:ks.length=js.length
  case neg=>
    have nn:((ks.length:Int) != (js.length:Int))=true:=by rw [bne_iff_ne];omega
    obtain rfl:false=ok:=by rw [<-HOK.out,ofB,show (keysJ (.mk 6 is ng d e s ks vs))=ks from rfl,decide_eq_false hn];simp
    clear hn;go_enter Tryz.func51,Tryz.ntmps51
    go_wp2_with fail
    go_ret
    exact ⟨rfl,B2.out⟩
  case pos=>
  have nn:((ks.length:Int) != (js.length:Int))=false:=by rw [hn];simp
  have HOK2:Hid (js.all (fun x=>(look (.mk 6 is ng d e s ks vs) x).isSome)=ok):=by
    rw [<-HOK.out,ofB,show (keysJ (.mk 6 is ng d e s ks vs))=ks from rfl,decide_eq_true hn];rfl
  have HN:=Hid.out (p:=Hid _) hn;clear hn HOK;go_enter Tryz.func51,Tryz.ntmps51
  go_wp2_with fail
  clear x0 x1 x2 x3 x4 x5 x6 x7
  go_loopw [22] (fun p wr=>∃ i:Nat,p=.int .i64 i/\i<=js.length/\Hid ((js.take i).all (fun x=>(look (.mk 6 is ng d e s ks vs) x).isSome)=true)/\Hid (Below w2.heap.size w2 wr)) (fun p _=>js.length-(intOf p).toNat)
  case atStart=>exact ⟨0,rfl,Nat.zero_le _,rfl,Below.refl _ _⟩
  case round=>
    obtain ⟨i,rfl,hi,hA,hB⟩:=hrel;have V3:=hst V2 hB;have B3:=bel B2 hB;obtain ⟨⟨x0,x1,x2,x3,x4,x5,x6,x7⟩,_⟩:=val_cells V3.out;by_cases hlt:i<js.length
    · have hne:js≠[]:=fun e=>by rw [e] at hlt;simp at hlt
      obtain ⟨jb,jo,rfl,_,hjb,hjc⟩:=(HTX.out wr B3.out).resolve_left hne;have c1:=hjc i hlt;obtain ⟨x,hx⟩:∃ x,js[i]=x:=⟨_,rfl⟩;rw [hx] at c1;have htk:js.take (i+1)=js.take i++[x]:=by rw [List.take_add_one,List.getElem?_eq_getElem hlt,hx];rfl
      obtain ⟨b,hb⟩:∃ b,(look (.mk 6 is ng d e s ks vs) x).isSome=b:=⟨_,rfl⟩;have HM:Hid (b=true->(js.take (i+1)).all (fun x=>(look (.mk 6 is ng d e s ks vs) x).isSome)=true):=fun h=>by rw [htk,List.all_append,hA.out,List.all_cons,List.all_nil,hb,h];rfl
      have HF:Hid (b=false->ok=false):=fun h=>by
        rw [<-HOK2.out,List.all_eq_false];exact ⟨x,by rw [<-hx];exact List.getElem_mem hlt,by rw [hb,h];simp⟩
      have HGX:=Hid.out (p:=Hid _) (HG.out wr x B3.out);have HBB:=Hid.out (p:=Hid _) hb;clear hjc hx htk hb;go_wp2_with fail
      refine (Calls.mono HGX.out ?_);rintro z w4 hz;obtain ⟨rr,rfl,hr,B4⟩:=hz.to;rw [HBB.out];obtain ⟨w5,hw5,V5,B5⟩:=own8 w4 rr;have B25:=bel (bel hB B4) B5;clear hz x0 x1 x2 x3 x4 x5 x6 x7;unfold Raw.val;cases b
      case false=>
        obtain rfl:=HF.out rfl;go_wp2_with fail
        go_ret
        exact ⟨rfl,(bel B2 B25).out⟩
      case true=>
        have M:=Hid.out (p:=Hid _) (HM.out rfl);clear HM HF;go_wp2_with fail
        go_roundw
        case rel=>exact ⟨i+1,by go_num,by omega,M.out,B25.out⟩
        case measure=>simp [intOf];omega
    · obtain rfl:true=ok:=by rw [<-HOK2.out,<-hA.out,List.take_of_length_le (by omega)]
      go_wp2_with fail
      go_ret
      exact ⟨rfl,B3.out⟩
theorem holds_any (K:Nat) (hE:Go.Proofs.Enters Tryz.prog K) (t:JV) (hg:GoodQ t) (hm:t.mass<=3000) (ra:Raw) (A:Nat->Prop) (w:World) (hi:IsV w A ra t) (x:ByteArray) (ok:Bool)
    (hK:∀ (rr:Raw) (w':World),Below w.heap.size w w'->IsV w' (fun _=>True) rr (got t x)->(look t x).isSome=true->Calls Tryz.prog K #[rr.val] w' (BoolP ok w')) :
    Calls Tryz.prog 52 #[ra.val,.string x,.func (.func K) #[] #[]] w (BoolP ((look t x).isSome && ok) w):=by
  have HG:Hid (∀ (w':World),Below w.heap.size w w'->Calls Tryz.prog 43 #[ra.val,.string x] w' (GetP t x (fun b=>w'.heap.size<=b) w')):=fun w' hb=>tget_is t hg hm ra A w' (hi.behind hb) x;have HK:=Hid.out (p:=Hid _) hK;obtain ⟨w2,hw2,V2,B2⟩:=own8 w ra;have HGX:=Hid.out (p:=Hid _) (HG.out w2 B2.out);clear hi hm hg hK;unfold Raw.val at HGX ⊢;obtain ⟨⟨x0,x1,x2,x3,x4,x5,x6,x7⟩,_⟩:=val_cells V2.out;go_enter Tryz.func52,Tryz.ntmps52
  go_wp2_with fail
  refine (Calls.mono HGX.out ?_);rintro z w4 hz;obtain ⟨rr,rfl,hr,B4⟩:=hz.to;obtain ⟨b,hb⟩:∃ b,(look t x).isSome=b:=⟨_,rfl⟩;rw [hb];have HBB:=Hid.out (p:=Hid _) hb;obtain ⟨w5,hw5,V5,B5⟩:=own8 w4 rr;have B45:=bel (bel B2 B4) B5;have hr5:=Hid.out (p:=Hid _) ((hr.out.behind B5.out).turn (Turn.mono _ fun _ _ _=>trivial));clear hz x0 x1 x2 x3 x4 x5 x6 x7 hb hw2;unfold Raw.val;cases b
  case false=>
    go_wp2_with fail
    go_ret
    exact ⟨by rw [HBB.out];rfl,B45.out⟩
  case true=>
    have HC:=Hid.out (p:=Hid _) (HK.out rr w5 B45.out hr5.out HBB.out);unfold Raw.val at HC;obtain ⟨⟨x0,x1,x2,x3,x4,x5,x6,x7⟩,_⟩:=val_cells V5.out;have hEE:=hE;unfold Go.Proofs.Enters at hEE;go_wp2_with (go_at_fn K;refine (Calls.mono HC.out ?_);rintro z w6 hz;obtain ⟨rfl,B6⟩:=hz.to)
    go_wp2
    go_ret
    exact ⟨by rw [HBB.out];simp,(bel B45 B6).out⟩
theorem each_any (K:Nat) (hE:Go.Proofs.Enters Tryz.prog K) (f:JV->Bool) (t:JV) (hm:t.mass<=3000) (ra:Raw) (A:Nat->Prop) (w:World) (hi:IsV w A ra t)
    (hK:∀ v∈kidsJ t,∀ (rr:Raw) (w':World),Below w.heap.size w w'->IsV w' (fun _=>True) rr v->Calls Tryz.prog K #[rr.val] w' (BoolP (f v) w')) :
    Calls Tryz.prog 102 #[ra.val,.func (.func K) #[] #[]] w (BoolP (eachB f t) w):=by
  have HK:=Hid.out (p:=Hid _) hK
  cases t with
  | mk k is ng d e s ks vs=>
  obtain ⟨ka,kc,va,vc,rfl,_,F,hc,hv⟩:=hi.parts;rw [mass_mk] at hm;have hvl:=masses_len vs;obtain ⟨ok,hok⟩:∃ b,eachB f (.mk k is ng d e s ks vs)=b:=⟨_,rfl⟩;rw [hok];have HOK:=Hid.out (p:=Hid _) hok;obtain ⟨w2,hw2,V2,B2⟩:=own8 w (Raw.mk k is ng d e s ka ks.length kc va vs.length vc);have HC:=Hid.out (p:=Hid _) hc;have HV:Hid (∀ i (h:i<vs.length),IsV w (fun _=>True) (F i) vs[i]):=fun i h=>(hv i h).turn (Turn.mono _ fun _ _ _=>trivial);have HVL:Hid (vs.length<=3000):=by rw [Hid];omega
  clear hi hok hm hK hc hv hvl;unfold Raw.val;obtain ⟨⟨x0,x1,x2,x3,x4,x5,x6,x7⟩,_⟩:=val_cells V2.out;by_cases h6:k=6
  case neg=>
    have nk:(k != 6)=true:=by rw [bne_iff_ne];exact h6
    obtain rfl:false=ok:=by rw [<-HOK.out,eachB,show kindOf (.mk k is ng d e s ks vs)=k from rfl,decide_eq_false h6];rfl
    clear h6;go_enter Tryz.func102,Tryz.ntmps102
    go_wp2_with fail
    go_ret
    exact ⟨rfl,B2.out⟩
  case pos=>
  subst h6;have nk:((6:Int) != 6)=false:=by decide
  have HOK2:Hid (vs.all f=ok):=by rw [<-HOK.out];rfl
  clear HOK;go_enter Tryz.func102,Tryz.ntmps102
  go_wp2_with fail
  clear x0 x1 x2 x3 x4 x5 x6 x7
  go_loopw [13] (fun p wr=>∃ i:Nat,p=.int .i64 i/\i<=vs.length/\Hid ((vs.take i).all f=true)/\Hid (Below w2.heap.size w2 wr)) (fun p _=>vs.length-(intOf p).toNat)
  case atStart=>exact ⟨0,rfl,Nat.zero_le _,rfl,Below.refl _ _⟩
  case round=>
    obtain ⟨i,rfl,hi,hA,hB⟩:=hrel;have hvl:=HVL.out;have B3:=bel B2 hB;by_cases hlt:i<vs.length
    · have hne:vs≠[]:=fun e=>by rw [e] at hlt;simp at hlt
      obtain ⟨g,o,rfl,hgb,hcs⟩:=HC.out.resolve_left hne;have K1:CellsAt wr g (o+i*8) (F i):=(hcs i hlt).below hgb B3.out;obtain ⟨w4,hw4,V4,B4⟩:=own8 wr (F i);have I1:=Hid.out (p:=Hid _) (((HV.out i hlt).behind B3.out).behind B4.out);obtain ⟨b,hb⟩:∃ b,f vs[i]=b:=⟨_,rfl⟩;have htk:vs.take (i+1)=vs.take i++[vs[i]]:=by rw [List.take_add_one,List.getElem?_eq_getElem hlt];rfl
      have HM:Hid (b=true->(vs.take (i+1)).all f=true):=fun h=>by rw [htk,List.all_append,hA.out,List.all_cons,List.all_nil,hb,h];rfl
      have HF:Hid (b=false->ok=false):=fun h=>by
        rw [<-HOK2.out,List.all_eq_false];exact ⟨vs[i],List.getElem_mem hlt,by rw [hb,h];simp⟩
      have hcall:=HK.out vs[i] (List.getElem_mem hlt) (F i) w4 (bel B3 B4).out I1.out;rw [hb] at hcall;have HCL:=Hid.out (p:=Hid _) hcall;have B24:=bel hB B4;clear hcs htk hb hcall I1;generalize F i=z at *;unfold Raw.val at HCL;obtain ⟨u0,u1,u2,u3,u4,u5,u6,u7⟩:=K1.eight;obtain ⟨⟨x0,x1,x2,x3,x4,x5,x6,x7⟩,_⟩:=val_cells V4.out;clear K1;have hEE:=hE;unfold Go.Proofs.Enters at hEE;cases b
      case false=>
        obtain rfl:=HF.out rfl;go_wp2_with (go_at_fn K;refine (Calls.mono HCL.out ?_);rintro z w6 hz;obtain ⟨rfl,B6⟩:=hz.to)
        go_ret
        exact ⟨rfl,(bel B2 (bel B24 B6)).out⟩
      case true=>
        have M:=Hid.out (p:=Hid _) (HM.out rfl);clear HM HF;go_wp2_with (go_at_fn K;refine (Calls.mono HCL.out ?_);rintro z w6 hz;obtain ⟨rfl,B6⟩:=hz.to)
        go_roundw
        case rel=>exact ⟨i+1,by go_num,by omega,M.out,(bel B24 B6).out⟩
        case measure=>simp [intOf];omega
    · obtain rfl:true=ok:=by rw [<-HOK2.out,<-hA.out,List.take_of_length_le (by omega)]
      go_wp2_with fail
      go_ret
      exact ⟨rfl,B3.out⟩
end Go.Proofs.YtliekocamnklfaaGreatDoor.One
