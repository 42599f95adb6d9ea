/- num.Whole of a number that is right. -/
import Derived.Test.YtliekocamnklfaaGreatDoorPTk
import Derived.Test.YtliekocamnklfaaGreatDoorPOnG
import Derived.Test.YtliekocamnklfaaGreatDoorPOnC
import Derived.Test.YtliekocamnklfaaGreatDoorPOnA
import Derived.Shelf.Abstract
import Derived.Deep.RegionHeld
set_option linter.unusedVariables false
set_option linter.unusedSimpArgs false
set_option maxRecDepth 100000
set_option maxHeartbeats 4000000
namespace Go.Proofs.YtliekocamnklfaaGreatDoor.One
open Go.RowKit Strs Jdec Save Go.Proofs.YtliekocamnklfaaGreatDoor.Addr
def WPst (r:Option Nat) (w:World) (e:Ending) (w':World):Prop:=∃ n:Nat,e=.returned (.tuple #[.int .u64 n,.bool r.isSome])/\(∀ m,r=some m->n=m)/\Below w.heap.size w w'
theorem new3 (w:World) (n:Bool) (d:ByteArray) (e:Int):∃ w1,w.alloc (.cells #[.bool n,.string d,.int .i64 e] 25)=w1/\Hid (w1.heap[w.heap.size]?=some (.cells #[.bool n,.string d,.int .i64 e] 25 (0,0)))/\Hid (Below w.heap.size w w1):=
  ⟨_,rfl,heap_alloc_new _ _,(Below.refl _ _).alloc (Nat.le_refl _) _⟩
theorem digits48 {n:Bool} {d:List UInt8} {x:Int} (h:Num.right n d x=true):∀ c∈d,48<=c.toNat/\c.toNat<=57:=by
  unfold Num.right at h;split at h
  · rename_i h0;subst h0;intro c hc;cases hc
  · split at h
    · cases h
    · simp only [Bool.and_eq_true,List.all_eq_true] at h
      intro c hc
      have:=h.1.1 c hc;unfold Num.isDigit at this;simp only [Bool.and_eq_true,decide_eq_true_eq] at this
      exact this
def UintP:Option Nat->Nat->Value->Prop
  | some u,n,v=>n=u/\v=.nilIface
  | none,_,v=>∃ t p,v=.iface t p
theorem uint_call (s:ByteArray) (hs:s.size<=2000) (h0:s.data.toList≠[]) (hd:s.data.toList.all Num.isDigit=true) (w:World) (T:ErrT w):Calls Tryz.prog 140 #[.string s,.int .i64 10,.int .i64 64] w fun e w'=>∃ (n:Nat) (v:Value),e=.returned (.tuple #[.int .u64 n,v])/\UintP (numR 0 s.data.toList) n v/\Below w.heap.size w w':=by
  have hpu:Lib.parseUintB 64 s.data.toList=Lib.parseUintM (2 ^ 64-1) 0 s.data.toList:=by rw [Lib.parseUintB,if_neg h0]
  have hn:=numR_uint s.data.toList 0 hd;rcases uint_runs (2 ^ 64-1) s.data.toList 0 hd with ⟨u,hp⟩ | hp
  · rw [hp] at hn;have hc:=Tryz.strconv_ParseUint_10_at64_ok s (by omega) u (by rw [hpu,hp]) w;refine hc.mono ?_;rintro e w' ⟨rfl,hw⟩;refine ⟨u,.nilIface,rfl,by rw [hn];exact ⟨rfl,rfl⟩,?_⟩;rcases hw with rfl | rfl
    · exact Below.refl _ _
    · exact Lib.bytesWorld_below _ _ _
  · rw [hp] at hn;obtain ⟨ev,h1,h2⟩:=T;have hc:=Tryz.strconv_ParseUint_10_at64_range s (by omega) (by rw [hpu,hp]) ev w h1 h2;refine hc.mono ?_;rintro e w' ⟨N,rfl,_,_,hB⟩;exact ⟨_,_,rfl,by rw [hn];exact ⟨_,_,rfl⟩,hB⟩
theorem whole_any (n:Bool) (d:ByteArray) (e:Int) (hr:Num.right n d.data.toList e=true) (w:World) (T:ErrT w):Calls Tryz.prog 101 #[.agg #[.bool n,.string d,.int .i64 e]] w (WPst (wholeN n d.data.toList e) w):=by
  obtain ⟨hb1,hb2,hb3,hb4⟩:=right_bounds hr;have hl:d.data.toList.length=d.size:=by simp
  have hdig:=digits48 hr;obtain ⟨w2,hw2,V2,B2⟩:=new3 w n d e;have HP:=Hid.out (p:=Hid _) (pright_call n d e hr w2);have HT:Hid (∀ w',Below w.heap.size w w'->ErrT w'):=fun w' h=>ErrT.stays T h;have HW:Hid (∀ b,wholeN n d.data.toList e=b->wholeN n d.data.toList e=b):=fun b h=>h;have hds:d.size<=1000:=by omega
  have y0:=cell_of V2.out 0;have y1:=cell_of V2.out 1;have y2:=cell_of V2.out 2;cases n
  case true=>
    have HN:Hid (wholeN true d.data.toList e=none):=by rw [Hid,wholeN,if_neg (by simp)]
    clear hb1 hb2 hb3 hb4 hl hdig hr T HW hds;go_enter Tryz.func101,Tryz.ntmps101
    go_wp2_with fail
    refine (Calls.mono HP.out ?_);rintro z w3 ⟨rfl,hb3⟩;have V3:=hst V2 (Hid.out (p:=Hid _) hb3);have B3:=bel B2 (Hid.out (p:=Hid _) hb3);clear hb3 y0 y1 y2 hw2;have y0:=cell_of V3.out 0;have y1:=cell_of V3.out 1;have y2:=cell_of V3.out 2;go_wp2_with fail
    go_ret2
    exact ⟨0,by rw [HN.out] <;> rfl,(fun m h=>by rw [HN.out] at h;cases h),B3.out⟩
  case false=>
  by_cases he:e<0
  · have q1:decide (e<0)=true:=by rw [decide_eq_true_eq];exact he
    have HN:Hid (wholeN false d.data.toList e=none):=by rw [Hid,wholeN,if_neg (by omega)]
    clear hb1 hb2 hb3 hb4 hl hdig hr T HW hds he;go_enter Tryz.func101,Tryz.ntmps101
    go_wp2_with fail
    refine (Calls.mono HP.out ?_);rintro z w3 ⟨rfl,hb3⟩;have V3:=hst V2 (Hid.out (p:=Hid _) hb3);have B3:=bel B2 (Hid.out (p:=Hid _) hb3);clear hb3 y0 y1 y2 hw2;have y0:=cell_of V3.out 0;have y1:=cell_of V3.out 1;have y2:=cell_of V3.out 2;go_wp2_with fail
    go_ret2
    exact ⟨0,by rw [HN.out] <;> rfl,(fun m h=>by rw [HN.out] at h;cases h),B3.out⟩
  have q1:decide (e<0)=false:=by rw [decide_eq_false_iff_not];exact he
  obtain ⟨c,rfl⟩:∃ c:Nat,e=c:=⟨e.toNat,by omega⟩;have hc1:c<=10000:=by omega
  by_cases h20:20<d.size+c
  · have q2:decide ((20:Int)<(d.size:Int)+(c:Int))=true:=by rw [decide_eq_true_eq];omega
    have q3:decide (20<d.size+c)=true:=by rw [decide_eq_true_eq];omega
    have HN:Hid (wholeN false d.data.toList c=none):=by rw [Hid,wholeN,if_neg (by omega)]
    clear hb1 hb2 hb3 hb4 hl hdig hr T HW h20 he;go_enter Tryz.func101,Tryz.ntmps101
    go_wp2_with fail
    refine (Calls.mono HP.out ?_);rintro z w3 ⟨rfl,hb3⟩;have V3:=hst V2 (Hid.out (p:=Hid _) hb3);have B3:=bel B2 (Hid.out (p:=Hid _) hb3);clear hb3 y0 y1 y2 hw2;have y0:=cell_of V3.out 0;have y1:=cell_of V3.out 1;have y2:=cell_of V3.out 2;go_wp2_with fail
    go_ret2
    exact ⟨0,by rw [HN.out] <;> rfl,(fun m h=>by rw [HN.out] at h;cases h),B3.out⟩
  have q2:decide ((20:Int)<(d.size:Int)+(c:Int))=false:=by rw [decide_eq_false_iff_not];omega
  have q3:decide (20<d.size+c)=false:=by rw [decide_eq_false_iff_not];omega
  have hw:wholeN false d.data.toList c=numR 0 (d.data.toList++List.replicate c 48):=by rw [wholeN,if_pos ⟨hr,rfl,by omega,by omega⟩,Int.toNat_natCast]
  by_cases hd0:d=⟨#[]⟩
  · subst hd0;obtain rfl:c=0:=by have:(c:Int)=0:=(hb4 rfl).2;omega
    have HN:Hid (wholeN false (⟨#[]⟩:ByteArray).data.toList (0:Nat)=some 0):=by rw [Hid,hw];rfl
    have HP:Hid (Calls Tryz.prog 139 #[.agg #[.bool false,.string ⟨#[]⟩,.int .i64 0]] w2 fun e w'=>e=.returned (.bool true)/\Below w2.heap.size w2 w'):=HP;have hw2:w.alloc (.cells #[.bool false,.string ⟨#[]⟩,.int .i64 0] 25)=w2:=hw2;have V2:Hid (w2.heap[w.heap.size]?=some (.cells #[.bool false,.string ⟨#[]⟩,.int .i64 0] 25 (0,0))):=V2;have y0:w2.cell? ⟨w.heap.size,0,none⟩=some (.bool false):=y0;have y1:w2.cell? ⟨w.heap.size,1,none⟩=some (.string ⟨#[]⟩):=y1;have y2:w2.cell? ⟨w.heap.size,2,none⟩=some (.int .i64 0):=y2;clear hb1 hb2 hb3 hb4 hl hdig hr T HW h20 he hw;go_enter Tryz.func101,Tryz.ntmps101
    go_wp2_with fail
    refine (Calls.mono HP.out ?_);rintro z w3 ⟨rfl,hb3⟩;have V3:=hst V2 (Hid.out (p:=Hid _) hb3);have B3:=bel B2 (Hid.out (p:=Hid _) hb3);clear hb3 y0 y1 y2 hw2;have y0:=cell_of V3.out 0;have y1:=cell_of V3.out 1;have y2:=cell_of V3.out 2;go_wp2_with fail
    go_ret2
    exact ⟨0,by rw [HN.out] <;> rfl,(fun m h=>by rw [HN.out] at h;injection h),B3.out⟩
  have q4:=toList_nil hd0;have hdl:¬ d.size=0:=fun e=>hd0 (by have h:=str_back d;rw [List.length_eq_zero_iff.1 (hl.trans e)] at h;exact h.symm);obtain ⟨R,hR⟩:∃ R,numR 0 (d.data.toList++List.replicate c 48)=R:=⟨_,rfl⟩;have HN:Hid (wholeN false d.data.toList c=R):=hw.trans hR;have HPU:Hid (∀ (r:ByteArray) (w':World),r.data.toList=List.replicate c 48->Below w.heap.size w w'->Calls Tryz.prog 140 #[.string (d++r),.int .i64 10,.int .i64 64] w' fun e w''=>∃ (n:Nat) (v:Value),e=.returned (.tuple #[.int .u64 n,v])/\UintP R n v/\Below w'.heap.size w' w''):=fun r w' hr' hb=>by
    have he:(d++r).data.toList=d.data.toList++List.replicate c 48:=by rw [ByteArray.data_append,Array.toList_append,hr']
    have hz:(d++r).size<=2000:=by
      have:=congrArg List.length he;rw [List.length_append,List.length_replicate,hl] at this;have h2:(d++r).data.toList.length=(d++r).size:=by simp
      omega
    have h:=uint_call (d++r) hz (fun h=>by have:=congrArg List.length (he.symm.trans h);rw [List.length_append,hl,List.length_nil] at this;omega) (by
      rw [he,List.all_eq_true];intro x hx
      rcases List.mem_append.1 hx with hx | hx
      · have:=hdig x hx;rw [Num.isDigit,Bool.and_eq_true,decide_eq_true_eq,decide_eq_true_eq];exact this
      · rw [(List.mem_replicate.1 hx).2];rfl) w' (HT.out w' hb)
    rw [he,hR] at h;exact h
  have s0:¬ 9223372036854775807<d.size:=by omega
  have hc20:c<=20:=by omega
  clear hb1 hb2 hb3 hb4 hl hdig hr T HW h20 he hw hd0 hR;go_enter Tryz.func101,Tryz.ntmps101
  go_wp2_with fail
  refine (Calls.mono HP.out ?_);rintro z w3 ⟨rfl,hb3⟩;have V3:=hst V2 (Hid.out (p:=Hid _) hb3);have B3:=bel B2 (Hid.out (p:=Hid _) hb3);clear hb3 y0 y1 y2 hw2;have y0:=cell_of V3.out 0;have y1:=cell_of V3.out 1;have y2:=cell_of V3.out 2;go_wp2_with fail
  go_region_held3 (fun w'=>w'.cell? ⟨w.heap.size,1,none⟩=some (.string d)/\w'.cell? ⟨w.heap.size,2,none⟩=some (.int .i64 (c:Int))) (go_keep)
    (first
      | (go_at_call 140;refine (Calls.mono (HPU.out r w4 hr.out B4.out) ?_);rintro z w5 ⟨u,v,rfl,hu,hb5⟩;have B5:=bel B4 (Hid.out (p:=Hid _) hb5);have HU:=Hid.out (p:=Hid _) hu;have V5:=hst V4 (Hid.out (p:=Hid _) hb5);have y1:=cell_of V5.out 1;have y2:=cell_of V5.out 2;clear hb5 hu)
      | (go_at_call 141;refine (rep0_any c (by omega) w3.drew).mono ?_;rintro z w4 hz;obtain ⟨r,rfl,hr,hrs,hb4⟩:=hz.to;have hb4:Hid (Below w3.heap.size w3.drew w4):=hb4;have B4:Hid (Below w.heap.size w w4):=B3.out.drew.trans (hb4.out.mono B3.out.size);have V4:Hid (w4.heap[w.heap.size]?=some (.cells #[.bool false,.string d,.int .i64 (c:Int)] 25 (0,0))):=(hb4.out.block _ (heap_lt V3.out)).trans V3.out;have y1:=cell_of V4.out 1;have y2:=cell_of V4.out 2;have t0:¬ 9223372036854775807<d.size+r.size:=(by omega);clear hrs hz))
  cases R
  case none=>
    obtain ⟨t,p,rfl⟩:=HU.out;go_wp2_with fail
    go_ret2
    exact ⟨0,by rw [HN.out] <;> rfl,(fun m h=>by rw [HN.out] at h;cases h),B5.out⟩
  case some m=>
    obtain ⟨rfl,rfl⟩:=HU.out;go_wp2_with fail
    go_ret2
    exact ⟨u,by rw [HN.out] <;> rfl,(fun m h=>by rw [HN.out] at h;injection h),B5.out⟩
def BoolP (b:Bool) (w:World) (e:Ending) (w':World):Prop:=e=.returned (.bool b)/\Below w.heap.size w w'
theorem BoolP.to {b:Bool} {w w':World} {e:Ending} (h:BoolP b w e w'):e=.returned (.bool b)/\Hid (Below w.heap.size w w'):=h
theorem own8 (w:World) (r:Raw):∃ w1,w.alloc (.cells #[.int .i64 r.kind,.bool r.is,.bool r.neg,.string r.dig,.int .i64 r.exp,.string r.str,.slice r.ka r.kn r.kc,.slice r.va r.vn r.vc] 29)=w1/\Hid (w1.heap[w.heap.size]?=some (.cells r.arr 29 (0,0)))/\Hid (Below w.heap.size w w1):=own_new w r
end Go.Proofs.YtliekocamnklfaaGreatDoor.One
namespace Go.Proofs.YtliekocamnklfaaGreatDoor.Jdec
open Go.RowKit Strs
variable {w0:World} {bw:Nat} {blk:Obj} {key:ByteArray} {x:Raw} {TA TB:Option Nat} {vk:Value} {lk:List ByteArray} {vv:Value} {lv:List Raw} {w:World}
end Go.Proofs.YtliekocamnklfaaGreatDoor.Jdec
namespace Go.Proofs.YtliekocamnklfaaGreatDoor.One
open Go.RowKit Strs Jdec Save Go.Proofs.YtliekocamnklfaaGreatDoor.Addr
def ValP (t:JV) (A:Nat->Prop) (w:World) (e:Ending) (w':World):Prop:=∃ rr:Raw,e=.returned rr.val/\IsV w' A rr t/\Below w.heap.size w w'
theorem ValP.to {t:JV} {A:Nat->Prop} {w w':World} {e:Ending} (h:ValP t A w e w'):∃ rr:Raw,e=.returned rr.val/\Hid (IsV w' A rr t)/\Hid (Below w.heap.size w w'):=h
def numR (n:Nat):Raw:=⟨3,false,false,⟨(ofN n).1.toArray⟩,((ofN n).2:Nat),⟨#[]⟩,none,0,0,none,0,0⟩
theorem numR_is (w:World) (A:Nat->Prop) (n:Nat):IsV w A (numR n) (numV n):=.mk (numR n) [] [] (fun _=>Raw.zero) rfl rfl (.inl rfl) (.inl rfl) (fun i h=>absurd h (Nat.not_lt_zero _))
/-! ## one.object -/
theorem goodq_num {k:Int} {is ng:Bool} {d:ByteArray} {e:Int} {s:ByteArray} {ks:List ByteArray} {vs:List JV} (h:GoodQ (.mk k is ng d e s ks vs)):Num.right ng d.data.toList e=true:=by
  cases h with | mk _ _ _ _ _ _ _ _ o _=>exact o.right
theorem two_new (w:World) (x y:ByteArray):∃ w1,w.alloc (.cells #[.string x,.string y] 9)=w1/\Hid (IsTexts w1 (fun _=>True) (some ⟨w.heap.size,0,none⟩) [x,y])/\Hid (Below w.heap.size w w1):=by
  refine ⟨_,rfl,.inr ⟨w.heap.size,0,rfl,trivial,by simp,fun i hi=>?_⟩,(Below.refl _ _).alloc (Nat.le_refl _) _⟩;have h:=heap_alloc_new w (.cells #[.string x,.string y] 9 (0,0))
  match i,hi with
  | 0,_=>exact cell_of h 0
  | 1,_=>exact cell_of h 1
theorem three_new (w:World) (x y u:ByteArray):∃ w1,w.alloc (.cells #[.string x,.string y,.string u] 9)=w1/\Hid (IsTexts w1 (fun _=>True) (some ⟨w.heap.size,0,none⟩) [x,y,u])/\Hid (Below w.heap.size w w1):=by
  refine ⟨_,rfl,.inr ⟨w.heap.size,0,rfl,trivial,by simp,fun i hi=>?_⟩,(Below.refl _ _).alloc (Nat.le_refl _) _⟩;have h:=heap_alloc_new w (.cells #[.string x,.string y,.string u] 9 (0,0))
  match i,hi with
  | 0,_=>exact cell_of h 0
  | 1,_=>exact cell_of h 1
  | 2,_=>exact cell_of h 2
theorem kid1 (w:World) (r:Raw):∃ w1,w.alloc (.cells #[.int .i64 r.kind,.bool r.is,.bool r.neg,.string r.dig,.int .i64 r.exp,.string r.str,.slice r.ka r.kn r.kc,.slice r.va r.vn r.vc] 29)=w1/\Hid (w1.heap[w.heap.size]?=some (.cells r.arr 29 (0,0)))/\Hid (Below w.heap.size w w1):=own8 w r
theorem kp {w w':World} {A:Nat->Prop} {z:Raw} {t:JV} (h:Hid (IsV w A z t)) (e:Hid (Below w.heap.size w w')):Hid (IsV w' A z t):=h.out.behind e.out
theorem dn {w:World} {A:Nat->Prop} {z:Raw} {t:JV} {b:Nat} (h:Hid (IsV w A z t)) (hA:∀ k,A k->k≠b) (x0 x1 x2 x3 x4 x5 x6 x7:Value):IsV ((((((((w.setCell ⟨b,0,none⟩ x0).setCell ⟨b,1,none⟩ x1).setCell ⟨b,2,none⟩ x2).setCell ⟨b,3,none⟩ x3).setCell ⟨b,4,none⟩ x4).setCell ⟨b,5,none⟩ x5).setCell ⟨b,6,none⟩ x6).setCell ⟨b,7,none⟩ x7) (fun _=>True) z t:=
  h.out.turn ⟨(gb8 _ _ _ _ _ _ _ _ _ _).size,fun k hk hl=>⟨(gb8 _ _ _ _ _ _ _ _ _ _).block _ hl (fun e=>by injection e with e;exact hA k hk e),trivial⟩⟩
theorem vcopy {t:JV} (hg:GoodQ t) (hm:t.mass<=3000) {z:Raw} {A B:Nat->Prop} {w:World} (h:Hid (IsV w B z t)) (hA:∀ b,w.heap.size<=b->A b):Calls Tryz.prog 47 #[z.val] w (ValP t A w):=
  (copy_any t hg hm z B w h.out).mono fun e w' k=>by
    obtain ⟨r,h1,h2,h3⟩:=k.to;exact ⟨r,h1,h2.out.isV _ fun b hb=>hA b hb.1,h3.out⟩
end Go.Proofs.YtliekocamnklfaaGreatDoor.One
