/- quote.reader: scalar. -/
import Derived.Test.YtliekocamnklfaaGreatDoorPQuoteF
import Derived.Lib.OwnKind
import Derived.Recover
import Derived.Deep.RegionWith
import Derived.Deep.RegionHeld3
set_option linter.unusedVariables false
set_option linter.unusedSimpArgs false
set_option maxRecDepth 100000
set_option maxHeartbeats 2000000
namespace Go.Proofs.YtliekocamnklfaaGreatDoor.Quote
open Go.RowKit Go.Shelf Utf
attribute [local go_sem] Oper.semAt_some
theorem put_all (c:Nat) (w:World):Calls Tryz.prog 322 #[.int .i64 c] w fun e w'=>e=.returned (.tuple #[.string ⟨(put c).toArray⟩,.bool (scalarB c)])/\Below w.heap.size w w':=by
  cases h:scalarB c
  · exact put_no c w h
  · exact put_any c w h
theorem Rdr.grown {w w':World} {B b:Nat} {src:ByteArray} {p:Nat} {out:List UInt8} {row:Option Nat} (h:Rdr w B b src p out) (hg:w.grownBy w' row) (hr:∀ r,row=some r->∃ o:Obj,w.heap[r]?=some o/\o.isCells=false):Rdr w' B b src p out:=by
  obtain ⟨cs,hb,hs,h0,h1⟩:=h.it;obtain ⟨v,hv,ho⟩:=hb.buf;refine ⟨cs,⟨hb.hB,(hg.block b hb.lt ?_).trans hb.blk,hb.size,hb.ptr,⟨v,hv,ho.kept hg ?_⟩,hb.ne,hb.lies⟩,hs,h0,h1⟩
  · intro e
    obtain ⟨o,h1,h2⟩:=hr b e.symm;rw [hb.blk] at h1;cases h1;cases h2
  · cases hvo:v.ownBlock with
    | none=>exact Or.inl rfl
    | some g=>
      refine Or.inr (fun e=>?_);obtain ⟨c,fz,hc⟩:=Lib.ownsRow_kind ho g hvo;obtain ⟨o,h1,h2⟩:=hr g e.symm;rw [hc] at h1;cases h1;cases h2
theorem _root_.Go.Proofs.YtliekocamnklfaaGreatDoor.Keeps.grownFar {B b:Nat} {w W W':World} {row:Option Nat} (h:Keeps B b w W) (hB:B<=w.heap.size) (hg:W.grownBy W' row) (hr:∀ r,row=some r->w.heap.size<=r):Keeps B b w W':=
  ⟨h.below.grown hg (Nat.le_trans hB h.below.size) (fun k e=>Nat.le_trans hB (hr k e)),fun k hk hb hn=>(hg.block k (Nat.lt_of_lt_of_le hk h.below.size) (fun e=>by have:=hr k e.symm;omega)).trans (h.block k hk hb hn)⟩
theorem _root_.Go.Proofs.YtliekocamnklfaaGreatDoor.Keeps.others {B b B':Nat} {w W:World} (h:Keeps B b w W) {cs:Array Value} {T:TypeId} {fr:Nat × Nat} (hb:w.heap[b]?=some (.cells cs T fr)):KeepsFrom B' w W:=
  ⟨h.below.size,fun k o _ hk ho=>(h.block k (heap_lt hk) (fun e=>by subst e;rw [hb] at hk;cases hk;cases ho) (fun c fr e=>by rw [hk] at e;cases e;cases ho)).trans hk⟩
theorem Rdr.blk {w:World} {B b:Nat} {src:ByteArray} {p:Nat} {out:List UInt8} (h:Rdr w B b src p out):∃ cs T fr,w.heap[b]?=some (.cells cs T fr):=by
  obtain ⟨cs,hb,_⟩:=h.it;exact ⟨_,_,_,hb.blk⟩
theorem blk_grown {w w':World} {k:Nat} {cs:Array Value} {T:TypeId} {fr:Nat × Nat} {row:Option Nat} (h:w.heap[k]?=some (.cells cs T fr)) (hg:w.grownBy w' row) (hr:∀ r,row=some r->∃ o:Obj,w.heap[r]?=some o/\o.isCells=false):w'.heap[k]?=some (.cells cs T fr):=
  (hg.block k (heap_lt h) (fun e=>by obtain ⟨o,h1,h2⟩:=hr k e.symm;rw [h] at h1;cases h1;cases h2)).trans h
def scalarR (src:ByteArray) (p:Nat) (out:List UInt8):Except Nat (Value × Nat × List UInt8):=
  if (one (src.data.toList.drop p)).2=0 then .error 7 else .ok (.tuple #[],p+(put (one (src.data.toList.drop p)).1).length,out++put (one (src.data.toList.drop p)).1)
theorem one_take (l:List UInt8):one (l.take 4)=one l:=by
  have hb:∀ i,i<4->byt (l.take 4) i=byt l i:=fun i hi=>by
    unfold byt;rw [List.getD_eq_getElem?_getD,List.getD_eq_getElem?_getD,List.getElem?_take,if_pos hi]
  have hz:=sizeAt_le (byt l 0);have h0:=hb 0 (by omega);have h1:=hb 1 (by omega);have h2:=hb 2 (by omega);have h3:=hb 3 (by omega);unfold one stands;rw [h0];have hv:val (l.take 4) (sizeAt (byt l 0))=val l (sizeAt (byt l 0)):=by unfold val;simp only [h0,h1,h2,h3]
  have hc:conts (l.take 4) (sizeAt (byt l 0))=conts l (sizeAt (byt l 0)):=by unfold conts;simp only [h1,h2,h3]
  have hl:decide (sizeAt (byt l 0)<=(l.take 4).length)=decide (sizeAt (byt l 0)<=l.length):=by
    rw [List.length_take];congr 1;apply propext;omega
  rw [hv,hc,hl]
theorem scalar_any (B b:Nat) (src:ByteArray) (p:Nat) (out:List UInt8) (w:World) (h:Rdr w B b src p out) (hp:p<src.size) (hs:src.size<=1099511627776) (hlen:out.length<=p) (T:Sizes w):Calls Tryz.prog 307 #[.pointer (some ⟨b,0,none⟩)] w (RPost B b src w (scalarR src p out)):=by
  have c0:=h.c0;have c1:=h.c1;have f1:=h.f1;have hb:=h.hB;have hlt:=h.lt;have H:=Hid.out (p:=Hid _) h;clear h;have HT:=Hid.out (p:=Hid _) T;clear T;obtain ⟨q,hq⟩:∃ q:Nat,q=min (p+4) src.size:=⟨_,rfl⟩;have hw1:IntKind.i64.wrap ((p:Int)+4)=(p:Int)+4:=by simp [IntKind.wrap,IntKind.bits,IntKind.signed];omega
  have hm:(if (src.size:Int)<(p:Int)+4 then (src.size:Int) else (p:Int)+4)=(q:Int):=by split <;> omega
  have hm2:min ((p:Int)+4) (src.size:Int)=(q:Int):=by omega
  have hpq:p<=q:=by omega
  have hq1:q<=src.size:=by omega
  have hext:(src.extract p q).data.toList=(src.data.toList.drop p).take 4:=by
    have e1:(src.extract p q).data.toList=(src.data.toList.drop p).take (q-p):=by
      simp [ByteArray.data_extract,Array.toList_extract,List.extract_eq_take_drop]
    rw [e1];by_cases h4:p+4<=src.size
    · rw [show q-p=4 by omega]
    · rw [List.take_of_length_le (by simp;omega),List.take_of_length_le (by simp;omega)]
  have hlist:∃ t,scalAt (src.extract p q).data.toList 0=if (one (src.data.toList.drop p)).2=0 then [] else (0,(one (src.data.toList.drop p)).1)::t:=by
    refine ⟨scalAt ((src.data.toList.drop p).take 4) (0+(one (src.data.toList.drop p)).2),?_⟩;rw [hext,scalAt_step _ _ (Nat.zero_le _),if_neg (by simp;omega),List.drop_zero,one_take]
  obtain ⟨t,hlist0⟩:=hlist;have hlist:=Hid.out (p:=Hid _) hlist0;clear hlist0 hext;have HQ:=Hid.out (p:=Hid _) hq;clear hq;rw [<-callsIn_wide (n:=10)];refine callsIn_of_wp_marks Tryz.func307 rfl trivial ?_ rfl;simp only [Tryz.ntmps307,List.size_toArray,List.length_cons,List.length_nil,Nat.reduceAdd,Nat.reduceSub,Array.replicate_succ,Array.replicate_zero,List.push_toArray,List.append_toArray,List.nil_append,List.cons_append]
  refine wpIn_wide.2 ?_;go_wp2_with fail
  go_quiet (fail)
  go_wp2_with fail
  refine (all_any (src.extract p q) _).mono ?_;rintro e w1 ⟨rfl,hb1,hbox⟩;have hb0:Below w.heap.size w w1:=(((Below.refl _ w).alloc (Nat.le_refl _) _).trans (below_drewN _ _ _)).trans (hb1.mono (by simp));have hrb:w1.heap[w.heap.size]?=some (.cells #[.pointer (some ⟨b,0,none⟩)] 266 (0,0)):=(hb1.block _ (by simp)).trans (heap_alloc_new _ _);have hcr:=cell_of hrb 0;have hsz:w.heap.size<w1.heap.size:=heap_lt hrb;have R1:Hid (Rdr w1 B b src p out):=H.out.stays hb0;have K1:Hid (Keeps B b w w1):=Keeps.of_below hb0 (by omega);have T1:Hid (Sizes w1):=HT.out.stays hb0;have HB:=Hid.out (p:=Hid _) hb0;clear hb0;have HB1:=Hid.out (p:=Hid _) hb1;clear hb1;have HX:=Hid.out (p:=Hid _) hbox;clear hbox;have HRB:=Hid.out (p:=Hid _) hrb;clear hrb;go_wp2_with fail
  have hxe:(src.extract p q).size<=4611686018427387904:=by rw [ByteArray.size_extract];omega
  have hX:Hid (w1.heap[w.heap.size+1]?=some (.cells #[.string (src.extract p q)] 9 (0,0))):=by have:=HX.out;unfold Hid;simpa using this
  refine (wpIn_wide (n:=10)).1 ?_;refine wpIn_rangeFunc_ownG (α:=Nat × Nat) (w:=w1) rfl (by decide) (gf:=325) (lb:=#[.pointer (some ⟨w.heap.size+1,0,none⟩)]) rfl trivial (enters_of Tryz.func325 (by kernel_rfl) rfl)
    (scal_stops 9 (w.heap.size+1) (src.extract p q) hxe (by decide) w1 hX.out T1.out) (fun h k=>KpA.t h k)
    (fun W l o o' hl ho hc _=>⟨World.putObj_heap_other (fun e=>by have:=heap_lt hX.out;omega),fun t=>t.kept (World.putObj_heap_other (fun e=>by have:=T1.out.lt;omega))⟩) (Below.refl _ _) (fun _=>rfl)
    (fun pre W=>pre=[]/\Hid (Rdr W B b src p out)/\Hid (Keeps B b w W)/\Hid (W.heap[w.heap.size]?=some (.cells #[.pointer (some ⟨b,0,none⟩)] 266 (0,0))))
    (fun c pre W=>c=.ret/\∃ x:Nat × Nat,pre=[x]/\Rdr W B b src (p+(put x.2).length) (out++put x.2)/\Keeps B b w W)
    (fun s A B row hs hg hr=>⟨hs.1,hs.2.1.out.grown hg (fun r e=>(hr r e).2),hs.2.2.1.out.grownFar (by omega) hg (fun r e=>by have:=(hr r e).1;omega),blk_grown hs.2.2.2.out hg (fun r e=>(hr r e).2)⟩)
    (fun c s A B row hs hg hr=>⟨hs.1,by obtain ⟨_,x,h1,h2,h3⟩:=hs;exact ⟨x,h1,h2.grown hg (fun r e=>(hr r e).2),h3.grownFar (by omega) hg (fun r e=>by have:=(hr r e).1;omega)⟩⟩)
    ⟨rfl,R1.out,K1.out,HRB.out⟩
    (fun x=>{ tmps:=#[.pointer (some ⟨b,0,none⟩),.pointer (some ⟨w.heap.size,0,none⟩),.string (src.extract p q),undef,.int .i64 x.2,undef,undef,.pointer (some ⟨b,0,none⟩),.pointer (some ⟨b,0,none⟩),.pointer (some ⟨b,0,none⟩),.string src,.pointer (some ⟨b,0,none⟩),.pointer (some ⟨b,0,none⟩),.pointer (some ⟨b,1,none⟩),.int .i64 p,.pointer (some ⟨b,0,none⟩),.pointer (some ⟨b,0,none⟩),.pointer (some ⟨b,1,none⟩),.int .i64 p,.int .i64 (p+4),.pointer (some ⟨b,0,none⟩),.pointer (some ⟨b,0,none⟩),.pointer (some ⟨b,0,none⟩),.string src,.int .i64 src.size,.int .i64 q,.string (src.extract p q),.string (src.extract p q),.func (.func 325) #[] #[.pointer (some ⟨w.heap.size+1,0,none⟩)],.int .i64 x.1,.int .i64 x.2,undef,undef,undef,undef,undef,undef,undef,undef,undef,undef,undef,undef,undef,undef,undef,undef,undef,undef,undef,undef],defers:=[] }) ?assign ?body ?done ?stop
  case assign=>
    intro l x W K hK
    gi_wp2
    exact hK
  case body=>
    rintro l pre x W ⟨rfl,hR,hK,hbx⟩ _;have hcW:=cell_of hbx.out 0;have hpl:=put_length x.2
    gi_wp2_with fail
    refine ⟨trivial,?_⟩;refine (CallsIn.inRound l (callsIn_wide.2 (put_all x.2 W))).mono ?_;rintro e w2 ⟨rfl,hb2⟩;have R2:Hid (Rdr w2 B b src p out):=hR.out.stays hb2;have K2:Hid (Keeps B b w w2):=hK.out.trans (Keeps.of_below hb2 (by have:=hR.out.hB;have:=hR.out.lt;omega));have K2':Hid (Keeps B b W w2):=(Keeps.of_below hb2 (by have:=hR.out.hB;have:=hR.out.lt;omega));have X2:Hid (w2.heap[w.heap.size]?=some (.cells #[.pointer (some ⟨b,0,none⟩)] 266 (0,0))):=(hb2.block _ (heap_lt hbx.out)).trans hbx.out;have hcW2:=cell_of X2.out 0;clear hb2 hcW
    gi_wp2_with fail
    refine ⟨trivial,?_⟩;refine (CallsIn.inRound l (callsIn_wide.2 (rWriteString B b src p out ⟨(put x.2).toArray⟩ w2 R2.out (by show out.length+(put x.2).toArray.size<=_;simp only [List.size_toArray];omega)))).mono ?_;rintro e w3 ⟨rfl,h3,hk⟩;have K3:Hid (Keeps B b w w3):=K2.out.trans hk;have K3':Hid (Keeps B b W w3):=K2'.out.trans hk;have R3:Hid (Rdr w3 B b src p (out++put x.2)):=h3;have X3:Hid (w3.heap[w.heap.size]?=some (.cells #[.pointer (some ⟨b,0,none⟩)] 266 (0,0))):=
      (hk.block _ (heap_lt X2.out) (by omega) (fun c fr e=>by rw [X2.out] at e;cases e)).trans X2.out
    have hcW3:=cell_of X3.out 0;have c13:=R3.out.c1;have f13:=R3.out.f1;have hput:(⟨(put x.2).toArray⟩:ByteArray).size=(put x.2).length:=by simp [ByteArray.size]
    clear h3 hk hcW2
    gi_wp2_with fail
    rw [show (p:Int)+((put x.2).length:Int)=((p+(put x.2).length:Nat):Int) by omega];exact ⟨(K3'.out.setCell (p:=⟨b,1,none⟩) rfl hb _).others hR.out.blk.choose_spec.choose_spec.choose_spec,rfl,x,rfl,R3.out.setAt _,K3.out.setCell (p:=⟨b,1,none⟩) rfl hb _⟩
  case done=>
    rintro D xs W hD hxs ⟨rfl,hR,hK,hbx⟩ hKD;have hz:(one (src.data.toList.drop p)).2=0:=by
      have:=hlist.out;rw [<-hxs] at this;by_cases h0:(one (src.data.toList.drop p)).2=0
      · exact h0
      · rw [if_neg h0] at this;cases this
    have HF:Hid (scalarR src p out=.error 7):=by rw [Hid,scalarR,if_pos hz]
    clear hz hxs;go_wp2_with fail
    refine (fail_any 7 _).mono ?_;rintro e w' ⟨rfl,rfl⟩;go_wp2_with fail
    refine ⟨by simp,.inl ⟨_,_,rfl,run_takeDeferred hKD,?_⟩⟩;exact rpost_err HF (hK.out.grownFar (by omega) (grownBy_putObj' _ D (.deferred none)) (fun r e=>by cases e;omega))
  case stop=>
    rintro D c pre W hD hpre ⟨rfl,x,rfl,hR,hK⟩ hKD;have HR:=Hid.out (p:=Hid _) hR;clear hR;have HK:=Hid.out (p:=Hid _) hK;clear hK;have HO:Hid (scalarR src p out=.ok (.tuple #[],p+(put x.2).length,out++put x.2)):=by
      have:=hlist.out;rw [Hid,scalarR];by_cases h0:(one (src.data.toList.drop p)).2=0
      · rw [if_pos h0] at this;rw [this] at hpre;simp at hpre
      · rw [if_neg h0] at this;rw [this] at hpre;have hx:=(List.cons_prefix_cons.1 hpre).1;rw [if_neg h0,hx]
    clear hpre;refine wpIn_wide.2 ?_;go_wp2_with fail
    refine ⟨by simp,.inl ⟨_,_,rfl,run_takeDeferred hKD,?_⟩⟩;refine ⟨_,results_none rfl _ _ _,?_⟩;exact rpost_ok HO (HK.out.grownFar (by omega) (grownBy_putObj' _ D (.deferred none)) (fun r e=>by cases e;omega)) (HR.out.grown (grownBy_putObj' _ D (.deferred none)) (fun r e=>by cases e;exact ⟨_,hKD,rfl⟩))
def partR (src:ByteArray) (p:Nat) (out:List UInt8):Except Nat (Value × Nat × List UInt8):=
  match part (src.data.toList.drop p) with
  | .error k=>.error k
  | .ok (o,n,g)=>.ok (.bool g,p+n,out++o)
theorem _root_.Go.Proofs.YtliekocamnklfaaGreatDoor.Utf.Sizes.keeps {B b:Nat} {w w':World} (T:Sizes w) (hk:Keeps B b w w') (hB:5<B):Sizes w':=T.kept (hk.below.block _ hB)
theorem part_e0 (B b:Nat) (src:ByteArray) (p:Nat) (out:List UInt8) (w:World) (h:Rdr w B b src p out) (hp:p =  src.size) (hs:src.size<=1099511627776) (hlen:out.length<=p) (T:Sizes w) (hTB:5<B)  : Calls Tryz.prog 294 #[.pointer (some ⟨b,0,none⟩)] w (RPost B b src w (partR src p out)):=by
  obtain ⟨r,hr⟩:∃ r,r=partR src p out:=⟨_,rfl⟩;rw [<-hr];have HP:=Hid.out (p:=Hid _) h;clear h;have HT:=Hid.out (p:=Hid _) T;clear T;have HF:Hid (r=.error 2):=by rw [Hid,hr,partR];simp [part,hp]
  clear hr;go_enter Tryz.func294,Tryz.ntmps294
  go_wp2_with fail
  refine (next_no B b src p out w HP.out (by omega) (by omega) (by omega)).mono ?_;rintro e w1 ⟨rfl,hk⟩;have K1:Hid (Keeps B b w w1):=hk;clear hk;go_wp2_with fail
  exact ⟨rfl,rpost_err HF K1.out⟩
theorem part_mark (B b:Nat) (src:ByteArray) (p:Nat) (out:List UInt8) (w:World) (h:Rdr w B b src p out) (hp:p<src.size) (hs:src.size<=1099511627776) (hlen:out.length<=p) (T:Sizes w) (hTB:5<B) (hv:src[p].toNat=34):Calls Tryz.prog 294 #[.pointer (some ⟨b,0,none⟩)] w (RPost B b src w (partR src p out)):=by
  obtain ⟨r,hr⟩:∃ r,r=partR src p out:=⟨_,rfl⟩;rw [<-hr];have HP:=Hid.out (p:=Hid _) h;clear h;have HT:=Hid.out (p:=Hid _) T;clear T;have hb0:byt (src.data.toList.drop p) 0=src[p].toNat:=by rw [byt_drop src p 0 (by omega)];rfl
  have hl0:¬ (src.data.toList.drop p).length=0:=by rw [List.length_drop,show src.data.toList.length=src.size by simp];omega
  have HO:Hid (r=.ok (.bool false,p+1,out++[])):=by
    rw [Hid,hr,partR];unfold part;rw [hb0,if_neg hl0,if_pos (by omega)]
  clear hr;have q34:((src[p].toNat:Int) == 34)=true:=by rw [beq_iff_eq];omega
  have hlt8:src[p].toNat<256:=UInt8.toNat_lt _;clear hb0 hl0 hv;go_enter Tryz.func294,Tryz.ntmps294
  go_wp2_with fail
  refine (next_yes B b src p out w HP.out (by omega) (by omega)).mono ?_;rintro e w1 ⟨rfl,h1,hk⟩;have K1:Hid (Keeps B b w w1):=hk;have R1:=Hid.out (p:=Hid _) h1;clear h1 hk;go_wp2_with fail
  go_ret
  exact rpost_ok HO K1.out (by rw [List.append_nil];exact R1.out)
theorem part_low (B b:Nat) (src:ByteArray) (p:Nat) (out:List UInt8) (w:World) (h:Rdr w B b src p out) (hp:p<src.size) (hs:src.size<=1099511627776) (hlen:out.length<=p) (T:Sizes w) (hTB:5<B) (hv:src[p].toNat<32):Calls Tryz.prog 294 #[.pointer (some ⟨b,0,none⟩)] w (RPost B b src w (partR src p out)):=by
  obtain ⟨r,hr⟩:∃ r,r=partR src p out:=⟨_,rfl⟩;rw [<-hr];have HP:=Hid.out (p:=Hid _) h;clear h;have HT:=Hid.out (p:=Hid _) T;clear T;have hb0:byt (src.data.toList.drop p) 0=src[p].toNat:=by rw [byt_drop src p 0 (by omega)];rfl
  have hl0:¬ (src.data.toList.drop p).length=0:=by rw [List.length_drop,show src.data.toList.length=src.size by simp];omega
  have HF:Hid (r=.error 3):=by
    rw [Hid,hr,partR];unfold part;rw [hb0,if_neg hl0,if_neg (by omega),if_neg (by omega),if_pos hv]
  clear hr;have q34:((src[p].toNat:Int) == 34)=false:=by rw [beq_eq_false_iff_ne];omega
  have q92:((src[p].toNat:Int) == 92)=false:=by rw [beq_eq_false_iff_ne];omega
  have l32:decide ((src[p].toNat:Int)<32)=true:=by simp;omega
  have hlt8:src[p].toNat<256:=UInt8.toNat_lt _;clear hb0 hl0;go_enter Tryz.func294,Tryz.ntmps294
  go_wp2_with fail
  refine (next_yes B b src p out w HP.out (by omega) (by omega)).mono ?_;rintro e w1 ⟨rfl,h1,hk⟩;have K1:Hid (Keeps B b w w1):=hk;have R1:=Hid.out (p:=Hid _) h1;clear h1 hk;go_wp2_with fail
  refine (fail_any 3 _).mono ?_;rintro e w' ⟨rfl,rfl⟩;go_wp2_with fail
  exact ⟨rfl,rpost_err HF K1.out⟩
theorem part_plain (B b:Nat) (src:ByteArray) (p:Nat) (out:List UInt8) (w:World) (h:Rdr w B b src p out) (hp:p<src.size) (hs:src.size<=1099511627776) (hlen:out.length<=p) (T:Sizes w) (hTB:5<B) (hv:32<=src[p].toNat) (hv2:src[p].toNat<128) (hv3:src[p].toNat≠34) (hv4:src[p].toNat≠92):Calls Tryz.prog 294 #[.pointer (some ⟨b,0,none⟩)] w (RPost B b src w (partR src p out)):=by
  obtain ⟨r,hr⟩:∃ r,r=partR src p out:=⟨_,rfl⟩;rw [<-hr];have HP:=Hid.out (p:=Hid _) h;clear h;have HT:=Hid.out (p:=Hid _) T;clear T;have hb0:byt (src.data.toList.drop p) 0=src[p].toNat:=by rw [byt_drop src p 0 (by omega)];rfl
  have hl0:¬ (src.data.toList.drop p).length=0:=by rw [List.length_drop,show src.data.toList.length=src.size by simp];omega
  have HO:Hid (r=.ok (.bool true,p+1,out++[UInt8.ofNat src[p].toNat])):=by
    rw [Hid,hr,partR];unfold part;rw [hb0,if_neg hl0,if_neg hv3,if_neg hv4,if_neg (by omega),if_pos hv2]
  clear hr;have q34:((src[p].toNat:Int) == 34)=false:=by rw [beq_eq_false_iff_ne];omega
  have q92:((src[p].toNat:Int) == 92)=false:=by rw [beq_eq_false_iff_ne];omega
  have l32:decide ((src[p].toNat:Int)<32)=false:=by simp;omega
  have l128:decide ((src[p].toNat:Int)<128)=true:=by simp;omega
  have hlt8:src[p].toNat<256:=UInt8.toNat_lt _;clear hb0 hl0;go_enter Tryz.func294,Tryz.ntmps294
  go_wp2_with fail
  refine (next_yes B b src p out w HP.out (by omega) (by omega)).mono ?_;rintro e w1 ⟨rfl,h1,hk⟩;have K1:Hid (Keeps B b w w1):=hk;have R1:=Hid.out (p:=Hid _) h1;clear h1 hk;go_wp2_with fail
  refine (rWriteByteN B b src (p+1) out src[p].toNat (by omega) _ R1.out (by omega)).mono ?_;rintro e w2 ⟨rfl,h2,hk⟩;have K2:Hid (Keeps B b w w2):=K1.out.trans hk;have R2:Hid (Rdr w2 B b src (p+1) (out++[UInt8.ofNat src[p].toNat])):=h2;clear h2 hk;go_wp2_with fail
  go_ret
  exact rpost_ok HO K2.out R2.out
theorem part_esc (B b:Nat) (src:ByteArray) (p:Nat) (out:List UInt8) (w:World) (h:Rdr w B b src p out) (hp:p<src.size) (hs:src.size<=1099511627776) (hlen:out.length<=p) (T:Sizes w) (hTB:5<B) (hv:src[p].toNat=92):Calls Tryz.prog 294 #[.pointer (some ⟨b,0,none⟩)] w (RPost B b src w (partR src p out)):=by
  obtain ⟨r,hr⟩:∃ r,r=partR src p out:=⟨_,rfl⟩;rw [<-hr];have HP:=Hid.out (p:=Hid _) h;clear h;have HT:=Hid.out (p:=Hid _) T;clear T;have hb0:byt (src.data.toList.drop p) 0=src[p].toNat:=by rw [byt_drop src p 0 (by omega)];rfl
  have hl0:¬ (src.data.toList.drop p).length=0:=by rw [List.length_drop,show src.data.toList.length=src.size by simp];omega
  have HN:Hid (r=match escapeR src (p+1) out with | .error k=>.error k | .ok (_,q,o)=>.ok (.bool true,q,o)):=by
    rw [Hid,hr,partR,escapeR];unfold part;rw [hb0,if_neg hl0,if_neg (by omega),if_pos hv,List.drop_drop]
    cases escape (List.drop (p+1) src.data.toList) with
    | error k=>rfl
    | ok x=>obtain ⟨o,n⟩:=x;simp;omega
  clear hr;have q34:((src[p].toNat:Int) == 34)=false:=by rw [beq_eq_false_iff_ne];omega
  have q92:((src[p].toNat:Int) == 92)=true:=by rw [beq_iff_eq];omega
  have hlt8:src[p].toNat<256:=UInt8.toNat_lt _;clear hb0 hl0 hv;go_enter Tryz.func294,Tryz.ntmps294
  go_wp2_with fail
  refine (next_yes B b src p out w HP.out (by omega) (by omega)).mono ?_;rintro e w1 ⟨rfl,h1,hk⟩;have K1:Hid (Keeps B b w w1):=hk;have R1:=Hid.out (p:=Hid _) h1;clear h1 hk;go_wp2_with fail
  refine (escape_any B b src (p+1) out w1 R1.out (by omega) (by omega) (by omega)).mono ?_;rintro e w2 ⟨hk,h2⟩;have K2:Hid (Keeps B b w w2):=K1.out.trans hk;clear hk
  cases hnn:escapeR src (p+1) out with
  | error k=>
    have HF:Hid (r=.error k):=by rw [Hid,HN.out,hnn]
    rw [hnn] at h2;simp only [] at h2
    obtain rfl:=h2;clear hnn;go_wp2_with fail
    exact ⟨rfl,rpost_err HF K2.out⟩
  | ok x=>
    obtain ⟨v,q,o⟩:=x;have HO:Hid (r=.ok (.bool true,q,o)):=by rw [Hid,HN.out,hnn]
    have hvt:v=.tuple #[]:=by
      rw [escapeR] at hnn;split at hnn
      · cases hnn
      · injection hnn with h1;injection h1 with h1 h3;exact h1.symm
    subst hvt;rw [hnn] at h2;simp only [] at h2
    obtain ⟨rfl,hr2⟩:=h2;have R2:Hid (Rdr w2 B b src q o):=hr2;clear hr2 hnn;go_wp2_with fail
    go_ret
    exact rpost_ok HO K2.out R2.out
theorem part_scal (B b:Nat) (src:ByteArray) (p:Nat) (out:List UInt8) (w:World) (h:Rdr w B b src p out) (hp:p<src.size) (hs:src.size<=1099511627776) (hlen:out.length<=p) (T:Sizes w) (hTB:5<B) (hv:128<=src[p].toNat):Calls Tryz.prog 294 #[.pointer (some ⟨b,0,none⟩)] w (RPost B b src w (partR src p out)):=by
  obtain ⟨r,hr⟩:∃ r,r=partR src p out:=⟨_,rfl⟩;rw [<-hr];have HP:=Hid.out (p:=Hid _) h;clear h;have HT:=Hid.out (p:=Hid _) T;clear T;have hb0:byt (src.data.toList.drop p) 0=src[p].toNat:=by rw [byt_drop src p 0 (by omega)];rfl
  have hl0:¬ (src.data.toList.drop p).length=0:=by rw [List.length_drop,show src.data.toList.length=src.size by simp];omega
  have HN:Hid (r=match scalarR src p out with | .error k=>.error k | .ok (_,q,o)=>.ok (.bool true,q,o)):=by
    rw [Hid,hr,partR,scalarR];unfold part;rw [hb0,if_neg hl0,if_neg (by omega),if_neg (by omega),if_neg (by omega),if_neg (by omega)];by_cases hz:(one (src.data.toList.drop p)).2=0
    · rw [if_pos hz,if_pos hz]
    · rw [if_neg hz,if_neg hz]
  clear hr;have q34:((src[p].toNat:Int) == 34)=false:=by rw [beq_eq_false_iff_ne];omega
  have q92:((src[p].toNat:Int) == 92)=false:=by rw [beq_eq_false_iff_ne];omega
  have l32:decide ((src[p].toNat:Int)<32)=false:=by simp;omega
  have l128:decide ((src[p].toNat:Int)<128)=false:=by simp;omega
  have hlt8:src[p].toNat<256:=UInt8.toNat_lt _;clear hb0 hl0;go_enter Tryz.func294,Tryz.ntmps294
  go_wp2_with fail
  refine (next_yes B b src p out w HP.out (by omega) (by omega)).mono ?_;rintro e w1 ⟨rfl,h1,hk⟩;have K1:Hid (Keeps B b w w1):=hk;have R1:=Hid.out (p:=Hid _) h1;clear h1 hk;have c11:=R1.out.c1;have f11:=R1.out.f1;have hsub:IntKind.i64.wrap (((p+1:Nat):Int)-1)=(p:Int):=by simp [IntKind.wrap,IntKind.bits,IntKind.signed];omega
  go_wp2_with fail
  have R2:Hid (Rdr (w1.setCell ⟨b,1,none⟩ (.int .i64 p)) B b src p out):=R1.out.setAt p;have K2:Hid (Keeps B b w (w1.setCell ⟨b,1,none⟩ (.int .i64 p))):=K1.out.setCell (p:=⟨b,1,none⟩) rfl R1.out.hB _;refine (scalar_any B b src p out _ R2.out (by omega) (by omega) (by omega) (HT.out.keeps K2.out hTB)).mono ?_;rintro e w3 ⟨hk,h2⟩;have K3:Hid (Keeps B b w w3):=K2.out.trans hk;clear hk
  cases hnn:scalarR src p out with
  | error k=>
    have HF:Hid (r=.error k):=by rw [Hid,HN.out,hnn]
    rw [hnn] at h2;simp only [] at h2
    obtain rfl:=h2;clear hnn;go_wp2_with fail
    exact ⟨rfl,rpost_err HF K3.out⟩
  | ok x=>
    obtain ⟨v,q,o⟩:=x;have HO:Hid (r=.ok (.bool true,q,o)):=by rw [Hid,HN.out,hnn]
    have hvt:v=.tuple #[]:=by
      rw [scalarR] at hnn;split at hnn
      · cases hnn
      · injection hnn with h1;injection h1 with h1 h3;exact h1.symm
    subst hvt;rw [hnn] at h2;simp only [] at h2
    obtain ⟨rfl,hr2⟩:=h2;have R2:Hid (Rdr w3 B b src q o):=hr2;clear hr2 hnn;go_wp2_with fail
    go_ret
    exact rpost_ok HO K3.out R2.out
theorem part_any (B b:Nat) (src:ByteArray) (p:Nat) (out:List UInt8) (w:World) (h:Rdr w B b src p out) (hp:p<=src.size) (hs:src.size<=1099511627776) (hlen:out.length<=p) (T:Sizes w) (hTB:5<B):Calls Tryz.prog 294 #[.pointer (some ⟨b,0,none⟩)] w (RPost B b src w (partR src p out)):=by
  by_cases h0:p=src.size
  · exact part_e0 B b src p out w h h0 hs hlen T hTB
  have h1:p<src.size:=by omega
  by_cases c1:src[p].toNat=34
  · exact part_mark B b src p out w h h1 hs hlen T hTB c1
  by_cases c2:src[p].toNat=92
  · exact part_esc B b src p out w h h1 hs hlen T hTB c2
  by_cases c3:src[p].toNat<32
  · exact part_low B b src p out w h h1 hs hlen T hTB c3
  by_cases c4:src[p].toNat<128
  · exact part_plain B b src p out w h h1 hs hlen T hTB (by omega) c4 c1 c2
  · exact part_scal B b src p out w h h1 hs hlen T hTB (by omega)
theorem scan1_idle (a b c:Addr) (w:World):CallsD Tryz.prog 291 #[.pointer (some a),.pointer (some b),.pointer (some c)] .returning w fun e u' w'=>e=.returned (.tuple #[])/\u'=.returning/\w=w':=by
  refine callsD_of_wpS Tryz.func291 rfl fun c₀ cs hu=>?_;simp only [Tryz.ntmps291,List.size_toArray,List.length_cons,List.length_nil,Nat.reduceAdd,Nat.reduceSub,Array.replicate_succ,Array.replicate_zero,List.push_toArray,List.append_toArray,List.nil_append,List.cons_append]
  apply wpS_seq
  apply wpS_region
  simp [wpOpsS,go_sem,recoverD,hu,Exit.thenS]
  refine wpS_of_wp ?_
  go_wp2
  cases c₀
  simp_all [bodyPostS,results,Tryz.results291,go_sem]
theorem scan1_caught (b0:Nat) (k:Nat) (v0 v1 v2:Value) (w:World) (h0:w.heap[b0]?=some (.cells #[v0] 9 (0,0))) (h1:w.heap[b0+1]?=some (.cells #[v1] 3 (0,0))) (h2:w.heap[b0+2]?=some (.cells #[v2] 33 (0,0))) :
    CallsD Tryz.prog 291 #[.pointer (some ⟨b0,0,none⟩),.pointer (some ⟨b0+1,0,none⟩),.pointer (some ⟨b0+2,0,none⟩)] (.panicking (thrown k)) w fun e u' w'=>
      e=.returned (.tuple #[])/\u'=.panicking [{ v:=.iface 264 (.agg #[.int .i64 k]),recovered:=true }]/\Below b0 w w' ∧
      w'.heap[b0]?=some (.cells #[.string ⟨#[]⟩] 9 (0,0))/\w'.heap[b0+1]?=some (.cells #[.int .i64 0] 3 (0,0))/\w'.heap[b0+2]?=some (.cells #[.int .i64 k] 33 (0,0)):=by
  have hta:∀ (v:Value) (w:World),(Instr.typeAssert (.iface 264 v) 20 264 true).run Tryz.prog w=.ok (.tuple #[v,.bool true]) w:=fun v w=>by
    simp [Instr.typeAssert,run_underlying Tryz.underlying264,go_sem,Result.andThen]
  have c0:=cell_of h0 0;have c1:=cell_of h1 0;have c2:=cell_of h2 0;have f0:=frozen_of h0 0;have f1:=frozen_of h1 0;have f2:=frozen_of h2 0;have l0:=heap_lt h0;have l1:=heap_lt h1;have l2:=heap_lt h2;have H0:=Hid.out (p:=Hid _) h0;clear h0;have H1:=Hid.out (p:=Hid _) h1;clear h1;have H2:=Hid.out (p:=Hid _) h2;clear h2;refine callsD_of_wpS Tryz.func291 rfl fun c₀ cs hu=>?_;rw [thrown] at hu;simp only [Tryz.ntmps291,List.size_toArray,List.length_cons,List.length_nil,Nat.reduceAdd,Nat.reduceSub,Array.replicate_succ,Array.replicate_zero,List.push_toArray,List.append_toArray,List.nil_append,List.cons_append]
  apply wpS_seq
  apply wpS_region
  simp [wpOpsS,go_sem,recoverD,hu,Exit.thenS]
  refine wpS_of_wp ?_
  go_wp2
  go_region
  all_goals go_wp2
  refine ⟨rfl,_,rfl,.tuple #[],results_none rfl _ _ _,rfl,rfl,?_,?_,?_,?_⟩
  · refine Below.drew (Below.alloc (Below.setCell (Below.setCell (Below.setCell (Below.refl b0 w) ?_ _) ?_ _) ?_ _) ?_ _)
    · exact Nat.le_refl _
    · show b0<=b0+1;omega
    · show b0<=b0+2;omega
    · simp;omega
  · exact heap_alloc_old (heap_set_other (heap_set_other (heap_set_same H0.out _) (by omega) _) (by omega) _)
  · exact heap_alloc_old (heap_set_other (heap_set_same (heap_set_other H1.out (by omega) _) _) (by omega) _)
  · exact heap_alloc_old (heap_set_same (heap_set_other (heap_set_other H2.out (by omega) _) (by omega) _) _)
def scanV (s:ByteArray):Value:=
  match scan s.data.toList with
  | .error k=>.tuple #[.string ⟨#[]⟩,.int .i64 0,.int .i64 k]
  | .ok (o,n)=>.tuple #[.string ⟨o.toArray⟩,.int .i64 n,.int .i64 0]
theorem fresh (w:World) (src:ByteArray):Rdr (w.alloc (.cells #[.string src,.int .i64 0,.pointer none,.slice none 0 0] 268)) w.heap.size w.heap.size src 0 []:=
  ⟨#[.string src,.int .i64 0,.pointer none,.slice none 0 0],⟨Nat.le_refl _,heap_alloc_new _ _,by show 2+1<4;decide,.inl rfl,⟨.slice none 0 0,rfl,World.ownsRow_nil _ _ _ _⟩,by decide,by kernel_rfl⟩,rfl,rfl,rfl⟩
structure Res (w:World) (b:Nat) (v0 v1 v2:Value):Prop where
  r0:w.heap[b]?=some (.cells #[v0] 9 (0,0))
  r1:w.heap[b+1]?=some (.cells #[v1] 3 (0,0))
  r2:w.heap[b+2]?=some (.cells #[v2] 33 (0,0))
theorem Res.keeps {w w':World} {b B b':Nat} {v0 v1 v2:Value} (h:Res w b v0 v1 v2) (hk:Keeps B b' w w') (hB:b+2<B):Res w' b v0 v1 v2:=
  ⟨(hk.below.block _ (by omega)).trans h.r0,(hk.below.block _ (by omega)).trans h.r1,(hk.below.block _ (by omega)).trans h.r2⟩
theorem door (w w':World) (k:Nat) (src:ByteArray) (tm:Array Value) (hres:Res w' w.heap.size (.string ⟨#[]⟩) (.int .i64 0) (.int .i64 0)) (hb:Below w.heap.size w w') (hv:scanV src=.tuple #[.string ⟨#[]⟩,.int .i64 0,.int .i64 k])
    (h2:tm[2]?=some (.pointer (some ⟨w.heap.size,0,none⟩))) (h3:tm[3]?=some (.pointer (some ⟨w.heap.size+1,0,none⟩))) (h4:tm[4]?=some (.pointer (some ⟨w.heap.size+2,0,none⟩))) :
    bodyPostD Tryz.prog Tryz.f257 (fun e w'=>e=.returned (scanV src)/\Below w.heap.size w w') (Exit.panic (thrown k))
      { tmps:=tm,defers:=[{ target:=Target.fn (Fn.func 291) #[.pointer (some ⟨w.heap.size,0,none⟩),.pointer (some ⟨w.heap.size+1,0,none⟩),.pointer (some ⟨w.heap.size+2,0,none⟩)],args:=#[] }] } w':=by
  refine leaves_cons (f:=291) (args:=#[.pointer (some ⟨w.heap.size,0,none⟩),.pointer (some ⟨w.heap.size+1,0,none⟩),.pointer (some ⟨w.heap.size+2,0,none⟩)]) (by simp) (by simp [go_sem]) ?_;refine (scan1_caught w.heap.size k _ _ _ w' hres.r0 hres.r1 hres.r2).mono ?_;rintro e u' w'' ⟨rfl,rfl,hb2,c0,c1,c2⟩;have e0:=cell_of c0 0;have e1:=cell_of c1 0;have e2:=cell_of c2 0;simp only [settle,List.dropWhile_nil]
  refine ⟨scanV src,?_,rfl,hb.trans hb2⟩;rw [hv];simp [results,Tryz.results257,go_sem,h2,h3,h4,e0,e1,e2]
theorem door_ok (w w':World) (src:ByteArray) (tm:Array Value) (v0 v1 v2:Value) (hres:Res w' w.heap.size v0 v1 v2) (hb:Below w.heap.size w w') (hv:scanV src=.tuple #[v0,v1,v2])
    (h2:tm[2]?=some (.pointer (some ⟨w.heap.size,0,none⟩))) (h3:tm[3]?=some (.pointer (some ⟨w.heap.size+1,0,none⟩))) (h4:tm[4]?=some (.pointer (some ⟨w.heap.size+2,0,none⟩))) :
    bodyPostD Tryz.prog Tryz.f257 (fun e w'=>e=.returned (scanV src)/\Below w.heap.size w w') Exit.ret
      { tmps:=tm,defers:=[{ target:=Target.fn (Fn.func 291) #[.pointer (some ⟨w.heap.size,0,none⟩),.pointer (some ⟨w.heap.size+1,0,none⟩),.pointer (some ⟨w.heap.size+2,0,none⟩)],args:=#[] }] } w':=by
  refine leaves_cons (f:=291) (args:=#[.pointer (some ⟨w.heap.size,0,none⟩),.pointer (some ⟨w.heap.size+1,0,none⟩),.pointer (some ⟨w.heap.size+2,0,none⟩)]) (by simp) (by simp [go_sem]) ?_;refine (scan1_idle _ _ _ w').mono ?_;rintro e u' w'' ⟨rfl,rfl,rfl⟩;have e0:=cell_of hres.r0 0;have e1:=cell_of hres.r1 0;have e2:=cell_of hres.r2 0;simp only [settle]
  refine ⟨scanV src,?_,rfl,hb⟩;rw [hv];simp [results,Tryz.results257,go_sem,h2,h3,h4,e0,e1,e2]
theorem rString (B b:Nat) (src:ByteArray) (p:Nat) (out:List UInt8) (w:World) (h:Rdr w B b src p out):Calls Tryz.prog 188 #[.pointer (some ⟨b,2,none⟩)] w fun e w'=>e=.returned (.string ⟨out.toArray⟩)/\Keeps B b w w'/\w'.cell? ⟨b,1,none⟩=some (.int .i64 p):=by
  obtain ⟨cs,hb,hs,h0,h1⟩:=h.it;refine (string_any B b 2 _ cs out w hb (by have:=h.hB;have:=h.lt;omega)).mono ?_;rintro e w' ⟨rfl,hk,hc⟩;exact ⟨rfl,hk,by rw [cell_of hc];exact h1⟩
theorem scan_any (src:ByteArray) (w:World) (hs:src.size<=1099511627776) (T:Sizes w):Calls Tryz.prog 257 #[.string src] w fun e w'=>e=.returned (scanV src)/\Below w.heap.size w w':=by
  have HT:=Hid.out (p:=Hid _) T;clear T;have hmf:∀ (fn:Fn) (first cap:Array Value) (w:World),(Instr.makeFunc fn first cap).run Tryz.prog w=.ok (.func fn first cap) w:=fun _ _ _ _=>rfl
  go_enter_defers Tryz.func257,Tryz.ntmps257
  go_wp2_with fail
  obtain ⟨b,hb⟩:∃ b,b=w.heap.size+1+1+1:=⟨_,rfl⟩;obtain ⟨W0,hW0⟩:∃ W0,W0=(((w.alloc (.cells #[.string ⟨#[]⟩] 9)).alloc (.cells #[.int .i64 0] 3)).alloc (.cells #[.int .i64 0] 33)).alloc (.cells #[.string src,.int .i64 0,.pointer none,.slice none 0 0] 268):=⟨_,rfl⟩;have R0:Hid (Rdr W0 b b src 0 []):=by
    have:=fresh (((w.alloc (.cells #[.string ⟨#[]⟩] 9)).alloc (.cells #[.int .i64 0] 3)).alloc (.cells #[.int .i64 0] 33)) src;rw [hW0,hb,Hid];simpa using this
  have S0:Hid (Res W0 w.heap.size (.string ⟨#[]⟩) (.int .i64 0) (.int .i64 0)):=by
    rw [hW0];refine ⟨heap_alloc_old (heap_alloc_old (heap_alloc_old (heap_alloc_new _ _))),heap_alloc_old (heap_alloc_old ?_),heap_alloc_old ?_⟩
    · have:=heap_alloc_new (w.alloc (.cells #[.string ⟨#[]⟩] 9)) (.cells #[.int .i64 0] 3);simpa using this
    · have:=heap_alloc_new ((w.alloc (.cells #[.string ⟨#[]⟩] 9)).alloc (.cells #[.int .i64 0] 3)) (.cells #[.int .i64 0] 33);simpa using this
  have B0:Hid (Below w.heap.size w W0):=by
    rw [hW0];exact ((((Below.refl _ _).alloc (Nat.le_refl _) _).alloc (by simp) _).alloc (by simp;omega) _).alloc (by simp;omega) _
  have T0:Hid (Sizes W0):=HT.out.stays B0.out;have hTB:5<b:=by have:=HT.out.lt;omega
  have hbb:w.heap.size+2<b:=by omega
  have hbw:w.heap.size<b:=by omega
  have hvv:Hid (∃ v,v=scanV src):=⟨_,rfl⟩;rw [<-hW0,<-hb];clear hW0;by_cases h0:src.size=0
  · refine (next_no b b src 0 [] W0 R0.out (by omega) (by omega) (by omega)).mono ?_;rintro e w1 ⟨rfl,hk⟩;have K1:Hid (Keeps b b W0 w1):=hk;have hv:Hid (scanV src=.tuple #[.string ⟨#[]⟩,.int .i64 0,.int .i64 2]):=by
      rw [Hid,scanV,scan,if_pos (by simpa using h0)];rfl
    clear hk;go_wp2_with fail
    exact door w w1 2 src _ (S0.out.keeps K1.out hbb) (B0.out.trans (K1.out.below.mono (by omega))) hv.out rfl rfl rfl
  have hpos:0<src.size:=by omega
  have hb0:byt src.data.toList 0=src[0].toNat:=by have:=byt_drop src 0 0 (by omega);simpa using this
  by_cases h34:src[0].toNat=34
  · have q34:((src[0].toNat:Int) != 34)=false:=by rw [h34];rfl
    have hsc:Hid (scan src.data.toList=partsAt src.data.toList 1 []):=scan_at _ (by simpa using h0) (by rw [hb0];exact h34);clear h34 hb0;refine (next_yes b b src 0 [] W0 R0.out hpos (by omega)).mono ?_;rintro e w1 ⟨rfl,h1,hk⟩;have K1:Hid (Keeps b b W0 w1):=hk;have R1:=Hid.out (p:=Hid _) h1;clear h1 hk;go_wp2_with fail
    rw [<-hb];clear hb
    go_loopw [] (fun wr=>∃ (p:Nat) (out:List UInt8),Hid (Rdr wr b b src p out)/\Hid (Keeps b b W0 wr)/\p<=src.size/\out.length<=p/\Hid (scan src.data.toList=partsAt src.data.toList p out)) (fun wr=>src.size-(intOf ((wr.cell? ⟨b,1,none⟩).getD undef)).toNat)
    case atStart=>exact ⟨1,[],R1.out,K1.out,by omega,by simp,hsc.out⟩
    case round=>
      obtain ⟨p,out,hR,hK,hp,hol,hsc2⟩:=hrel;have TR:Hid (Sizes wr):=T0.out.keeps hK.out hTB;have hst:=partsAt_step src.data.toList p out (by simpa using hp);have HST:=Hid.out (p:=Hid _) hst;clear hst;go_wp2_with fail
      refine (part_any b b src p out wr hR.out hp hs hol TR.out hTB).mono ?_;rintro e w2 ⟨hk,h2⟩;have K2:Hid (Keeps b b W0 w2):=hK.out.trans hk;clear hk
      cases hpt:part (src.data.toList.drop p) with
      | error k=>
        rw [partR,hpt] at h2;simp only [] at h2
        obtain rfl:=h2;have hv:Hid (scanV src=.tuple #[.string ⟨#[]⟩,.int .i64 0,.int .i64 k]):=by
          rw [Hid,scanV,hsc2.out,HST.out,hpt]
        clear hpt;go_wp2_with fail
        exact door w w2 k src _ (S0.out.keeps K2.out hbb) (B0.out.trans (K2.out.below.mono (by omega))) hv.out rfl rfl rfl
      | ok x=>
        obtain ⟨o,n,g⟩:=x;have hps:=part_size hpt;rw [List.length_drop,show src.data.toList.length=src.size by simp] at hps;rw [partR,hpt] at h2;simp only [] at h2
        obtain ⟨rfl,hr2⟩:=h2;have R2:Hid (Rdr w2 b b src (p+n) (out++o)):=hr2;clear hr2
        cases g with
        | true=>
          have hsc3:Hid (scan src.data.toList=partsAt src.data.toList (p+n) (out++o)):=by
            rw [Hid,hsc2.out,HST.out,hpt]
          clear hpt;go_wp2_with fail
          go_roundw
          case rel=>exact ⟨p+n,out++o,R2.out,K2.out,by omega,by rw [List.length_append];omega,hsc3.out⟩
          case measure=>
            rw [R2.out.c1,hR.out.c1];simp [intOf];omega
        | false=>
          have hv:Hid (scanV src=.tuple #[.string ⟨(out++o).toArray⟩,.int .i64 (p+n:Nat),.int .i64 0]):=by
            rw [Hid,scanV,hsc2.out,HST.out,hpt]
          clear hpt;go_wp2_with fail
          have S2:Hid (Res w2 w.heap.size (.string ⟨#[]⟩) (.int .i64 0) (.int .i64 0)):=S0.out.keeps K2.out hbb;have B2:Hid (Below w.heap.size w w2):=B0.out.trans (K2.out.below.mono (by omega));clear S0 B0 K2;have c12:=R2.out.c1;generalize hl2:out++o=out2 at *;have R2d:Rdr w2.drew b b src (p+n) out2:=R2.out.stays ((Below.refl _ _).drew);have S2d:Res w2.drew w.heap.size (.string ⟨#[]⟩) (.int .i64 0) (.int .i64 0):=⟨S2.out.r0,S2.out.r1,S2.out.r2⟩;refine wp_region_noPanic ?_
          go_region_with (go_at_call 188;refine (rString b b src (p+n) out2 w2.drew R2d).mono ?_;rintro e w9 ⟨rfl,hk9,hc9⟩;have S9:=S2d.keeps hk9 hbb;have z0:=cell_of S9.r0 0;have z1:=cell_of S9.r1 0;have z2:=cell_of S9.r2 0;have y0:=frozen_of S9.r0 0;have y1:=frozen_of S9.r1 0;have y2:=frozen_of S9.r2 0)
          all_goals
            refine NoPanic.normal ?_;go_wp2_with fail
            refine door_ok w _ src _ (.string ⟨out2.toArray⟩) (.int .i64 ((p:Int)+n)) (.int .i64 0) ?_ ?_ ?_ rfl rfl rfl
            · exact ⟨heap_set_other (heap_set_other (heap_set_same S9.r0 _) (by omega) _) (by omega) _,heap_set_other (heap_set_same (heap_set_other S9.r1 (by omega) _) _) (by omega) _,heap_set_same (heap_set_other (heap_set_other S9.r2 (by omega) _) (by omega) _) _⟩
            · refine Below.setCell (Below.setCell (Below.setCell ((B2.out.drew).trans (hk9.below.mono (by omega))) ?_ _) ?_ _) ?_ _
              · exact Nat.le_refl _
              · show w.heap.size<=w.heap.size+1;omega
              · show w.heap.size<=w.heap.size+1+1;omega
            · rw [hv.out];rfl
  · have q34:((src[0].toNat:Int) != 34)=true:=by rw [bne_iff_ne];omega
    have hv:Hid (scanV src=.tuple #[.string ⟨#[]⟩,.int .i64 0,.int .i64 3]):=by
      rw [Hid,scanV,scan,if_neg (by simpa using h0),if_pos (by rw [hb0];omega)];rfl
    clear h34 hb0;refine (next_yes b b src 0 [] W0 R0.out hpos (by omega)).mono ?_;rintro e w1 ⟨rfl,h1,hk⟩;have K1:Hid (Keeps b b W0 w1):=hk;clear h1 hk;go_wp2_with fail
    refine (fail_any 3 _).mono ?_;rintro e w' ⟨rfl,rfl⟩;go_wp2_with fail
    exact door w w1 3 src _ (S0.out.keeps K1.out hbb) (B0.out.trans (K1.out.below.mono (by omega))) hv.out rfl rfl rfl
end Go.Proofs.YtliekocamnklfaaGreatDoor.Quote
