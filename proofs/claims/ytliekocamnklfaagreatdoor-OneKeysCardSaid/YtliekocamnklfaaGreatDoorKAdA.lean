/- addr.ident: is a text one name, and nothing else? -/
import Derived.Test.YtliekocamnklfaaGreatDoorKAllA
set_option linter.unusedVariables false
set_option linter.unusedSimpArgs false
set_option maxRecDepth 100000
set_option maxHeartbeats 4000000
namespace Go.Proofs.YtliekocamnklfaaGreatDoor.Addr
open Go.RowKit Go.Shelf Utf Strs Lex
attribute [local go_sem] Oper.semAt_some
def oneTok (n:Nat) (x:Tok):Bool:=x.1 == 1 && x.2.1.length == n
def identB (l:List UInt8):Bool:=match (toksAt l 0).1 with
  | []=>false
  | x::_=>oneTok l.length x
theorem tabs_kept {w W W':World} (T:Tabs w) (t:Tabs W) (h:∀ k,k<w.heap.size->W'.heap[k]?=W.heap[k]?):Tabs W':=
  ⟨t.z.kept (h _ T.z.lt),t.s.kept (h _ T.s.lt),t.m.kept (h _ T.m.lt),t.d.kept (h _ T.d.lt)⟩
theorem cells_grown {w w':World} {k:Nat} {cs:Array Value} {T:TypeId} {fr:Nat × Nat} {row:Option Nat} (h:w.heap[k]?=some (.cells cs T fr)) (hg:w.grownBy w' row) (hr:∀ r,row=some r->∃ o:Obj,w.heap[r]?=some o/\o.isCells=false):w'.heap[k]?=some (.cells cs T fr):=
  (hg.block k (heap_lt h) (fun e=>by obtain ⟨o,h1,h2⟩:=hr k e.symm;rw [h] at h1;cases h1;cases h2)).trans h
theorem iter_some (b:Nat):∀ w,Sem.run Tryz.prog (binOp BinOp.neq 218 (.func (.func 276) #[] #[.pointer (some ⟨b,0,none⟩)]) .nilFunc) w=.ok (.bool true) w:=fun _=>by kernel_rfl
theorem ident_ret (w W:World) (D:Nat) (s:ByteArray) (tm:Array Value) (r:Bool) (hv:W.heap[w.heap.size+1]?=some (.cells #[.bool r] 4 (0,0))) (hr:r=identB s.data.toList) (hB:Below w.heap.size w W) (hD:w.heap.size<=D) (hK:W.heap[D]?=some (.deferred (some [])))
    (h2:tm[2]?=some (.pointer (some ⟨w.heap.size+1,0,none⟩))) :
    bodyPostM Fence.wide 10 Tryz.prog Tryz.f193 (fun e w'=>e=.returned (.bool (identB s.data.toList))/\Below w.heap.size w w') Exit.ret
      { tmps:=tm,defers:=[{ target:=.collected D,args:=#[] }] } W:=by
  have hg:=grownBy_putObj' W D (.deferred none);have hne:W.heap[w.heap.size+1]?=some (.cells #[.bool r] 4 (0,0)):=hv;have hv':(W.putObj D (.deferred none)).heap[w.heap.size+1]?=some (.cells #[.bool r] 4 (0,0)):=cells_grown hv hg (fun k e=>by cases e;exact ⟨_,hK,rfl⟩);have hc:=cell_of hv' 0;refine ⟨by simp,.inl ⟨_,_,rfl,run_takeDeferred hK,?_⟩⟩;refine ⟨.bool r,?_,by rw [hr],hB.grown hg hB.size (fun k e=>by cases e;exact hD)⟩;simp [results,Tryz.results193,go_sem,h2,hc]
def TokAt (w:World) (s:ByteArray) (b0:Nat) (x:Tok) (a:Act) (W:World):Prop:=
  ∃ (b:Nat) (u4 u5 u6 u7 u8 u9 u10 u11 u12 u13 u14 u15 u16 u17:Value),a={ tmps:=#[.string s,.pointer (some ⟨w.heap.size,0,none⟩),.pointer (some ⟨w.heap.size+1,0,none⟩),.pointer (some ⟨b,0,none⟩),u4,u5,u6,u7,u8,u9,u10,u11,u12,u13,u14,u15,u16,u17],defers:=[] } ∧
    b0<=b/\W.heap[b]?=some (.cells #[.int .i64 x.1,.string ⟨x.2.1.toArray⟩,.int .i64 x.2.2] 194 (0,0))
theorem ident_new (w:World) (s:ByteArray):∃ w1,(w.alloc (.cells #[.string s] 9)).alloc (.cells #[.bool false] 4)=w1/\Hid (w1.heap[w.heap.size]?=some (.cells #[.string s] 9 (0,0)))/\Hid (w1.heap[w.heap.size+1]?=some (.cells #[.bool false] 4 (0,0)))/\Hid (Below w.heap.size w w1)/\Hid (w1.heap.size=w.heap.size+2):=by
  refine ⟨_,rfl,heap_alloc_old (heap_alloc_new _ _),?_,((Below.refl _ _).alloc (Nat.le_refl _) _).alloc (by simp) _,by simp [Hid]⟩;have:=heap_alloc_new (w.alloc (.cells #[.string s] 9)) (.cells #[.bool false] 4 (0,0));unfold Hid
  simpa using this
theorem ident_any (s:ByteArray) (w:World) (hs:s.size<=1048576) (T:Tabs w):Calls Tryz.prog 193 #[.string s] w fun e w'=>e=.returned (.bool (identB s.data.toList))/\Below w.heap.size w w':=by
  have HT:=Hid.out (p:=Hid _) T;clear T;have hsl:s.data.toList.length=s.size:=by simp
  have HSL:=Hid.out (p:=Hid _) hsl;clear hsl;obtain ⟨w1,hw1,S1,R1,B1,Z1⟩:=ident_new w s;have T1:Hid (Tabs w1):=HT.out.stays B1.out;obtain ⟨bs,hbs⟩:∃ bs,w1.heap.size=bs:=⟨_,rfl⟩;have hal:=Lex.all_any s w1;rw [hbs] at hal;have HAL:=Hid.out (p:=Hid _) hal;have HBS:Hid (bs=w.heap.size+2):=by rw [<-hbs];exact Z1.out
  have HBW:Hid (w1.heap.size=bs):=hbs;clear hal hbs;have c0:=cell_of S1.out 0;rw [<-callsIn_wide (n:=10)];refine callsIn_of_wp_marks Tryz.func193 rfl trivial ?_ rfl;simp only [Tryz.ntmps193,List.size_toArray,List.length_cons,List.length_nil,Nat.reduceAdd,Nat.reduceSub,Array.replicate_succ,Array.replicate_zero,List.push_toArray,List.append_toArray,List.nil_append,List.cons_append]
  refine wpIn_wide.2 ?_;go_wp2_with fail
  refine (Calls.mono HAL.out ?_);rintro e w2 ⟨rfl,hb2x,hbox⟩;have hb2:Below w1.heap.size w1 w2:=by rw [HBW.out];exact hb2x
  clear hb2x;have X2:Hid (w2.heap[bs]?=some (.cells #[.string s] 9 (0,0))):=hbox;have S2:Hid (w2.heap[w.heap.size]?=some (.cells #[.string s] 9 (0,0))):=(hb2.block _ (heap_lt S1.out)).trans S1.out;have R2:Hid (w2.heap[w.heap.size+1]?=some (.cells #[.bool false] 4 (0,0))):=(hb2.block _ (heap_lt R1.out)).trans R1.out;have T2:Hid (Tabs w2):=T1.out.stays hb2;have B2:Hid (Below w.heap.size w w2):=B1.out.trans (hb2.mono B1.out.size);clear hb2 hbox hw1 S1 R1 B1 Z1 T1 HAL c0;have hbl2:=heap_lt X2.out;have hsq:=iter_some bs;go_wp2_with fail
  refine (wpIn_wide (n:=10)).1 ?_;refine wpIn_rangeFunc_ownH (α:=Tok) (w:=w2) rfl (by decide) (gf:=276) (lb:=#[.pointer (some ⟨bs,0,none⟩)]) rfl trivial (enters_of Tryz.func276 (by kernel_rfl) rfl)
    (toks_stops 9 bs s (by omega) (by decide) w2 X2.out T2.out) (fun h k=>KpL.t h k)
    (fun W l o o' hl ho hc _=>⟨World.putObj_heap_other (fun e=>by omega),fun t=>tabs_kept T2.out t (fun k hk=>World.putObj_heap_other (fun e=>by omega))⟩) (Below.refl _ _) (fun _=>rfl)
    (fun pre W=>pre=[]/\Hid (W.heap[w.heap.size]?=some (.cells #[.string s] 9 (0,0)))/\Hid (W.heap[w.heap.size+1]?=some (.cells #[.bool false] 4 (0,0)))/\Hid (Below w.heap.size w W)/\Hid (w2.heap.size<=W.heap.size)/\Hid (W.heap[bs]?=some (.cells #[.string s] 9 (0,0))))
    (fun c pre W=>c=.ret/\∃ x:Tok,pre=[x]/\Hid (W.heap[w.heap.size+1]?=some (.cells #[.bool (oneTok s.size x)] 4 (0,0)))/\Hid (Below w.heap.size w W))
    (fun s A B row hs hg hr=>⟨hs.1,cells_grown hs.2.1.out hg (fun r e=>(hr r e).2),cells_grown hs.2.2.1.out hg (fun r e=>(hr r e).2),hs.2.2.2.1.out.grown hg hs.2.2.2.1.out.size (fun r e=>by have:=(hr r e).1;have:=B2.out.size;omega),Nat.le_trans hs.2.2.2.2.1.out hg.size,cells_grown hs.2.2.2.2.2.out hg (fun r e=>(hr r e).2)⟩)
    (fun c s A B row hs hg hr=>⟨hs.1,by obtain ⟨_,x,h1,h3,h4⟩:=hs;exact ⟨x,h1,cells_grown h3.out hg (fun r e=>(hr r e).2),h4.out.grown hg h4.out.size (fun r e=>by have:=(hr r e).1;have:=B2.out.size;omega)⟩⟩)
    ⟨rfl,S2.out,R2.out,B2.out,Nat.le_refl _,X2.out⟩
    (TokAt w s w2.heap.size)
    (fun x a' s A B row hs hg hr=>by
      obtain ⟨b,u4,u5,u6,u7,u8,u9,u10,u11,u12,u13,u14,u15,u16,u17,h1,h2,h3⟩:=hs;exact ⟨b,u4,u5,u6,u7,u8,u9,u10,u11,u12,u13,u14,u15,u16,u17,h1,h2,cells_grown h3 hg (fun r e=>(hr r e).2)⟩)
    ?assign ?body ?done ?stop
  case assign=>
    rintro l pre x W K ⟨h1,h2,h3,h4,h5,h6⟩ hK;have HK:=Hid.out (p:=Hid _) hK;clear hK
    gi_wp2_with fail
    have HO:∀ k,k<W.heap.size->(W.alloc (.cells #[.int .i64 x.1,.string ⟨x.2.1.toArray⟩,.int .i64 x.2.2] 194)).heap[k]?=W.heap[k]?:=fun k hk=>((Below.refl W.heap.size W).alloc (Nat.le_refl _) _).block k hk;refine HK.out _ _ ((KeepsOthers.alloc W _).from _) ⟨HO _ (by have:=h5.out;omega),fun t=>tabs_kept T2.out t (fun k hk=>HO k (by have:=h5.out;omega))⟩ ⟨h1,heap_alloc_old h2.out,heap_alloc_old h3.out,h4.out.alloc h4.out.size _,by have:=h5.out;simp [Hid];omega,heap_alloc_old h6.out⟩ ?_;exact ⟨W.heap.size,_,_,_,_,_,_,_,_,_,_,_,_,_,_,rfl,h5.out,heap_alloc_new _ _⟩
  case body=>
    rintro l pre x a' W hwl hrec ⟨rfl,h2,h3,h4,h5,h6⟩ ⟨b,u4,u5,u6,u7,u8,u9,u10,u11,u12,u13,u14,u15,u16,u17,rfl,hb0,hb⟩ hlen;have cs:=cell_of h2.out 0;have cr:=cell_of h3.out 0;have fr:=frozen_of h3.out 0;have cb0:=cell_of hb 0;have cb1:=cell_of hb 1;have cb2:=cell_of hb 2;have HSET:∀ r:Bool,Hid ((W.setCell ⟨w.heap.size+1,0,none⟩ (.bool r)).heap[w.heap.size+1]?=some (.cells #[.bool r] 4 (0,0))):=fun r=>by rw [Hid,heap_set_same h3.out];rfl
    clear hrec hlen;have HFIN:∀ r:Bool,oneTok s.size x=r->Hid (Hid (KeepsFrom w2.heap.size W (W.setCell ⟨w.heap.size+1,0,none⟩ (.bool r)))/\Hid ((W.setCell ⟨w.heap.size+1,0,none⟩ (.bool r)).heap[w.heap.size+1]?=some (.cells #[.bool (oneTok s.size x)] 4 (0,0)))/\Hid (Below w.heap.size w (W.setCell ⟨w.heap.size+1,0,none⟩ (.bool r)))):=fun r e=>⟨(KeepsOthers.setCell _ _ _).from _,by rw [e];exact (HSET r).out,h4.out.setCell (p:=⟨w.heap.size+1,0,none⟩) (by show w.heap.size<=w.heap.size+1;omega) _⟩;clear HSET;by_cases hk:x.1=1
    · have q1:((x.1:Int) == 1)=true:=by rw [beq_iff_eq];omega
      by_cases hn:x.2.1.length=s.size
      · have q2:((x.2.1.length:Int) == (s.size:Int))=true:=by rw [beq_iff_eq];omega
        have HR:=HFIN true (by simp [oneTok,hk,hn]);clear hk hn HFIN
        gi_wp2_with fail
        exact ⟨HR.out.1.out,rfl,x,rfl,HR.out.2.1,HR.out.2.2⟩
      · have q2:((x.2.1.length:Int) == (s.size:Int))=false:=by rw [beq_eq_false_iff_ne];omega
        have HR:=HFIN false (by simp [oneTok,hn]);clear hk hn HFIN
        gi_wp2_with fail
        exact ⟨HR.out.1.out,rfl,x,rfl,HR.out.2.1,HR.out.2.2⟩
    · have q1:((x.1:Int) == 1)=false:=by rw [beq_eq_false_iff_ne];omega
      have HR:=HFIN false (by simp [oneTok,hk]);clear hk HFIN
      gi_wp2_with fail
      exact ⟨HR.out.1.out,rfl,x,rfl,HR.out.2.1,HR.out.2.2⟩
  case done=>
    rintro D xs W hD rfl ⟨h1,h2,h3,h4,h5,h6⟩ hKD;have HID:Hid (false=identB s.data.toList):=by rw [Hid,identB,h1]
    have cr:=cell_of h3.out 0;have fr:=frozen_of h3.out 0;have HK:=Hid.out (p:=Hid _) hKD;have HSET:Hid ((W.setCell ⟨w.heap.size+1,0,none⟩ (.bool false)).heap[w.heap.size+1]?=some (.cells #[.bool false] 4 (0,0))):=by rw [Hid,heap_set_same h3.out];rfl
    have HKD:Hid ((W.setCell ⟨w.heap.size+1,0,none⟩ (.bool false)).heap[D]?=some (.deferred (some []))):=(Below.heap_setCell _ _ _ _ (by show D≠w.heap.size+1;have:=B2.out.size;have:=heap_lt R2.out;omega)).trans HK.out;clear hKD h1;go_wp2_with fail
    exact ident_ret w _ D s _ _ HSET.out HID.out (h4.out.setCell (p:=⟨w.heap.size+1,0,none⟩) (by show w.heap.size<=w.heap.size+1;omega) _) (by have:=B2.out.size;omega) HKD.out rfl
  case stop=>
    rintro D c pre W hD hpre ⟨rfl,x,rfl,h3,h4⟩ hKD;have HID:Hid (oneTok s.size x=identB s.data.toList):=by
      obtain ⟨t,ht⟩:=hpre;rw [Hid,identB,<-ht,HSL.out];rfl
    have HK:=Hid.out (p:=Hid _) hKD;clear hKD hpre;refine wpIn_wide.2 ?_;go_wp2_with fail
    exact ident_ret w W D s _ _ h3.out HID.out h4.out (by have:=B2.out.size;omega) HK.out rfl
end Go.Proofs.YtliekocamnklfaaGreatDoor.Addr
