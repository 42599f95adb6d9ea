/- tabulariumref06.at, Whole of a number that is right. -/
import Derived.Test.YtliekocamnklfaaGreatDoorPOnE
import Derived.Test.YtliekocamnklfaaGreatDoorPTk
set_option linter.unusedVariables false
set_option linter.unusedSimpArgs false
set_option maxRecDepth 100000
set_option maxHeartbeats 4000000
namespace Go.Proofs.YtliekocamnklfaaGreatDoor.One
open Go.RowKit Strs Jdec Save Go.Proofs.YtliekocamnklfaaGreatDoor.Addr
theorem at_in (n:Bool) (d:ByteArray) (c:Nat) (w:World) (p:Int) (i:Nat) (hs:d.size<=1000) (hc:c<=20) (hi:i<d.size) (hp:p=(d.size:Int)+c-1-i):Calls Tryz.prog 117 #[.agg #[.bool n,.string d,.int .i64 (c:Int)],.int .i64 p] w fun e w'=>e=.returned (.int .u8 (d[i].toNat:Nat))/\Below w.heap.size w w':=by
  obtain ⟨w2,hw2,V2,B2⟩:=new3 w n d c;have y1:=cell_of V2.out 1;have y2:=cell_of V2.out 2;obtain ⟨a,h1⟩:∃ a:Int,(d.size:Int)-1=a:=⟨_,rfl⟩;obtain ⟨b,h3⟩:∃ b:Int,p-(c:Int)=b:=⟨_,rfl⟩;have h2:IntKind.i64.wrap a=a:=IntWalk.i64_in _ (by omega);have h4:IntKind.i64.wrap b=b:=IntWalk.i64_in _ (by omega);have h5:a-b=(i:Int):=by omega
  have h6:IntKind.i64.wrap (i:Int)=(i:Int):=IntWalk.i64_in _ (by omega);have q1:decide ((i:Int)<0)=false:=by rw [decide_eq_false_iff_not];omega
  have q2:decide ((d.size:Int)<=(i:Int))=false:=by rw [decide_eq_false_iff_not];omega
  have q3:decide (d.size<=i)=false:=by rw [decide_eq_false_iff_not];omega
  clear hp hc;go_enter Tryz.func117,Tryz.ntmps117
  go_wp2_with fail
  go_ret
  exact ⟨rfl,B2.out⟩
theorem at_out (n:Bool) (d:ByteArray) (c:Nat) (w:World) (p:Int) (i:Nat) (hs:d.size<=1000) (hc:c<=20) (hi:¬ i<d.size) (hi2:i<=3000) (hp:p=(d.size:Int)+c-1-i):Calls Tryz.prog 117 #[.agg #[.bool n,.string d,.int .i64 (c:Int)],.int .i64 p] w fun e w'=>e=.returned (.int .u8 48)/\Below w.heap.size w w':=by
  obtain ⟨w2,hw2,V2,B2⟩:=new3 w n d c;have y1:=cell_of V2.out 1;have y2:=cell_of V2.out 2;obtain ⟨a,h1⟩:∃ a:Int,(d.size:Int)-1=a:=⟨_,rfl⟩;obtain ⟨b,h3⟩:∃ b:Int,p-(c:Int)=b:=⟨_,rfl⟩;have h2:IntKind.i64.wrap a=a:=IntWalk.i64_in _ (by omega);have h4:IntKind.i64.wrap b=b:=IntWalk.i64_in _ (by omega);have h5:a-b=(i:Int):=by omega
  have h6:IntKind.i64.wrap (i:Int)=(i:Int):=IntWalk.i64_in _ (by omega);have q1:decide ((i:Int)<0)=false:=by rw [decide_eq_false_iff_not];omega
  have q2:decide ((d.size:Int)<=(i:Int))=true:=by rw [decide_eq_true_eq];omega
  have q3:decide (d.size<=i)=true:=by rw [decide_eq_true_eq];omega
  clear hp hc hi;go_enter Tryz.func117,Tryz.ntmps117
  go_wp2_with fail
  go_ret
  exact ⟨rfl,B2.out⟩
theorem at_any (n:Bool) (d:ByteArray) (c:Nat) (w:World) (p:Int) (i:Nat) (hs:d.size<=1000) (hc:c<=20) (hi:i<(d.data.toList++List.replicate c 48).length) (hp:p=(d.size:Int)+c-1-i):Calls Tryz.prog 117 #[.agg #[.bool n,.string d,.int .i64 (c:Int)],.int .i64 p] w fun e w'=>e=.returned (.int .u8 ((d.data.toList++List.replicate c 48)[i].toNat:Nat))/\Below w.heap.size w w':=by
  have hl:d.data.toList.length=d.size:=by simp
  by_cases h:i<d.size
  · have e:(d.data.toList++List.replicate c 48)[i]=d[i]:=by rw [List.getElem_append_left (by omega)];rfl
    rw [e];exact at_in n d c w p i hs hc h hp
  · have e:(d.data.toList++List.replicate c 48)[i]=48:=by rw [List.getElem_append_right (by omega),List.getElem_replicate]
    rw [e];rw [List.length_append,List.length_replicate] at hi;exact at_out n d c w p i hs hc h (by omega) hp
theorem rright_yes (n:Bool) (d:ByteArray) (x:Int) (h:Num.right n d.data.toList x=true) (w:World):Calls Tryz.prog 116 #[.agg #[.bool n,.string d,.int .i64 x]] w fun e w'=>e=.returned (.bool true)/\Below w.heap.size w w':=by
  have hl:d.data.toList.length=d.size:=by simp
  have:=Num.rright_any n d x w (by have:=(right_bounds h).1;omega);rw [h] at this;exact this
theorem rwhole_any (n:Bool) (d:ByteArray) (e:Int) (hr:Num.right n d.data.toList e=true) (w:World):Calls Tryz.prog 76 #[.agg #[.bool n,.string d,.int .i64 e]] w (WPst (wholeN n d.data.toList e) w):=by
  obtain ⟨hb1,hb2,hb3,hb4⟩:=right_bounds hr;have hl:d.data.toList.length=d.size:=by simp
  have hdig:=digits48 hr;obtain ⟨w2,hw2,V2,B2⟩:=new3 w n d e;have HP:=Hid.out (p:=Hid _) (rright_yes n d e hr w2);have hds:d.size<=1000:=by omega
  have y0:=cell_of V2.out 0;have y1:=cell_of V2.out 1;have y2:=cell_of V2.out 2;cases n
  case true=>
    have HN:Hid (wholeN true d.data.toList e=none):=by rw [Hid,wholeN,if_neg (by simp)]
    clear hb1 hb2 hb3 hb4 hl hdig hr hds;go_enter Tryz.func76,Tryz.ntmps76
    go_wp2_with fail
    refine (Calls.mono HP.out ?_);rintro z w3 ⟨rfl,hb3⟩;have V3:=hst V2 (Hid.out (p:=Hid _) hb3);have B3:=bel B2 (Hid.out (p:=Hid _) hb3);clear hb3 y0 y1 y2 hw2;have y0:=cell_of V3.out 0;have y1:=cell_of V3.out 1;have y2:=cell_of V3.out 2;go_wp2_with fail
    go_ret2
    exact ⟨0,by rw [HN.out] <;> rfl,(fun m h=>by rw [HN.out] at h;cases h),B3.out⟩
  case false=>
  by_cases he:e<0
  · have q1:decide (e<0)=true:=by rw [decide_eq_true_eq];exact he
    have HN:Hid (wholeN false d.data.toList e=none):=by rw [Hid,wholeN,if_neg (by omega)]
    clear hb1 hb2 hb3 hb4 hl hdig hr hds he;go_enter Tryz.func76,Tryz.ntmps76
    go_wp2_with fail
    refine (Calls.mono HP.out ?_);rintro z w3 ⟨rfl,hb3⟩;have V3:=hst V2 (Hid.out (p:=Hid _) hb3);have B3:=bel B2 (Hid.out (p:=Hid _) hb3);clear hb3 y0 y1 y2 hw2;have y0:=cell_of V3.out 0;have y1:=cell_of V3.out 1;have y2:=cell_of V3.out 2;go_wp2_with fail
    go_ret2
    exact ⟨0,by rw [HN.out] <;> rfl,(fun m h=>by rw [HN.out] at h;cases h),B3.out⟩
  have q1:decide (e<0)=false:=by rw [decide_eq_false_iff_not];exact he
  obtain ⟨c,rfl⟩:∃ c:Nat,e=c:=⟨e.toNat,by omega⟩;have hc1:c<=10000:=by omega
  by_cases h20:20<c+d.size
  · have q2:decide ((20:Int)<(c:Int)+(d.size:Int))=true:=by rw [decide_eq_true_eq];omega
    have q3:decide (20<c+d.size)=true:=by rw [decide_eq_true_eq];omega
    have HN:Hid (wholeN false d.data.toList c=none):=by rw [Hid,wholeN,if_neg (by omega)]
    clear hb1 hb2 hb3 hb4 hl hdig hr h20 he;go_enter Tryz.func76,Tryz.ntmps76
    go_wp2_with fail
    refine (Calls.mono HP.out ?_);rintro z w3 ⟨rfl,hb3⟩;have V3:=hst V2 (Hid.out (p:=Hid _) hb3);have B3:=bel B2 (Hid.out (p:=Hid _) hb3);clear hb3 y0 y1 y2 hw2;have y0:=cell_of V3.out 0;have y1:=cell_of V3.out 1;have y2:=cell_of V3.out 2;go_wp2_with fail
    go_ret2
    exact ⟨0,by rw [HN.out] <;> rfl,(fun m h=>by rw [HN.out] at h;cases h),B3.out⟩
  have q2:decide ((20:Int)<(c:Int)+(d.size:Int))=false:=by rw [decide_eq_false_iff_not];omega
  have q3:decide (20<c+d.size)=false:=by rw [decide_eq_false_iff_not];omega
  obtain ⟨L,hL⟩:∃ L,d.data.toList++List.replicate c 48=L:=⟨_,rfl⟩;have HW:Hid (wholeN false d.data.toList c=Addr.numR 0 L):=by rw [Hid,wholeN,if_pos ⟨hr,rfl,by omega,by omega⟩,Int.toNat_natCast,hL]
  have hLL:L.length=d.size+c:=by rw [<-hL,List.length_append,List.length_replicate,hl]
  have hLD:∀ x∈L,48<=x.toNat/\x.toNat<=57:=fun x hx=>by
    rw [<-hL] at hx;rcases List.mem_append.1 hx with hx | hx
    · exact hdig x hx
    · rw [(List.mem_replicate.1 hx).2];decide
  have HLL:=Hid.out (p:=Hid _) hLL;have HLD:=Hid.out (p:=Hid _) hLD;have HAT:Hid (∀ (w':World) (p:Int) (i:Nat) (h:i<L.length),p=(d.size:Int)+c-1-i->Calls Tryz.prog 117 #[.agg #[.bool false,.string d,.int .i64 (c:Int)],.int .i64 p] w' fun e w''=>e=.returned (.int .u8 (L[i].toNat:Nat))/\Below w'.heap.size w' w''):=fun w' p i h hp=>by
    subst hL;exact at_any false d c w' p i hds (by omega) h hp
  have HCD:Hid (c+d.size<=20):=by rw [Hid];omega
  have hc20:c<=20:=by omega
  obtain ⟨p0,hp0⟩:∃ p:Int,(c:Int)+(d.size:Int)-1=p:=⟨_,rfl⟩;have hp1:IntKind.i64.wrap p0=p0:=IntWalk.i64_in _ (by omega);have HP0:Hid (p0=(d.size:Int)+c-1):=by rw [Hid];omega
  clear hb1 hb2 hb3 hb4 hl hdig hr h20 he hL hLL hLD hc1;go_enter Tryz.func76,Tryz.ntmps76
  go_wp2_with fail
  refine (Calls.mono HP.out ?_);rintro z w3 ⟨rfl,hb3⟩;have V3:=hst V2 (Hid.out (p:=Hid _) hb3);have B3:=bel B2 (Hid.out (p:=Hid _) hb3);clear hb3 y0 y1 y2 hw2;have y0:=cell_of V3.out 0;have y1:=cell_of V3.out 1;have y2:=cell_of V3.out 2;go_wp2_with fail
  clear y0 y1 y2 hp0 hp1
  go_loopw [4,5] (fun p4 p5 wr=>∃ (i:Nat) (a p:Int),p4=.int .u64 a/\p5=.int .i64 p/\i<=L.length/\Hid (p=(d.size:Int)+c-1-i)/\Hid (∃ n:Nat,a=(n:Int)/\n<=18446744073709551615/\Addr.numR 0 L=Addr.numR n (L.drop i))/\Hid (Below w3.heap.size w3 wr)) (fun _ p _=>(intOf p+1).toNat)
  case atStart=>exact ⟨0,0,p0,rfl,rfl,Nat.zero_le _,by rw [Hid,HP0.out];simp,⟨0,rfl,by omega,rfl⟩,Below.refl _ _⟩
  case round=>
    obtain ⟨i,a,p,rfl,rfl,hi,hP,hN,hB⟩:=hrel;have V4:=hst V3 hB;have y0:=cell_of V4.out 0;have y1:=cell_of V4.out 1;have y2:=cell_of V4.out 2;have B4:=bel B3 hB;have hpv:=hP.out;have hLv:=HLL.out;have hcd:=HCD.out;by_cases hlt:i<L.length
    · have d0:decide (0<=p)=true:=by rw [decide_eq_true_eq];omega
      have hx:=HLD.out L[i] (List.getElem_mem hlt);have HC:=Hid.out (p:=Hid _) (HAT.out wr p i hlt hpv);have hdr:L.drop i=L[i]::L.drop (i+1):=by rw [<-List.getElem_cons_drop hlt]
      generalize L[i]=x at *;obtain ⟨xn,hxn⟩:∃ xn:Nat,x.toNat=xn:=⟨_,rfl⟩;obtain ⟨q,hq⟩:∃ d:Int,(xn:Int)-48=d:=⟨_,rfl⟩;have hd1:IntKind.u8.wrap q=q:=by rw [IntKind.wrap_u8];omega
      have hd2:IntKind.u64.wrap q=q:=by rw [IntKind.wrap_u64];omega
      obtain ⟨r,hr⟩:∃ r:Int,IntKind.u64.wrap (18446744073709551615-q)=r:=⟨_,rfl⟩;obtain ⟨t,ht⟩:∃ t:Int,IntKind.u64.wrap (r.tdiv 10)=t:=⟨_,rfl⟩;obtain ⟨z,hz⟩:∃ z:Int,IntKind.u64.wrap (IntKind.u64.wrap (a*10)+q)=z:=⟨_,rfl⟩;have hrv:r=18446744073709551615-q:=by rw [<-hr,IntKind.wrap_u64];omega
      have htv:t=(18446744073709551615-q) / 10:=by
        rw [<-ht,hrv,Int.tdiv_eq_ediv_of_nonneg (by omega),IntKind.wrap_u64];omega
      obtain ⟨n,han,hnm,hnr⟩:=hN.out;have hstep:Addr.numR 0 L=if 18446744073709551615<n*10+(x.toNat-48) then none else Addr.numR (n*10+(x.toNat-48)) (L.drop (i+1)):=by
        rw [hnr,hdr,Addr.numR,if_pos (by omega)]
      rw [hxn] at HC;by_cases hb:t<a
      · have d3:decide (t<a)=true:=by rw [decide_eq_true_eq];exact hb
        have HF:Hid (wholeN false d.data.toList c=none):=by rw [Hid,HW.out,hstep,if_pos (by omega)]
        clear hrv htv han hnm hnr hstep hb hz hpv hLv hcd hx hxn hdr;go_wp2_with fail
        refine (Calls.mono HC.out ?_);rintro z w5 ⟨rfl,hb5⟩;have B5:=bel B4 (Hid.out (p:=Hid _) hb5);clear hb5 y0 y1 y2;go_wp2_with fail
        go_ret2
        exact ⟨0,by rw [HF.out] <;> rfl,(fun m h=>by rw [HF.out] at h;cases h),B5.out⟩
      · have d3:decide (t<a)=false:=by rw [decide_eq_false_iff_not];exact hb
        have HF:Hid (∃ n:Nat,z=(n:Int)/\n<=18446744073709551615/\Addr.numR 0 L=Addr.numR n (L.drop (i+1))):=by
          refine ⟨n*10+(x.toNat-48),?_,by omega,by rw [hstep,if_neg (by omega)]⟩;rw [<-hz,IntKind.wrap_u64,IntKind.wrap_u64];omega
        obtain ⟨p',hp'⟩:∃ p':Int,p-1=p':=⟨_,rfl⟩;have hpw:IntKind.i64.wrap p'=p':=IntWalk.i64_in _ (by omega);have HPP:Hid (p'=(d.size:Int)+c-1-((i+1:Nat):Int)):=by rw [Hid];omega
        have HM:Hid ((p'+1).toNat<(p+1).toNat):=by rw [Hid];omega
        clear hrv htv han hnm hnr hstep hb hpv hLv hcd hx hxn hdr;go_wp2_with fail
        refine (Calls.mono HC.out ?_);rintro zz w5 ⟨rfl,hb5⟩;have B5:=bel hB (Hid.out (p:=Hid _) hb5);clear hb5 y0 y1 y2;go_wp2_with fail
        go_roundw
        case rel=>exact ⟨i+1,z,p',rfl,rfl,by omega,HPP.out,HF.out,B5.out⟩
        case measure=>exact HM.out
    · have d0:decide (0<=p)=false:=by rw [decide_eq_false_iff_not];omega
      obtain ⟨n,rfl,_,hnr⟩:=hN.out;have HF:Hid (wholeN false d.data.toList c=some n):=by
        rw [Hid,HW.out,hnr,List.drop_of_length_le (by omega)];rfl
      clear hnr hpv hLv hcd;go_wp2_with fail
      go_ret2
      exact ⟨n,by rw [HF.out] <;> rfl,(fun m h=>by rw [HF.out] at h;injection h),B4.out⟩
end Go.Proofs.YtliekocamnklfaaGreatDoor.One
namespace Go.Proofs.YtliekocamnklfaaGreatDoor
open Go Go.RowKit
structure Tag (n:Nat) (p:Prop):Prop where
  out:p
theorem wof {n:Nat} {w c:World} {p:World->Prop} (D:Hid (Below n w c)) (h:∀ c,p c):p c:=h c
section
variable {P:Program} {ops:Array Oper} {Q:Exit->Act->World->Prop} {md:Region.Mode} {S:World->Prop}
theorem consT {fuel:Nat} {listed:Array Bool} {a:Act} {w:World} {i:Nat} {o:Oper} {rs:List Nat}
    (h:Tag i (∀ K':Act->World->Prop,Shut (∀ a w,S w->(S w->wpAnyH P md ops Q S fuel (listed.setIfInBounds i true) a w)->K' a w)->if Region.wanted o (yielded ops a.tmps)=true then Oper.wp P o a w K' Q else K' (a.put o.dst undef) w))
    (hs:AllReadyH P md ops Q S fuel listed a w rs) (ho:ops[i]?=some o:=by rfl):AllReadyH P md ops Q S fuel listed a w (i::rs):=AllReadyH.cons ho h.out hs
theorem rdT (rs:List Nat) {fuel:Nat} {listed:Array Bool} {a:Act} {w:World} (hr:decide (Region.ready md ops listed=rs)=true) (hne:rs≠[])
    (h:AllReadyH P md ops Q S fuel listed a w rs):wpAnyH P md ops Q S (fuel+1) listed a w:=wpAnyH_ready (of_decide_eq_true hr) hne h
theorem tkT (i:Nat) {v:Value} {oi:Oper} {fuel:Nat} {listed:Array Bool} {a:Act} {w:World} (hc:mayTake md ops listed i=true)
    (h:wpAnyH P md ops Q S fuel (listed.setIfInBounds i true) (a.put oi.dst v) w)
    (hi:ops[i]?=some oi:=by rfl)
    (hw:Region.wanted oi (yielded ops a.tmps)=true:=by rfl) (hS:S w:=by assumption)
    (hy:∀ w,S w->(execOp a.eval oi).run P w=.ok (.value v) w:=by intro w hs;clear hs;go_simp <;> with_reducible rfl)
    (hQ:∀ c a w,Q (.panic c) (a.put oi.dst v) w->Q (.panic c) a w:=by exact fun _ _ _ h=>h):wpAnyH P md ops Q S (fuel+1) listed a w:=
  tv i v hy h hi hc hQ hw hS
theorem dnT {fuel:Nat} {listed:Array Bool} {a:Act} {w:World} (hr:decide (Region.ready md ops listed=[])=true) (h:Q .normal a w):wpAnyH P md ops Q S fuel listed a w:=
  wpAnyH_done (of_decide_eq_true hr) h fuel
end
end Go.Proofs.YtliekocamnklfaaGreatDoor
namespace Go.Proofs.YtliekocamnklfaaGreatDoor.One
open Go.RowKit Strs Jdec Save Go.Proofs.YtliekocamnklfaaGreatDoor.Addr
theorem upn {w c:World} {A:Nat->Prop} (h:Hid (∀ b,w.heap.size<=b->A b)) (e:Hid (Below w.heap.size w c)):∀ b,c.heap.size<=b->A b:=fun b hb=>h.out b (Nat.le_trans e.out.size hb)
theorem kw {w c c':World} {A:Nat->Prop} (h:Hid (∀ b,w.heap.size<=b->A b)) (d:Hid (Below w.heap.size w c)) (hl:c.heap.size<c'.heap.size):Hid (∀ b,c'.heap.size<=b->A b/\b≠c.heap.size):=fun b hb=>⟨h.out b (by have:=d.out.size;omega),by omega⟩
theorem dn2 {w:World} {A:Nat->Prop} {z:Raw} {t:JV} {b:Nat} (h:Hid (IsV w (fun k=>A k/\k≠b) z t)) (x0 x1 x2 x3 x4 x5 x6 x7:Value):IsV ((((((((w.setCell ⟨b,0,none⟩ x0).setCell ⟨b,1,none⟩ x1).setCell ⟨b,2,none⟩ x2).setCell ⟨b,3,none⟩ x3).setCell ⟨b,4,none⟩ x4).setCell ⟨b,5,none⟩ x5).setCell ⟨b,6,none⟩ x6).setCell ⟨b,7,none⟩ x7) A z t:=
  h.out.turn ⟨(gb8 _ _ _ _ _ _ _ _ _ _).size,fun k hk hl=>⟨(gb8 _ _ _ _ _ _ _ _ _ _).block _ hl (fun e=>by injection e with e;exact hk.2 e),hk.1⟩⟩
theorem keep8 {w:World} {b b1 b2:Nat} {o1 o2:Obj} (h:w.heap[b1]?=some o1/\w.heap[b2]?=some o2) (n1:Hid (b1≠b)) (n2:Hid (b2≠b)) (x0 x1 x2 x3 x4 x5 x6 x7:Value):((((((((w.setCell ⟨b,0,none⟩ x0).setCell ⟨b,1,none⟩ x1).setCell ⟨b,2,none⟩ x2).setCell ⟨b,3,none⟩ x3).setCell ⟨b,4,none⟩ x4).setCell ⟨b,5,none⟩ x5).setCell ⟨b,6,none⟩ x6).setCell ⟨b,7,none⟩ x7).heap[b1]?=some o1/\((((((((w.setCell ⟨b,0,none⟩ x0).setCell ⟨b,1,none⟩ x1).setCell ⟨b,2,none⟩ x2).setCell ⟨b,3,none⟩ x3).setCell ⟨b,4,none⟩ x4).setCell ⟨b,5,none⟩ x5).setCell ⟨b,6,none⟩ x6).setCell ⟨b,7,none⟩ x7).heap[b2]?=some o2:=
  have g:=gb8 w b x0 x1 x2 x3 x4 x5 x6 x7
  ⟨(g.block _ (heap_lt h.1) (fun e=>by injection e with e;exact n1.out e)).trans h.1,(g.block _ (heap_lt h.2) (fun e=>by injection e with e;exact n2.out e)).trans h.2⟩
theorem altn {w q:World} {cs:Array Value} {T:TypeId} (h:w.alloc (.cells cs T)=q):w.heap.size<q.heap.size:=by rw [<-h];simp
theorem hid_refl (w:World):Hid (Below w.heap.size w w):=Below.refl _ _
def UpP (t:JV) (e0:Int) (w:World) (e:Ending) (w':World):Prop:=∃ rr:Raw,e=.returned (.tuple #[rr.val,.int .i64 e0])/\IsV w' (fun _=>True) rr t/\Below w.heap.size w w'
theorem UpP.to {t:JV} {e0:Int} {w w':World} {e:Ending} (h:UpP t e0 w e w'):∃ rr:Raw,e=.returned (.tuple #[rr.val,.int .i64 e0])/\Hid (IsV w' (fun _=>True) rr t)/\Hid (Below w.heap.size w w'):=h
end Go.Proofs.YtliekocamnklfaaGreatDoor.One
