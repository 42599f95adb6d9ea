/- one.Empty, and what one.Up leans on. -/
import Derived.Test.YtancjnedgddobaaGreatDoorHOnO
import Derived.Test.YtancjnedgddobaaGreatDoorHOnJ
import Derived.Test.YtancjnedgddobaaGreatDoorHOnW
import Derived.Test.YtancjnedgddobaaGreatDoorHSvD
set_option linter.unusedVariables false
set_option linter.unusedSimpArgs false
set_option maxRecDepth 100000
set_option maxHeartbeats 4000000
namespace Go.Proofs.YtancjnedgddobaaGreatDoor.One
open Go.RowKit Strs Jdec Save Go.Proofs.YtancjnedgddobaaGreatDoor.Addr
def fdCells (F:List Fd):List Value:=F.flatMap fun x=>.string x.1::x.2.1.cells
theorem fdCells_at:∀ (F:List Fd) (i:Nat) (h:i<F.length) (c:Nat),c<9->(fdCells F)[i*9+c]?=(Value.string F[i].1::F[i].2.1.cells)[c]?
  | x::t,0,h,c,hc=>by
    have e:(Value.string x.1::x.2.1.cells).length=9:=rfl;rw [fdCells,List.flatMap_cons,Nat.zero_mul,Nat.zero_add,List.getElem?_append_left (by omega)];rfl
  | x::t,i+1,h,c,hc=>by
    have e:(Value.string x.1::x.2.1.cells).length=9:=rfl;rw [fdCells,List.flatMap_cons,List.getElem?_append_right (by omega),e,show (i+1)*9+c-9=i*9+c by omega];exact fdCells_at t i (by simpa using h) c hc
theorem fds_of {w:World} {b:Nat} {F:List Fd} {T:TypeId} (h:w.heap[b]?=some (.cells (fdCells F).toArray T (0,0))):FdsAt w b F:=fun i hi=>by
  have k:∀ c,c<9->w.cell? ⟨b,i*9+c,none⟩=(Value.string F[i].1::F[i].2.1.cells)[c]?:=fun c hc=>by
    rw [cell_of h,List.getElem?_toArray];exact fdCells_at F i hi c hc
  refine ⟨k 0 (by omega),fun j u hu=>?_⟩;have hj:j<8:=(List.getElem?_eq_some_iff.1 hu).1;rw [show i*9+1+j=i*9+(j+1) by omega,k (j+1) (by omega),List.getElem?_cons_succ];exact hu
theorem fds2 (w:World) (k1 k2:ByteArray) (r1 r2:Raw) (t1 t2:JV):∃ w1,w.alloc (.cells #[.string k1,.int .i64 r1.kind,.bool r1.is,.bool r1.neg,.string r1.dig,.int .i64 r1.exp,.string r1.str,.slice r1.ka r1.kn r1.kc,.slice r1.va r1.vn r1.vc,.string k2,.int .i64 r2.kind,.bool r2.is,.bool r2.neg,.string r2.dig,.int .i64 r2.exp,.string r2.str,.slice r2.ka r2.kn r2.kc,.slice r2.va r2.vn r2.vc] 74)=w1/\Hid (FdsAt w1 w.heap.size [(k1,r1,t1),(k2,r2,t2)])/\Hid (Below w.heap.size w w1):=
  ⟨_,rfl,fds_of (F:=[(k1,r1,t1),(k2,r2,t2)]) (heap_alloc_new _ _),(Below.refl _ _).alloc (Nat.le_refl _) _⟩
theorem fds3 (w:World) (k1 k2 k3:ByteArray) (r1 r2 r3:Raw) (t1 t2 t3:JV):∃ w1,w.alloc (.cells #[.string k1,.int .i64 r1.kind,.bool r1.is,.bool r1.neg,.string r1.dig,.int .i64 r1.exp,.string r1.str,.slice r1.ka r1.kn r1.kc,.slice r1.va r1.vn r1.vc,.string k2,.int .i64 r2.kind,.bool r2.is,.bool r2.neg,.string r2.dig,.int .i64 r2.exp,.string r2.str,.slice r2.ka r2.kn r2.kc,.slice r2.va r2.vn r2.vc,.string k3,.int .i64 r3.kind,.bool r3.is,.bool r3.neg,.string r3.dig,.int .i64 r3.exp,.string r3.str,.slice r3.ka r3.kn r3.kc,.slice r3.va r3.vn r3.vc] 74)=w1/\Hid (FdsAt w1 w.heap.size [(k1,r1,t1),(k2,r2,t2),(k3,r3,t3)])/\Hid (Below w.heap.size w w1):=
  ⟨_,rfl,fds_of (F:=[(k1,r1,t1),(k2,r2,t2),(k3,r3,t3)]) (heap_alloc_new _ _),(Below.refl _ _).alloc (Nat.le_refl _) _⟩
theorem fds4 (w:World) (k1 k2 k3 k4:ByteArray) (r1 r2 r3 r4:Raw) (t1 t2 t3 t4:JV):∃ w1,w.alloc (.cells #[.string k1,.int .i64 r1.kind,.bool r1.is,.bool r1.neg,.string r1.dig,.int .i64 r1.exp,.string r1.str,.slice r1.ka r1.kn r1.kc,.slice r1.va r1.vn r1.vc,.string k2,.int .i64 r2.kind,.bool r2.is,.bool r2.neg,.string r2.dig,.int .i64 r2.exp,.string r2.str,.slice r2.ka r2.kn r2.kc,.slice r2.va r2.vn r2.vc,.string k3,.int .i64 r3.kind,.bool r3.is,.bool r3.neg,.string r3.dig,.int .i64 r3.exp,.string r3.str,.slice r3.ka r3.kn r3.kc,.slice r3.va r3.vn r3.vc,.string k4,.int .i64 r4.kind,.bool r4.is,.bool r4.neg,.string r4.dig,.int .i64 r4.exp,.string r4.str,.slice r4.ka r4.kn r4.kc,.slice r4.va r4.vn r4.vc] 74)=w1/\Hid (FdsAt w1 w.heap.size [(k1,r1,t1),(k2,r2,t2),(k3,r3,t3),(k4,r4,t4)])/\Hid (Below w.heap.size w w1):=
  ⟨_,rfl,fds_of (F:=[(k1,r1,t1),(k2,r2,t2),(k3,r3,t3),(k4,r4,t4)]) (heap_alloc_new _ _),(Below.refl _ _).alloc (Nat.le_refl _) _⟩
theorem kid1 (w:World) (r:Raw):∃ w1,w.alloc (.cells #[.int .i64 r.kind,.bool r.is,.bool r.neg,.string r.dig,.int .i64 r.exp,.string r.str,.slice r.ka r.kn r.kc,.slice r.va r.vn r.vc] 38)=w1/\Hid (w1.heap[w.heap.size]?=some (.cells r.arr 38 (0,0)))/\Hid (Below w.heap.size w w1):=own8 w r
theorem kp {w w':World} {A:Nat->Prop} {z:Raw} {t:JV} (h:Hid (IsV w A z t)) (e:Hid (Below w.heap.size w w')):Hid (IsV w' A z t):=h.out.behind e.out
theorem kn {w w':World} {A:Nat->Prop} {z:Raw} {t:JV} (h:Hid (IsV w A z t)) (e:Hid (Below w.heap.size w w')):Hid (IsV w' (fun b=>A b/\b≠w.heap.size) z t):=
  h.out.turn ⟨e.out.size,fun b hb hl=>⟨e.out.block b hl,hb,by omega⟩⟩
theorem dn {w:World} {A:Nat->Prop} {z:Raw} {t:JV} {b:Nat} (h:Hid (IsV w A z t)) (hA:∀ k,A k->k≠b) (x0 x1 x2 x3 x4 x5 x6 x7:Value):IsV ((((((((w.setCell ⟨b,0,none⟩ x0).setCell ⟨b,1,none⟩ x1).setCell ⟨b,2,none⟩ x2).setCell ⟨b,3,none⟩ x3).setCell ⟨b,4,none⟩ x4).setCell ⟨b,5,none⟩ x5).setCell ⟨b,6,none⟩ x6).setCell ⟨b,7,none⟩ x7) (fun _=>True) z t:=
  h.out.turn ⟨(gb8 _ _ _ _ _ _ _ _ _ _).size,fun k hk hl=>⟨(gb8 _ _ _ _ _ _ _ _ _ _).block _ hl (fun e=>by injection e with e;exact hA k hk e),trivial⟩⟩
theorem vtext (s:ByteArray) (A:Nat->Prop) (w:World):Calls Tryz.prog 61 #[.string s] w (ValP (strV s) A w):=
  (otext_any s w).mono fun e w' h=>⟨strR s,h.1,strR_is _ _ _,h.2⟩
theorem vnum (n:Nat) (hn:n<18446744073709551616) (A:Nat->Prop) (w:World) (T:Jdec.Pow10 w):Calls Tryz.prog 63 #[.int .u64 n] w (ValP (numV n) A w):=
  (onumber_any n hn w T).mono fun e w' h=>⟨One.numR n,h.1,numR_is _ _ _,h.2⟩
theorem lst1 {w:World} {A:Nat->Prop} {z:Raw} {t:JV} {b:Nat} (V:Hid (w.heap[b]?=some (.cells z.arr 38 (0,0)))) (h:Hid (IsV w A z t)) (hA:A b):IsV w A (lstR (some ⟨b,0,none⟩) 1 1) (listOf [t]):=
  .mk (lstR (some ⟨b,0,none⟩) 1 1) [] [t] (fun _=>z) rfl rfl (.inl rfl) (.inr ⟨b,0,rfl,hA,heap_lt V.out,fun i hi j u hu=>by
    have:i=0:=by simpa using hi
    subst this;exact Jdec.cellsIn V.out j u hu |> fun h=>by simpa using h⟩) (fun i hi=>by
    have:i=0:=by simpa using hi
    subst this;exact h.out)
theorem vlist {w:World} {A:Nat->Prop} {z:Raw} {t:JV} {b:Nat} (V:Hid (w.heap[b]?=some (.cells z.arr 38 (0,0)))) (h:Hid (IsV w A z t)) (hA:A b):Calls Tryz.prog 60 #[.slice (some ⟨b,0,none⟩) 1 1] w (ValP (listOf [t]) A w):=
  (olist_any (some ⟨b,0,none⟩) 1 1 w).mono fun e w' k=>⟨lstR (some ⟨b,0,none⟩) 1 1,k.1,(lst1 V h hA).behind k.2.out,k.2.out⟩
theorem vcopy {t:JV} (hg:GoodQ t) (hm:t.mass<=3000) {z:Raw} {A B:Nat->Prop} {w:World} (h:Hid (IsV w B z t)) (hA:∀ b,w.heap.size<=b->A b):Calls Tryz.prog 62 #[z.val] w (ValP t A w):=
  (copy_any t hg hm z B w h.out).mono fun e w' k=>by
    obtain ⟨r,h1,h2,h3⟩:=k.to;exact ⟨r,h1,h2.out.isV _ fun b hb=>hA b hb.1,h3.out⟩
theorem oempty_any (n:Nat) (hn:n<18446744073709551616) (w:World) (T:Jdec.Pow10 w):Calls Tryz.prog 29 #[.int .u64 n] w (ValP (emptyJ n) (fun _=>True) w):=by
  obtain ⟨w2,hw2,V2,B2⟩:=own8 w Raw.zero;obtain ⟨C,hC⟩:∃ C:Nat->Prop,(fun b=>b≠w.heap.size)=C:=⟨_,rfl⟩;have HC:Hid (∀ k,C k->k≠w.heap.size):=by rw [<-hC];exact fun _ h=>h
  have hl2:=heap_lt V2.out;have HA:Hid (∀ b,w2.heap.size<=b->C b):=by rw [<-hC];exact fun b h=>by show b≠_;omega
  have HN:Hid (∀ m:Nat,m<18446744073709551616->∀ w',Below w.heap.size w w'->Calls Tryz.prog 63 #[.int .u64 m] w' (ValP (numV m) C w')):=fun m hm w' h=>vnum m hm C w' (T.stays h);have h1:=HN.out 1 (by omega) w2 B2.out;have H1:=Hid.out (p:=Hid _) h1;have HNN:=Hid.out (p:=Hid _) hn;clear hC T h1 hn
  dsimp only [Raw.zero] at hw2
  go_enter Tryz.func29,Tryz.ntmps29
  go_wp2_with fail
  refine (Calls.mono H1.out ?_);rintro z w3 hz;obtain ⟨z1,rfl,I1,E3⟩:=hz.to;have B3:=bel B2 E3;have H2:=Hid.out (p:=Hid _) (HN.out n HNN.out w3 B3.out);clear hz hw2 H1;unfold Raw.val;go_wp2_with fail
  refine (Calls.mono H2.out ?_);rintro z w4 hz;obtain ⟨z2,rfl,I2,E4⟩:=hz.to;have B4:=bel B3 E4;have I1:=kp I1 E4;have hs4:=(bel E3 E4).out.size;have H3:=Hid.out (p:=Hid _) (object_any [] 0 0 C w4 (fun h=>absurd rfl h) (fun i h=>absurd h (Nat.not_lt_zero _)) (fun x hx=>by cases hx) (by decide) (fun b hb=>HA.out b (by omega)) none (fun h=>absurd rfl h));clear hz H2 hs4;unfold Raw.val;go_wp2_with fail
  refine (Calls.mono H3.out ?_);rintro z w5 hz;obtain ⟨z3,rfl,I3,E5⟩:=hz.to;have B5:=bel B4 E5;have I1:=kp I1 E5;have I2:=kp I2 E5;obtain ⟨w6,hw6,X6,E6⟩:=fds3 w5 kVer kSer kRes z1 z2 z3 (numV 1) (numV n) (objectOf [] []);have B6:=bel B5 E6;have I1:=kp I1 E6;have I2:=kp I2 E6;have I3:=kp I3 E6;have hl5:w5.heap.size<w6.heap.size:=by rw [<-hw6];simp
  have hs6:=(bel (bel (bel E3 E4) E5) E6).out.size;have H4:=Hid.out (p:=Hid _) (object_any [(kVer,z1,numV 1),(kSer,z2,numV n),(kRes,z3,objectOf [] [])] w5.heap.size 3 C w6 (fun _=>hl5) X6.out (fun x hx=>by
    simp only [List.mem_cons,List.mem_nil_iff,or_false] at hx
    rcases hx with rfl | rfl | rfl
    · exact I1.out
    · exact I2.out
    · exact I3.out) (by simp) (fun b hb=>HA.out b (by omega)) (some ⟨w5.heap.size,0,none⟩) (fun _=>rfl))
  clear hz H3 hs6 hl5;unfold kVer kSer kRes at hw6;unfold Raw.val;go_wp2_with fail
  refine (Calls.mono H4.out ?_);rintro z w7 hz;obtain ⟨z4,rfl,I4,E7⟩:=hz.to;have B7:=bel B6 E7;have V7:=hst (hst (hst (hst (hst V2 E3) E4) E5) E6) E7;clear hz H4 hw6;unfold Raw.val;obtain ⟨⟨r0,r1,r2,r3,r4,r5,r6,r7⟩,g0,g1,g2,g3,g4,g5,g6,g7⟩:=val_cells V7.out;go_wp2_with fail
  refine val_ret (a:=z4) (b:=w.heap.size) rfl (set8 V7.out z4) rfl ?_;exact ⟨z4,rfl,dn I4 HC.out _ _ _ _ _ _ _ _,below8 B7.out (Nat.le_refl _) _ _ _ _ _ _ _ _⟩
theorem at_in (n:Bool) (d:ByteArray) (c:Nat) (w:World) (p:Int) (i:Nat) (hs:d.size<=1000) (hc:c<=20) (hi:i<d.size) (hp:p=(d.size:Int)+c-1-i):Calls Tryz.prog 148 #[.agg #[.bool n,.string d,.int .i64 (c:Int)],.int .i64 p] w fun e w'=>e=.returned (.int .u8 (d[i].toNat:Nat))/\Below w.heap.size w w':=by
  obtain ⟨w2,hw2,V2,B2⟩:=new3 w n d c;have y1:=cell_of V2.out 1;have y2:=cell_of V2.out 2;obtain ⟨a,h1⟩:∃ a:Int,(d.size:Int)-1=a:=⟨_,rfl⟩;obtain ⟨b,h3⟩:∃ b:Int,p-(c:Int)=b:=⟨_,rfl⟩;have h2:IntKind.i64.wrap a=a:=IntWalk.i64_in _ (by omega);have h4:IntKind.i64.wrap b=b:=IntWalk.i64_in _ (by omega);have h5:a-b=(i:Int):=by omega
  have h6:IntKind.i64.wrap (i:Int)=(i:Int):=IntWalk.i64_in _ (by omega);have q1:decide ((i:Int)<0)=false:=by rw [decide_eq_false_iff_not];omega
  have q2:decide ((d.size:Int)<=(i:Int))=false:=by rw [decide_eq_false_iff_not];omega
  have q3:decide (d.size<=i)=false:=by rw [decide_eq_false_iff_not];omega
  clear hp hc;go_enter Tryz.func148,Tryz.ntmps148
  go_wp2_with fail
  go_ret
  exact ⟨rfl,B2.out⟩
theorem at_out (n:Bool) (d:ByteArray) (c:Nat) (w:World) (p:Int) (i:Nat) (hs:d.size<=1000) (hc:c<=20) (hi:¬ i<d.size) (hi2:i<=3000) (hp:p=(d.size:Int)+c-1-i):Calls Tryz.prog 148 #[.agg #[.bool n,.string d,.int .i64 (c:Int)],.int .i64 p] w fun e w'=>e=.returned (.int .u8 48)/\Below w.heap.size w w':=by
  obtain ⟨w2,hw2,V2,B2⟩:=new3 w n d c;have y1:=cell_of V2.out 1;have y2:=cell_of V2.out 2;obtain ⟨a,h1⟩:∃ a:Int,(d.size:Int)-1=a:=⟨_,rfl⟩;obtain ⟨b,h3⟩:∃ b:Int,p-(c:Int)=b:=⟨_,rfl⟩;have h2:IntKind.i64.wrap a=a:=IntWalk.i64_in _ (by omega);have h4:IntKind.i64.wrap b=b:=IntWalk.i64_in _ (by omega);have h5:a-b=(i:Int):=by omega
  have h6:IntKind.i64.wrap (i:Int)=(i:Int):=IntWalk.i64_in _ (by omega);have q1:decide ((i:Int)<0)=false:=by rw [decide_eq_false_iff_not];omega
  have q2:decide ((d.size:Int)<=(i:Int))=true:=by rw [decide_eq_true_eq];omega
  have q3:decide (d.size<=i)=true:=by rw [decide_eq_true_eq];omega
  clear hp hc hi;go_enter Tryz.func148,Tryz.ntmps148
  go_wp2_with fail
  go_ret
  exact ⟨rfl,B2.out⟩
theorem at_any (n:Bool) (d:ByteArray) (c:Nat) (w:World) (p:Int) (i:Nat) (hs:d.size<=1000) (hc:c<=20) (hi:i<(d.data.toList++List.replicate c 48).length) (hp:p=(d.size:Int)+c-1-i):Calls Tryz.prog 148 #[.agg #[.bool n,.string d,.int .i64 (c:Int)],.int .i64 p] w fun e w'=>e=.returned (.int .u8 ((d.data.toList++List.replicate c 48)[i].toNat:Nat))/\Below w.heap.size w w':=by
  have hl:d.data.toList.length=d.size:=by simp
  by_cases h:i<d.size
  · have e:(d.data.toList++List.replicate c 48)[i]=d[i]:=by rw [List.getElem_append_left (by omega)];rfl
    rw [e];exact at_in n d c w p i hs hc h hp
  · have e:(d.data.toList++List.replicate c 48)[i]=48:=by rw [List.getElem_append_right (by omega),List.getElem_replicate]
    rw [e];rw [List.length_append,List.length_replicate] at hi;exact at_out n d c w p i hs hc h (by omega) hp
theorem rright_yes (n:Bool) (d:ByteArray) (x:Int) (h:Num.right n d.data.toList x=true) (w:World):Calls Tryz.prog 147 #[.agg #[.bool n,.string d,.int .i64 x]] w fun e w'=>e=.returned (.bool true)/\Below w.heap.size w w':=by
  have hl:d.data.toList.length=d.size:=by simp
  have:=Num.rright_any n d x w (by have:=(right_bounds h).1;omega);rw [h] at this;exact this
theorem rwhole_any (n:Bool) (d:ByteArray) (e:Int) (hr:Num.right n d.data.toList e=true) (w:World):Calls Tryz.prog 95 #[.agg #[.bool n,.string d,.int .i64 e]] w (WPst (wholeN n d.data.toList e) w):=by
  obtain ⟨hb1,hb2,hb3,hb4⟩:=right_bounds hr;have hl:d.data.toList.length=d.size:=by simp
  have hdig:=digits48 hr;obtain ⟨w2,hw2,V2,B2⟩:=new3 w n d e;have HP:=Hid.out (p:=Hid _) (rright_yes n d e hr w2);have hds:d.size<=1000:=by omega
  have y0:=cell_of V2.out 0;have y1:=cell_of V2.out 1;have y2:=cell_of V2.out 2;cases n
  case true=>
    have HN:Hid (wholeN true d.data.toList e=none):=by rw [Hid,wholeN,if_neg (by simp)]
    clear hb1 hb2 hb3 hb4 hl hdig hr hds;go_enter Tryz.func95,Tryz.ntmps95
    go_wp2_with fail
    refine (Calls.mono HP.out ?_);rintro z w3 ⟨rfl,hb3⟩;have V3:=hst V2 (Hid.out (p:=Hid _) hb3);have B3:=bel B2 (Hid.out (p:=Hid _) hb3);clear hb3 y0 y1 y2 hw2;have y0:=cell_of V3.out 0;have y1:=cell_of V3.out 1;have y2:=cell_of V3.out 2;go_wp2_with fail
    go_ret2
    exact ⟨0,by rw [HN.out] <;> rfl,(fun m h=>by rw [HN.out] at h;cases h),B3.out⟩
  case false=>
  by_cases he:e<0
  · have q1:decide (e<0)=true:=by rw [decide_eq_true_eq];exact he
    have HN:Hid (wholeN false d.data.toList e=none):=by rw [Hid,wholeN,if_neg (by omega)]
    clear hb1 hb2 hb3 hb4 hl hdig hr hds he;go_enter Tryz.func95,Tryz.ntmps95
    go_wp2_with fail
    refine (Calls.mono HP.out ?_);rintro z w3 ⟨rfl,hb3⟩;have V3:=hst V2 (Hid.out (p:=Hid _) hb3);have B3:=bel B2 (Hid.out (p:=Hid _) hb3);clear hb3 y0 y1 y2 hw2;have y0:=cell_of V3.out 0;have y1:=cell_of V3.out 1;have y2:=cell_of V3.out 2;go_wp2_with fail
    go_ret2
    exact ⟨0,by rw [HN.out] <;> rfl,(fun m h=>by rw [HN.out] at h;cases h),B3.out⟩
  have q1:decide (e<0)=false:=by rw [decide_eq_false_iff_not];exact he
  obtain ⟨c,rfl⟩:∃ c:Nat,e=c:=⟨e.toNat,by omega⟩;have hc1:c<=10000:=by omega
  by_cases h20:20<c+d.size
  · have q2:decide ((20:Int)<(c:Int)+(d.size:Int))=true:=by rw [decide_eq_true_eq];omega
    have q3:decide (20<c+d.size)=true:=by rw [decide_eq_true_eq];omega
    have HN:Hid (wholeN false d.data.toList c=none):=by rw [Hid,wholeN,if_neg (by omega)]
    clear hb1 hb2 hb3 hb4 hl hdig hr h20 he;go_enter Tryz.func95,Tryz.ntmps95
    go_wp2_with fail
    refine (Calls.mono HP.out ?_);rintro z w3 ⟨rfl,hb3⟩;have V3:=hst V2 (Hid.out (p:=Hid _) hb3);have B3:=bel B2 (Hid.out (p:=Hid _) hb3);clear hb3 y0 y1 y2 hw2;have y0:=cell_of V3.out 0;have y1:=cell_of V3.out 1;have y2:=cell_of V3.out 2;go_wp2_with fail
    go_ret2
    exact ⟨0,by rw [HN.out] <;> rfl,(fun m h=>by rw [HN.out] at h;cases h),B3.out⟩
  have q2:decide ((20:Int)<(c:Int)+(d.size:Int))=false:=by rw [decide_eq_false_iff_not];omega
  have q3:decide (20<c+d.size)=false:=by rw [decide_eq_false_iff_not];omega
  obtain ⟨L,hL⟩:∃ L,d.data.toList++List.replicate c 48=L:=⟨_,rfl⟩;have HW:Hid (wholeN false d.data.toList c=Addr.numR 0 L):=by rw [Hid,wholeN,if_pos ⟨hr,rfl,by omega,by omega⟩,Int.toNat_natCast,hL]
  have hLL:L.length=d.size+c:=by rw [<-hL,List.length_append,List.length_replicate,hl]
  have hLD:∀ x∈L,48<=x.toNat/\x.toNat<=57:=fun x hx=>by
    rw [<-hL] at hx;rcases List.mem_append.1 hx with hx | hx
    · exact hdig x hx
    · rw [(List.mem_replicate.1 hx).2];decide
  have HLL:=Hid.out (p:=Hid _) hLL;have HLD:=Hid.out (p:=Hid _) hLD;have HAT:Hid (∀ (w':World) (p:Int) (i:Nat) (h:i<L.length),p=(d.size:Int)+c-1-i->Calls Tryz.prog 148 #[.agg #[.bool false,.string d,.int .i64 (c:Int)],.int .i64 p] w' fun e w''=>e=.returned (.int .u8 (L[i].toNat:Nat))/\Below w'.heap.size w' w''):=fun w' p i h hp=>by
    subst hL;exact at_any false d c w' p i hds (by omega) h hp
  have HCD:Hid (c+d.size<=20):=by rw [Hid];omega
  have hc20:c<=20:=by omega
  obtain ⟨p0,hp0⟩:∃ p:Int,(c:Int)+(d.size:Int)-1=p:=⟨_,rfl⟩;have hp1:IntKind.i64.wrap p0=p0:=IntWalk.i64_in _ (by omega);have HP0:Hid (p0=(d.size:Int)+c-1):=by rw [Hid];omega
  clear hb1 hb2 hb3 hb4 hl hdig hr h20 he hL hLL hLD hc1;go_enter Tryz.func95,Tryz.ntmps95
  go_wp2_with fail
  refine (Calls.mono HP.out ?_);rintro z w3 ⟨rfl,hb3⟩;have V3:=hst V2 (Hid.out (p:=Hid _) hb3);have B3:=bel B2 (Hid.out (p:=Hid _) hb3);clear hb3 y0 y1 y2 hw2;have y0:=cell_of V3.out 0;have y1:=cell_of V3.out 1;have y2:=cell_of V3.out 2;go_wp2_with fail
  clear y0 y1 y2 hp0 hp1
  go_loopw [4,5] (fun p4 p5 wr=>∃ (i:Nat) (a p:Int),p4=.int .u64 a/\p5=.int .i64 p/\i<=L.length/\Hid (p=(d.size:Int)+c-1-i)/\Hid (∃ n:Nat,a=(n:Int)/\n<=18446744073709551615/\Addr.numR 0 L=Addr.numR n (L.drop i))/\Hid (Below w3.heap.size w3 wr)) (fun _ p _=>(intOf p+1).toNat)
  case atStart=>exact ⟨0,0,p0,rfl,rfl,Nat.zero_le _,by rw [Hid,HP0.out];simp,⟨0,rfl,by omega,rfl⟩,Below.refl _ _⟩
  case round=>
    obtain ⟨i,a,p,rfl,rfl,hi,hP,hN,hB⟩:=hrel;have V4:=hst V3 hB;have y0:=cell_of V4.out 0;have y1:=cell_of V4.out 1;have y2:=cell_of V4.out 2;have B4:=bel B3 hB;have hpv:=hP.out;have hLv:=HLL.out;have hcd:=HCD.out;by_cases hlt:i<L.length
    · have d0:decide (0<=p)=true:=by rw [decide_eq_true_eq];omega
      have hx:=HLD.out L[i] (List.getElem_mem hlt);have HC:=Hid.out (p:=Hid _) (HAT.out wr p i hlt hpv);have hdr:L.drop i=L[i]::L.drop (i+1):=by rw [<-List.getElem_cons_drop hlt]
      generalize L[i]=x at *;obtain ⟨xn,hxn⟩:∃ xn:Nat,x.toNat=xn:=⟨_,rfl⟩;obtain ⟨q,hq⟩:∃ d:Int,(xn:Int)-48=d:=⟨_,rfl⟩;have hd1:IntKind.u8.wrap q=q:=by rw [IntKind.wrap_u8];omega
      have hd2:IntKind.u64.wrap q=q:=by rw [IntKind.wrap_u64];omega
      obtain ⟨r,hr⟩:∃ r:Int,IntKind.u64.wrap (18446744073709551615-q)=r:=⟨_,rfl⟩;obtain ⟨t,ht⟩:∃ t:Int,IntKind.u64.wrap (r.tdiv 10)=t:=⟨_,rfl⟩;obtain ⟨z,hz⟩:∃ z:Int,IntKind.u64.wrap (IntKind.u64.wrap (a*10)+q)=z:=⟨_,rfl⟩;have hrv:r=18446744073709551615-q:=by rw [<-hr,IntKind.wrap_u64];omega
      have htv:t=(18446744073709551615-q) / 10:=by
        rw [<-ht,hrv,Int.tdiv_eq_ediv_of_nonneg (by omega),IntKind.wrap_u64];omega
      obtain ⟨n,han,hnm,hnr⟩:=hN.out;have hstep:Addr.numR 0 L=if 18446744073709551615<n*10+(x.toNat-48) then none else Addr.numR (n*10+(x.toNat-48)) (L.drop (i+1)):=by
        rw [hnr,hdr,Addr.numR,if_pos (by omega)]
      rw [hxn] at HC;by_cases hb:t<a
      · have d3:decide (t<a)=true:=by rw [decide_eq_true_eq];exact hb
        have HF:Hid (wholeN false d.data.toList c=none):=by rw [Hid,HW.out,hstep,if_pos (by omega)]
        clear hrv htv han hnm hnr hstep hb hz hpv hLv hcd hx hxn hdr;go_wp2_with fail
        refine (Calls.mono HC.out ?_);rintro z w5 ⟨rfl,hb5⟩;have B5:=bel B4 (Hid.out (p:=Hid _) hb5);clear hb5 y0 y1 y2;go_wp2_with fail
        go_ret2
        exact ⟨0,by rw [HF.out] <;> rfl,(fun m h=>by rw [HF.out] at h;cases h),B5.out⟩
      · have d3:decide (t<a)=false:=by rw [decide_eq_false_iff_not];exact hb
        have HF:Hid (∃ n:Nat,z=(n:Int)/\n<=18446744073709551615/\Addr.numR 0 L=Addr.numR n (L.drop (i+1))):=by
          refine ⟨n*10+(x.toNat-48),?_,by omega,by rw [hstep,if_neg (by omega)]⟩;rw [<-hz,IntKind.wrap_u64,IntKind.wrap_u64];omega
        obtain ⟨p',hp'⟩:∃ p':Int,p-1=p':=⟨_,rfl⟩;have hpw:IntKind.i64.wrap p'=p':=IntWalk.i64_in _ (by omega);have HPP:Hid (p'=(d.size:Int)+c-1-((i+1:Nat):Int)):=by rw [Hid];omega
        have HM:Hid ((p'+1).toNat<(p+1).toNat):=by rw [Hid];omega
        clear hrv htv han hnm hnr hstep hb hpv hLv hcd hx hxn hdr;go_wp2_with fail
        refine (Calls.mono HC.out ?_);rintro zz w5 ⟨rfl,hb5⟩;have B5:=bel hB (Hid.out (p:=Hid _) hb5);clear hb5 y0 y1 y2;go_wp2_with fail
        go_roundw
        case rel=>exact ⟨i+1,z,p',rfl,rfl,by omega,HPP.out,HF.out,B5.out⟩
        case measure=>exact HM.out
    · have d0:decide (0<=p)=false:=by rw [decide_eq_false_iff_not];omega
      obtain ⟨n,rfl,_,hnr⟩:=hN.out;have HF:Hid (wholeN false d.data.toList c=some n):=by
        rw [Hid,HW.out,hnr,List.drop_of_length_le (by omega)];rfl
      clear hnr hpv hLv hcd;go_wp2_with fail
      go_ret2
      exact ⟨n,by rw [HF.out] <;> rfl,(fun m h=>by rw [HF.out] at h;injection h),B4.out⟩
end Go.Proofs.YtancjnedgddobaaGreatDoor.One
namespace Go.Proofs.YtancjnedgddobaaGreatDoor
open Go Go.RowKit
structure Tag (n:Nat) (p:Prop):Prop where
  out:p
theorem wof {n:Nat} {w c:World} {p:World->Prop} (D:Hid (Below n w c)) (h:∀ c,p c):p c:=h c
section
variable {P:Program} {ops:Array Oper} {Q:Exit->Act->World->Prop} {md:Region.Mode} {S:World->Prop}
theorem consT {fuel:Nat} {listed:Array Bool} {a:Act} {w:World} {i:Nat} {o:Oper} {rs:List Nat}
    (h:Tag i (∀ K':Act->World->Prop,Shut (∀ a w,S w->(S w->wpAnyH P md ops Q S fuel (listed.setIfInBounds i true) a w)->K' a w)->if Region.wanted o (yielded ops a.tmps)=true then Oper.wp P o a w K' Q else K' (a.put o.dst undef) w))
    (hs:AllReadyH P md ops Q S fuel listed a w rs) (ho:ops[i]?=some o:=by rfl):AllReadyH P md ops Q S fuel listed a w (i::rs):=AllReadyH.cons ho h.out hs
theorem rdT (rs:List Nat) {fuel:Nat} {listed:Array Bool} {a:Act} {w:World} (hr:decide (Region.ready md ops listed=rs)=true) (hne:rs≠[])
    (h:AllReadyH P md ops Q S fuel listed a w rs):wpAnyH P md ops Q S (fuel+1) listed a w:=wpAnyH_ready (of_decide_eq_true hr) hne h
theorem tkT (i:Nat) {v:Value} {oi:Oper} {fuel:Nat} {listed:Array Bool} {a:Act} {w:World} (hc:mayTake md ops listed i=true)
    (h:wpAnyH P md ops Q S fuel (listed.setIfInBounds i true) (a.put oi.dst v) w)
    (hi:ops[i]?=some oi:=by rfl)
    (hw:Region.wanted oi (yielded ops a.tmps)=true:=by rfl) (hS:S w:=by assumption)
    (hy:∀ w,S w->(execOp a.eval oi).run P w=.ok (.value v) w:=by intro w hs;clear hs;go_simp <;> with_reducible rfl)
    (hQ:∀ c a w,Q (.panic c) (a.put oi.dst v) w->Q (.panic c) a w:=by exact fun _ _ _ h=>h):wpAnyH P md ops Q S (fuel+1) listed a w:=
  tv i v hy h hi hc hQ hw hS
theorem dnT {fuel:Nat} {listed:Array Bool} {a:Act} {w:World} (hr:decide (Region.ready md ops listed=[])=true) (h:Q .normal a w):wpAnyH P md ops Q S fuel listed a w:=
  wpAnyH_done (of_decide_eq_true hr) h fuel
end
end Go.Proofs.YtancjnedgddobaaGreatDoor
