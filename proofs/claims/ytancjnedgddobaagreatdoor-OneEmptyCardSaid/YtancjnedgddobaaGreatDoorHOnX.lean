/- tabulariumref19.Empty, Up. (Written by gen/onx.py.) -/
import Derived.Test.YtancjnedgddobaaGreatDoorHOnT
import Derived.Test.YtancjnedgddobaaGreatDoorHOnR
set_option linter.unusedVariables false
set_option linter.unusedSimpArgs false
set_option maxRecDepth 100000
set_option maxHeartbeats 16000000
namespace Go.Proofs.YtancjnedgddobaaGreatDoor.One
open Go.RowKit Strs Jdec Save Go.Proofs.YtancjnedgddobaaGreatDoor.Addr
theorem kid2 (w:World) (r1 r2:Raw):∃ w1,w.alloc (.cells #[.int .i64 r1.kind,.bool r1.is,.bool r1.neg,.string r1.dig,.int .i64 r1.exp,.string r1.str,.slice r1.ka r1.kn r1.kc,.slice r1.va r1.vn r1.vc,.int .i64 r2.kind,.bool r2.is,.bool r2.neg,.string r2.dig,.int .i64 r2.exp,.string r2.str,.slice r2.ka r2.kn r2.kc,.slice r2.va r2.vn r2.vc] 38)=w1/\Hid (w1.heap[w.heap.size]?=some (.cells ([r1,r2].flatMap Raw.cells).toArray 38 (0,0)))/\Hid (Below w.heap.size w w1):=
  ⟨_,rfl,heap_alloc_new _ _,(Below.refl _ _).alloc (Nat.le_refl _) _⟩
theorem kid3 (w:World) (r1 r2 r3:Raw):∃ w1,w.alloc (.cells #[.int .i64 r1.kind,.bool r1.is,.bool r1.neg,.string r1.dig,.int .i64 r1.exp,.string r1.str,.slice r1.ka r1.kn r1.kc,.slice r1.va r1.vn r1.vc,.int .i64 r2.kind,.bool r2.is,.bool r2.neg,.string r2.dig,.int .i64 r2.exp,.string r2.str,.slice r2.ka r2.kn r2.kc,.slice r2.va r2.vn r2.vc,.int .i64 r3.kind,.bool r3.is,.bool r3.neg,.string r3.dig,.int .i64 r3.exp,.string r3.str,.slice r3.ka r3.kn r3.kc,.slice r3.va r3.vn r3.vc] 38)=w1/\Hid (w1.heap[w.heap.size]?=some (.cells ([r1,r2,r3].flatMap Raw.cells).toArray 38 (0,0)))/\Hid (Below w.heap.size w w1):=
  ⟨_,rfl,heap_alloc_new _ _,(Below.refl _ _).alloc (Nat.le_refl _) _⟩
theorem vem2 {w:World} {A:Nat->Prop} {r1 r2:Raw} {t1 t2:JV} (h1:Hid (IsV w A r1 t1)) (h2:Hid (IsV w A r2 t2)):∀ x∈([(r1,t1),(r2,t2)]:List (Raw × JV)),IsV w A x.1 x.2:=fun x hx=>by
  simp only [List.mem_cons,List.mem_nil_iff,or_false] at hx
  rcases hx with rfl | rfl
  · exact h1.out
  · exact h2.out
theorem vem3 {w:World} {A:Nat->Prop} {r1 r2 r3:Raw} {t1 t2 t3:JV} (h1:Hid (IsV w A r1 t1)) (h2:Hid (IsV w A r2 t2)) (h3:Hid (IsV w A r3 t3)):∀ x∈([(r1,t1),(r2,t2),(r3,t3)]:List (Raw × JV)),IsV w A x.1 x.2:=fun x hx=>by
  simp only [List.mem_cons,List.mem_nil_iff,or_false] at hx
  rcases hx with rfl | rfl | rfl
  · exact h1.out
  · exact h2.out
  · exact h3.out
theorem vem4 {w:World} {A:Nat->Prop} {r1 r2 r3 r4:Raw} {t1 t2 t3 t4:JV} (h1:Hid (IsV w A r1 t1)) (h2:Hid (IsV w A r2 t2)) (h3:Hid (IsV w A r3 t3)) (h4:Hid (IsV w A r4 t4)):∀ x∈([(r1,t1),(r2,t2),(r3,t3),(r4,t4)]:List (Raw × JV)),IsV w A x.1 x.2:=fun x hx=>by
  simp only [List.mem_cons,List.mem_nil_iff,or_false] at hx
  rcases hx with rfl | rfl | rfl | rfl
  · exact h1.out
  · exact h2.out
  · exact h3.out
  · exact h4.out
theorem four_new (w:World) (x y u v:ByteArray):∃ w1,w.alloc (.cells #[.string x,.string y,.string u,.string v] 9)=w1/\Hid (IsTexts w1 (fun _=>True) (some ⟨w.heap.size,0,none⟩) [x,y,u,v])/\Hid (Below w.heap.size w w1):=by
  refine ⟨_,rfl,.inr ⟨w.heap.size,0,rfl,trivial,by simp,fun i hi=>?_⟩,(Below.refl _ _).alloc (Nat.le_refl _) _⟩;have h:=heap_alloc_new w (.cells #[.string x,.string y,.string u,.string v] 9 (0,0))
  match i,hi with
  | 0,_=>exact cell_of h 0
  | 1,_=>exact cell_of h 1
  | 2,_=>exact cell_of h 2
  | 3,_=>exact cell_of h 3
theorem tblk {w q:World} {cs:Array Value} {T:TypeId} (h:w.alloc (.cells cs T)=q):Hid (q.heap[w.heap.size]?=some (.cells cs T (0,0))):=by rw [<-h];exact heap_alloc_new _ _
theorem k6 {w:World} {C:Nat->Prop} {n m:Nat} {z:Raw} {t:JV} (h:Hid (IsV w (fun b=>C b/\b<n) z t)) (hn:n<=m):Hid (IsV w (fun b=>C b/\b≠m) z t):=h.out.turn (Turn.mono w fun b hb _=>⟨hb.1,by have:=hb.2;omega⟩)
theorem k6c {w:World} {C:Nat->Prop} {n:Nat} {z:Raw} {t:JV} (h:Hid (IsV w (fun b=>C b/\b<n) z t)):Hid (IsV w C z t):=h.out.turn (Turn.mono w fun b hb _=>hb.1)
theorem ktx {w w':World} {k:Option Addr} {l:List ByteArray} (h:Hid (IsTexts w (fun _=>True) k l)) (e:Hid (Below w.heap.size w w')):Hid (IsTexts w' (fun _=>True) k l):=h.out.turn (Turn.below e.out)
theorem flat8_at:∀ (l:List Raw) (i:Nat) (h:i<l.length) (c:Nat),c<8->(l.flatMap Raw.cells)[i*8+c]?=l[i].cells[c]?
  | x::t,0,h,c,hc=>by
    have e:x.cells.length=8:=rfl;rw [List.flatMap_cons,Nat.zero_mul,Nat.zero_add,List.getElem?_append_left (by omega)];rfl
  | x::t,i+1,h,c,hc=>by
    have e:x.cells.length=8:=rfl;rw [List.flatMap_cons,List.getElem?_append_right (by omega),e,show (i+1)*8+c-8=i*8+c by omega];exact flat8_at t i (by simpa using h) c hc
theorem obj_is {w:World} {A:Nat->Prop} {kb vb:Nat} {ks:List ByteArray} (F:List (Raw × JV)) (K:Hid (IsTexts w (fun _=>True) (some ⟨kb,0,none⟩) ks)) (V:Hid (w.heap[vb]?=some (.cells ((F.map (·.1)).flatMap Raw.cells).toArray 38 (0,0)))) (hk:A kb) (hv:A vb) (hI:∀ x∈F,IsV w A x.1 x.2) (n m:Nat) (hn:n=ks.length) (hm:m=F.length):IsV w A (objR (some ⟨kb,0,none⟩) n n (some ⟨vb,0,none⟩) m m) (objectOf ks (F.map (·.2))):=by
  subst hn hm;refine .mk (objR (some ⟨kb,0,none⟩) ks.length ks.length (some ⟨vb,0,none⟩) F.length F.length) ks (F.map (·.2)) (fun i=>(F.map (·.1)).getD i Raw.zero) rfl (by simp [objR]) ?_ (.inr ⟨vb,0,rfl,hv,heap_lt V.out,fun i hi j u hu=>?_⟩) (fun i hi=>?_)
  · rcases K.out with h | ⟨b,o,h1,h2,h3,h4⟩
    · exact .inl h
    · injection h1 with h1
      injection h1 with h1 h5
      subst h1;exact .inr ⟨kb,o,by rw [h5];rfl,hk,h3,h4⟩
  · have hi':i<F.length:=by simpa using hi
    have e:(F.map (·.1)).getD i Raw.zero=F[i].1:=by simp [List.getD,hi']
    have hj:j<8:=(List.getElem?_eq_some_iff.1 hu).1;rw [Nat.zero_add,cell_of V.out,List.getElem?_toArray,flat8_at _ i (by simpa using hi') j hj];rw [e] at hu
    simpa using hu
  · have hi':i<F.length:=by simpa using hi
    have e:(F.map (·.1)).getD i Raw.zero=F[i].1:=by simp [List.getD,hi']
    have e2:(F.map (·.2))[i]=F[i].2:=by simp
    rw [e,e2];exact hI _ (List.getElem_mem hi')
theorem empty_obj (w:World) (A:Nat->Prop):IsV w A (objR none 0 0 none 0 0) (objectOf [] []):=.mk (objR none 0 0 none 0 0) [] [] (fun _=>Raw.zero) rfl rfl (.inl rfl) (.inl rfl) (fun i h=>absurd h (Nat.not_lt_zero _))
theorem rempty_any (n:Nat) (hn:n<18446744073709551616) (w:World):Calls Tryz.prog 30 #[.int .u64 n] w (ValP (emptyJ n) (fun _=>True) w):=by
  obtain ⟨w2,hw2,V2,B2⟩:=own8 w Raw.zero;obtain ⟨w3,hw3,K3,E3⟩:=three_new w2 kVer kSer kRes;have B3:=bel B2 E3;have hl2:=heap_lt V2.out;have HA:Hid (∀ b,w2.heap.size<=b->b≠w.heap.size):=fun b h=>by omega
  have H1:=Hid.out (p:=Hid _) (rnum_any 1 (by omega) (fun b=>b≠w.heap.size) w3);have HN:=Hid.out (p:=Hid _) hn;clear hn
  dsimp only [Raw.zero] at hw2
  unfold kVer kSer kRes at hw3;go_enter Tryz.func30,Tryz.ntmps30
  go_wp2_with fail
  refine (Calls.mono H1.out ?_);rintro z w4 hz;obtain ⟨z1,rfl,I1,E4⟩:=hz.to;have B4:=bel B3 E4;have H2:=Hid.out (p:=Hid _) (rnum_any n HN.out (fun b=>b≠w.heap.size) w4);clear hz H1 hw2 hw3;unfold Raw.val;go_wp2_with fail
  refine (Calls.mono H2.out ?_);rintro z w5 hz;obtain ⟨z2,rfl,I2,E5⟩:=hz.to;have B5:=bel B4 E5;obtain ⟨w6,hw6,X6,E6⟩:=kid3 w5 z1 z2 (objR none 0 0 none 0 0)
  dsimp only [objR] at hw6
  have B6:=bel B5 E6;have K6:=ktx (ktx (ktx K3 E4) E5) E6;have V6:=hst (hst (hst (hst V2 E3) E4) E5) E6;have I6:Hid (IsV w6 (fun b=>b≠w.heap.size) (objR (some ⟨w2.heap.size,0,none⟩) 3 3 (some ⟨w5.heap.size,0,none⟩) 3 3) (emptyJ n)):=
    obj_is [(z1,numV 1),(z2,numV n),(objR none 0 0 none 0 0,objectOf [] [])] K6 X6 (by show _≠_;omega) (by show _≠_;have:=(bel (bel E3 E4) E5).out.size;omega) (vem3 (kp (kp I1 E5) E6) (kp I2 E6) (empty_obj _ _)) 3 3 rfl rfl
  clear hz H2;unfold Raw.val;obtain ⟨⟨r0,r1,r2,r3,r4,r5,r6,r7⟩,g0,g1,g2,g3,g4,g5,g6,g7⟩:=val_cells V6.out;go_wp2_with fail
  refine val_ret (a:=objR (some ⟨w2.heap.size,0,none⟩) 3 3 (some ⟨w5.heap.size,0,none⟩) 3 3) (b:=w.heap.size) rfl (set8 V6.out (objR (some ⟨w2.heap.size,0,none⟩) 3 3 (some ⟨w5.heap.size,0,none⟩) 3 3)) rfl ?_;exact ⟨_,rfl,dn I6 (fun _ h=>h) _ _ _ _ _ _ _ _,below8 B6.out (Nat.le_refl _) _ _ _ _ _ _ _ _⟩
theorem kid4l {w:World} {lb:Nat} {z:Raw} (VL:Hid (w.heap[lb]?=some (.cells z.arr 38 (0,0)))) (r1 r2 r3:Raw):∃ w1,w.alloc (.cells #[.int .i64 r1.kind,.bool r1.is,.bool r1.neg,.string r1.dig,.int .i64 r1.exp,.string r1.str,.slice r1.ka r1.kn r1.kc,.slice r1.va r1.vn r1.vc,.int .i64 r2.kind,.bool r2.is,.bool r2.neg,.string r2.dig,.int .i64 r2.exp,.string r2.str,.slice r2.ka r2.kn r2.kc,.slice r2.va r2.vn r2.vc,.int .i64 r3.kind,.bool r3.is,.bool r3.neg,.string r3.dig,.int .i64 r3.exp,.string r3.str,.slice r3.ka r3.kn r3.kc,.slice r3.va r3.vn r3.vc,.int .i64 5,.bool false,.bool false,.string ⟨#[]⟩,.int .i64 0,.string ⟨#[]⟩,.slice none 0 0,.slice (some ⟨lb,0,none⟩) 1 1] 38)=w1/\Hid (w1.heap[w.heap.size]?=some (.cells ([r1,r2,r3,lstR (some ⟨lb,0,none⟩) 1 1].flatMap Raw.cells).toArray 38 (0,0)))/\Hid (Below w.heap.size w w1):=
  ⟨_,rfl,heap_alloc_new _ _,(Below.refl _ _).alloc (Nat.le_refl _) _⟩
theorem rup_any (t:JV) (hq:OneQ t) (hf:Fine t) (hm:t.mass<=3000) (ra:Raw) (A:Nat->Prop) (w:World) (hi:IsV w A ra t):Calls Tryz.prog 27 #[ra.val] w (ValP (upJ t) (fun _=>True) w):=by
  obtain ⟨w2,hw2,V2,B2⟩:=own8 w ra;obtain ⟨w3,hw3,V3,B3⟩:=own8 w2 Raw.zero;have V23:=hst V2 B3;have B03:=bel B2 B3;have HS:=Hid.out (p:=Hid _) B2.out.size;have HPT:=Hid.out (p:=Hid _) (one_parts hq.2);have hl2:=heap_lt V2.out;obtain ⟨C,hC⟩:∃ C:Nat->Prop,(fun b=>b≠w2.heap.size)=C:=⟨_,rfl⟩;have HC:Hid (∀ k,C k->k≠w2.heap.size):=by rw [<-hC];exact fun _ h=>h
  have hlo:IsV w (fun b=>C b/\b<w.heap.size) ra t:=by rw [<-hC];exact hi.turn (Turn.mono w fun b _ hb=>⟨by show b≠_;omega,hb⟩)
  have HOF:Hid (∀ (w':World) (x:ByteArray),Below w.heap.size w w'->Calls Tryz.prog 32 #[ra.val,.string x] w' (OfP t x (fun b=>C b/\b<w.heap.size) w')):=fun w' x h=>rof_any t hq.1.1 hm ra (fun b=>C b/\b<w.heap.size) w' (hlo.behind h) x;obtain ⟨ts,hts⟩:∃ x,got t kSer=x:=⟨_,rfl⟩;obtain ⟨tr,htr⟩:∃ x,got t kRes=x:=⟨_,rfl⟩;have HTS:=Hid.out (p:=Hid _) hts;have HTR:=Hid.out (p:=Hid _) htr;have HUP:Hid (upJ t=objectOf [kVer,kSer,kLin,kMod] [numV 2,ts,strV ⟨#[]⟩,listOf [objectOf [kPath,kRes] [listOf [strV kRoot],tr]]]):=by rw [Hid,upJ,rootV,hts,htr]
  have H1:=Hid.out (p:=Hid _) (rstr_any kRoot C w3);have HLL:Hid (∀ b,w3.heap.size<=b->C b):=by rw [<-hC];exact fun b h=>by show b≠_;have:=heap_lt V3.out;omega
  clear hq hf hm hi hts htr HPT hC hlo hl2
  dsimp only [Raw.zero] at hw3
  unfold kRoot at H1;unfold Raw.val at HOF ⊢;obtain ⟨⟨x0,x1,x2,x3,x4,x5,x6,x7⟩,_⟩:=val_cells V23.out;go_enter Tryz.func27,Tryz.ntmps27
  go_wp2_with fail
  refine (Calls.mono H1.out ?_);rintro z w4 hz;obtain ⟨z1,rfl,I1,E4⟩:=hz.to;obtain ⟨w5,hw5,V5,E5⟩:=kid1 w4 z1;obtain ⟨w6,hw6,V6,E6⟩:=own8 w5 (lstR (some ⟨w4.heap.size,0,none⟩) 1 1);have B36:=bel (bel E4 E5) E6;have B06:=bel B03 B36;have V26:=hst V23 B36;have V36:=hst V3 B36;have I6:Hid (IsV w6 C (lstR (some ⟨w4.heap.size,0,none⟩) 1 1) (listOf [strV kRoot])):=lst1 (hst V5 E6) (kp (kp I1 E5) E6) (HLL.out _ E4.out.size);have HA:Hid (∀ b,w6.heap.size<=b->C b):=fun b hb=>HLL.out b (Nat.le_trans B36.out.size hb);obtain ⟨zp,hzp⟩:∃ z,lstR (some ⟨w4.heap.size,0,none⟩) 1 1=z:=⟨_,rfl⟩;rw [hzp] at V6 I6;have HS2:Hid (∀ W,Below w6.heap.size w6 W->W.heap[w5.heap.size]?=some (.cells zp.arr 38 (0,0))/\W.heap[w.heap.size]?=some (.cells ra.arr 38 (0,0))):=fun W hW=>⟨(hW.block _ (heap_lt V6.out)).trans V6.out,(hW.block _ (heap_lt V26.out)).trans V26.out⟩;have HI6:Hid (∀ W,Below w6.heap.size w6 W->Hid (IsV W (fun b=>C b/\b<w6.heap.size) zp (listOf [strV kRoot]))):=fun W hW=>(I6.out.turn (Turn.mono w6 fun b h hb=>⟨h,hb⟩)).behind hW;have HW6:Hid (w.heap.size<=w6.heap.size):=B06.out.size;have HOF6:Hid (∀ W,Below w6.heap.size w6 W->∀ x,Calls Tryz.prog 32 #[.agg #[.int .i64 ra.kind,.bool ra.is,.bool ra.neg,.string ra.dig,.int .i64 ra.exp,.string ra.str,.slice ra.ka ra.kn ra.kc,.slice ra.va ra.vn ra.vc],.string x] W (OfP t x (fun b=>C b/\b<w.heap.size) W)):=fun W hW x=>HOF.out W x (B06.out.trans (hW.mono B06.out.size));clear hz x0 x1 x2 x3 x4 x5 x6 x7 hw2 hw3 H1 HLL hzp
  dsimp only [lstR] at hw6
  unfold Raw.val
  go_upto_region 2 with (fail)
  clear hw5 hw6
  go_cut [4] from 4 (fun p4 wx=>∃ (b8:Nat) (z8:Raw),p4=.pointer (some ⟨b8,0,none⟩)/\Hid (w6.heap.size<=b8)/\Hid (Below w6.heap.size w6 wx)/\Hid (wx.heap[b8]?=some (.cells z8.arr 38 (0,0)))/\Hid (IsV wx C z8 (objectOf [kPath,kRes] [listOf [strV kRoot],tr])))
  case first=>
    refine wp_region_held_drew (S:=(fun W=>W.heap[w5.heap.size]?=some (.cells zp.arr 38 (0,0))/\W.heap[w.heap.size]?=some (.cells ra.arr 38 (0,0)))) (by kernel_rfl) ?_ (fun hHeld=>?_)
    · exact HS2.out _ (Below.refl _ _).drew
    obtain ⟨wd,hwd⟩:∃ x,w6.drew=x:=⟨_,rfl⟩;have D:Hid (Below w6.heap.size w6 wd):=by rw [<-hwd];exact (Below.refl _ _).drew
    rw [hwd] at hHeld ⊢;clear hwd;have DA:=D
    repeat' first
      | (refine tkT 1 (v:=.agg #[.int .i64 zp.kind,.bool zp.is,.bool zp.neg,.string zp.dig,.int .i64 zp.exp,.string zp.str,.slice zp.ka zp.kn zp.kc,.slice zp.va zp.vn zp.vc]) (by decide +kernel) ?_ (hy:=by (intro w hs;obtain ⟨⟨e0,e1,e2,e3,e4,e5,e6,e7⟩,_⟩:=val_cells hs.1;clear hs;go_simp <;> with_reducible rfl)))
      | (refine tkT 2 (v:=.agg #[.int .i64 ra.kind,.bool ra.is,.bool ra.neg,.string ra.dig,.int .i64 ra.exp,.string ra.str,.slice ra.ka ra.kn ra.kc,.slice ra.va ra.vn ra.vc]) (by decide +kernel) ?_ (hy:=by (intro w hs;obtain ⟨⟨e0,e1,e2,e3,e4,e5,e6,e7⟩,_⟩:=val_cells hs.2;clear hs;go_simp <;> with_reducible rfl)))
      | (refine tkT 5 (by decide +kernel) ?_)
      | (refine rdT [0,3,6] (by decide +kernel) (by simp) ?_;try simp only [nz])
      | (refine rdT [3,6] (by decide +kernel) (by simp) ?_;try simp only [nz])
      | (refine rdT [4,6] (by decide +kernel) (by simp) ?_;try simp only [nz])
      | (refine rdT [6] (by decide +kernel) (by simp) ?_;try simp only [nz])
      | (refine rdT [7] (by decide +kernel) (by simp) ?_;try simp only [nz])
      | (refine rdT [4] (by decide +kernel) (by simp) ?_;try simp only [nz])
      | (refine rdT [3] (by decide +kernel) (by simp) ?_;try simp only [nz])
      | (refine rdT [0,4,6] (by decide +kernel) (by simp) ?_;try simp only [nz])
      | (refine rdT [0,6] (by decide +kernel) (by simp) ?_;try simp only [nz])
      | (refine rdT [0] (by decide +kernel) (by simp) ?_;try simp only [nz])
      | (refine rdT [0,4] (by decide +kernel) (by simp) ?_;try simp only [nz])
      | (refine rdT [0,3] (by decide +kernel) (by simp) ?_;try simp only [nz])
      | exact AllReadyH.nil
      | refine consT ?_ ?_
      | (refine (⟨fun K hK=>?_⟩:Tag 0 _)
         obtain ⟨q,hq,KT,E⟩:=wof D (two_new · kPath kRes);unfold kPath kRes at hq
         try simp only [nz]
         go_simp
         have MKT:=Hid.out (p:=Hid _) (upn HA DA _ (Nat.le_refl _));have VKT:=tblk hq;clear hq;replace D:=bel D E;(try replace DA:=bel DA E);(try replace I3:=kp I3 E);(try replace VX:=hst VX E);(try replace VKT:=hst VKT E);(try replace MVX:=fdk MVX X E);(try replace MKT:=fdk MKT KT E);(try replace VZ:=hst VZ E);(try replace KT:=ktx KT E);clear hHeld;refine hK.out _ _ ?_ (fun hHeld=>?_)
         · exact HS2.out _ D.out
         clear hK K
         try simp only [nz])
      | (refine (⟨fun K hK=>?_⟩:Tag 3 _)
         try simp only [nz]
         go_simp
         go_at_call 32;refine (Calls.mono (HOF6.out _ D.out kRes) ?_)
         rintro z q hz;obtain ⟨z3,rfl,I3,E⟩:=hz.to;clear hz;unfold Raw.val;rw [HTR.out] at I3;replace D:=bel D E;(try replace DA:=bel DA E);(try replace I3:=kp I3 E);(try replace VX:=hst VX E);(try replace VKT:=hst VKT E);(try replace MVX:=fdk MVX X E);(try replace MKT:=fdk MKT KT E);(try replace VZ:=hst VZ E);(try replace KT:=ktx KT E);clear hHeld;refine hK.out _ _ ?_ (fun hHeld=>?_)
         · exact HS2.out _ D.out
         clear hK K
         try simp only [nz])
      | (refine (⟨fun K hK=>?_⟩:Tag 4 _)
         obtain ⟨q,hq,VX,E⟩:=wof D (kid2 · zp z3)
         try simp only [nz]
         go_simp
         have MVX:=Hid.out (p:=Hid _) (upn HA DA _ (Nat.le_refl _));clear hq;replace D:=bel D E;(try replace DA:=bel DA E);(try replace I3:=kp I3 E);(try replace VX:=hst VX E);(try replace VKT:=hst VKT E);(try replace MVX:=fdk MVX X E);(try replace MKT:=fdk MKT KT E);(try replace VZ:=hst VZ E);(try replace KT:=ktx KT E);clear hHeld;refine hK.out _ _ ?_ (fun hHeld=>?_)
         · exact HS2.out _ D.out
         clear hK K
         try simp only [nz])
      | (refine (⟨fun K hK=>?_⟩:Tag 6 _)
         obtain ⟨q,hq,VZ,E⟩:=wof D (own8 · Raw.zero)
         dsimp only [Raw.zero] at hq
         try simp only [nz]
         go_simp
         have KW:=kw HA DA (altn hq);have HBZ:=Hid.out (p:=Hid _) D.out.size;clear hq;replace D:=bel D E;(try replace MVX:=km MVX VX);(try replace MKT:=km MKT VKT);(try replace I3:=kp I3 E);(try replace VX:=hst VX E);(try replace VKT:=hst VKT E);(try replace VZ:=hst VZ E);(try replace KT:=ktx KT E);replace HA:=KW;clear KW DA;have DA:=hid_refl q;clear hHeld;refine hK.out _ _ ?_ (fun hHeld=>?_)
         · exact HS2.out _ D.out
         clear hK K
         try simp only [nz])
      | (refine (⟨fun K hK=>?_⟩:Tag 7 _)
         have OBJ:=Hid.out (p:=Hid _) (obj_is [(zp,listOf [strV kRoot]),(z3,tr)] KT VX MKT.out MVX.out (vem2 (k6 (HI6.out _ D.out) HBZ.out) (k6 I3 (Nat.le_trans HW6.out HBZ.out))) 2 2 rfl rfl);obtain ⟨⟨v0,v1,v2,v3,v4,v5,v6,v7⟩,y0,y1,y2,y3,y4,y5,y6,y7⟩:=val_cells VZ.out
         try simp only [nz]
         go_simp
         clear v0 v1 v2 v3 v4 v5 v6 v7 y0 y1 y2 y3 y4 y5 y6 y7;clear hHeld;refine hK.out _ _ ?_ (fun hHeld=>?_)
         · exact HS2.out _ (below8 D.out HBZ.out _ _ _ _ _ _ _ _)
         clear hK K
         try simp only [nz])
      | (refine dnT (by decide +kernel) ?_
         clear hHeld;go_wp2_with fail
         go_meet
         exact ⟨_,_,rfl,HBZ.out,below8 D.out HBZ.out _ _ _ _ _ _ _ _,set8 VZ.out (objR _ 2 2 _ 2 2),dn2 OBJ _ _ _ _ _ _ _ _⟩)
  case rest=>
    obtain ⟨b8,z8,rfl,h8x,hBx,Vx,Ix⟩:=hcut;have HN8:Hid (b8≠w2.heap.size):=by have:=heap_lt V36.out;have:=h8x.out;show _≠_;omega
    have HN0:Hid (w.heap.size≠w2.heap.size):=by have:=heap_lt V2.out;show _≠_;omega
    have HIX:Hid (∀ W,Below wc.heap.size wc W->IsV W C z8 (objectOf [kPath,kRes] [listOf [strV kRoot],tr])):=fun W hW=>Ix.out.behind hW;have HS3:Hid (∀ W,Below wc.heap.size wc W->W.heap[w.heap.size]?=some (.cells ra.arr 38 (0,0))/\W.heap[b8]?=some (.cells z8.arr 38 (0,0))):=fun W hW=>⟨((hBx.out.trans (hW.mono hBx.out.size)).block _ (heap_lt V26.out)).trans V26.out,(hW.block _ (heap_lt Vx.out)).trans Vx.out⟩;have HOF3:Hid (∀ W,Below wc.heap.size wc W->∀ x,Calls Tryz.prog 32 #[.agg #[.int .i64 ra.kind,.bool ra.is,.bool ra.neg,.string ra.dig,.int .i64 ra.exp,.string ra.str,.slice ra.ka ra.kn ra.kc,.slice ra.va ra.vn ra.vc],.string x] W (OfP t x (fun b=>C b/\b<w.heap.size) W)):=fun W hW x=>HOF6.out W (hBx.out.trans (hW.mono hBx.out.size)) x;have HZ3:Hid (∀ W,Below wc.heap.size wc W->W.heap[w2.heap.size]?=some (.cells Raw.zero.arr 38 (0,0))):=fun W hW=>((hBx.out.trans (hW.mono hBx.out.size)).block _ (heap_lt V36.out)).trans V36.out;have HA3:Hid (∀ b,wc.heap.size<=b->C b):=fun b hb=>HA.out b (Nat.le_trans hBx.out.size hb);have BX:=bel B06 hBx;go_wp2_with fail
    refine wp_region_held_drew (S:=(fun W=>W.heap[w.heap.size]?=some (.cells ra.arr 38 (0,0))/\W.heap[b8]?=some (.cells z8.arr 38 (0,0)))) (by kernel_rfl) ?_ (fun hHeld=>?_)
    · exact HS3.out _ (Below.refl _ _).drew
    obtain ⟨wd,hwd⟩:∃ x,wc.drew=x:=⟨_,rfl⟩;have D:Hid (Below wc.heap.size wc wd):=by rw [<-hwd];exact (Below.refl _ _).drew
    rw [hwd] at hHeld ⊢;clear hwd;have DA:=D;have HA:=HA3
    repeat' first
      | (refine tkT 2 (v:=.agg #[.int .i64 ra.kind,.bool ra.is,.bool ra.neg,.string ra.dig,.int .i64 ra.exp,.string ra.str,.slice ra.ka ra.kn ra.kc,.slice ra.va ra.vn ra.vc]) (by decide +kernel) ?_ (hy:=by (intro w hs;obtain ⟨⟨e0,e1,e2,e3,e4,e5,e6,e7⟩,_⟩:=val_cells hs.1;clear hs;go_simp <;> with_reducible rfl)))
      | (refine tkT 5 (v:=.agg #[.int .i64 z8.kind,.bool z8.is,.bool z8.neg,.string z8.dig,.int .i64 z8.exp,.string z8.str,.slice z8.ka z8.kn z8.kc,.slice z8.va z8.vn z8.vc]) (by decide +kernel) ?_ (hy:=by (intro w hs;obtain ⟨⟨e0,e1,e2,e3,e4,e5,e6,e7⟩,_⟩:=val_cells hs.2;clear hs;go_simp <;> with_reducible rfl)))
      | (refine tkT 7 (by decide +kernel) ?_)
      | (refine tkT 9 (by decide +kernel) ?_)
      | (refine rdT [0,1,6] (by decide +kernel) (by simp) ?_;try simp only [nz])
      | (refine rdT [1,6] (by decide +kernel) (by simp) ?_;try simp only [nz])
      | (refine rdT [3,6] (by decide +kernel) (by simp) ?_;try simp only [nz])
      | (refine rdT [4,6] (by decide +kernel) (by simp) ?_;try simp only [nz])
      | (refine rdT [6] (by decide +kernel) (by simp) ?_;try simp only [nz])
      | (refine rdT [8] (by decide +kernel) (by simp) ?_;try simp only [nz])
      | (refine rdT [10] (by decide +kernel) (by simp) ?_;try simp only [nz])
      | (refine rdT [4] (by decide +kernel) (by simp) ?_;try simp only [nz])
      | (refine rdT [3] (by decide +kernel) (by simp) ?_;try simp only [nz])
      | (refine rdT [1] (by decide +kernel) (by simp) ?_;try simp only [nz])
      | (refine rdT [0,3,6] (by decide +kernel) (by simp) ?_;try simp only [nz])
      | (refine rdT [0,4,6] (by decide +kernel) (by simp) ?_;try simp only [nz])
      | (refine rdT [0,6] (by decide +kernel) (by simp) ?_;try simp only [nz])
      | (refine rdT [0,8] (by decide +kernel) (by simp) ?_;try simp only [nz])
      | (refine rdT [0] (by decide +kernel) (by simp) ?_;try simp only [nz])
      | (refine rdT [0,4] (by decide +kernel) (by simp) ?_;try simp only [nz])
      | (refine rdT [0,3] (by decide +kernel) (by simp) ?_;try simp only [nz])
      | (refine rdT [0,1] (by decide +kernel) (by simp) ?_;try simp only [nz])
      | exact AllReadyH.nil
      | refine consT ?_ ?_
      | (refine (⟨fun K hK=>?_⟩:Tag 0 _)
         obtain ⟨q,hq,KT,E⟩:=wof D (four_new · kVer kSer kLin kMod);unfold kVer kSer kLin kMod at hq
         try simp only [nz]
         go_simp
         have MKT:=Hid.out (p:=Hid _) (upn HA DA _ (Nat.le_refl _));have VKT:=tblk hq;clear hq;replace D:=bel D E;(try replace DA:=bel DA E);(try replace I1:=kp I1 E);(try replace I2:=kp I2 E);(try replace I3:=kp I3 E);(try replace VL:=hst VL E);(try replace MVL:=fdk MVL L E);(try replace VX:=hst VX E);(try replace VKT:=hst VKT E);(try replace MVX:=fdk MVX X E);(try replace MKT:=fdk MKT KT E);(try replace KT:=ktx KT E);clear hHeld;refine hK.out _ _ ?_ (fun hHeld=>?_)
         · exact HS3.out _ D.out
         clear hK K
         try simp only [nz])
      | (refine (⟨fun K hK=>?_⟩:Tag 1 _)
         try simp only [nz]
         go_simp
         go_at_call 31;refine (Calls.mono (rnum_any 2 (by decide) C _) ?_)
         rintro z q hz;obtain ⟨z1,rfl,I1,E⟩:=hz.to;clear hz;unfold Raw.val;replace D:=bel D E;(try replace DA:=bel DA E);(try replace I1:=kp I1 E);(try replace I2:=kp I2 E);(try replace I3:=kp I3 E);(try replace VL:=hst VL E);(try replace MVL:=fdk MVL L E);(try replace VX:=hst VX E);(try replace VKT:=hst VKT E);(try replace MVX:=fdk MVX X E);(try replace MKT:=fdk MKT KT E);(try replace KT:=ktx KT E);clear hHeld;refine hK.out _ _ ?_ (fun hHeld=>?_)
         · exact HS3.out _ D.out
         clear hK K
         try simp only [nz])
      | (refine (⟨fun K hK=>?_⟩:Tag 3 _)
         try simp only [nz]
         go_simp
         go_at_call 32;refine (Calls.mono (HOF3.out _ D.out kSer) ?_)
         rintro z q hz;obtain ⟨z2,rfl,I2,E⟩:=hz.to;clear hz;unfold Raw.val;rw [HTS.out] at I2;replace I2:=k6c I2;replace D:=bel D E;(try replace DA:=bel DA E);(try replace I1:=kp I1 E);(try replace I2:=kp I2 E);(try replace I3:=kp I3 E);(try replace VL:=hst VL E);(try replace MVL:=fdk MVL L E);(try replace VX:=hst VX E);(try replace VKT:=hst VKT E);(try replace MVX:=fdk MVX X E);(try replace MKT:=fdk MKT KT E);(try replace KT:=ktx KT E);clear hHeld;refine hK.out _ _ ?_ (fun hHeld=>?_)
         · exact HS3.out _ D.out
         clear hK K
         try simp only [nz])
      | (refine (⟨fun K hK=>?_⟩:Tag 4 _)
         try simp only [nz]
         go_simp
         go_at_call 73;refine (Calls.mono (rstr_any _ C _) ?_)
         rintro z q hz;obtain ⟨z3,rfl,I3,E⟩:=hz.to;clear hz;unfold Raw.val;replace D:=bel D E;(try replace DA:=bel DA E);(try replace I1:=kp I1 E);(try replace I2:=kp I2 E);(try replace I3:=kp I3 E);(try replace VL:=hst VL E);(try replace MVL:=fdk MVL L E);(try replace VX:=hst VX E);(try replace VKT:=hst VKT E);(try replace MVX:=fdk MVX X E);(try replace MKT:=fdk MKT KT E);(try replace KT:=ktx KT E);clear hHeld;refine hK.out _ _ ?_ (fun hHeld=>?_)
         · exact HS3.out _ D.out
         clear hK K
         try simp only [nz])
      | (refine (⟨fun K hK=>?_⟩:Tag 6 _)
         obtain ⟨q,hq,VL,E⟩:=wof D (kid1 · z8)
         try simp only [nz]
         go_simp
         have MVL:=Hid.out (p:=Hid _) (upn HA DA _ (Nat.le_refl _));clear hq;replace D:=bel D E;(try replace DA:=bel DA E);(try replace I1:=kp I1 E);(try replace I2:=kp I2 E);(try replace I3:=kp I3 E);(try replace VL:=hst VL E);(try replace MVL:=fdk MVL L E);(try replace VX:=hst VX E);(try replace VKT:=hst VKT E);(try replace MVX:=fdk MVX X E);(try replace MKT:=fdk MKT KT E);(try replace KT:=ktx KT E);clear hHeld;refine hK.out _ _ ?_ (fun hHeld=>?_)
         · exact HS3.out _ D.out
         clear hK K
         try simp only [nz])
      | (refine (⟨fun K hK=>?_⟩:Tag 8 _)
         obtain ⟨q,hq,VX,E⟩:=kid4l VL z1 z2 z3
         try simp only [nz]
         go_simp
         have MVX:=Hid.out (p:=Hid _) (upn HA DA _ (Nat.le_refl _));clear hq;replace D:=bel D E;(try replace DA:=bel DA E);(try replace I1:=kp I1 E);(try replace I2:=kp I2 E);(try replace I3:=kp I3 E);(try replace VL:=hst VL E);(try replace MVL:=fdk MVL L E);(try replace VX:=hst VX E);(try replace VKT:=hst VKT E);(try replace MVX:=fdk MVX X E);(try replace MKT:=fdk MKT KT E);(try replace KT:=ktx KT E);clear hHeld;refine hK.out _ _ ?_ (fun hHeld=>?_)
         · exact HS3.out _ D.out
         clear hK K
         try simp only [nz])
      | (refine (⟨fun K hK=>?_⟩:Tag 10 _)
         have ZR:=Hid.out (p:=Hid _) (HZ3.out _ D.out);have OBJ:=Hid.out (p:=Hid _) (obj_is [(z1,numV 2),(z2,ts),(z3,strV ⟨#[]⟩),(lstR _ 1 1,listOf [objectOf [kPath,kRes] [listOf [strV kRoot],tr]])] KT VX MKT.out MVX.out (vem4 I1 I2 I3 (Hid.out (p:=Hid _) (lst1 VL (Hid.out (p:=Hid _) (HIX.out _ D.out)) MVL.out))) 4 4 rfl rfl);obtain ⟨⟨v0,v1,v2,v3,v4,v5,v6,v7⟩,y0,y1,y2,y3,y4,y5,y6,y7⟩:=val_cells ZR.out
         try simp only [nz]
         go_simp
         clear v0 v1 v2 v3 v4 v5 v6 v7 y0 y1 y2 y3 y4 y5 y6 y7;have HKE:=HS3.out _ D.out;clear hHeld;refine hK.out _ _ ?_ (fun hHeld=>?_)
         · exact keep8 HKE HN0 HN8 _ _ _ _ _ _ _ _
         clear hK K
         try simp only [nz])
      | (refine dnT (by decide +kernel) ?_
         clear hHeld;go_wp2_with fail
         refine val_ret (a:=objR _ 4 4 _ 4 4) (b:=w2.heap.size) rfl (set8 ZR.out (objR _ 4 4 _ 4 4)) rfl ?_;exact ⟨_,rfl,by rw [HUP.out];exact dn OBJ HC.out _ _ _ _ _ _ _ _,below8 (bel BX D).out HS.out _ _ _ _ _ _ _ _⟩)
end Go.Proofs.YtancjnedgddobaaGreatDoor.One
