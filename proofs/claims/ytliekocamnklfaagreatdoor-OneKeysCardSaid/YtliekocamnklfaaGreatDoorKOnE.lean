/- one.resources, one.Right. -/
import Derived.Test.YtliekocamnklfaaGreatDoorKOnI
import Derived.Test.YtliekocamnklfaaGreatDoorKOnO
set_option linter.unusedVariables false
set_option linter.unusedSimpArgs false
set_option maxRecDepth 100000
set_option maxHeartbeats 4000000
namespace Go.Proofs.YtliekocamnklfaaGreatDoor.One
open Go.RowKit Strs Jdec Save Go.Proofs.YtliekocamnklfaaGreatDoor.Addr
theorem resources_any (t:JV) (hg:GoodQ t) (hf:Fine t) (hm:t.mass<=3000) (ra:Raw) (A:Nat->Prop) (w:World) (hi:IsV w A ra t) (T:TabsP w):Calls Tryz.prog 55 #[ra.val] w (BoolP (ressB [kId,kAtt] t) w):=by
  have HE:Hid (∀ w',Below w.heap.size w w'->Calls Tryz.prog 102 #[ra.val,.func (.func 103) #[] #[]] w' (BoolP (eachB (resB [kId,kAtt]) t) w')):=fun w' h=>
    each_any 103 (enters_of Tryz.func103 (by kernel_rfl) rfl) (resB [kId,kAtt]) t hm ra A w' (hi.behind h) fun v hv rr w'' _ hr=>resource_any v (GoodQ.kids hg v hv) (by have:=mass_kid hv;omega) rr _ w'' hr
  obtain ⟨ok,hok⟩:∃ b,ressB [kId,kAtt] t=b:=⟨_,rfl⟩;rw [hok];obtain ⟨oe,hoe⟩:∃ b,eachB (resB [kId,kAtt]) t=b:=⟨_,rfl⟩;rw [hoe] at HE;have HR:Hid (ok=((keysJ t).all (fun k=>(oldP k.data.toList).isSome) && oe)):=by
    rw [Hid,<-hok,<-hoe];unfold ressB eachB;rw [Bool.and_left_comm]
  cases t with
  | mk k is ng d e s ks vs=>
  obtain ⟨ka,kc,va,vc,rfl,ht,_,_,_⟩:=hi.parts;have hz:∀ x∈ks,x.size<=6000:=by cases hf with | mk _ _ _ _ _ _ _ _ _ _ f3 _=>exact f3
  obtain ⟨w2,hw2,V2,B2⟩:=own8 w (Raw.mk k is ng d e s ka ks.length kc va vs.length vc);rw [mass_mk] at hm;have HOLD:Hid (∀ x∈ks,∀ w',Below w.heap.size w w'->Calls Tryz.prog 61 #[.string x] w' (APost (oldP x.data.toList) w')):=fun x hx w' h=>old_any x w' (hz x hx) (T.stays h);have HTX:Hid (∀ w',Below w.heap.size w w'->IsTexts w' A ka ks):=fun w' h=>ht.turn (Turn.below h);have HKL:Hid (ks.length<=3000):=by rw [Hid];omega
  have HR:Hid (ok=(ks.all (fun k=>(oldP k.data.toList).isSome) && oe)):=HR.out;clear hi hg hf hm hok hoe ht hz T;unfold Raw.val at HE ⊢;obtain ⟨⟨x0,x1,x2,x3,x4,x5,x6,x7⟩,_⟩:=val_cells V2.out;go_enter Tryz.func55,Tryz.ntmps55
  go_wp2_with fail
  clear x0 x1 x2 x3 x4 x5 x6 x7
  go_loopw [10] (fun p wr=>∃ i:Nat,p=.int .i64 i/\i<=ks.length/\Hid ((ks.take i).all (fun k=>(oldP k.data.toList).isSome)=true)/\Hid (Below w2.heap.size w2 wr)) (fun p _=>ks.length-(intOf p).toNat)
  case atStart=>exact ⟨0,rfl,Nat.zero_le _,rfl,Below.refl _ _⟩
  case round=>
    obtain ⟨i,rfl,hi,hA,hB⟩:=hrel;have hkl:=HKL.out;have B3:=bel B2 hB;by_cases hlt:i<ks.length
    · have hne:ks≠[]:=fun e=>by rw [e] at hlt;simp at hlt
      obtain ⟨kb,ko,rfl,_,hkb,hkc⟩:=(HTX.out wr B3.out).resolve_left hne;have c1:=hkc i hlt;have htk:ks.take (i+1)=ks.take i++[ks[i]]:=by rw [List.take_add_one,List.getElem?_eq_getElem hlt];rfl
      have HO:=Hid.out (p:=Hid _) (HOLD.out ks[i] (List.getElem_mem hlt) wr B3.out);obtain ⟨b,hb⟩:∃ b,(oldP ks[i].data.toList).isSome=b:=⟨_,rfl⟩;have HM:Hid (b=true->(ks.take (i+1)).all (fun k=>(oldP k.data.toList).isSome)=true):=fun h=>by rw [htk,List.all_append,hA.out,List.all_cons,List.all_nil,hb,h];rfl
      have HF:Hid (b=false->ok=false):=fun h=>by
        rw [HR.out,Bool.and_eq_false_iff];left
        rw [List.all_eq_false];exact ⟨ks[i],List.getElem_mem hlt,by rw [hb,h];simp⟩
      obtain ⟨a,ha⟩:∃ a,(oldP ks[i].data.toList).getD zeroA=a:=⟨_,rfl⟩;have HB:=Hid.out (p:=Hid _) hb;have HAA:=Hid.out (p:=Hid _) ha;clear hkc htk hb ha;generalize ks[i]=x at *;go_wp2_with fail
      refine (Calls.mono HO.out ?_);rintro z w4 hz;obtain ⟨er,her⟩:∃ er:Int,(if b then (0:Int) else 3)=er:=⟨_,rfl⟩;obtain ⟨pa,pc,rfl,_,B4⟩:=hz.to a HAA.out er (by rw [HB.out,her]);obtain ⟨w5,hw5,V5,B5⟩:=adr_new w4 pa pc a;have B25:=bel (bel hB B4) B5;clear hz;cases b
      case false=>
        obtain rfl:3=er:=her;obtain rfl:=HF.out rfl;go_wp2_with fail
        go_ret
        exact ⟨rfl,(bel B2 B25).out⟩
      case true=>
        obtain rfl:0=er:=her;have M:=Hid.out (p:=Hid _) (HM.out rfl);clear HM HF;go_wp2_with fail
        go_roundw
        case rel=>exact ⟨i+1,by go_num,by omega,M.out,B25.out⟩
        case measure=>simp [intOf];omega
    · have HQ:Hid (ok=oe):=by
        have:=hA.out;rw [List.take_of_length_le (by omega)] at this;rw [Hid,HR.out,this,Bool.true_and]
      have V3:=hst V2 hB;have HEC:=Hid.out (p:=Hid _) (HE.out wr B3.out);obtain ⟨⟨x0,x1,x2,x3,x4,x5,x6,x7⟩,_⟩:=val_cells V3.out;go_wp2_with fail
      refine (Calls.mono HEC.out ?_);rintro z w4 hz;obtain ⟨rfl,B4⟩:=hz.to;go_wp2_with fail
      go_ret
      exact ⟨by rw [HQ.out];rfl,(bel B3 B4).out⟩
theorem one_ask (t:JV):oneB t=(ofB t [kVer,kSer,kRes] && ((look t kVer).isSome && decide (wholeJ (got t kVer)=some 1)) && ((look t kSer).isSome && (wholeJ (got t kSer)).isSome) && ((look t kRes).isSome && ressB [kId,kAtt] (got t kRes))):=by
  unfold oneB
  cases h:ofB t [kVer,kSer,kRes] with
  | false=>rfl
  | true=>
    have h1:=of_look h kVer (by simp);have h2:=of_look h kSer (by simp);have h3:=of_look h kRes (by simp);simp only [h1,h2,h3,Bool.true_and,Bool.and_assoc]
theorem one_right (t:JV) (hf:Fine t) (hm:t.mass<=3000) (ra:Raw) (A:Nat->Prop) (w:World) (hi:IsV w A ra t) (T:TabsP w):Calls Tryz.prog 18 #[ra.val] w (IsPost (OneQ t) w):=by
  obtain ⟨w2,hw2,V2,B2⟩:=own8 w ra;have HTR:=Hid.out (p:=Hid _) (tree_is t hf hm ra A w2 (T.stays B2.out).t.z (hi.behind B2.out));obtain ⟨b1,hb1⟩:∃ b,ofB t [kVer,kSer,kRes]=b:=⟨_,rfl⟩;obtain ⟨b2,hb2⟩:∃ b,((look t kVer).isSome && decide (wholeJ (got t kVer)=some 1))=b:=⟨_,rfl⟩;obtain ⟨b3,hb3⟩:∃ b,((look t kSer).isSome && (wholeJ (got t kSer)).isSome)=b:=⟨_,rfl⟩;obtain ⟨b4,hb4⟩:∃ b,((look t kRes).isSome && ressB [kId,kAtt] (got t kRes))=b:=⟨_,rfl⟩;have hq:=one_ask t;rw [hb1,hb2,hb3,hb4] at hq;have HQ:=Hid.out (p:=Hid _) hq;have H1:Hid (GoodQ t->∀ w' ja,Below w.heap.size w w'->IsTexts w' (fun _=>True) ja [kVer,kSer,kRes]->Calls Tryz.prog 51 #[ra.val,.slice ja 3 3] w' (BoolP b1 w')):=fun hg w' ja h ht=>by
    have:=One.of_any t hg hm ra A _ w' (hi.behind h) [kVer,kSer,kRes] (by decide) ja 3 ht;rw [hb1] at this;exact this
  have H2:Hid (GoodQ t->∀ w',Below w.heap.size w w'->Calls Tryz.prog 52 #[ra.val,.string kVer,.func (.func 53) #[] #[]] w' (BoolP b2 w')):=fun hg w' h=>by
    have:=holds_any 53 (enters_of Tryz.func53 (by kernel_rfl) rfl) t hg hm ra A w' (hi.behind h) kVer _ fun rr w'' hb hr hs=>version_any _ (got_good hg hs) rr _ w'' hr ((T.stays h).stays hb).e;rw [hb2] at this;exact this
  have H3:Hid (GoodQ t->∀ w',Below w.heap.size w w'->Calls Tryz.prog 52 #[ra.val,.string kSer,.func (.func 54) #[] #[]] w' (BoolP b3 w')):=fun hg w' h=>by
    have:=holds_any 54 (enters_of Tryz.func54 (by kernel_rfl) rfl) t hg hm ra A w' (hi.behind h) kSer _ fun rr w'' hb hr hs=>serial_any _ (got_good hg hs) rr _ w'' hr ((T.stays h).stays hb).e;rw [hb3] at this;exact this
  have H4:Hid (GoodQ t->∀ w',Below w.heap.size w w'->Calls Tryz.prog 52 #[ra.val,.string kRes,.func (.func 55) #[] #[]] w' (BoolP b4 w')):=fun hg w' h=>by
    have:=holds_any 55 (enters_of Tryz.func55 (by kernel_rfl) rfl) t hg hm ra A w' (hi.behind h) kRes _ fun rr w'' hb hr hs=>resources_any _ (got_good hg hs) (got_fine hf _) (by have:=got_mass t kRes;omega) rr _ w'' hr ((T.stays h).stays hb);rw [hb4] at this;exact this
  obtain ⟨Q,hQ⟩:∃ Q,(GoodQ t/\t.deepN<=64)=Q:=⟨_,rfl⟩;have HP:Hid (OneQ t↔Q/\oneB t=true):=by rw [Hid,<-hQ];exact Iff.rfl
  have HG:Hid (Q->GoodQ t):=by rw [Hid,<-hQ];exact fun h=>h.1
  rw [hQ] at HTR;obtain ⟨P,hP⟩:∃ P,OneQ t=P:=⟨_,rfl⟩;rw [hP] at HP ⊢;clear hi hf hm hb1 hb2 hb3 hb4 hq hQ hP T;unfold Raw.val at HTR H1 H2 H3 H4 ⊢;obtain ⟨⟨x0,x1,x2,x3,x4,x5,x6,x7⟩,_⟩:=val_cells V2.out;unfold kVer at H2;unfold kSer at H3;unfold kRes at H4;go_enter Tryz.func18,Tryz.ntmps18
  go_wp2_with fail
  refine (Calls.mono HTR.out ?_);rintro z w3 ⟨b,rfl,hb,hb3⟩;have HB:=Hid.out (p:=Hid _) hb;have E3:=Hid.out (p:=Hid _) hb3;have B3:=bel B2 E3;have V3:=hst V2 E3;clear hb hb3 x0 x1 x2 x3 x4 x5 x6 x7 hw2;cases b
  case false=>
    go_wp2_with fail
    go_ret
    exact .no rfl (fun h=>by have:=HB.out.2 (HP.out.1 h).1;cases this) B3.out
  have HQQ:Hid Q:=HB.out.1 rfl;obtain ⟨w4,hw4,X4,B4⟩:=three_new w3 ⟨#[118,101,114,115,105,111,110]⟩ ⟨#[115,101,114,105,97,108]⟩ ⟨#[114,101,115,111,117,114,99,101,115]⟩;have B04:=bel B3 B4;have V4:=hst V3 B4;have C1:=Hid.out (p:=Hid _) (H1.out (HG.out HQQ.out) w4 (some ⟨w3.heap.size,0,none⟩) B04.out X4.out);obtain ⟨⟨x0,x1,x2,x3,x4,x5,x6,x7⟩,_⟩:=val_cells V3.out;go_wp2_with fail
  refine (Calls.mono C1.out ?_);rintro z w5 hz;obtain ⟨rfl,B5⟩:=hz.to;have B05:=bel B04 B5;have V5:=hst V4 B5;clear hz x0 x1 x2 x3 x4 x5 x6 x7 hw4;cases b1
  case false=>
    go_wp2_with fail
    go_ret
    exact .no rfl (fun h=>by have h:=(HP.out.1 h).2;rw [HQ.out] at h;cases h) B05.out
  have C2:=Hid.out (p:=Hid _) (H2.out (HG.out HQQ.out) w5 B05.out);obtain ⟨⟨x0,x1,x2,x3,x4,x5,x6,x7⟩,_⟩:=val_cells V5.out;go_wp2_with fail
  refine (Calls.mono C2.out ?_);rintro z w6 hz;obtain ⟨rfl,B6⟩:=hz.to;have B06:=bel B05 B6;have V6:=hst V5 B6;clear hz x0 x1 x2 x3 x4 x5 x6 x7;cases b2
  case false=>
    go_wp2_with fail
    go_ret
    exact .no rfl (fun h=>by have h:=(HP.out.1 h).2;rw [HQ.out] at h;cases h) B06.out
  have C3:=Hid.out (p:=Hid _) (H3.out (HG.out HQQ.out) w6 B06.out);obtain ⟨⟨x0,x1,x2,x3,x4,x5,x6,x7⟩,_⟩:=val_cells V6.out;go_wp2_with fail
  refine (Calls.mono C3.out ?_);rintro z w7 hz;obtain ⟨rfl,B7⟩:=hz.to;have B07:=bel B06 B7;have V7:=hst V6 B7;clear hz x0 x1 x2 x3 x4 x5 x6 x7;cases b3
  case false=>
    go_wp2_with fail
    go_ret
    exact .no rfl (fun h=>by have h:=(HP.out.1 h).2;rw [HQ.out] at h;cases h) B07.out
  have C4:=Hid.out (p:=Hid _) (H4.out (HG.out HQQ.out) w7 B07.out);obtain ⟨⟨x0,x1,x2,x3,x4,x5,x6,x7⟩,_⟩:=val_cells V7.out;go_wp2_with fail
  refine (Calls.mono C4.out ?_);rintro z w8 hz;obtain ⟨rfl,B8⟩:=hz.to;have B08:=bel B07 B8;clear hz x0 x1 x2 x3 x4 x5 x6 x7;go_wp2_with fail
  go_ret
  exact ⟨b4,by simp,⟨fun h=>HP.out.2 ⟨HQQ.out,by rw [HQ.out,h];rfl⟩,fun h=>by have h:=(HP.out.1 h).2;rw [HQ.out] at h;exact h⟩,B08.out⟩
def fdCells (F:List Fd):List Value:=F.flatMap fun x=>.string x.1::x.2.1.cells
theorem fdCells_at:∀ (F:List Fd) (i:Nat) (h:i<F.length) (c:Nat),c<9->(fdCells F)[i*9+c]?=(Value.string F[i].1::F[i].2.1.cells)[c]?
  | x::t,0,h,c,hc=>by
    have e:(Value.string x.1::x.2.1.cells).length=9:=rfl;rw [fdCells,List.flatMap_cons,Nat.zero_mul,Nat.zero_add,List.getElem?_append_left (by omega)];rfl
  | x::t,i+1,h,c,hc=>by
    have e:(Value.string x.1::x.2.1.cells).length=9:=rfl;rw [fdCells,List.flatMap_cons,List.getElem?_append_right (by omega),e,show (i+1)*9+c-9=i*9+c by omega];exact fdCells_at t i (by simpa using h) c hc
theorem fds_of {w:World} {b:Nat} {F:List Fd} {T:TypeId} (h:w.heap[b]?=some (.cells (fdCells F).toArray T (0,0))):FdsAt w b F:=fun i hi=>by
  have k:∀ c,c<9->w.cell? ⟨b,i*9+c,none⟩=(Value.string F[i].1::F[i].2.1.cells)[c]?:=fun c hc=>by
    rw [cell_of h,List.getElem?_toArray];exact fdCells_at F i hi c hc
  refine ⟨k 0 (by omega),fun j u hu=>?_⟩;have hj:j<8:=(List.getElem?_eq_some_iff.1 hu).1;rw [show i*9+1+j=i*9+(j+1) by omega,k (j+1) (by omega),List.getElem?_cons_succ];exact hu
theorem fds2 (w:World) (k1 k2:ByteArray) (r1 r2:Raw) (t1 t2:JV):∃ w1,w.alloc (.cells #[.string k1,.int .i64 r1.kind,.bool r1.is,.bool r1.neg,.string r1.dig,.int .i64 r1.exp,.string r1.str,.slice r1.ka r1.kn r1.kc,.slice r1.va r1.vn r1.vc,.string k2,.int .i64 r2.kind,.bool r2.is,.bool r2.neg,.string r2.dig,.int .i64 r2.exp,.string r2.str,.slice r2.ka r2.kn r2.kc,.slice r2.va r2.vn r2.vc] 60)=w1/\Hid (FdsAt w1 w.heap.size [(k1,r1,t1),(k2,r2,t2)])/\Hid (Below w.heap.size w w1):=
  ⟨_,rfl,fds_of (F:=[(k1,r1,t1),(k2,r2,t2)]) (heap_alloc_new _ _),(Below.refl _ _).alloc (Nat.le_refl _) _⟩
theorem fds3 (w:World) (k1 k2 k3:ByteArray) (r1 r2 r3:Raw) (t1 t2 t3:JV):∃ w1,w.alloc (.cells #[.string k1,.int .i64 r1.kind,.bool r1.is,.bool r1.neg,.string r1.dig,.int .i64 r1.exp,.string r1.str,.slice r1.ka r1.kn r1.kc,.slice r1.va r1.vn r1.vc,.string k2,.int .i64 r2.kind,.bool r2.is,.bool r2.neg,.string r2.dig,.int .i64 r2.exp,.string r2.str,.slice r2.ka r2.kn r2.kc,.slice r2.va r2.vn r2.vc,.string k3,.int .i64 r3.kind,.bool r3.is,.bool r3.neg,.string r3.dig,.int .i64 r3.exp,.string r3.str,.slice r3.ka r3.kn r3.kc,.slice r3.va r3.vn r3.vc] 60)=w1/\Hid (FdsAt w1 w.heap.size [(k1,r1,t1),(k2,r2,t2),(k3,r3,t3)])/\Hid (Below w.heap.size w w1):=
  ⟨_,rfl,fds_of (F:=[(k1,r1,t1),(k2,r2,t2),(k3,r3,t3)]) (heap_alloc_new _ _),(Below.refl _ _).alloc (Nat.le_refl _) _⟩
theorem fds4 (w:World) (k1 k2 k3 k4:ByteArray) (r1 r2 r3 r4:Raw) (t1 t2 t3 t4:JV):∃ w1,w.alloc (.cells #[.string k1,.int .i64 r1.kind,.bool r1.is,.bool r1.neg,.string r1.dig,.int .i64 r1.exp,.string r1.str,.slice r1.ka r1.kn r1.kc,.slice r1.va r1.vn r1.vc,.string k2,.int .i64 r2.kind,.bool r2.is,.bool r2.neg,.string r2.dig,.int .i64 r2.exp,.string r2.str,.slice r2.ka r2.kn r2.kc,.slice r2.va r2.vn r2.vc,.string k3,.int .i64 r3.kind,.bool r3.is,.bool r3.neg,.string r3.dig,.int .i64 r3.exp,.string r3.str,.slice r3.ka r3.kn r3.kc,.slice r3.va r3.vn r3.vc,.string k4,.int .i64 r4.kind,.bool r4.is,.bool r4.neg,.string r4.dig,.int .i64 r4.exp,.string r4.str,.slice r4.ka r4.kn r4.kc,.slice r4.va r4.vn r4.vc] 60)=w1/\Hid (FdsAt w1 w.heap.size [(k1,r1,t1),(k2,r2,t2),(k3,r3,t3),(k4,r4,t4)])/\Hid (Below w.heap.size w w1):=
  ⟨_,rfl,fds_of (F:=[(k1,r1,t1),(k2,r2,t2),(k3,r3,t3),(k4,r4,t4)]) (heap_alloc_new _ _),(Below.refl _ _).alloc (Nat.le_refl _) _⟩
theorem kid1 (w:World) (r:Raw):∃ w1,w.alloc (.cells #[.int .i64 r.kind,.bool r.is,.bool r.neg,.string r.dig,.int .i64 r.exp,.string r.str,.slice r.ka r.kn r.kc,.slice r.va r.vn r.vc] 29)=w1/\Hid (w1.heap[w.heap.size]?=some (.cells r.arr 29 (0,0)))/\Hid (Below w.heap.size w w1):=own8 w r
theorem kp {w w':World} {A:Nat->Prop} {z:Raw} {t:JV} (h:Hid (IsV w A z t)) (e:Hid (Below w.heap.size w w')):Hid (IsV w' A z t):=h.out.behind e.out
theorem kn {w w':World} {A:Nat->Prop} {z:Raw} {t:JV} (h:Hid (IsV w A z t)) (e:Hid (Below w.heap.size w w')):Hid (IsV w' (fun b=>A b/\b≠w.heap.size) z t):=
  h.out.turn ⟨e.out.size,fun b hb hl=>⟨e.out.block b hl,hb,by omega⟩⟩
theorem dn {w:World} {A:Nat->Prop} {z:Raw} {t:JV} {b:Nat} (h:Hid (IsV w A z t)) (hA:∀ k,A k->k≠b) (x0 x1 x2 x3 x4 x5 x6 x7:Value):IsV ((((((((w.setCell ⟨b,0,none⟩ x0).setCell ⟨b,1,none⟩ x1).setCell ⟨b,2,none⟩ x2).setCell ⟨b,3,none⟩ x3).setCell ⟨b,4,none⟩ x4).setCell ⟨b,5,none⟩ x5).setCell ⟨b,6,none⟩ x6).setCell ⟨b,7,none⟩ x7) (fun _=>True) z t:=
  h.out.turn ⟨(gb8 _ _ _ _ _ _ _ _ _ _).size,fun k hk hl=>⟨(gb8 _ _ _ _ _ _ _ _ _ _).block _ hl (fun e=>by injection e with e;exact hA k hk e),trivial⟩⟩
theorem vtext (s:ByteArray) (A:Nat->Prop) (w:World):Calls Tryz.prog 46 #[.string s] w (ValP (strV s) A w):=
  (otext_any s w).mono fun e w' h=>⟨strR s,h.1,strR_is _ _ _,h.2⟩
theorem vnum (n:Nat) (hn:n<18446744073709551616) (A:Nat->Prop) (w:World) (T:Jdec.Pow10 w):Calls Tryz.prog 48 #[.int .u64 n] w (ValP (numV n) A w):=
  (onumber_any n hn w T).mono fun e w' h=>⟨One.numR n,h.1,numR_is _ _ _,h.2⟩
theorem lst1 {w:World} {A:Nat->Prop} {z:Raw} {t:JV} {b:Nat} (V:Hid (w.heap[b]?=some (.cells z.arr 29 (0,0)))) (h:Hid (IsV w A z t)) (hA:A b):IsV w A (lstR (some ⟨b,0,none⟩) 1 1) (listOf [t]):=
  .mk (lstR (some ⟨b,0,none⟩) 1 1) [] [t] (fun _=>z) rfl rfl (.inl rfl) (.inr ⟨b,0,rfl,hA,heap_lt V.out,fun i hi j u hu=>by
    have:i=0:=by simpa using hi
    subst this;exact Jdec.cellsIn V.out j u hu |> fun h=>by simpa using h⟩) (fun i hi=>by
    have:i=0:=by simpa using hi
    subst this;exact h.out)
theorem vlist {w:World} {A:Nat->Prop} {z:Raw} {t:JV} {b:Nat} (V:Hid (w.heap[b]?=some (.cells z.arr 29 (0,0)))) (h:Hid (IsV w A z t)) (hA:A b):Calls Tryz.prog 45 #[.slice (some ⟨b,0,none⟩) 1 1] w (ValP (listOf [t]) A w):=
  (olist_any (some ⟨b,0,none⟩) 1 1 w).mono fun e w' k=>⟨lstR (some ⟨b,0,none⟩) 1 1,k.1,(lst1 V h hA).behind k.2.out,k.2.out⟩
theorem vcopy {t:JV} (hg:GoodQ t) (hm:t.mass<=3000) {z:Raw} {A B:Nat->Prop} {w:World} (h:Hid (IsV w B z t)) (hA:∀ b,w.heap.size<=b->A b):Calls Tryz.prog 47 #[z.val] w (ValP t A w):=
  (copy_any t hg hm z B w h.out).mono fun e w' k=>by
    obtain ⟨r,h1,h2,h3⟩:=k.to;exact ⟨r,h1,h2.out.isV _ fun b hb=>hA b hb.1,h3.out⟩
theorem oempty_any (n:Nat) (hn:n<18446744073709551616) (w:World) (T:Jdec.Pow10 w):Calls Tryz.prog 38 #[.int .u64 n] w (ValP (emptyJ n) (fun _=>True) w):=by
  obtain ⟨w2,hw2,V2,B2⟩:=own8 w Raw.zero;obtain ⟨C,hC⟩:∃ C:Nat->Prop,(fun b=>b≠w.heap.size)=C:=⟨_,rfl⟩;have HC:Hid (∀ k,C k->k≠w.heap.size):=by rw [<-hC];exact fun _ h=>h
  have hl2:=heap_lt V2.out;have HA:Hid (∀ b,w2.heap.size<=b->C b):=by rw [<-hC];exact fun b h=>by show b≠_;omega
  have HN:Hid (∀ m:Nat,m<18446744073709551616->∀ w',Below w.heap.size w w'->Calls Tryz.prog 48 #[.int .u64 m] w' (ValP (numV m) C w')):=fun m hm w' h=>vnum m hm C w' (T.stays h);have h1:=HN.out 1 (by omega) w2 B2.out;have H1:=Hid.out (p:=Hid _) h1;have HNN:=Hid.out (p:=Hid _) hn;clear hC T h1 hn
  dsimp only [Raw.zero] at hw2
  go_enter Tryz.func38,Tryz.ntmps38
  go_wp2_with fail
  refine (Calls.mono H1.out ?_);rintro z w3 hz;obtain ⟨z1,rfl,I1,E3⟩:=hz.to;have B3:=bel B2 E3;have H2:=Hid.out (p:=Hid _) (HN.out n HNN.out w3 B3.out);clear hz hw2 H1;unfold Raw.val;go_wp2_with fail
  refine (Calls.mono H2.out ?_);rintro z w4 hz;obtain ⟨z2,rfl,I2,E4⟩:=hz.to;have B4:=bel B3 E4;have I1:=kp I1 E4;have hs4:=(bel E3 E4).out.size;have H3:=Hid.out (p:=Hid _) (object_any [] 0 0 C w4 (fun h=>absurd rfl h) (fun i h=>absurd h (Nat.not_lt_zero _)) (fun x hx=>by cases hx) (by decide) (fun b hb=>HA.out b (by omega)) none (fun h=>absurd rfl h));clear hz H2 hs4;unfold Raw.val;go_wp2_with fail
  refine (Calls.mono H3.out ?_);rintro z w5 hz;obtain ⟨z3,rfl,I3,E5⟩:=hz.to;have B5:=bel B4 E5;have I1:=kp I1 E5;have I2:=kp I2 E5;obtain ⟨w6,hw6,X6,E6⟩:=fds3 w5 kVer kSer kRes z1 z2 z3 (numV 1) (numV n) (objectOf [] []);have B6:=bel B5 E6;have I1:=kp I1 E6;have I2:=kp I2 E6;have I3:=kp I3 E6;have hl5:w5.heap.size<w6.heap.size:=by rw [<-hw6];simp
  have hs6:=(bel (bel (bel E3 E4) E5) E6).out.size;have H4:=Hid.out (p:=Hid _) (object_any [(kVer,z1,numV 1),(kSer,z2,numV n),(kRes,z3,objectOf [] [])] w5.heap.size 3 C w6 (fun _=>hl5) X6.out (fun x hx=>by
    simp only [List.mem_cons,List.mem_nil_iff,or_false] at hx
    rcases hx with rfl | rfl | rfl
    · exact I1.out
    · exact I2.out
    · exact I3.out) (by simp) (fun b hb=>HA.out b (by omega)) (some ⟨w5.heap.size,0,none⟩) (fun _=>rfl))
  clear hz H3 hs6 hl5;unfold kVer kSer kRes at hw6;unfold Raw.val;go_wp2_with fail
  refine (Calls.mono H4.out ?_);rintro z w7 hz;obtain ⟨z4,rfl,I4,E7⟩:=hz.to;have B7:=bel B6 E7;have V7:=hst (hst (hst (hst (hst V2 E3) E4) E5) E6) E7;clear hz H4 hw6;unfold Raw.val;obtain ⟨⟨r0,r1,r2,r3,r4,r5,r6,r7⟩,g0,g1,g2,g3,g4,g5,g6,g7⟩:=val_cells V7.out;go_wp2_with fail
  refine val_ret (a:=z4) (b:=w.heap.size) rfl (set8 V7.out z4) rfl ?_;exact ⟨z4,rfl,dn I4 HC.out _ _ _ _ _ _ _ _,below8 B7.out (Nat.le_refl _) _ _ _ _ _ _ _ _⟩
end Go.Proofs.YtliekocamnklfaaGreatDoor.One
