/- The values of a text are no longer than it. -/
import Derived.Test.YtliekocamnklfaaGreatDoorKJdecP
import Derived.Test.YtliekocamnklfaaGreatDoorKRefD
set_option linter.unusedVariables false
set_option linter.unusedSimpArgs false
set_option maxRecDepth 100000
set_option maxHeartbeats 8000000
namespace Go.Proofs.YtliekocamnklfaaGreatDoor.Jdec
inductive Small (N:Nat):JV->Prop where
  | mk (k:Int) (i n:Bool) (d:ByteArray) (e:Int) (s:ByteArray) (ks:List ByteArray) (vs:List JV):ks.length<=N->vs.length<=N->(∀ j (h:j<vs.length),Small N vs[j])->Small N (.mk k i n d e s ks vs)
open Go.RowKit Strs
theorem texts_eq (ks:List ByteArray) (A A':Nat->Prop) (ka ka':Option Addr) (kc kc':Nat) (w:World) (h:IsTexts w A ka ks) (h':IsTexts w A' ka' ks) (hl:ks.length<=4611686018427387904):Calls Tryz.prog 49 #[.slice ka ks.length kc,.slice ka' ks.length kc'] w fun e w'=>e=.returned (.bool true)/\∃ n,w'=w.drewN n:=by
  have H:=Hid.out (p:=Hid _) h;have H':=Hid.out (p:=Hid _) h';clear h h';go_enter Tryz.func49,Tryz.ntmps49
  go_wp2_with fail
  go_loopw [5] (fun p wr=>∃ i n:Nat,p=.int .i64 i/\i<=ks.length/\wr=w.drewN n) (fun p _=>ks.length-(intOf p).toNat)
  case atStart=>exact ⟨0,0,rfl,Nat.zero_le _,rfl⟩
  case round=>
    obtain ⟨i,n,rfl,hi,rfl⟩:=hrel;by_cases hlt:i<ks.length
    · have hne:ks≠[]:=fun e=>by rw [e] at hlt;simp at hlt
      obtain ⟨b,o,rfl,_,_,hc⟩:=H.out.resolve_left hne;obtain ⟨b',o',rfl,_,_,hc'⟩:=H'.out.resolve_left hne;have k2:=hc i hlt;have g2:=hc' i hlt;generalize ks[i]=x at *;have q2:(x.toList != x.toList)=false:=by simp
      clear hc hc';go_wp2_with fail
      go_quiet (fail)
      go_wp2_with fail
      go_roundw
      case rel=>exact ⟨i+1,_,by go_num,by omega,rfl⟩
      case measure=>simp [intOf];omega
    · go_wp2_with fail
      go_ret
      exact ⟨rfl,n,rfl⟩
theorem CellsAt.below {w w':World} {b o:Nat} {r:Raw} (h:CellsAt w b o r) (hb:b<w.heap.size) (g:Below w.heap.size w w'):CellsAt w' b o r:=fun j u hu=>(World.cell?_of_block (g.block b hb)).trans (h j u hu)
theorem CellsAt.eight {w:World} {b o:Nat} {r:Raw} (h:CellsAt w b o r):w.cell? ⟨b,o,none⟩=some (.int .i64 r.kind)/\w.cell? ⟨b,o+1,none⟩=some (.bool r.is)/\w.cell? ⟨b,o+2,none⟩=some (.bool r.neg)/\w.cell? ⟨b,o+3,none⟩=some (.string r.dig)/\w.cell? ⟨b,o+4,none⟩=some (.int .i64 r.exp)/\w.cell? ⟨b,o+5,none⟩=some (.string r.str)/\w.cell? ⟨b,o+6,none⟩=some (.slice r.ka r.kn r.kc)/\w.cell? ⟨b,o+7,none⟩=some (.slice r.va r.vn r.vc):=
  ⟨h 0 _ rfl,h 1 _ rfl,h 2 _ rfl,h 3 _ rfl,h 4 _ rfl,h 5 _ rfl,h 6 _ rfl,h 7 _ rfl⟩
theorem IsV.parts {w:World} {A:Nat->Prop} {r:Raw} {k:Int} {i n:Bool} {d:ByteArray} {e:Int} {s:ByteArray} {ks:List ByteArray} {vs:List JV} (h:IsV w A r (.mk k i n d e s ks vs)):∃ ka kc va vc,r=Raw.mk k i n d e s ka ks.length kc va vs.length vc/\IsTexts w A ka ks/\∃ f:Nat->Raw,(vs=[]∨∃ b o,va=some ⟨b,o,none⟩/\b<w.heap.size/\∀ i,i<vs.length->CellsAt w b (o+i*8) (f i))/\∀ i (h:i<vs.length),IsV w A (f i) vs[i]:=by
  generalize hz:JV.mk k i n d e s ks vs=z at h
  cases h with
  | mk _ keys kids f h1 h2 h3 h4 h5=>
    injection hz with e1 e2 e3 e4 e5 e6 e7 e8
    subst e7 e8;obtain ⟨kd,is,ng,dg,ex,st,ka,kn,kc,va,vn,vc⟩:=r;simp only at h1 h2 e1 e2 e3 e4 e5 e6
    subst e1 e2 e3 e4 e5 e6 h1 h2;refine ⟨ka,kc,va,vc,rfl,h3,f,?_,h5⟩;rcases h4 with h4 | ⟨b,o,q1,_,q3,q4⟩
    · exact .inl h4
    · exact .inr ⟨b,o,q1,q3,q4⟩
theorem IsV.behind {w w':World} {A:Nat->Prop} {r:Raw} {t:JV} (h:IsV w A r t) (g:Below w.heap.size w w'):IsV w' A r t:=h.turn (Turn.below g)
def Alike (t:JV):Prop:=∀ (ra rb:Raw) (A A':Nat->Prop) (w:World),IsV w A ra t->IsV w A' rb t->Calls Tryz.prog 17 #[ra.val,rb.val] w fun e w'=>e=.returned (.bool true)/\Below w.heap.size w w'
theorem same_keep {w w':World} (g:Below w.drew.heap.size w.drew w') {b j:Nat} {v:Value} (h:w.cell? ⟨b,j,none⟩=some v):w'.cell? ⟨b,j,none⟩=some v:=
  (World.cell?_of_block (w:=w.drew) (a:=⟨b,j,none⟩) (g.block b (World.block_lt_of_cell? w _ h))).trans h
theorem same_step (N:Nat) (hN:N<=4611686018427387904) (k:Int) (is ng:Bool) (d:ByteArray) (e:Int) (s:ByteArray) (ks:List ByteArray) (vs:List JV) (hk:ks.length<=N) (hv:vs.length<=N) (IH:∀ j (h:j<vs.length),Alike vs[j]):Alike (.mk k is ng d e s ks vs):=by
  intro ra rb A A' w h h'
  obtain ⟨ka,kc,va,vc,rfl,ht,f,hc,hi⟩:=h.parts;obtain ⟨ka',kc',va',vc',rfl,ht',f',hc',hi'⟩:=h'.parts;have HIH:=Hid.out (p:=Hid _) IH;have HT:Hid (IsTexts w A ka ks):=ht;have HT':Hid (IsTexts w A' ka' ks):=ht';have HC:=Hid.out (p:=Hid _) hc;have HC':=Hid.out (p:=Hid _) hc';have HI:=Hid.out (p:=Hid _) hi;have HI':=Hid.out (p:=Hid _) hi';clear h h' ht ht' hc hc' hi hi' IH
  dsimp only [Raw.val]
  go_enter Tryz.func17,Tryz.ntmps17
  go_wp2_with fail
  obtain ⟨b1,hb1⟩:∃ b1,w.heap.size=b1:=⟨_,rfl⟩;obtain ⟨w2,hw2⟩:∃ w2,(w.alloc (.cells #[.int .i64 k,.bool is,.bool ng,.string d,.int .i64 e,.string s,.slice ka ks.length kc,.slice va vs.length vc] 29)).alloc (.cells #[.int .i64 k,.bool is,.bool ng,.string d,.int .i64 e,.string s,.slice ka' ks.length kc',.slice va' vs.length vc'] 29)=w2:=⟨_,rfl⟩;have B2:Hid (Below w.heap.size w w2):=by rw [<-hw2];exact ((Below.refl _ _).alloc (Nat.le_refl _) _).alloc (by simp) _
  have V1:Hid (w2.heap[b1]?=some (.cells #[.int .i64 k,.bool is,.bool ng,.string d,.int .i64 e,.string s,.slice ka ks.length kc,.slice va vs.length vc] 29 (0,0))):=by rw [<-hw2,<-hb1];exact heap_alloc_old (heap_alloc_new _ _)
  have V2:Hid (w2.heap[b1+1]?=some (.cells #[.int .i64 k,.bool is,.bool ng,.string d,.int .i64 e,.string s,.slice ka' ks.length kc',.slice va' vs.length vc'] 29 (0,0))):=by
    have:=heap_alloc_new (w.alloc (.cells #[.int .i64 k,.bool is,.bool ng,.string d,.int .i64 e,.string s,.slice ka ks.length kc,.slice va vs.length vc] 29)) (.cells #[.int .i64 k,.bool is,.bool ng,.string d,.int .i64 e,.string s,.slice ka' ks.length kc',.slice va' vs.length vc'] 29);rw [show (w.alloc (.cells #[.int .i64 k,.bool is,.bool ng,.string d,.int .i64 e,.string s,.slice ka ks.length kc,.slice va vs.length vc] 29)).heap.size=w.heap.size+1 by simp] at this;rw [<-hw2,<-hb1];exact this
  have HT2:Hid (IsTexts w2 A ka ks):=HT.out.turn (Turn.below B2.out);have HT2':Hid (IsTexts w2 A' ka' ks):=HT'.out.turn (Turn.below B2.out);rw [hw2,hb1];have HB1:=Hid.out (p:=Hid _) hb1;clear hw2 hb1 HT HT';refine (texts_eq ks A A' ka ka' kc kc' w2 HT2.out HT2'.out (by omega)).mono ?_;rintro x w3 ⟨rfl,n3,rfl⟩;have c16:w2.cell? ⟨b1,7,none⟩=some (.slice va vs.length vc):=cell_of V1.out 7;have c26:w2.cell? ⟨b1+1,7,none⟩=some (.slice va' vs.length vc'):=cell_of V2.out 7;have B3:Hid (Below w.heap.size w (w2.drewN n3)):=B2.out.trans (below_drewN _ _ _);have V13:Hid ((w2.drewN n3).heap[b1]?=some (.cells #[.int .i64 k,.bool is,.bool ng,.string d,.int .i64 e,.string s,.slice ka ks.length kc,.slice va vs.length vc] 29 (0,0))):=V1.out;have V23:Hid ((w2.drewN n3).heap[b1+1]?=some (.cells #[.int .i64 k,.bool is,.bool ng,.string d,.int .i64 e,.string s,.slice ka' ks.length kc',.slice va' vs.length vc'] 29 (0,0))):=V2.out;have c1:(w2.drewN n3).cell? ⟨b1,7,none⟩=some (.slice va vs.length vc):=cell_of V13.out 7;have c2:(w2.drewN n3).cell? ⟨b1+1,7,none⟩=some (.slice va' vs.length vc'):=cell_of V23.out 7;clear HT2 HT2' c16 c26 V1 V2 B2;generalize w2.drewN n3=w3 at *;go_wp2_with fail
  go_loopw [5] (fun p wr=>∃ i:Nat,p=.int .i64 i/\i<=vs.length/\Hid (Below w3.heap.size w3 wr)) (fun p _=>vs.length-(intOf p).toNat)
  case atStart=>exact ⟨0,rfl,Nat.zero_le _,Below.refl _ _⟩
  case round=>
    obtain ⟨i,rfl,hi,hB⟩:=hrel;have hs3:b1+1<w3.heap.size:=heap_lt V23.out;have V14:=Hid.out (p:=Hid _) ((hB.out.block b1 (by omega)).trans V13.out);have V24:=Hid.out (p:=Hid _) ((hB.out.block (b1+1) hs3).trans V23.out);have d1:wr.cell? ⟨b1,7,none⟩=some (.slice va vs.length vc):=cell_of V14.out 7;have d2:wr.cell? ⟨b1+1,7,none⟩=some (.slice va' vs.length vc'):=cell_of V24.out 7;by_cases hlt:i<vs.length
    · have hne:vs≠[]:=fun e=>by rw [e] at hlt;simp at hlt
      obtain ⟨g,o,rfl,hg,hcs⟩:=HC.out.resolve_left hne;obtain ⟨g',o',rfl,hg',hcs'⟩:=HC'.out.resolve_left hne;have Bw:Hid (Below w.heap.size w wr):=B3.out.trans (hB.out.mono B3.out.size);have K1:=Hid.out (p:=Hid _) ((hcs i hlt).below hg Bw.out);have K2:=Hid.out (p:=Hid _) ((hcs' i hlt).below hg' Bw.out);have I1:=Hid.out (p:=Hid _) ((HI.out i hlt).behind Bw.out);have I2:=Hid.out (p:=Hid _) ((HI'.out i hlt).behind Bw.out);have hal:=HIH.out i hlt;have HAL:=Hid.out (p:=Hid _) hal;clear hcs hcs' hal;generalize f i=x at *;generalize f' i=y at *;have K1c:CellsAt wr g (o+i*8) x:=K1.out;have K2c:CellsAt wr g' (o'+i*8) y:=K2.out;obtain ⟨u0,u1,u2,u3,u4,u5,u6,u7⟩:=K1c.eight;obtain ⟨v0,v1,v2,v3,v4,v5,v6,v7⟩:=K2c.eight;have hcall:=HAL.out x y A A' wr.drew (I1.out.behind ((Below.refl _ _).drew)) (I2.out.behind ((Below.refl _ _).drew));have HCL:=Hid.out (p:=Hid _) hcall;clear K1 K2 K1c K2c I1 I2 HAL hcall V14 V24;go_wp2_with fail
      go_region_held3 (fun w'=>w'.cell? ⟨b1,7,none⟩=some (.slice (some ⟨g,o,none⟩) vs.length vc)/\w'.cell? ⟨b1+1,7,none⟩=some (.slice (some ⟨g',o',none⟩) vs.length vc')/\w'.cell? ⟨g,o+i*8,none⟩=some (.int .i64 x.kind)/\w'.cell? ⟨g,o+i*8+1,none⟩=some (.bool x.is)/\w'.cell? ⟨g,o+i*8+2,none⟩=some (.bool x.neg)/\w'.cell? ⟨g,o+i*8+3,none⟩=some (.string x.dig)/\w'.cell? ⟨g,o+i*8+4,none⟩=some (.int .i64 x.exp)/\w'.cell? ⟨g,o+i*8+5,none⟩=some (.string x.str)/\w'.cell? ⟨g,o+i*8+6,none⟩=some (.slice x.ka x.kn x.kc)/\w'.cell? ⟨g,o+i*8+7,none⟩=some (.slice x.va x.vn x.vc)/\w'.cell? ⟨g',o'+i*8,none⟩=some (.int .i64 y.kind)/\w'.cell? ⟨g',o'+i*8+1,none⟩=some (.bool y.is)/\w'.cell? ⟨g',o'+i*8+2,none⟩=some (.bool y.neg)/\w'.cell? ⟨g',o'+i*8+3,none⟩=some (.string y.dig)/\w'.cell? ⟨g',o'+i*8+4,none⟩=some (.int .i64 y.exp)/\w'.cell? ⟨g',o'+i*8+5,none⟩=some (.string y.str)/\w'.cell? ⟨g',o'+i*8+6,none⟩=some (.slice y.ka y.kn y.kc)/\w'.cell? ⟨g',o'+i*8+7,none⟩=some (.slice y.va y.vn y.vc)) (go_keep)
        ((go_at_call 17;refine (Calls.mono HCL.out ?_);rintro z w5 ⟨rfl,hb5⟩;have kp:=@same_keep _ _ hb5;have d1n:=kp d1;have d2n:=kp d2;have u0n:=kp u0;have u1n:=kp u1;have u2n:=kp u2;have u3n:=kp u3;have u4n:=kp u4;have u5n:=kp u5;have u6n:=kp u6;have u7n:=kp u7;have v0n:=kp v0;have v1n:=kp v1;have v2n:=kp v2;have v3n:=kp v3;have v4n:=kp v4;have v5n:=kp v5;have v6n:=kp v6;have v7n:=kp v7;have B5:Hid (Below w3.heap.size w3 w5):=(hB.out.drew).trans (hb5.mono (by have:=hB.out.size;exact this));clear kp hb5 d1 d2 u0 u1 u2 u3 u4 u5 u6 u7 v0 v1 v2 v3 v4 v5 v6 v7))
      all_goals
        go_wp2_with fail
        go_roundw
        case rel=>exact ⟨i+1,by go_num,by omega,B5.out⟩
        case measure=>simp [intOf];omega
    · go_wp2_with fail
      go_ret
      exact ⟨rfl,B3.out.trans (hB.out.mono B3.out.size)⟩
theorem same_alike (N:Nat) (hN:N<=4611686018427387904) (t:JV) (h:Small N t):Alike t:=by
  induction h with
  | mk k i n d e s ks vs h1 h2 h3 ih=>exact same_step N hN k i n d e s ks vs h1 h2 ih
set_option maxHeartbeats 4000000
theorem deepNs_snoc (v:JV):∀ l:List JV,deepNs (l++[v])=max (deepNs l) v.deepN
  | []=>by rw [List.nil_append,deepNs_cons,deepNs_nil];omega
  | u::l=>by rw [List.cons_append,deepNs_cons,deepNs_snoc v l,deepNs_cons];omega
theorem take_next {vs:List JV} {i:Nat} (h:i<vs.length):vs.take (i+1)=vs.take i++[vs[i]]:=by
  rw [List.take_add_one,List.getElem?_eq_getElem h];rfl
theorem deepNs_take (vs:List JV):∀ i,deepNs (vs.take i)<=deepNs vs:=by
  induction vs with
  | nil=>intro i;simp
  | cons v t ih=>
    intro i
    cases i with
    | zero=>rw [List.take_zero,deepNs_nil];omega
    | succ i=>rw [List.take_succ_cons,deepNs_cons,deepNs_cons];have:=ih i;omega
theorem deepNs_mem (vs:List JV) (j:Nat) (h:j<vs.length):vs[j].deepN<=deepNs vs:=by
  have:=deepNs_take vs (j+1);rw [take_next h,deepNs_snoc] at this;omega
theorem own_new (w:World) (r:Raw):∃ w1,w.alloc (.cells #[.int .i64 r.kind,.bool r.is,.bool r.neg,.string r.dig,.int .i64 r.exp,.string r.str,.slice r.ka r.kn r.kc,.slice r.va r.vn r.vc] 29)=w1 ∧
    Hid (w1.heap[w.heap.size]?=some (.cells #[.int .i64 r.kind,.bool r.is,.bool r.neg,.string r.dig,.int .i64 r.exp,.string r.str,.slice r.ka r.kn r.kc,.slice r.va r.vn r.vc] 29 (0,0)))/\Hid (Below w.heap.size w w1):=
  ⟨_,rfl,heap_alloc_new _ _,(Below.refl _ _).alloc (Nat.le_refl _) _⟩
def DeepC (t:JV):Prop:=∀ (ra:Raw) (A:Nat->Prop) (w:World),IsV w A ra t->Calls Tryz.prog 74 #[ra.val] w fun e w'=>e=.returned (.int .i64 (t.deepN:Nat))/\Below w.heap.size w w'
theorem deep_step (N:Nat) (hN:N<=4611686018427387904) (k:Int) (is ng:Bool) (d:ByteArray) (e:Int) (s:ByteArray) (ks:List ByteArray) (vs:List JV) (hv:vs.length<=N) (hd:(JV.mk k is ng d e s ks vs).deepN<=1000) (IH:∀ j (h:j<vs.length),vs[j].deepN<=1000->DeepC vs[j]):DeepC (.mk k is ng d e s ks vs):=by
  intro ra A w h
  obtain ⟨ka,kc,va,vc,rfl,ht,f,hc,hi⟩:=h.parts;have HIH:=Hid.out (p:=Hid _) IH;have HC:=Hid.out (p:=Hid _) hc;have HI:=Hid.out (p:=Hid _) hi;obtain ⟨T,hT⟩:∃ T,decide (k=5∨k=6)=T:=⟨_,rfl⟩;have HT:=Hid.out (p:=Hid _) hT;have HD:Hid ((JV.mk k is ng d e s ks vs).deepN=(if k=5∨k=6 then deepNs vs else 0)+1):=by rw [Hid,JV.deepN]
  rw [HD.out] at hd;have HDD:=Hid.out (p:=Hid _) hd;clear h ht hc hi IH hT hd;obtain ⟨w2,hw2,V2,B2⟩:=own_new w (Raw.mk k is ng d e s ka ks.length kc va vs.length vc)
  dsimp only at hw2 V2
  dsimp only [Raw.val]
  have c0:w2.cell? ⟨w.heap.size,0,none⟩=some (.int .i64 k):=cell_of V2.out 0;go_enter Tryz.func74,Tryz.ntmps74
  go_upto_region 2 with (fail)
  go_cut [13] from 6 (fun p13 wx=>w2=wx/\p13=.bool T)
  case first=>
    by_cases h5:k=5
    · obtain rfl:true=T:=by rw [<-HT.out,h5];rfl
      have e5:(k == 5)=true:=by rw [h5];rfl
      clear h5;go_wp2_with fail
      go_meet
      exact ⟨rfl,rfl⟩
    · have e5:(k == 5)=false:=by rw [beq_eq_false_iff_ne];exact h5
      by_cases h6:k=6
      · obtain rfl:true=T:=by rw [<-HT.out,h6];rfl
        have e6:(k == 6)=true:=by rw [h6];rfl
        clear h5 h6;go_wp2_with fail
        go_meet
        exact ⟨rfl,rfl⟩
      · obtain rfl:false=T:=by rw [<-HT.out];simp [h5,h6]
        have e6:(k == 6)=false:=by rw [beq_eq_false_iff_ne];exact h6
        clear h5 h6;go_wp2_with fail
        go_meet
        exact ⟨rfl,rfl⟩
  case rest=>
  obtain ⟨rfl,rfl⟩:=hcut;cases T
  case false=>
    have HF:Hid ((JV.mk k is ng d e s ks vs).deepN=1):=by rw [Hid,HD.out,if_neg (of_decide_eq_false HT.out)]
    go_wp2_with fail
    go_ret
    exact ⟨by rw [HF.out];rfl,B2.out⟩
  case true=>
    have hk:=of_decide_eq_true HT.out;have HF:Hid ((JV.mk k is ng d e s ks vs).deepN=deepNs vs+1):=by rw [Hid,HD.out,if_pos hk]
    have h64:deepNs vs+1<=1000:=by have:=HDD.out;rw [if_pos hk] at this;exact this
    have H64:=Hid.out (p:=Hid _) h64;clear hk hw2 c0;go_wp2_with fail
    go_loopw [3,4] (fun p3 p4 wr=>∃ i:Nat,p4=.int .i64 i/\i<=vs.length/\p3=.int .i64 (deepNs (vs.take i):Nat)/\Hid (Below w2.heap.size w2 wr)) (fun _ p4 _=>vs.length-(intOf p4).toNat)
    case atStart=>exact ⟨0,rfl,Nat.zero_le _,by rw [List.take_zero,deepNs_nil];rfl,Below.refl _ _⟩
    case round=>
      obtain ⟨i,rfl,hi,rfl,hB⟩:=hrel;have V4:=Hid.out (p:=Hid _) ((hB.out.block w.heap.size (heap_lt V2.out)).trans V2.out);have d7:wr.cell? ⟨w.heap.size,7,none⟩=some (.slice va vs.length vc):=cell_of V4.out 7;by_cases hlt:i<vs.length
      · have hne:vs≠[]:=fun e=>by rw [e] at hlt;simp at hlt
        obtain ⟨g,o,rfl,hg,hcs⟩:=HC.out.resolve_left hne;have Bw:Hid (Below w.heap.size w wr):=B2.out.trans (hB.out.mono B2.out.size);have K1:=Hid.out (p:=Hid _) ((hcs i hlt).below hg Bw.out);have I1:=Hid.out (p:=Hid _) ((HI.out i hlt).behind Bw.out);have hm:=deepNs_mem vs i hlt;have hcall:=HIH.out i hlt (by have:=H64.out;omega) (f i) A wr I1.out;have hnx:deepNs (vs.take (i+1))=max (deepNs (vs.take i)) vs[i].deepN:=by rw [take_next hlt,deepNs_snoc]
        have htk:=deepNs_take vs i;generalize vs[i].deepN=dv at *;obtain ⟨n,hn⟩:∃ n,deepNs (vs.take i)=n:=⟨_,rfl⟩;rw [hn] at hnx htk;rw [hn];have HNX:=Hid.out (p:=Hid _) hnx;have hn64:n<=1000:=by omega
        have hd64:dv<=1000:=by omega
        clear hcs hn hnx hm htk h64;generalize f i=x at *;have HCL:=Hid.out (p:=Hid _) hcall;have K1c:CellsAt wr g (o+i*8) x:=K1.out;obtain ⟨u0,u1,u2,u3,u4,u5,u6,u7⟩:=K1c.eight;clear K1 K1c hcall I1 V4;go_wp2_with fail
        refine (Calls.mono HCL.out ?_);rintro z w5 ⟨rfl,hb5⟩;have B5:Hid (Below w2.heap.size w2 w5):=hB.out.trans (hb5.mono hB.out.size);clear hb5;by_cases hgt:n<dv
        · have t1:decide ((n:Int)<(dv:Int))=true:=by rw [decide_eq_true_eq];omega
          have t2:decide (n<dv)=true:=by rw [decide_eq_true_eq];omega
          have HNN:Hid (deepNs (vs.take (i+1))=dv):=by rw [Hid,HNX.out];omega
          clear hgt;go_wp2_with fail
          go_roundw
          case rel=>exact ⟨i+1,by go_num,by omega,by rw [HNN.out],B5.out⟩
          case measure=>simp [intOf];omega
        · have t1:decide ((n:Int)<(dv:Int))=false:=by rw [decide_eq_false_iff_not];omega
          have t2:decide (n<dv)=false:=by rw [decide_eq_false_iff_not];omega
          have HNN:Hid (deepNs (vs.take (i+1))=n):=by rw [Hid,HNX.out];omega
          clear hgt;go_wp2_with fail
          go_roundw
          case rel=>exact ⟨i+1,by go_num,by omega,by rw [HNN.out],B5.out⟩
          case measure=>simp [intOf];omega
      · obtain rfl:i=vs.length:=by omega
        rw [List.take_length];have h64':=H64.out;obtain ⟨n,hn⟩:∃ n,deepNs vs=n:=⟨_,rfl⟩;rw [hn] at HF h64' ⊢;clear hn h64;go_wp2_with fail
        go_ret
        exact ⟨by rw [HF.out];go_num,B2.out.trans (hB.out.mono B2.out.size)⟩
theorem deep_any (N:Nat) (hN:N<=4611686018427387904) (t:JV) (h:Small N t):t.deepN<=1000->DeepC t:=by
  induction h with
  | mk k i n d e s ks vs h1 h2 h3 ih=>exact fun hd=>deep_step N hN k i n d e s ks vs h2 hd ih
theorem text_ne {x d:ByteArray} (h:x≠d):(x.toList == d.toList)=false:=by
  rw [beq_eq_false_iff_ne];intro e;apply h;rw [ByteArray.toList_eq,ByteArray.toList_eq] at e;cases x;cases d;simp only [ByteArray.mk.injEq]
  exact Array.toList_inj.1 e
theorem right_size {n:Bool} {l:List UInt8} {x:Int} (h:Num.right n l x=true):l.length<=1000:=by
  unfold Num.right at h;by_cases h0:l=[]
  · rw [h0];exact Nat.zero_le _
  · rw [if_neg h0] at h;by_cases h1:1000<l.length∨x < -10000∨10000<x
    · rw [if_pos h1] at h;cases h
    · omega
end Go.Proofs.YtliekocamnklfaaGreatDoor.Jdec
