/- tabulariumref08.Deep of a value in memory. -/
import Derived.Test.YtliekocamnklfaaGreatDoorPJdecEq
import Derived.Test.YtliekocamnklfaaGreatDoorPRefD
set_option linter.unusedVariables false
set_option linter.unusedSimpArgs false
set_option maxRecDepth 100000
set_option maxHeartbeats 4000000
namespace Go.Proofs.YtliekocamnklfaaGreatDoor.Jdec
open Go.RowKit Strs
theorem deepNs_snoc (v:JV):∀ l:List JV,deepNs (l++[v])=max (deepNs l) v.deepN
  | []=>by rw [List.nil_append,deepNs_cons,deepNs_nil];omega
  | u::l=>by rw [List.cons_append,deepNs_cons,deepNs_snoc v l,deepNs_cons];omega
theorem take_next {vs:List JV} {i:Nat} (h:i<vs.length):vs.take (i+1)=vs.take i++[vs[i]]:=by
  rw [List.take_add_one,List.getElem?_eq_getElem h];rfl
theorem deepNs_take (vs:List JV):∀ i,deepNs (vs.take i)<=deepNs vs:=by
  induction vs with
  | nil=>intro i;simp
  | cons v t ih=>
    intro i
    cases i with
    | zero=>rw [List.take_zero,deepNs_nil];omega
    | succ i=>rw [List.take_succ_cons,deepNs_cons,deepNs_cons];have:=ih i;omega
theorem deepNs_mem (vs:List JV) (j:Nat) (h:j<vs.length):vs[j].deepN<=deepNs vs:=by
  have:=deepNs_take vs (j+1);rw [take_next h,deepNs_snoc] at this;omega
theorem own_new (w:World) (r:Raw):∃ w1,w.alloc (.cells #[.int .i64 r.kind,.bool r.is,.bool r.neg,.string r.dig,.int .i64 r.exp,.string r.str,.slice r.ka r.kn r.kc,.slice r.va r.vn r.vc] 29)=w1 ∧
    Hid (w1.heap[w.heap.size]?=some (.cells #[.int .i64 r.kind,.bool r.is,.bool r.neg,.string r.dig,.int .i64 r.exp,.string r.str,.slice r.ka r.kn r.kc,.slice r.va r.vn r.vc] 29 (0,0)))/\Hid (Below w.heap.size w w1):=
  ⟨_,rfl,heap_alloc_new _ _,(Below.refl _ _).alloc (Nat.le_refl _) _⟩
def DeepC (t:JV):Prop:=∀ (ra:Raw) (A:Nat->Prop) (w:World),IsV w A ra t->Calls Tryz.prog 74 #[ra.val] w fun e w'=>e=.returned (.int .i64 (t.deepN:Nat))/\Below w.heap.size w w'
theorem deep_step (N:Nat) (hN:N<=4611686018427387904) (k:Int) (is ng:Bool) (d:ByteArray) (e:Int) (s:ByteArray) (ks:List ByteArray) (vs:List JV) (hv:vs.length<=N) (hd:(JV.mk k is ng d e s ks vs).deepN<=1000) (IH:∀ j (h:j<vs.length),vs[j].deepN<=1000->DeepC vs[j]):DeepC (.mk k is ng d e s ks vs):=by
  intro ra A w h
  obtain ⟨ka,kc,va,vc,rfl,ht,f,hc,hi⟩:=h.parts;have HIH:=Hid.out (p:=Hid _) IH;have HC:=Hid.out (p:=Hid _) hc;have HI:=Hid.out (p:=Hid _) hi;obtain ⟨T,hT⟩:∃ T,decide (k=5∨k=6)=T:=⟨_,rfl⟩;have HT:=Hid.out (p:=Hid _) hT;have HD:Hid ((JV.mk k is ng d e s ks vs).deepN=(if k=5∨k=6 then deepNs vs else 0)+1):=by rw [Hid,JV.deepN]
  rw [HD.out] at hd;have HDD:=Hid.out (p:=Hid _) hd;clear h ht hc hi IH hT hd;obtain ⟨w2,hw2,V2,B2⟩:=own_new w (Raw.mk k is ng d e s ka ks.length kc va vs.length vc)
  dsimp only at hw2 V2
  dsimp only [Raw.val]
  have c0:w2.cell? ⟨w.heap.size,0,none⟩=some (.int .i64 k):=cell_of V2.out 0;go_enter Tryz.func74,Tryz.ntmps74
  go_upto_region 2 with (fail)
  go_cut [13] from 6 (fun p13 wx=>w2=wx/\p13=.bool T)
  case first=>
    by_cases h5:k=5
    · obtain rfl:true=T:=by rw [<-HT.out,h5];rfl
      have e5:(k == 5)=true:=by rw [h5];rfl
      clear h5;go_wp2_with fail
      go_meet
      exact ⟨rfl,rfl⟩
    · have e5:(k == 5)=false:=by rw [beq_eq_false_iff_ne];exact h5
      by_cases h6:k=6
      · obtain rfl:true=T:=by rw [<-HT.out,h6];rfl
        have e6:(k == 6)=true:=by rw [h6];rfl
        clear h5 h6;go_wp2_with fail
        go_meet
        exact ⟨rfl,rfl⟩
      · obtain rfl:false=T:=by rw [<-HT.out];simp [h5,h6]
        have e6:(k == 6)=false:=by rw [beq_eq_false_iff_ne];exact h6
        clear h5 h6;go_wp2_with fail
        go_meet
        exact ⟨rfl,rfl⟩
  case rest=>
  obtain ⟨rfl,rfl⟩:=hcut;cases T
  case false=>
    have HF:Hid ((JV.mk k is ng d e s ks vs).deepN=1):=by rw [Hid,HD.out,if_neg (of_decide_eq_false HT.out)]
    go_wp2_with fail
    go_ret
    exact ⟨by rw [HF.out];rfl,B2.out⟩
  case true=>
    have hk:=of_decide_eq_true HT.out;have HF:Hid ((JV.mk k is ng d e s ks vs).deepN=deepNs vs+1):=by rw [Hid,HD.out,if_pos hk]
    have h64:deepNs vs+1<=1000:=by have:=HDD.out;rw [if_pos hk] at this;exact this
    have H64:=Hid.out (p:=Hid _) h64;clear hk hw2 c0;go_wp2_with fail
    go_loopw [3,4] (fun p3 p4 wr=>∃ i:Nat,p4=.int .i64 i/\i<=vs.length/\p3=.int .i64 (deepNs (vs.take i):Nat)/\Hid (Below w2.heap.size w2 wr)) (fun _ p4 _=>vs.length-(intOf p4).toNat)
    case atStart=>exact ⟨0,rfl,Nat.zero_le _,by rw [List.take_zero,deepNs_nil];rfl,Below.refl _ _⟩
    case round=>
      obtain ⟨i,rfl,hi,rfl,hB⟩:=hrel;have V4:=Hid.out (p:=Hid _) ((hB.out.block w.heap.size (heap_lt V2.out)).trans V2.out);have d7:wr.cell? ⟨w.heap.size,7,none⟩=some (.slice va vs.length vc):=cell_of V4.out 7;by_cases hlt:i<vs.length
      · have hne:vs≠[]:=fun e=>by rw [e] at hlt;simp at hlt
        obtain ⟨g,o,rfl,hg,hcs⟩:=HC.out.resolve_left hne;have Bw:Hid (Below w.heap.size w wr):=B2.out.trans (hB.out.mono B2.out.size);have K1:=Hid.out (p:=Hid _) ((hcs i hlt).below hg Bw.out);have I1:=Hid.out (p:=Hid _) ((HI.out i hlt).behind Bw.out);have hm:=deepNs_mem vs i hlt;have hcall:=HIH.out i hlt (by have:=H64.out;omega) (f i) A wr I1.out;have hnx:deepNs (vs.take (i+1))=max (deepNs (vs.take i)) vs[i].deepN:=by rw [take_next hlt,deepNs_snoc]
        have htk:=deepNs_take vs i;generalize vs[i].deepN=dv at *;obtain ⟨n,hn⟩:∃ n,deepNs (vs.take i)=n:=⟨_,rfl⟩;rw [hn] at hnx htk;rw [hn];have HNX:=Hid.out (p:=Hid _) hnx;have hn64:n<=1000:=by omega
        have hd64:dv<=1000:=by omega
        clear hcs hn hnx hm htk h64;generalize f i=x at *;have HCL:=Hid.out (p:=Hid _) hcall;have K1c:CellsAt wr g (o+i*8) x:=K1.out;obtain ⟨u0,u1,u2,u3,u4,u5,u6,u7⟩:=K1c.eight;clear K1 K1c hcall I1 V4;go_wp2_with fail
        refine (Calls.mono HCL.out ?_);rintro z w5 ⟨rfl,hb5⟩;have B5:Hid (Below w2.heap.size w2 w5):=hB.out.trans (hb5.mono hB.out.size);clear hb5;by_cases hgt:n<dv
        · have t1:decide ((n:Int)<(dv:Int))=true:=by rw [decide_eq_true_eq];omega
          have t2:decide (n<dv)=true:=by rw [decide_eq_true_eq];omega
          have HNN:Hid (deepNs (vs.take (i+1))=dv):=by rw [Hid,HNX.out];omega
          clear hgt;go_wp2_with fail
          go_roundw
          case rel=>exact ⟨i+1,by go_num,by omega,by rw [HNN.out],B5.out⟩
          case measure=>simp [intOf];omega
        · have t1:decide ((n:Int)<(dv:Int))=false:=by rw [decide_eq_false_iff_not];omega
          have t2:decide (n<dv)=false:=by rw [decide_eq_false_iff_not];omega
          have HNN:Hid (deepNs (vs.take (i+1))=n):=by rw [Hid,HNX.out];omega
          clear hgt;go_wp2_with fail
          go_roundw
          case rel=>exact ⟨i+1,by go_num,by omega,by rw [HNN.out],B5.out⟩
          case measure=>simp [intOf];omega
      · obtain rfl:i=vs.length:=by omega
        rw [List.take_length];have h64':=H64.out;obtain ⟨n,hn⟩:∃ n,deepNs vs=n:=⟨_,rfl⟩;rw [hn] at HF h64' ⊢;clear hn h64;go_wp2_with fail
        go_ret
        exact ⟨by rw [HF.out];go_num,B2.out.trans (hB.out.mono B2.out.size)⟩
theorem deep_any (N:Nat) (hN:N<=4611686018427387904) (t:JV) (h:Small N t):t.deepN<=1000->DeepC t:=by
  induction h with
  | mk k i n d e s ks vs h1 h2 h3 ih=>exact fun hd=>deep_step N hN k i n d e s ks vs h2 hd ih
theorem text_ne {x d:ByteArray} (h:x≠d):(x.toList == d.toList)=false:=by
  rw [beq_eq_false_iff_ne];intro e;apply h;rw [ByteArray.toList_eq,ByteArray.toList_eq] at e;cases x;cases d;simp only [ByteArray.mk.injEq]
  exact Array.toList_inj.1 e
theorem right_size {n:Bool} {l:List UInt8} {x:Int} (h:Num.right n l x=true):l.length<=1000:=by
  unfold Num.right at h;by_cases h0:l=[]
  · rw [h0];exact Nat.zero_le _
  · rw [if_neg h0] at h;by_cases h1:1000<l.length∨x < -10000∨10000<x
    · rw [if_pos h1] at h;cases h
    · omega
set_option maxHeartbeats 8000000
def keysRoom:List ByteArray->Int->Option Int
  | [],l=>some l
  | k::t,l=>if l<0 then some l else if 2000<k.size then none else keysRoom t (l-((k.size / 50:Nat):Int))
mutual
def JV.room:JV->Int->Int->Int
  | .mk k is ng d e s ks vs,dp,l=>
    if 70<dp∨2000<s.size∨1200<d.size then -1
    else match keysRoom ks (l-1-(ks.length:Int)-(((s.size+d.size) / 50:Nat):Int)) with
      | none=>-1
      | some l2=>roomsL vs (dp+1) l2
def roomsL:List JV->Int->Int->Int
  | [],_,l=>l
  | v::t,dp,l=>if l<0 then l else roomsL t dp (v.room dp l)
end
theorem roomsL_nil (dp l:Int):roomsL [] dp l=l:=by rw [roomsL]
theorem roomsL_neg (vs:List JV) (dp l:Int) (h:l<0):roomsL vs dp l=l:=by
  cases vs with
  | nil=>exact roomsL_nil dp l
  | cons v t=>rw [roomsL,if_pos h]
theorem roomsL_next (v:JV) (t:List JV) (dp l:Int) (h:0<=l):roomsL (v::t) dp l=roomsL t dp (v.room dp l):=by rw [roomsL,if_neg (by omega)]
theorem keysRoom_neg (ks:List ByteArray) (l:Int) (h:l<0):keysRoom ks l=some l:=by
  cases ks with
  | nil=>rfl
  | cons v t=>rw [keysRoom,if_pos h]
theorem keysRoom_le:∀ (ks:List ByteArray) (l r:Int),keysRoom ks l=some r->r<=l
  | [],l,r,h=>by injection h with h;omega
  | k::t,l,r,h=>by
    unfold keysRoom at h;split at h
    · injection h with h;omega
    · split at h
      · cases h
      · have:=keysRoom_le t _ r h;omega
inductive Held (N:Nat):JV->Prop where
  | mk (k:Int) (i n:Bool) (d:ByteArray) (e:Int) (s:ByteArray) (ks:List ByteArray) (vs:List JV):d.size<=N->s.size<=N->ks.length<=N->vs.length<=N->(∀ x∈ks,x.size<=N)->(∀ j (h:j<vs.length),Held N vs[j])->Held N (.mk k i n d e s ks vs)
mutual
theorem room_le (v:JV) (dp l:Int) (h:0<=l):v.room dp l<=l:=by
  cases v with
  | mk k is ng d e s ks vs=>
    rw [JV.room];split
    · omega
    · cases hk:keysRoom ks (l-1-(ks.length:Int)-(((s.size+d.size) / 50:Nat):Int)) with
      | none=>simp only;omega
      | some r=>
        simp only
        have h1:=keysRoom_le _ _ _ hk;have h2:=rooms_le vs (dp+1) r;omega
theorem rooms_le (vs:List JV) (dp l:Int):roomsL vs dp l<=l:=by
  cases vs with
  | nil=>rw [roomsL_nil];exact Int.le_refl _
  | cons v t=>
    by_cases h:l<0
    · rw [roomsL_neg _ _ _ h];exact Int.le_refl _
    · rw [roomsL_next _ _ _ _ (by omega)];have h1:=room_le v dp l (by omega);have h2:=rooms_le t dp (v.room dp l);omega
end
def RoomC (t:JV):Prop:=∀ (ra:Raw) (A:Nat->Prop) (w:World) (dp l:Int),1<=dp->dp<=71->0<=l->l<=400->IsV w A ra t->Calls Tryz.prog 39 #[ra.val,.int .i64 dp,.int .i64 l] w fun e w'=>e=.returned (.int .i64 (t.room dp l))/\Below w.heap.size w w'
theorem room_step (N:Nat) (hN:N<=281474976710656) (k:Int) (is ng:Bool) (d:ByteArray) (e:Int) (s:ByteArray) (ks:List ByteArray) (vs:List JV) (hd:d.size<=N) (hs:s.size<=N) (hk:ks.length<=N) (hv:vs.length<=N) (hx:∀ x∈ks,x.size<=N) (IH:∀ j (h:j<vs.length),RoomC vs[j]):RoomC (.mk k is ng d e s ks vs):=by
  intro ra A w dp l hdp1 hdp hl0 hl h
  obtain ⟨ka,kc,va,vc,rfl,ht,f,hc,hi⟩:=h.parts;have HIH:=Hid.out (p:=Hid _) IH;have HC:=Hid.out (p:=Hid _) hc;have HI:=Hid.out (p:=Hid _) hi;have HX:=Hid.out (p:=Hid _) hx;obtain ⟨w2,hw2,V2,B2⟩:=own_new w (Raw.mk k is ng d e s ka ks.length kc va vs.length vc);have V2:Hid (w2.heap[w.heap.size]?=some (.cells (Raw.mk k is ng d e s ka ks.length kc va vs.length vc).arr 29 (0,0))):=V2.out;have HT:Hid (IsTexts w2 A ka ks):=ht.turn (Turn.below B2.out);obtain ⟨q,hq⟩:∃ q:Nat,(s.size+d.size) / 50=q:=⟨_,rfl⟩;have hq1:Int.tdiv ((s.size:Int)+(d.size:Int)) 50=(q:Int):=by
    rw [Int.tdiv_eq_ediv_of_nonneg (by omega)];omega
  have hqb:q<=562949953421312:=by omega
  obtain ⟨L1,hL1⟩:∃ L1:Int,l-1-(ks.length:Int)-(q:Int)=L1:=⟨_,rfl⟩;have hLa:L1<=400:=by omega
  have hLb:-1000000000000000<=L1:=by omega
  have HRM:Hid ((JV.mk k is ng d e s ks vs).room dp l=if 70<dp∨2000<s.size∨1200<d.size then -1 else match keysRoom ks L1 with
      | none=>-1
      | some l2=>roomsL vs (dp+1) l2):=by rw [Hid,JV.room,hq,hL1]
  clear h ht hc hi IH hx hq
  dsimp only at hw2
  unfold Raw.val;obtain ⟨⟨x0,x1,x2,x3,x4,x5,x6,x7⟩,_⟩:=val_cells V2.out;go_enter Tryz.func39,Tryz.ntmps39
  obtain ⟨T,hT⟩:∃ T,decide (70<dp∨2000<s.size∨1200<d.size)=T:=⟨_,rfl⟩;have HTT:=Hid.out (p:=Hid _) hT;clear hT
  go_upto_region 2 with (fail)
  go_cut [39] from 25 (fun p39 wx=>w2=wx/\p39=.bool T)
  case first=>
    by_cases a1:70<dp
    · obtain rfl:true=T:=by rw [<-HTT.out];simp [a1]
      have f1:decide (70<dp)=true:=by rw [decide_eq_true_eq];exact a1
      clear a1;go_wp2_with fail
      go_meet
      exact ⟨rfl,rfl⟩
    · have f1:decide (70<dp)=false:=by rw [decide_eq_false_iff_not];exact a1
      by_cases a2:2000<s.size
      · obtain rfl:true=T:=by rw [<-HTT.out];simp [a2]
        have f2:decide (2000<(s.size:Int))=true:=by rw [decide_eq_true_eq];omega
        have f3:decide (2000<s.size)=true:=by rw [decide_eq_true_eq];omega
        clear a1 a2;go_wp2_with fail
        go_meet
        exact ⟨rfl,rfl⟩
      · have f2:decide (2000<(s.size:Int))=false:=by rw [decide_eq_false_iff_not];omega
        have f3:decide (2000<s.size)=false:=by rw [decide_eq_false_iff_not];omega
        by_cases a3:1200<d.size
        · obtain rfl:true=T:=by rw [<-HTT.out];simp [a3]
          have f4:decide (1200<(d.size:Int))=true:=by rw [decide_eq_true_eq];omega
          have f5:decide (1200<d.size)=true:=by rw [decide_eq_true_eq];omega
          clear a1 a2 a3;go_wp2_with fail
          go_meet
          exact ⟨rfl,rfl⟩
        · obtain rfl:false=T:=by rw [<-HTT.out];exact (decide_eq_false (by omega)).symm
          have f4:decide (1200<(d.size:Int))=false:=by rw [decide_eq_false_iff_not];omega
          have f5:decide (1200<d.size)=false:=by rw [decide_eq_false_iff_not];omega
          clear a1 a2 a3;go_wp2_with fail
          go_meet
          exact ⟨rfl,rfl⟩
  case rest=>
  obtain ⟨rfl,rfl⟩:=hcut;cases T
  case true=>
    have HF:Hid ((JV.mk k is ng d e s ks vs).room dp l=-1):=by rw [Hid,HRM.out,if_pos (of_decide_eq_true HTT.out)]
    go_wp2_with fail
    go_ret
    exact ⟨by rw [HF.out];rfl,B2.out⟩
  case false=>
  have hno:=of_decide_eq_false HTT.out
  have HRM2:Hid ((JV.mk k is ng d e s ks vs).room dp l=match keysRoom ks L1 with
      | none=>-1
      | some l2=>roomsL vs (dp+1) l2):=by rw [Hid,HRM.out,if_neg hno]
  have hdp70:dp<=70:=by omega
  clear hno HTT HRM x0 x1 x2 x3 x4 x5 x6 x7 hw2 hq1 hqb;have x6:w2.cell? ⟨w.heap.size,6,none⟩=some (.slice ka ks.length kc):=cell_of V2.out 6;go_wp2_with fail
  go_loopw [2,7] (fun p2 p7 wr=>∃ (i:Nat) (c:Int),p7=.int .i64 i/\i<=ks.length/\p2=.int .i64 c/\c<=400/\-2000000000000000<=c/\Hid (keysRoom ks L1=keysRoom (ks.drop i) c)/\w2=wr) (fun _ p7 _=>ks.length-(intOf p7).toNat)
  case atStart=>exact ⟨0,L1,rfl,Nat.zero_le _,rfl,hLa,by omega,rfl,rfl⟩
  case round=>
    obtain ⟨i,c,rfl,hi,rfl,hc1,hc2,hK,rfl⟩:=hrel;by_cases hgo:i<ks.length/\0<=c
    · obtain ⟨hlt,hc0⟩:=hgo;have hne:ks≠[]:=fun e=>by rw [e] at hlt;simp at hlt
      obtain ⟨b,o,rfl,_,_,hcs⟩:=HT.out.resolve_left hne;have g2:=hcs i hlt;have hxi:=HX.out ks[i] (List.getElem_mem hlt);have hdr:ks.drop i=ks[i]::ks.drop (i+1):=List.drop_eq_getElem_cons hlt;generalize ks[i]=x at *;have f0:decide (0<=c)=true:=by rw [decide_eq_true_eq];exact hc0
      obtain ⟨r,hr⟩:∃ r:Nat,x.size / 50=r:=⟨_,rfl⟩;have hr1:Int.tdiv (x.size:Int) 50=(r:Int):=by rw [Int.tdiv_eq_ediv_of_nonneg (by omega)];omega
      have hrb:r<=281474976710656:=by omega
      by_cases hbig:2000<x.size
      · have f2:decide (2000<(x.size:Int))=true:=by rw [decide_eq_true_eq];omega
        have f3:decide (2000<x.size)=true:=by rw [decide_eq_true_eq];omega
        have HF:Hid ((JV.mk k is ng d e s ks vs).room dp l=-1):=by
          rw [Hid,HRM2.out,hK.out,hdr,keysRoom,if_neg (by omega),if_pos hbig]
        clear hcs hdr hr hbig;go_wp2_with fail
        go_ret
        exact ⟨by rw [HF.out];rfl,B2.out⟩
      · have f2:decide (2000<(x.size:Int))=false:=by rw [decide_eq_false_iff_not];omega
        have f3:decide (2000<x.size)=false:=by rw [decide_eq_false_iff_not];omega
        have HF:Hid (keysRoom ks L1=keysRoom (ks.drop (i+1)) (c-(r:Int))):=by
          rw [Hid,hK.out,hdr,keysRoom,if_neg (by omega),if_neg hbig,hr]
        have hr40:r<=40:=by omega
        clear hcs hdr hr hbig;go_wp2_with fail
        go_roundw
        case rel=>exact ⟨i+1,c-(r:Int),by go_num,by omega,by go_num,by omega,by omega,HF.out,by trivial⟩
        case measure=>simp [intOf];omega
    · have hK2:keysRoom ks L1=some c:=by
        rw [hK.out];by_cases hlt:i<ks.length
        · exact keysRoom_neg _ _ (by omega)
        · rw [List.drop_eq_nil_of_le (by omega)];rfl
      have HF:Hid ((JV.mk k is ng d e s ks vs).room dp l=roomsL vs (dp+1) c):=by rw [Hid,HRM2.out,hK2]
      clear hK2 hK;by_cases hlt:i<ks.length
      · have f0:decide (0<=c)=false:=by rw [decide_eq_false_iff_not];omega
        clear hgo;have x7:w2.cell? ⟨w.heap.size,7,none⟩=some (.slice va vs.length vc):=cell_of V2.out 7;go_wp2_with fail
        clear x6 x7
        go_loopw [2,8] (fun p2 p8 wr=>∃ (j:Nat) (c2:Int),p8=.int .i64 j/\j<=vs.length/\p2=.int .i64 c2/\c2<=400/\Hid (roomsL vs (dp+1) c=roomsL (vs.drop j) (dp+1) c2)/\Hid (Below w2.heap.size w2 wr)) (fun _ p8 _=>vs.length-(intOf p8).toNat)
        case atStart=>exact ⟨0,c,rfl,Nat.zero_le _,rfl,hc1,rfl,Below.refl _ _⟩
        case round=>
          obtain ⟨j,c2,rfl,hj,rfl,hc3,hR,hB⟩:=hrel;have V4:=Hid.out (p:=Hid _) ((hB.out.block w.heap.size (heap_lt V2.out)).trans V2.out);have d7:wr.cell? ⟨w.heap.size,7,none⟩=some (.slice va vs.length vc):=cell_of V4.out 7;by_cases hgo:j<vs.length/\0<=c2
          · obtain ⟨hlt,hc0⟩:=hgo;have hne:vs≠[]:=fun e=>by rw [e] at hlt;simp at hlt
            obtain ⟨g,o,rfl,hg,hcs⟩:=HC.out.resolve_left hne;have Bw:Hid (Below w.heap.size w wr):=B2.out.trans (hB.out.mono B2.out.size);have K1:=Hid.out (p:=Hid _) ((hcs j hlt).below hg Bw.out);have I1:=Hid.out (p:=Hid _) ((HI.out j hlt).behind Bw.out);have hcall:=HIH.out j hlt (f j) A wr (dp+1) c2 (by omega) (by omega) hc0 hc3 I1.out;have hdr:vs.drop j=vs[j]::vs.drop (j+1):=List.drop_eq_getElem_cons hlt;have hle:=room_le vs[j] (dp+1) c2 hc0;have HF2:Hid (roomsL vs (dp+1) c=roomsL (vs.drop (j+1)) (dp+1) (vs[j].room (dp+1) c2)):=by
              rw [Hid,hR.out,hdr,roomsL_next _ _ _ _ hc0]
            generalize vs[j].room (dp+1) c2=r2 at *;have f0:decide (0<=c2)=true:=by rw [decide_eq_true_eq];exact hc0
            clear hcs hdr;generalize f j=x at *;have HCL:=Hid.out (p:=Hid _) hcall;have K1c:CellsAt wr g (o+j*8) x:=K1.out;obtain ⟨u0,u1,u2,u3,u4,u5,u6,u7⟩:=K1c.eight;clear K1 K1c hcall I1 V4;go_wp2_with fail
            refine (Calls.mono HCL.out ?_);rintro z w5 ⟨rfl,hb5⟩;have B5:Hid (Below w2.heap.size w2 w5):=hB.out.trans (hb5.mono hB.out.size);clear hb5;go_wp2_with fail
            go_roundw
            case rel=>exact ⟨j+1,r2,by go_num,by omega,rfl,by omega,HF2.out,B5.out⟩
            case measure=>simp [intOf];omega
          · have HF2:Hid ((JV.mk k is ng d e s ks vs).room dp l=c2):=by
              rw [Hid,HF.out,hR.out];by_cases hlt:j<vs.length
              · exact roomsL_neg _ _ _ (by omega)
              · rw [List.drop_eq_nil_of_le (by omega)];exact roomsL_nil _ _
            by_cases hlt:j<vs.length
            · have f0:decide (0<=c2)=false:=by rw [decide_eq_false_iff_not];omega
              go_wp2_with fail
              go_ret
              exact ⟨by rw [HF2.out];rfl,B2.out.trans (hB.out.mono B2.out.size)⟩
            · go_wp2_with fail
              go_ret
              exact ⟨by rw [HF2.out];rfl,B2.out.trans (hB.out.mono B2.out.size)⟩
      · clear hgo;have x7:w2.cell? ⟨w.heap.size,7,none⟩=some (.slice va vs.length vc):=cell_of V2.out 7;go_wp2_with fail
        clear x6 x7
        go_loopw [2,8] (fun p2 p8 wr=>∃ (j:Nat) (c2:Int),p8=.int .i64 j/\j<=vs.length/\p2=.int .i64 c2/\c2<=400/\Hid (roomsL vs (dp+1) c=roomsL (vs.drop j) (dp+1) c2)/\Hid (Below w2.heap.size w2 wr)) (fun _ p8 _=>vs.length-(intOf p8).toNat)
        case atStart=>exact ⟨0,c,rfl,Nat.zero_le _,rfl,hc1,rfl,Below.refl _ _⟩
        case round=>
          obtain ⟨j,c2,rfl,hj,rfl,hc3,hR,hB⟩:=hrel;have V4:=Hid.out (p:=Hid _) ((hB.out.block w.heap.size (heap_lt V2.out)).trans V2.out);have d7:wr.cell? ⟨w.heap.size,7,none⟩=some (.slice va vs.length vc):=cell_of V4.out 7;by_cases hgo:j<vs.length/\0<=c2
          · obtain ⟨hlt,hc0⟩:=hgo;have hne:vs≠[]:=fun e=>by rw [e] at hlt;simp at hlt
            obtain ⟨g,o,rfl,hg,hcs⟩:=HC.out.resolve_left hne;have Bw:Hid (Below w.heap.size w wr):=B2.out.trans (hB.out.mono B2.out.size);have K1:=Hid.out (p:=Hid _) ((hcs j hlt).below hg Bw.out);have I1:=Hid.out (p:=Hid _) ((HI.out j hlt).behind Bw.out);have hcall:=HIH.out j hlt (f j) A wr (dp+1) c2 (by omega) (by omega) hc0 hc3 I1.out;have hdr:vs.drop j=vs[j]::vs.drop (j+1):=List.drop_eq_getElem_cons hlt;have hle:=room_le vs[j] (dp+1) c2 hc0;have HF2:Hid (roomsL vs (dp+1) c=roomsL (vs.drop (j+1)) (dp+1) (vs[j].room (dp+1) c2)):=by
              rw [Hid,hR.out,hdr,roomsL_next _ _ _ _ hc0]
            generalize vs[j].room (dp+1) c2=r2 at *;have f0:decide (0<=c2)=true:=by rw [decide_eq_true_eq];exact hc0
            clear hcs hdr;generalize f j=x at *;have HCL:=Hid.out (p:=Hid _) hcall;have K1c:CellsAt wr g (o+j*8) x:=K1.out;obtain ⟨u0,u1,u2,u3,u4,u5,u6,u7⟩:=K1c.eight;clear K1 K1c hcall I1 V4;go_wp2_with fail
            refine (Calls.mono HCL.out ?_);rintro z w5 ⟨rfl,hb5⟩;have B5:Hid (Below w2.heap.size w2 w5):=hB.out.trans (hb5.mono hB.out.size);clear hb5;go_wp2_with fail
            go_roundw
            case rel=>exact ⟨j+1,r2,by go_num,by omega,rfl,by omega,HF2.out,B5.out⟩
            case measure=>simp [intOf];omega
          · have HF2:Hid ((JV.mk k is ng d e s ks vs).room dp l=c2):=by
              rw [Hid,HF.out,hR.out];by_cases hlt:j<vs.length
              · exact roomsL_neg _ _ _ (by omega)
              · rw [List.drop_eq_nil_of_le (by omega)];exact roomsL_nil _ _
            by_cases hlt:j<vs.length
            · have f0:decide (0<=c2)=false:=by rw [decide_eq_false_iff_not];omega
              go_wp2_with fail
              go_ret
              exact ⟨by rw [HF2.out];rfl,B2.out.trans (hB.out.mono B2.out.size)⟩
            · go_wp2_with fail
              go_ret
              exact ⟨by rw [HF2.out];rfl,B2.out.trans (hB.out.mono B2.out.size)⟩
theorem room_any (N:Nat) (hN:N<=281474976710656) (t:JV) (h:Held N t):RoomC t:=by
  induction h with
  | mk k i n d e s ks vs h1 h2 h3 h4 h5 h6 ih=>exact room_step N hN k i n d e s ks vs h1 h2 h3 h4 h5 ih
theorem great_any (N:Nat) (hN:N<=281474976710656) (t:JV) (h:Held N t) (ra:Raw) (A:Nat->Prop) (w:World) (hi:IsV w A ra t):Calls Tryz.prog 13 #[ra.val] w fun e w'=>e=.returned (.bool (decide (t.room 1 400<0)))/\Below w.heap.size w w':=by
  obtain ⟨w2,hw2,V2,B2⟩:=own_new w ra;have V2:Hid (w2.heap[w.heap.size]?=some (.cells ra.arr 29 (0,0))):=V2.out;have hc:=room_any N hN t h ra A w2 1 400 (by omega) (by omega) (by omega) (by omega) (hi.behind B2.out);have HC:=Hid.out (p:=Hid _) hc;generalize t.room 1 400=r at *;clear hc h hi;unfold Raw.val at HC ⊢;obtain ⟨⟨x0,x1,x2,x3,x4,x5,x6,x7⟩,_⟩:=val_cells V2.out;go_enter Tryz.func13,Tryz.ntmps13
  go_wp2_with fail
  refine (Calls.mono HC.out ?_);rintro z w3 ⟨rfl,hb3⟩;have B3:=Hid.out (p:=Hid _) (B2.out.trans (hb3.mono B2.out.size));clear hb3;go_wp2_with fail
  go_ret
  exact ⟨rfl,B3.out⟩
end Go.Proofs.YtliekocamnklfaaGreatDoor.Jdec
