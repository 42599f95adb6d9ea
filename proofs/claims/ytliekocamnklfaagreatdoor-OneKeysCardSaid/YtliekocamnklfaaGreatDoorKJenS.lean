/- tabulariumref08.room, Great: how great a value is. -/
import Derived.Test.YtliekocamnklfaaGreatDoorKRigG
import Derived.Test.YtliekocamnklfaaGreatDoorKJenE
import Derived.Laws.StructEq
import Derived.Lib.LaidTab
import Derived.Lib.ItoaLen
import Derived.Lib.Repeat
import Derived.Shelf.Unicode.PredsPay
import Derived.Lib.Bytealg
set_option linter.unusedVariables false
set_option linter.unusedSimpArgs false
set_option maxRecDepth 100000
set_option maxHeartbeats 8000000
namespace Go.Proofs.YtliekocamnklfaaGreatDoor.Jdec
open Go.RowKit Strs
def keysRoom:List ByteArray->Int->Option Int
  | [],l=>some l
  | k::t,l=>if l<0 then some l else if 2000<k.size then none else keysRoom t (l-((k.size / 50:Nat):Int))
mutual
def JV.room:JV->Int->Int->Int
  | .mk k is ng d e s ks vs,dp,l=>
    if 70<dp∨2000<s.size∨1200<d.size then -1
    else match keysRoom ks (l-1-(ks.length:Int)-(((s.size+d.size) / 50:Nat):Int)) with
      | none=>-1
      | some l2=>roomsL vs (dp+1) l2
def roomsL:List JV->Int->Int->Int
  | [],_,l=>l
  | v::t,dp,l=>if l<0 then l else roomsL t dp (v.room dp l)
end
theorem roomsL_nil (dp l:Int):roomsL [] dp l=l:=by rw [roomsL]
theorem roomsL_neg (vs:List JV) (dp l:Int) (h:l<0):roomsL vs dp l=l:=by
  cases vs with
  | nil=>exact roomsL_nil dp l
  | cons v t=>rw [roomsL,if_pos h]
theorem roomsL_next (v:JV) (t:List JV) (dp l:Int) (h:0<=l):roomsL (v::t) dp l=roomsL t dp (v.room dp l):=by rw [roomsL,if_neg (by omega)]
theorem keysRoom_neg (ks:List ByteArray) (l:Int) (h:l<0):keysRoom ks l=some l:=by
  cases ks with
  | nil=>rfl
  | cons v t=>rw [keysRoom,if_pos h]
theorem keysRoom_le:∀ (ks:List ByteArray) (l r:Int),keysRoom ks l=some r->r<=l
  | [],l,r,h=>by injection h with h;omega
  | k::t,l,r,h=>by
    unfold keysRoom at h;split at h
    · injection h with h;omega
    · split at h
      · cases h
      · have:=keysRoom_le t _ r h;omega
inductive Held (N:Nat):JV->Prop where
  | mk (k:Int) (i n:Bool) (d:ByteArray) (e:Int) (s:ByteArray) (ks:List ByteArray) (vs:List JV):d.size<=N->s.size<=N->ks.length<=N->vs.length<=N->(∀ x∈ks,x.size<=N)->(∀ j (h:j<vs.length),Held N vs[j])->Held N (.mk k i n d e s ks vs)
mutual
theorem room_le (v:JV) (dp l:Int) (h:0<=l):v.room dp l<=l:=by
  cases v with
  | mk k is ng d e s ks vs=>
    rw [JV.room];split
    · omega
    · cases hk:keysRoom ks (l-1-(ks.length:Int)-(((s.size+d.size) / 50:Nat):Int)) with
      | none=>simp only;omega
      | some r=>
        simp only
        have h1:=keysRoom_le _ _ _ hk;have h2:=rooms_le vs (dp+1) r;omega
theorem rooms_le (vs:List JV) (dp l:Int):roomsL vs dp l<=l:=by
  cases vs with
  | nil=>rw [roomsL_nil];exact Int.le_refl _
  | cons v t=>
    by_cases h:l<0
    · rw [roomsL_neg _ _ _ h];exact Int.le_refl _
    · rw [roomsL_next _ _ _ _ (by omega)];have h1:=room_le v dp l (by omega);have h2:=rooms_le t dp (v.room dp l);omega
end
def RoomC (t:JV):Prop:=∀ (ra:Raw) (A:Nat->Prop) (w:World) (dp l:Int),1<=dp->dp<=71->0<=l->l<=400->IsV w A ra t->Calls Tryz.prog 39 #[ra.val,.int .i64 dp,.int .i64 l] w fun e w'=>e=.returned (.int .i64 (t.room dp l))/\Below w.heap.size w w'
theorem room_step (N:Nat) (hN:N<=281474976710656) (k:Int) (is ng:Bool) (d:ByteArray) (e:Int) (s:ByteArray) (ks:List ByteArray) (vs:List JV) (hd:d.size<=N) (hs:s.size<=N) (hk:ks.length<=N) (hv:vs.length<=N) (hx:∀ x∈ks,x.size<=N) (IH:∀ j (h:j<vs.length),RoomC vs[j]):RoomC (.mk k is ng d e s ks vs):=by
  intro ra A w dp l hdp1 hdp hl0 hl h
  obtain ⟨ka,kc,va,vc,rfl,ht,f,hc,hi⟩:=h.parts;have HIH:=Hid.out (p:=Hid _) IH;have HC:=Hid.out (p:=Hid _) hc;have HI:=Hid.out (p:=Hid _) hi;have HX:=Hid.out (p:=Hid _) hx;obtain ⟨w2,hw2,V2,B2⟩:=own_new w (Raw.mk k is ng d e s ka ks.length kc va vs.length vc);have V2:Hid (w2.heap[w.heap.size]?=some (.cells (Raw.mk k is ng d e s ka ks.length kc va vs.length vc).arr 29 (0,0))):=V2.out;have HT:Hid (IsTexts w2 A ka ks):=ht.turn (Turn.below B2.out);obtain ⟨q,hq⟩:∃ q:Nat,(s.size+d.size) / 50=q:=⟨_,rfl⟩;have hq1:Int.tdiv ((s.size:Int)+(d.size:Int)) 50=(q:Int):=by
    rw [Int.tdiv_eq_ediv_of_nonneg (by omega)];omega
  have hqb:q<=562949953421312:=by omega
  obtain ⟨L1,hL1⟩:∃ L1:Int,l-1-(ks.length:Int)-(q:Int)=L1:=⟨_,rfl⟩;have hLa:L1<=400:=by omega
  have hLb:-1000000000000000<=L1:=by omega
  have HRM:Hid ((JV.mk k is ng d e s ks vs).room dp l=if 70<dp∨2000<s.size∨1200<d.size then -1 else match keysRoom ks L1 with
      | none=>-1
      | some l2=>roomsL vs (dp+1) l2):=by rw [Hid,JV.room,hq,hL1]
  clear h ht hc hi IH hx hq
  dsimp only at hw2
  unfold Raw.val;obtain ⟨⟨x0,x1,x2,x3,x4,x5,x6,x7⟩,_⟩:=val_cells V2.out;go_enter Tryz.func39,Tryz.ntmps39
  obtain ⟨T,hT⟩:∃ T,decide (70<dp∨2000<s.size∨1200<d.size)=T:=⟨_,rfl⟩;have HTT:=Hid.out (p:=Hid _) hT;clear hT
  go_upto_region 2 with (fail)
  go_cut [39] from 25 (fun p39 wx=>w2=wx/\p39=.bool T)
  case first=>
    by_cases a1:70<dp
    · obtain rfl:true=T:=by rw [<-HTT.out];simp [a1]
      have f1:decide (70<dp)=true:=by rw [decide_eq_true_eq];exact a1
      clear a1;go_wp2_with fail
      go_meet
      exact ⟨rfl,rfl⟩
    · have f1:decide (70<dp)=false:=by rw [decide_eq_false_iff_not];exact a1
      by_cases a2:2000<s.size
      · obtain rfl:true=T:=by rw [<-HTT.out];simp [a2]
        have f2:decide (2000<(s.size:Int))=true:=by rw [decide_eq_true_eq];omega
        have f3:decide (2000<s.size)=true:=by rw [decide_eq_true_eq];omega
        clear a1 a2;go_wp2_with fail
        go_meet
        exact ⟨rfl,rfl⟩
      · have f2:decide (2000<(s.size:Int))=false:=by rw [decide_eq_false_iff_not];omega
        have f3:decide (2000<s.size)=false:=by rw [decide_eq_false_iff_not];omega
        by_cases a3:1200<d.size
        · obtain rfl:true=T:=by rw [<-HTT.out];simp [a3]
          have f4:decide (1200<(d.size:Int))=true:=by rw [decide_eq_true_eq];omega
          have f5:decide (1200<d.size)=true:=by rw [decide_eq_true_eq];omega
          clear a1 a2 a3;go_wp2_with fail
          go_meet
          exact ⟨rfl,rfl⟩
        · obtain rfl:false=T:=by rw [<-HTT.out];exact (decide_eq_false (by omega)).symm
          have f4:decide (1200<(d.size:Int))=false:=by rw [decide_eq_false_iff_not];omega
          have f5:decide (1200<d.size)=false:=by rw [decide_eq_false_iff_not];omega
          clear a1 a2 a3;go_wp2_with fail
          go_meet
          exact ⟨rfl,rfl⟩
  case rest=>
  obtain ⟨rfl,rfl⟩:=hcut;cases T
  case true=>
    have HF:Hid ((JV.mk k is ng d e s ks vs).room dp l=-1):=by rw [Hid,HRM.out,if_pos (of_decide_eq_true HTT.out)]
    go_wp2_with fail
    go_ret
    exact ⟨by rw [HF.out];rfl,B2.out⟩
  case false=>
  have hno:=of_decide_eq_false HTT.out
  have HRM2:Hid ((JV.mk k is ng d e s ks vs).room dp l=match keysRoom ks L1 with
      | none=>-1
      | some l2=>roomsL vs (dp+1) l2):=by rw [Hid,HRM.out,if_neg hno]
  have hdp70:dp<=70:=by omega
  clear hno HTT HRM x0 x1 x2 x3 x4 x5 x6 x7 hw2 hq1 hqb;have x6:w2.cell? ⟨w.heap.size,6,none⟩=some (.slice ka ks.length kc):=cell_of V2.out 6;go_wp2_with fail
  go_loopw [2,7] (fun p2 p7 wr=>∃ (i:Nat) (c:Int),p7=.int .i64 i/\i<=ks.length/\p2=.int .i64 c/\c<=400/\-2000000000000000<=c/\Hid (keysRoom ks L1=keysRoom (ks.drop i) c)/\w2=wr) (fun _ p7 _=>ks.length-(intOf p7).toNat)
  case atStart=>exact ⟨0,L1,rfl,Nat.zero_le _,rfl,hLa,by omega,rfl,rfl⟩
  case round=>
    obtain ⟨i,c,rfl,hi,rfl,hc1,hc2,hK,rfl⟩:=hrel;by_cases hgo:i<ks.length/\0<=c
    · obtain ⟨hlt,hc0⟩:=hgo;have hne:ks≠[]:=fun e=>by rw [e] at hlt;simp at hlt
      obtain ⟨b,o,rfl,_,_,hcs⟩:=HT.out.resolve_left hne;have g2:=hcs i hlt;have hxi:=HX.out ks[i] (List.getElem_mem hlt);have hdr:ks.drop i=ks[i]::ks.drop (i+1):=List.drop_eq_getElem_cons hlt;generalize ks[i]=x at *;have f0:decide (0<=c)=true:=by rw [decide_eq_true_eq];exact hc0
      obtain ⟨r,hr⟩:∃ r:Nat,x.size / 50=r:=⟨_,rfl⟩;have hr1:Int.tdiv (x.size:Int) 50=(r:Int):=by rw [Int.tdiv_eq_ediv_of_nonneg (by omega)];omega
      have hrb:r<=281474976710656:=by omega
      by_cases hbig:2000<x.size
      · have f2:decide (2000<(x.size:Int))=true:=by rw [decide_eq_true_eq];omega
        have f3:decide (2000<x.size)=true:=by rw [decide_eq_true_eq];omega
        have HF:Hid ((JV.mk k is ng d e s ks vs).room dp l=-1):=by
          rw [Hid,HRM2.out,hK.out,hdr,keysRoom,if_neg (by omega),if_pos hbig]
        clear hcs hdr hr hbig;go_wp2_with fail
        go_ret
        exact ⟨by rw [HF.out];rfl,B2.out⟩
      · have f2:decide (2000<(x.size:Int))=false:=by rw [decide_eq_false_iff_not];omega
        have f3:decide (2000<x.size)=false:=by rw [decide_eq_false_iff_not];omega
        have HF:Hid (keysRoom ks L1=keysRoom (ks.drop (i+1)) (c-(r:Int))):=by
          rw [Hid,hK.out,hdr,keysRoom,if_neg (by omega),if_neg hbig,hr]
        have hr40:r<=40:=by omega
        clear hcs hdr hr hbig;go_wp2_with fail
        go_roundw
        case rel=>exact ⟨i+1,c-(r:Int),by go_num,by omega,by go_num,by omega,by omega,HF.out,by trivial⟩
        case measure=>simp [intOf];omega
    · have hK2:keysRoom ks L1=some c:=by
        rw [hK.out];by_cases hlt:i<ks.length
        · exact keysRoom_neg _ _ (by omega)
        · rw [List.drop_eq_nil_of_le (by omega)];rfl
      have HF:Hid ((JV.mk k is ng d e s ks vs).room dp l=roomsL vs (dp+1) c):=by rw [Hid,HRM2.out,hK2]
      clear hK2 hK;by_cases hlt:i<ks.length
      · have f0:decide (0<=c)=false:=by rw [decide_eq_false_iff_not];omega
        clear hgo;have x7:w2.cell? ⟨w.heap.size,7,none⟩=some (.slice va vs.length vc):=cell_of V2.out 7;go_wp2_with fail
        clear x6 x7
        go_loopw [2,8] (fun p2 p8 wr=>∃ (j:Nat) (c2:Int),p8=.int .i64 j/\j<=vs.length/\p2=.int .i64 c2/\c2<=400/\Hid (roomsL vs (dp+1) c=roomsL (vs.drop j) (dp+1) c2)/\Hid (Below w2.heap.size w2 wr)) (fun _ p8 _=>vs.length-(intOf p8).toNat)
        case atStart=>exact ⟨0,c,rfl,Nat.zero_le _,rfl,hc1,rfl,Below.refl _ _⟩
        case round=>
          obtain ⟨j,c2,rfl,hj,rfl,hc3,hR,hB⟩:=hrel;have V4:=Hid.out (p:=Hid _) ((hB.out.block w.heap.size (heap_lt V2.out)).trans V2.out);have d7:wr.cell? ⟨w.heap.size,7,none⟩=some (.slice va vs.length vc):=cell_of V4.out 7;by_cases hgo:j<vs.length/\0<=c2
          · obtain ⟨hlt,hc0⟩:=hgo;have hne:vs≠[]:=fun e=>by rw [e] at hlt;simp at hlt
            obtain ⟨g,o,rfl,hg,hcs⟩:=HC.out.resolve_left hne;have Bw:Hid (Below w.heap.size w wr):=B2.out.trans (hB.out.mono B2.out.size);have K1:=Hid.out (p:=Hid _) ((hcs j hlt).below hg Bw.out);have I1:=Hid.out (p:=Hid _) ((HI.out j hlt).behind Bw.out);have hcall:=HIH.out j hlt (f j) A wr (dp+1) c2 (by omega) (by omega) hc0 hc3 I1.out;have hdr:vs.drop j=vs[j]::vs.drop (j+1):=List.drop_eq_getElem_cons hlt;have hle:=room_le vs[j] (dp+1) c2 hc0;have HF2:Hid (roomsL vs (dp+1) c=roomsL (vs.drop (j+1)) (dp+1) (vs[j].room (dp+1) c2)):=by
              rw [Hid,hR.out,hdr,roomsL_next _ _ _ _ hc0]
            generalize vs[j].room (dp+1) c2=r2 at *;have f0:decide (0<=c2)=true:=by rw [decide_eq_true_eq];exact hc0
            clear hcs hdr;generalize f j=x at *;have HCL:=Hid.out (p:=Hid _) hcall;have K1c:CellsAt wr g (o+j*8) x:=K1.out;obtain ⟨u0,u1,u2,u3,u4,u5,u6,u7⟩:=K1c.eight;clear K1 K1c hcall I1 V4;go_wp2_with fail
            refine (Calls.mono HCL.out ?_);rintro z w5 ⟨rfl,hb5⟩;have B5:Hid (Below w2.heap.size w2 w5):=hB.out.trans (hb5.mono hB.out.size);clear hb5;go_wp2_with fail
            go_roundw
            case rel=>exact ⟨j+1,r2,by go_num,by omega,rfl,by omega,HF2.out,B5.out⟩
            case measure=>simp [intOf];omega
          · have HF2:Hid ((JV.mk k is ng d e s ks vs).room dp l=c2):=by
              rw [Hid,HF.out,hR.out];by_cases hlt:j<vs.length
              · exact roomsL_neg _ _ _ (by omega)
              · rw [List.drop_eq_nil_of_le (by omega)];exact roomsL_nil _ _
            by_cases hlt:j<vs.length
            · have f0:decide (0<=c2)=false:=by rw [decide_eq_false_iff_not];omega
              go_wp2_with fail
              go_ret
              exact ⟨by rw [HF2.out];rfl,B2.out.trans (hB.out.mono B2.out.size)⟩
            · go_wp2_with fail
              go_ret
              exact ⟨by rw [HF2.out];rfl,B2.out.trans (hB.out.mono B2.out.size)⟩
      · clear hgo;have x7:w2.cell? ⟨w.heap.size,7,none⟩=some (.slice va vs.length vc):=cell_of V2.out 7;go_wp2_with fail
        clear x6 x7
        go_loopw [2,8] (fun p2 p8 wr=>∃ (j:Nat) (c2:Int),p8=.int .i64 j/\j<=vs.length/\p2=.int .i64 c2/\c2<=400/\Hid (roomsL vs (dp+1) c=roomsL (vs.drop j) (dp+1) c2)/\Hid (Below w2.heap.size w2 wr)) (fun _ p8 _=>vs.length-(intOf p8).toNat)
        case atStart=>exact ⟨0,c,rfl,Nat.zero_le _,rfl,hc1,rfl,Below.refl _ _⟩
        case round=>
          obtain ⟨j,c2,rfl,hj,rfl,hc3,hR,hB⟩:=hrel;have V4:=Hid.out (p:=Hid _) ((hB.out.block w.heap.size (heap_lt V2.out)).trans V2.out);have d7:wr.cell? ⟨w.heap.size,7,none⟩=some (.slice va vs.length vc):=cell_of V4.out 7;by_cases hgo:j<vs.length/\0<=c2
          · obtain ⟨hlt,hc0⟩:=hgo;have hne:vs≠[]:=fun e=>by rw [e] at hlt;simp at hlt
            obtain ⟨g,o,rfl,hg,hcs⟩:=HC.out.resolve_left hne;have Bw:Hid (Below w.heap.size w wr):=B2.out.trans (hB.out.mono B2.out.size);have K1:=Hid.out (p:=Hid _) ((hcs j hlt).below hg Bw.out);have I1:=Hid.out (p:=Hid _) ((HI.out j hlt).behind Bw.out);have hcall:=HIH.out j hlt (f j) A wr (dp+1) c2 (by omega) (by omega) hc0 hc3 I1.out;have hdr:vs.drop j=vs[j]::vs.drop (j+1):=List.drop_eq_getElem_cons hlt;have hle:=room_le vs[j] (dp+1) c2 hc0;have HF2:Hid (roomsL vs (dp+1) c=roomsL (vs.drop (j+1)) (dp+1) (vs[j].room (dp+1) c2)):=by
              rw [Hid,hR.out,hdr,roomsL_next _ _ _ _ hc0]
            generalize vs[j].room (dp+1) c2=r2 at *;have f0:decide (0<=c2)=true:=by rw [decide_eq_true_eq];exact hc0
            clear hcs hdr;generalize f j=x at *;have HCL:=Hid.out (p:=Hid _) hcall;have K1c:CellsAt wr g (o+j*8) x:=K1.out;obtain ⟨u0,u1,u2,u3,u4,u5,u6,u7⟩:=K1c.eight;clear K1 K1c hcall I1 V4;go_wp2_with fail
            refine (Calls.mono HCL.out ?_);rintro z w5 ⟨rfl,hb5⟩;have B5:Hid (Below w2.heap.size w2 w5):=hB.out.trans (hb5.mono hB.out.size);clear hb5;go_wp2_with fail
            go_roundw
            case rel=>exact ⟨j+1,r2,by go_num,by omega,rfl,by omega,HF2.out,B5.out⟩
            case measure=>simp [intOf];omega
          · have HF2:Hid ((JV.mk k is ng d e s ks vs).room dp l=c2):=by
              rw [Hid,HF.out,hR.out];by_cases hlt:j<vs.length
              · exact roomsL_neg _ _ _ (by omega)
              · rw [List.drop_eq_nil_of_le (by omega)];exact roomsL_nil _ _
            by_cases hlt:j<vs.length
            · have f0:decide (0<=c2)=false:=by rw [decide_eq_false_iff_not];omega
              go_wp2_with fail
              go_ret
              exact ⟨by rw [HF2.out];rfl,B2.out.trans (hB.out.mono B2.out.size)⟩
            · go_wp2_with fail
              go_ret
              exact ⟨by rw [HF2.out];rfl,B2.out.trans (hB.out.mono B2.out.size)⟩
theorem room_any (N:Nat) (hN:N<=281474976710656) (t:JV) (h:Held N t):RoomC t:=by
  induction h with
  | mk k i n d e s ks vs h1 h2 h3 h4 h5 h6 ih=>exact room_step N hN k i n d e s ks vs h1 h2 h3 h4 h5 ih
theorem great_any (N:Nat) (hN:N<=281474976710656) (t:JV) (h:Held N t) (ra:Raw) (A:Nat->Prop) (w:World) (hi:IsV w A ra t):Calls Tryz.prog 13 #[ra.val] w fun e w'=>e=.returned (.bool (decide (t.room 1 400<0)))/\Below w.heap.size w w':=by
  obtain ⟨w2,hw2,V2,B2⟩:=own_new w ra;have V2:Hid (w2.heap[w.heap.size]?=some (.cells ra.arr 29 (0,0))):=V2.out;have hc:=room_any N hN t h ra A w2 1 400 (by omega) (by omega) (by omega) (by omega) (hi.behind B2.out);have HC:=Hid.out (p:=Hid _) hc;generalize t.room 1 400=r at *;clear hc h hi;unfold Raw.val at HC ⊢;obtain ⟨⟨x0,x1,x2,x3,x4,x5,x6,x7⟩,_⟩:=val_cells V2.out;go_enter Tryz.func13,Tryz.ntmps13
  go_wp2_with fail
  refine (Calls.mono HC.out ?_);rintro z w3 ⟨rfl,hb3⟩;have B3:=Hid.out (p:=Hid _) (B2.out.trans (hb3.mono B2.out.size));clear hb3;go_wp2_with fail
  go_ret
  exact ⟨rfl,B3.out⟩
structure OwnQ (k:Int) (is neg:Bool) (dig:ByteArray) (exp:Int) (str:ByteArray) (keys:List ByteArray) (n:Nat):Prop where
  k1:1<=k
  k6:k<=6
  is:k≠2->is=false
  num:k≠3->neg=false/\dig=⟨#[]⟩/\exp=0
  text:k≠4->str=⟨#[]⟩
  kids:k<5->n=0
  noKeys:k≠6->keys=[]
  right:Num.right neg dig.data.toList exp=true
  valid:Utf.validB str.data.toList=true
  both:k=6->keys.length=n
  words:∀ x∈keys,Utf.validB x.data.toList=true
  apart:keys.Nodup
theorem toList_nil {s:ByteArray} (h:s≠⟨#[]⟩):s.toList.isEmpty=false:=by
  rw [ByteArray.toList_eq]
  cases s with
  | mk a=>
    rw [List.isEmpty_eq_false_iff];intro e
    exact h (by rw [ByteArray.mk.injEq];exact Array.toList_inj.1 e)
theorem take_nodup {ks:List ByteArray} {i:Nat} (h:i<ks.length) (hn:(ks.take i).Nodup) (hx:∀ j (hj:j<i),ks[j]'(by omega)≠ks[i]):(ks.take (i+1)).Nodup:=by
  rw [List.take_add_one,List.getElem?_eq_getElem h];show (ks.take i++[ks[i]]).Nodup;rw [List.nodup_append];refine ⟨hn,by simp,fun a ha b hb e=>?_⟩;rw [List.mem_singleton.1 hb] at e;obtain ⟨j,hj,rfl⟩:=List.getElem_of_mem ha;rw [List.length_take] at hj;exact hx j (by omega) (by rw [<-e,List.getElem_take])
inductive GoodQ:JV->Prop where
  | mk (k:Int) (i n:Bool) (d:ByteArray) (e:Int) (s:ByteArray) (ks:List ByteArray) (vs:List JV):OwnQ k i n d e s ks vs.length->(∀ j (h:j<vs.length),GoodQ vs[j])->GoodQ (.mk k i n d e s ks vs)
theorem held_small {N:Nat} {t:JV} (h:Held N t):Small N t:=by
  induction h with
  | mk k i n d e s ks vs h1 h2 h3 h4 h5 h6 ih=>exact .mk k i n d e s ks vs h3 h4 ih
theorem makeMap_hint (n:Int):∀ w,Sem.run Tryz.prog (Instr.makeMap 202 (some (.int .i64 n))) w=.ok (.map (some w.heap.size)) (w.alloc (.map #[] 0)):=fun w=>by
  simp [Instr.makeMap,run_underlying Tryz.underlying202,asInt,asIntOf,Result.andThen]
theorem holds_5 (w:World):Calls Tryz.prog 179 #[.int .i64 5] w fun e w'=>e=.returned (.bool true)/\w=w':=by
  go_enter Tryz.func179,Tryz.ntmps179
  go_wp2_with fail
  go_ret
  exact ⟨rfl,rfl⟩
theorem holds_6 (w:World):Calls Tryz.prog 179 #[.int .i64 6] w fun e w'=>e=.returned (.bool true)/\w=w':=by
  go_enter Tryz.func179,Tryz.ntmps179
  go_wp2_with fail
  go_ret
  exact ⟨rfl,rfl⟩
theorem pright_call (n:Bool) (d:ByteArray) (x:Int) (h:Num.right n d.data.toList x=true) (w:World):Calls Tryz.prog 139 #[.agg #[.bool n,.string d,.int .i64 x]] w fun e w'=>e=.returned (.bool true)/\Below w.heap.size w w':=by
  have hd:d.size<=1000:=by have:=right_size h;simpa using this
  have:=Num.right_any n d x w (by omega);rw [h] at this;exact this
def Pow10 (w:World):Prop:=Lib.TabIs Tryz.prog w "internal/strconv.uint64pow10" .u64 Lib.pow10Tab
theorem Pow10.stays {w w':World} (T:Pow10 w) (h:Below w.heap.size w w'):Pow10 w':=TabIs_below (g:=1) (by kernel_rfl) T h
def nfront (neg:Bool):List UInt8:=if neg then [45] else []
def nprint (neg:Bool) (d:List UInt8) (x:Int):List UInt8:=
  if d=[] then [48]
  else if 0<=x/\x<=20 then nfront neg++d++List.replicate x.toNat 48
  else if x < -20∨20<x then nfront neg++d++101::Lib.itoa x
  else if -x<(d.length:Int) then nfront neg++d.take ((d.length:Int)+x).toNat++46::d.drop ((d.length:Int)+x).toNat
  else nfront neg++[48,46]++List.replicate (-x-(d.length:Int)).toNat 48++d
theorem repeat0:∀ c,Lib.repeatL [48] c=List.replicate c 48
  | 0=>rfl
  | c+1=>by rw [Lib.repeatL,repeat0 c];rfl
theorem right_bounds {n:Bool} {d:List UInt8} {x:Int} (h:Num.right n d x=true):d.length<=1000/\-10000<=x/\x<=10000/\(d=[]->n=false/\x=0):=by
  unfold Num.right at h;split at h
  · rename_i h0;subst h0;simp at h;obtain ⟨h1,h2⟩:=h;simp [h1,h2]
  · split at h
    · cases h
    · rename_i h0 h1
      exact ⟨by omega,by omega,by omega,fun e=>absurd e h0⟩
def RepP (c:Nat) (w:World) (e:Ending) (w':World):Prop:=∃ r:ByteArray,e=.returned (.string r)/\r.data.toList=List.replicate c 48/\Below w.heap.size w w'
theorem RepP.to {c:Nat} {w w':World} {e:Ending} (h:RepP c w e w'):∃ r:ByteArray,e=.returned (.string r)/\Hid (r.data.toList=List.replicate c 48)/\r.size=c/\Below w.heap.size w w':=by
  obtain ⟨r,h1,h2,h3⟩:=h;exact ⟨r,h1,h2,by have:=congrArg List.length h2;simpa using this,h3⟩
theorem rep0_any (c:Nat) (hc:c<=2000) (w:World):Calls Tryz.prog 141 #[.string ⟨#[48]⟩,.int .i64 c] w (RepP c w):=
  (Tryz.strings_Repeat ⟨#[48]⟩ c w (by omega) (by simp [ByteArray.size];omega)).mono fun e w' ⟨h1,h2⟩=>⟨_,h1,by simp [repeat0],h2⟩
inductive Fine:JV->Prop where
  | mk (k:Int) (i n:Bool) (d:ByteArray) (e:Int) (s:ByteArray) (ks:List ByteArray) (vs:List JV):d.size<=1200->s.size<=6000->(∀ x∈ks,x.size<=6000)->(∀ j (h:j<vs.length),Fine vs[j])->Fine (.mk k i n d e s ks vs)
mutual
def JV.mass:JV->Nat
  | .mk _ _ _ _ _ _ ks vs=>1+ks.length+masses vs
def masses:List JV->Nat
  | []=>0
  | v::t=>v.mass+masses t
end
theorem masses_nil:masses []=0:=by rw [masses]
theorem masses_cons (v:JV) (t:List JV):masses (v::t)=v.mass+masses t:=by rw [masses]
theorem mass_mk (k:Int) (i n:Bool) (d:ByteArray) (e:Int) (s:ByteArray) (ks:List ByteArray) (vs:List JV):(JV.mk k i n d e s ks vs).mass=1+ks.length+masses vs:=by rw [JV.mass]
theorem deepN_mk (k:Int) (i n:Bool) (d:ByteArray) (e:Int) (s:ByteArray) (ks:List ByteArray) (vs:List JV):(JV.mk k i n d e s ks vs).deepN=(if k=5∨k=6 then deepNs vs else 0)+1:=by rw [JV.deepN]
theorem keysRoom_fine:∀ (ks:List ByteArray) (l r:Int),keysRoom ks l=some r->0<=r->∀ x∈ks,x.size<=6000
  | [],l,r,h,hr,x,hx=>by cases hx
  | k::t,l,r,h,hr,x,hx=>by
    unfold keysRoom at h;split at h
    · injection h with h;omega
    · split at h
      · cases h
      · rcases List.mem_cons.1 hx with rfl | hx
        · omega
        · exact keysRoom_fine t _ r h hr x hx
mutual
theorem room_fine (v:JV) (dp l:Int) (hl:0<=l) (h:0<=v.room dp l):Fine v/\(v.mass:Int)+v.room dp l<=l/\dp<=70/\(v.deepN:Int)+dp<=71:=by
  cases v with
  | mk k is ng d e s ks vs=>
    rw [JV.room] at h ⊢;by_cases hc:70<dp∨2000<s.size∨1200<d.size
    · rw [if_pos hc] at h;omega
    · rw [if_neg hc] at h ⊢
      cases hk:keysRoom ks (l-1-(ks.length:Int)-(((s.size+d.size) / 50:Nat):Int)) with
      | none=>rw [hk] at h;simp only at h;omega
      | some r=>
        rw [hk] at h;simp only at h ⊢
        have h1:=keysRoom_le _ _ _ hk;have hr0:0<=r:=by
          by_cases hr:r<0
          · rw [roomsL_neg _ _ _ hr] at h;exact h
          · omega
        have hkf:=keysRoom_fine _ _ _ hk hr0;obtain ⟨f1,f2,f3⟩:=rooms_fine vs (dp+1) r hr0 h;refine ⟨.mk k is ng d e s ks vs (by omega) (by omega) hkf f1,?_,by omega,?_⟩
        · rw [mass_mk];omega
        · rw [deepN_mk];split
          · rcases f3 with f3 | f3
            · rw [f3,deepNs_nil];omega
            · omega
          · omega
theorem rooms_fine (vs:List JV) (dp l:Int) (hl:0<=l) (h:0<=roomsL vs dp l):(∀ j (hj:j<vs.length),Fine vs[j])/\(masses vs:Int)+roomsL vs dp l<=l/\(vs=[]∨(deepNs vs:Int)+dp<=71):=by
  cases vs with
  | nil=>rw [roomsL_nil];exact ⟨fun j hj=>absurd hj (Nat.not_lt_zero _),by rw [masses_nil];omega,.inl rfl⟩
  | cons v t=>
    rw [roomsL_next _ _ _ _ hl] at h ⊢;have hv0:0<=v.room dp l:=by
      by_cases hr:v.room dp l<0
      · rw [roomsL_neg _ _ _ hr] at h;exact h
      · omega
    obtain ⟨a1,a2,a3,a4⟩:=room_fine v dp l hl hv0;obtain ⟨b1,b2,b3⟩:=rooms_fine t dp _ hv0 h;refine ⟨fun j hj=>?_,by rw [masses_cons];omega,.inr ?_⟩
    · cases j with
      | zero=>exact a1
      | succ j=>exact b1 j (by simpa using hj)
    · rw [deepNs_cons];rcases b3 with b3 | b3
      · rw [b3,deepNs_nil];omega
      · omega
end
theorem great_no (t:JV) (h:¬ t.room 1 400<0):Fine t/\t.mass<=400/\t.deepN<=70:=by
  obtain ⟨h1,h2,_,h4⟩:=room_fine t 1 400 (by omega) (by omega);exact ⟨h1,by omega,by omega⟩
/-! What sorting keeps. -/
theorem masses_sum (vs:List JV):masses vs=(vs.map JV.mass).sum:=by
  induction vs with
  | nil=>rw [masses_nil];rfl
  | cons v t ih=>rw [masses_cons,ih];rfl
theorem masses_perm {a b:List JV} (h:a.Perm b):masses a=masses b:=by rw [masses_sum,masses_sum];exact (h.map _).sum_nat
theorem deepNs_le (vs:List JV) (d:Nat):deepNs vs<=d↔∀ v∈vs,v.deepN<=d:=by
  induction vs with
  | nil=>rw [deepNs_nil];simp
  | cons v t ih=>rw [deepNs_cons,Nat.max_le,ih];simp
theorem deepNs_perm {a b:List JV} (h:a.Perm b):deepNs a=deepNs b:=
  Nat.le_antisymm ((deepNs_le a _).2 fun v hv=>(deepNs_le b _).1 (Nat.le_refl _) v (h.subset hv)) ((deepNs_le b _).2 fun v hv=>(deepNs_le a _).1 (Nat.le_refl _) v (h.symm.subset hv))
theorem goodq_mem {vs:List JV}:(∀ j (h:j<vs.length),GoodQ vs[j])↔∀ v∈vs,GoodQ v:=
  ⟨fun h v hv=>by obtain ⟨j,hj,rfl⟩:=List.getElem_of_mem hv;exact h j hj,fun h j hj=>h _ (List.getElem_mem hj)⟩
theorem fine_mem {vs:List JV}:(∀ j (h:j<vs.length),Fine vs[j])↔∀ v∈vs,Fine v:=
  ⟨fun h v hv=>by obtain ⟨j,hj,rfl⟩:=List.getElem_of_mem hv;exact h j hj,fun h j hj=>h _ (List.getElem_mem hj)⟩
end Go.Proofs.YtliekocamnklfaaGreatDoor.Jdec
