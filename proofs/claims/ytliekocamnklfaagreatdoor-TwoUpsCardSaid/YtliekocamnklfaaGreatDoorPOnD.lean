/- tabulariumref08.own, whole, Right of any value, both ways. (Written by gen/ond.py out of JenB, JenC.) -/
import Derived.Test.YtliekocamnklfaaGreatDoorPOnC
import Derived.Laws.StructEq
set_option linter.unusedVariables false
set_option linter.unusedSimpArgs false
set_option maxRecDepth 100000
set_option maxHeartbeats 16000000
namespace Go.Proofs.YtliekocamnklfaaGreatDoor.Jdec
open Go.RowKit Strs
theorem own_is (N:Nat) (hN:N<=281474976710656) (k:Int) (is ng:Bool) (d:ByteArray) (e:Int) (s:ByteArray) (ks:List ByteArray) (n:Nat) (hd:d.size<=N) (hs:s.size<=N) (hk:ks.length<=N) (hx:∀ x∈ks,x.size<=N) (ka va:Option Addr) (kc vc:Nat) (A:Nat->Prop) (w:World) (ht:IsTexts w A ka ks):Calls Tryz.prog 115 #[(Raw.mk k is ng d e s ka ks.length kc va n vc).val] w (IsPost (OwnQ k is ng d e s ks n) w):=by
  obtain ⟨w2,hw2,V2,B2⟩:=own_new w (Raw.mk k is ng d e s ka ks.length kc va n vc);have V2:Hid (w2.heap[w.heap.size]?=some (.cells (Raw.mk k is ng d e s ka ks.length kc va n vc).arr 29 (0,0))):=V2.out
  dsimp only at hw2
  unfold Raw.val;have hrc:=fun w=>Num.rright_any ng d e w (by omega);have hvc:=fun w=>Utf.rvalid_any s w (by omega);obtain ⟨R,hR⟩:∃ R,Num.right ng d.data.toList e=R:=⟨_,rfl⟩;obtain ⟨S,hS⟩:∃ S,Utf.validB s.data.toList=S:=⟨_,rfl⟩;rw [hR] at hrc;rw [hS] at hvc;have HR:=Hid.out (p:=Hid _) hR;have HS:=Hid.out (p:=Hid _) hS;have HRC:=Hid.out (p:=Hid _) hrc;have HVC:=Hid.out (p:=Hid _) hvc;have HX:=Hid.out (p:=Hid _) hx;have HT:Hid (IsTexts w2 A ka ks):=ht.turn (Turn.below B2.out);obtain ⟨⟨x0,x1,x2,x3,x4,x5,x6,x7⟩,_⟩:=val_cells V2.out;clear hrc hvc ht hR hS hx;go_enter Tryz.func115,Tryz.ntmps115
  obtain ⟨T1,hT1⟩:∃ T,decide (k<1∨6<k)=T:=⟨_,rfl⟩;have HT1:=Hid.out (p:=Hid _) hT1;clear hT1
  go_upto_region 1 with (fail)
  go_cut [12] from 5 (fun p12 wx=>w2=wx/\p12=.bool T1)
  case first=>
    by_cases a1:k<1
    · obtain rfl:true=T1:=by rw [<-HT1.out];exact (decide_eq_true (by omega)).symm
      have f1:decide (k<1)=true:=by rw [decide_eq_true_eq];exact a1
      clear a1;go_wp2_with fail
      go_meet
      exact ⟨rfl,rfl⟩
    · have f1:decide (k<1)=false:=by rw [decide_eq_false_iff_not];exact a1
      by_cases a2:6<k
      · obtain rfl:true=T1:=by rw [<-HT1.out];exact (decide_eq_true (by omega)).symm
        have f2:decide (6<k)=true:=by rw [decide_eq_true_eq];exact a2
        clear a1 a2;go_wp2_with fail
        go_meet
        exact ⟨rfl,rfl⟩
      · obtain rfl:false=T1:=by rw [<-HT1.out];exact (decide_eq_false (by omega)).symm
        have f2:decide (6<k)=false:=by rw [decide_eq_false_iff_not];exact a2
        clear a1 a2;go_wp2_with fail
        go_meet
        exact ⟨rfl,rfl⟩
  case rest=>
  obtain ⟨rfl,rfl⟩:=hcut;cases T1
  case true=>
    go_wp2_with fail
    go_ret
    refine .no rfl (fun O=>?_) B2.out;have h:=of_decide_eq_true HT1.out;have:=O.k1;have:=O.k6;omega
  case false=>
  have hk16:=of_decide_eq_false HT1.out;have HK16:=Hid.out (p:=Hid _) hk16;clear hk16 HT1;obtain ⟨T3,hT3⟩:∃ T,decide ((k≠2/\is=true)∨(k≠3/\¬ (ng=false/\d=⟨#[]⟩/\e=0))∨(k≠4/\s≠⟨#[]⟩))=T:=⟨_,rfl⟩;have HT3:=Hid.out (p:=Hid _) hT3;clear hT3
  go_upto_region 3 with (fail)
  go_cut [40] from 13 (fun p40 wx=>w2=wx/\p40=.bool T3)
  case first=>
    by_cases c2:k=2
    · subst c2;cases ng
      case true=>
        obtain rfl:true=T3:=by rw [<-HT3.out];exact (decide_eq_true (by exact .inr (.inl ⟨(by decide),by simp⟩))).symm
        go_wp2_with fail
        go_meet
        exact ⟨rfl,rfl⟩
      case false=>
      by_cases hd0:d=⟨#[]⟩
      case neg=>
        have hde:=toList_nil hd0;obtain rfl:true=T3:=by rw [<-HT3.out];exact (decide_eq_true (by exact .inr (.inl ⟨(by decide),fun h=>hd0 h.2.1⟩))).symm
        clear hd0;go_wp2_with fail
        go_meet
        exact ⟨rfl,rfl⟩
      case pos=>
      subst hd0;by_cases he0:e=0
      case neg=>
        have hee:(e == 0)=false:=by rw [beq_eq_false_iff_ne];exact he0
        obtain rfl:true=T3:=by rw [<-HT3.out];exact (decide_eq_true (by exact .inr (.inl ⟨(by decide),fun h=>he0 h.2.2⟩))).symm
        clear he0;go_wp2_with fail
        go_meet
        exact ⟨rfl,rfl⟩
      case pos=>
      subst he0;by_cases hs0:s=⟨#[]⟩
      · subst hs0;obtain rfl:false=T3:=by rw [<-HT3.out];exact (decide_eq_false (by simp)).symm
        go_wp2_with fail
        go_meet
        exact ⟨rfl,rfl⟩
      · have hse:=toList_nil hs0;obtain rfl:true=T3:=by rw [<-HT3.out];exact (decide_eq_true (by exact .inr (.inr ⟨(by decide),hs0⟩))).symm
        clear hs0;go_wp2_with fail
        go_meet
        exact ⟨rfl,rfl⟩
    by_cases c3:k=3
    · subst c3;cases is
      case true=>
        obtain rfl:true=T3:=by rw [<-HT3.out];exact (decide_eq_true (by exact .inl ⟨(by decide),rfl⟩)).symm
        go_wp2_with fail
        go_meet
        exact ⟨rfl,rfl⟩
      case false=>
      by_cases hs0:s=⟨#[]⟩
      · subst hs0;obtain rfl:false=T3:=by rw [<-HT3.out];exact (decide_eq_false (by simp)).symm
        go_wp2_with fail
        go_meet
        exact ⟨rfl,rfl⟩
      · have hse:=toList_nil hs0;obtain rfl:true=T3:=by rw [<-HT3.out];exact (decide_eq_true (by exact .inr (.inr ⟨(by decide),hs0⟩))).symm
        clear hs0;go_wp2_with fail
        go_meet
        exact ⟨rfl,rfl⟩
    by_cases c4:k=4
    · subst c4;cases is
      case true=>
        obtain rfl:true=T3:=by rw [<-HT3.out];exact (decide_eq_true (by exact .inl ⟨(by decide),rfl⟩)).symm
        go_wp2_with fail
        go_meet
        exact ⟨rfl,rfl⟩
      case false=>
      cases ng
      case true=>
        obtain rfl:true=T3:=by rw [<-HT3.out];exact (decide_eq_true (by exact .inr (.inl ⟨(by decide),by simp⟩))).symm
        go_wp2_with fail
        go_meet
        exact ⟨rfl,rfl⟩
      case false=>
      by_cases hd0:d=⟨#[]⟩
      case neg=>
        have hde:=toList_nil hd0;obtain rfl:true=T3:=by rw [<-HT3.out];exact (decide_eq_true (by exact .inr (.inl ⟨(by decide),fun h=>hd0 h.2.1⟩))).symm
        clear hd0;go_wp2_with fail
        go_meet
        exact ⟨rfl,rfl⟩
      case pos=>
      subst hd0;by_cases he0:e=0
      case neg=>
        have hee:(e == 0)=false:=by rw [beq_eq_false_iff_ne];exact he0
        obtain rfl:true=T3:=by rw [<-HT3.out];exact (decide_eq_true (by exact .inr (.inl ⟨(by decide),fun h=>he0 h.2.2⟩))).symm
        clear he0;go_wp2_with fail
        go_meet
        exact ⟨rfl,rfl⟩
      case pos=>
      subst he0;obtain rfl:false=T3:=by rw [<-HT3.out];exact (decide_eq_false (by simp)).symm
      go_wp2_with fail
      go_meet
      exact ⟨rfl,rfl⟩
    have n2:(k != 2)=true:=by rw [bne_iff_ne];exact c2
    have n3:(k != 3)=true:=by rw [bne_iff_ne];exact c3
    have n4:(k != 4)=true:=by rw [bne_iff_ne];exact c4
    cases is
    case true=>
      obtain rfl:true=T3:=by rw [<-HT3.out];exact (decide_eq_true (by exact .inl ⟨c2,rfl⟩)).symm
      go_wp2_with fail
      go_meet
      exact ⟨rfl,rfl⟩
    case false=>
    cases ng
    case true=>
      obtain rfl:true=T3:=by rw [<-HT3.out];exact (decide_eq_true (by exact .inr (.inl ⟨c3,by simp⟩))).symm
      go_wp2_with fail
      go_meet
      exact ⟨rfl,rfl⟩
    case false=>
    by_cases hd0:d=⟨#[]⟩
    case neg=>
      have hde:=toList_nil hd0;obtain rfl:true=T3:=by rw [<-HT3.out];exact (decide_eq_true (by exact .inr (.inl ⟨c3,fun h=>hd0 h.2.1⟩))).symm
      clear hd0;go_wp2_with fail
      go_meet
      exact ⟨rfl,rfl⟩
    case pos=>
    subst hd0;by_cases he0:e=0
    case neg=>
      have hee:(e == 0)=false:=by rw [beq_eq_false_iff_ne];exact he0
      obtain rfl:true=T3:=by rw [<-HT3.out];exact (decide_eq_true (by exact .inr (.inl ⟨c3,fun h=>he0 h.2.2⟩))).symm
      clear he0;go_wp2_with fail
      go_meet
      exact ⟨rfl,rfl⟩
    case pos=>
    subst he0;by_cases hs0:s=⟨#[]⟩
    · subst hs0;obtain rfl:false=T3:=by rw [<-HT3.out];exact (decide_eq_false (by simp)).symm
      go_wp2_with fail
      go_meet
      exact ⟨rfl,rfl⟩
    · have hse:=toList_nil hs0;obtain rfl:true=T3:=by rw [<-HT3.out];exact (decide_eq_true (by exact .inr (.inr ⟨c4,hs0⟩))).symm
      clear hs0;go_wp2_with fail
      go_meet
      exact ⟨rfl,rfl⟩
  case rest=>
  obtain ⟨rfl,rfl⟩:=hcut;cases T3
  case true=>
    go_wp2_with fail
    go_ret
    refine .no rfl (fun O=>?_) B2.out;rcases of_decide_eq_true HT3.out with h | h | h
    · have a:=O.is h.1;rw [h.2] at a;cases a
    · exact h.2 (O.num h.1)
    · exact h.2 (O.text h.1)
  case false=>
  have h3:=of_decide_eq_false HT3.out;have H3:=Hid.out (p:=Hid _) h3;clear h3 HT3;obtain ⟨T5,hT5⟩:∃ T,decide ((k<5/\0<n)∨(k≠6/\0<ks.length))=T:=⟨_,rfl⟩;have HT5:=Hid.out (p:=Hid _) hT5;clear hT5
  go_upto_region 5 with (fail)
  go_cut [60] from 41 (fun p60 wx=>w2=wx/\p60=.bool T5)
  case first=>
    by_cases c6:k=6
    · subst c6;obtain rfl:false=T5:=by rw [<-HT5.out];exact (decide_eq_false (by omega)).symm
      go_wp2_with fail
      go_meet
      exact ⟨rfl,rfl⟩
    · have n6:(k != 6)=true:=by rw [bne_iff_ne];exact c6
      by_cases c5:k<5
      · have f5:decide (k<5)=true:=by rw [decide_eq_true_eq];exact c5
        by_cases cn:0<n
        · obtain rfl:true=T5:=by rw [<-HT5.out];exact (decide_eq_true (.inl ⟨c5,cn⟩)).symm
          have g1:decide (0<(n:Int))=true:=by rw [decide_eq_true_eq];omega
          have g2:decide (0<n)=true:=by rw [decide_eq_true_eq];exact cn
          clear c5 cn c6;go_wp2_with fail
          go_meet
          exact ⟨rfl,rfl⟩
        · obtain rfl:n=0:=by omega
          by_cases ck:0<ks.length
          · obtain rfl:true=T5:=by rw [<-HT5.out];exact (decide_eq_true (.inr ⟨c6,ck⟩)).symm
            have g1:decide (0<(ks.length:Int))=true:=by rw [decide_eq_true_eq];omega
            have g2:decide (0<ks.length)=true:=by rw [decide_eq_true_eq];exact ck
            clear c5 cn c6 ck;go_wp2_with fail
            go_meet
            exact ⟨rfl,rfl⟩
          · obtain rfl:false=T5:=by rw [<-HT5.out];exact (decide_eq_false (by omega)).symm
            have g1:decide (0<(ks.length:Int))=false:=by rw [decide_eq_false_iff_not];omega
            have g2:decide (0<ks.length)=false:=by rw [decide_eq_false_iff_not];exact ck
            clear c5 cn c6 ck;go_wp2_with fail
            go_meet
            exact ⟨rfl,rfl⟩
      · have f5:decide (k<5)=false:=by rw [decide_eq_false_iff_not];exact c5
        by_cases ck:0<ks.length
        · obtain rfl:true=T5:=by rw [<-HT5.out];exact (decide_eq_true (.inr ⟨c6,ck⟩)).symm
          have g1:decide (0<(ks.length:Int))=true:=by rw [decide_eq_true_eq];omega
          have g2:decide (0<ks.length)=true:=by rw [decide_eq_true_eq];exact ck
          clear c5 c6 ck;go_wp2_with fail
          go_meet
          exact ⟨rfl,rfl⟩
        · obtain rfl:false=T5:=by rw [<-HT5.out];exact (decide_eq_false (by omega)).symm
          have g1:decide (0<(ks.length:Int))=false:=by rw [decide_eq_false_iff_not];omega
          have g2:decide (0<ks.length)=false:=by rw [decide_eq_false_iff_not];exact ck
          clear c5 c6 ck;go_wp2_with fail
          go_meet
          exact ⟨rfl,rfl⟩
  case rest=>
  obtain ⟨rfl,rfl⟩:=hcut;cases T5
  case true=>
    go_wp2_with fail
    go_ret
    refine .no rfl (fun O=>?_) B2.out;rcases of_decide_eq_true HT5.out with h | h
    · have a:=O.kids h.1;omega
    · have a:=O.noKeys h.1;rw [a] at h;exact absurd h.2 (by simp)
  case false=>
  have h5:=of_decide_eq_false HT5.out;have H5:=Hid.out (p:=Hid _) h5;clear h5 HT5;go_wp2_with fail
  refine (Calls.mono (HRC.out w2) ?_);rintro z w3 ⟨rfl,hb3⟩;have V3:=Hid.out (p:=Hid _) ((hb3.block w.heap.size (heap_lt V2.out)).trans V2.out);have B3:=Hid.out (p:=Hid _) (B2.out.trans (hb3.mono B2.out.size));have HT3:Hid (IsTexts w3 A ka ks):=IsTexts.turn HT.out (Turn.below hb3);clear hb3 x0 x1 x2 x3 x4 x5 x6 x7 V2 B2 hw2 HRC HT;cases R
  case false=>
    go_wp2_with fail
    go_ret
    refine .no rfl (fun O=>?_) B3.out;have h:=O.right;rw [HR.out] at h;cases h
  case true=>
  obtain ⟨⟨x0,x1,x2,x3,x4,x5,x6,x7⟩,_⟩:=val_cells V3.out;go_wp2_with fail
  refine (Calls.mono (HVC.out w3) ?_);rintro z w4 ⟨rfl,hb4⟩;have V4:=Hid.out (p:=Hid _) ((hb4.block w.heap.size (heap_lt V3.out)).trans V3.out);have B4:=Hid.out (p:=Hid _) (B3.out.trans (hb4.mono B3.out.size));have HT4:Hid (IsTexts w4 A ka ks):=IsTexts.turn HT3.out (Turn.below hb4);clear hb4 x0 x1 x2 x3 x4 x5 x6 x7 V3 B3 HVC HT3;cases S
  case false=>
    go_wp2_with fail
    go_ret
    refine .no rfl (fun O=>?_) B4.out;have h:=O.valid;rw [HS.out] at h;cases h
  case true=>
  obtain ⟨⟨x0,x1,x2,x3,x4,x5,x6,x7⟩,_⟩:=val_cells V4.out;obtain ⟨T9,hT9⟩:∃ T,decide (k=6/\ks.length≠n)=T:=⟨_,rfl⟩;have HT9:=Hid.out (p:=Hid _) hT9;clear hT9
  go_upto_region 9 with (fail)
  go_cut [82] from 71 (fun p82 wx=>w4=wx/\p82=.bool T9)
  case first=>
    by_cases c6:k=6
    · subst c6;by_cases cn:ks.length=n
      · obtain rfl:false=T9:=by rw [<-HT9.out];exact (decide_eq_false (by omega)).symm
        have g1:((ks.length:Int) != (n:Int))=false:=by rw [cn];simp
        clear cn;go_wp2_with fail
        go_meet
        exact ⟨rfl,rfl⟩
      · obtain rfl:true=T9:=by rw [<-HT9.out];exact (decide_eq_true ⟨rfl,cn⟩).symm
        have g1:((ks.length:Int) != (n:Int))=true:=by rw [bne_iff_ne];omega
        clear cn;go_wp2_with fail
        go_meet
        exact ⟨rfl,rfl⟩
    · have n6:(k == 6)=false:=by rw [beq_eq_false_iff_ne];exact c6
      obtain rfl:false=T9:=by rw [<-HT9.out];exact (decide_eq_false (by omega)).symm
      clear c6;go_wp2_with fail
      go_meet
      exact ⟨rfl,rfl⟩
  case rest=>
  obtain ⟨rfl,rfl⟩:=hcut;cases T9
  case true=>
    go_wp2_with fail
    go_ret
    refine .no rfl (fun O=>?_) B4.out;have h:=of_decide_eq_true HT9.out;exact h.2 (O.both h.1)
  case false=>
  have h9:=of_decide_eq_false HT9.out;have H9:=Hid.out (p:=Hid _) h9;clear h9 HT9 x0 x1 x2 x3 x4 x5 x7;go_wp2_with fail
  clear x6
  go_loopw [3] (fun p wr=>∃ i:Nat,p=.int .i64 i/\i<=ks.length/\Hid (Below w4.heap.size w4 wr)/\Hid (∀ x∈ks.take i,Utf.validB x.data.toList=true)/\Hid ((ks.take i).Nodup)) (fun p _=>ks.length-(intOf p).toNat)
  case atStart=>exact ⟨0,rfl,Nat.zero_le _,Below.refl _ _,fun x hx=>by simp at hx,by rw [Hid,List.take_zero];exact List.nodup_nil⟩
  case round=>
    obtain ⟨i,rfl,hi,hB,hV,hN⟩:=hrel;have V5:=Hid.out (p:=Hid _) ((hB.out.block w.heap.size (heap_lt V4.out)).trans V4.out);have d6:wr.cell? ⟨w.heap.size,6,none⟩=some (.slice ka ks.length kc):=cell_of V5.out 6;by_cases hlt:i<ks.length
    · have hne:ks≠[]:=fun e=>by rw [e] at hlt;simp at hlt
      have HT5:Hid (IsTexts wr A ka ks):=IsTexts.turn HT4.out (Turn.below hB.out);obtain ⟨b,o,rfl,_,_,hc⟩:=HT5.out.resolve_left hne;have g2:=hc i hlt;obtain ⟨y,hy⟩:∃ y,ks[i]=y:=⟨_,rfl⟩;rw [hy] at g2;have hky:=HX.out ks[i] (List.getElem_mem hlt);rw [hy] at hky;have hvc:=Utf.rvalid_any y wr (by omega);obtain ⟨Y,hY⟩:∃ Y,Utf.validB y.data.toList=Y:=⟨_,rfl⟩;rw [hY] at hvc;have HVC:=Hid.out (p:=Hid _) hvc;have HY:=Hid.out (p:=Hid _) hy;have HYV:=Hid.out (p:=Hid _) hY;clear hc hvc hky hy hY;go_wp2_with fail
      refine (Calls.mono HVC.out ?_);rintro z w6 ⟨rfl,hb6⟩;have V6:=Hid.out (p:=Hid _) ((hb6.block w.heap.size (heap_lt V5.out)).trans V5.out);have B6:Hid (Below w4.heap.size w4 w6):=hB.out.trans (hb6.mono hB.out.size);have HT6:Hid (IsTexts w6 A (some ⟨b,o,none⟩) ks):=IsTexts.turn HT5.out (Turn.below hb6);clear hb6 hB V5 HT5 d6 g2 HVC;cases Y
      case false=>
        go_wp2_with fail
        go_ret
        refine .no rfl (fun O=>?_) (B4.out.trans (B6.out.mono B4.out.size));have h:=O.words _ (List.getElem_mem hlt);rw [HY.out,HYV.out] at h;cases h
      case true=>
      have HVN:Hid (∀ x∈ks.take (i+1),Utf.validB x.data.toList=true):=by
        intro x hx
        rw [List.take_add_one,List.getElem?_eq_getElem hlt] at hx;rcases List.mem_append.1 hx with h | h
        · exact hV.out x h
        · rw [List.mem_singleton.1 h,HY.out];exact HYV.out
      go_wp2_with fail
      go_loopw [4] (fun p wr=>∃ j:Nat,p=.int .i64 j/\j<=i/\Hid (Below w6.heap.size w6 wr)/\Hid (∀ j' (hj:j'<j) (hl:j'<ks.length),ks[j']≠y)) (fun p _=>i-(intOf p).toNat)
      case atStart=>exact ⟨0,rfl,Nat.zero_le _,Below.refl _ _,fun j' hj _=>absurd hj (Nat.not_lt_zero _)⟩
      case round=>
        obtain ⟨j,rfl,hj,hB,hA⟩:=hrel;have V7:=Hid.out (p:=Hid _) ((hB.out.block w.heap.size (heap_lt V6.out)).trans V6.out);have d6:wr.cell? ⟨w.heap.size,6,none⟩=some (.slice (some ⟨b,o,none⟩) ks.length kc):=cell_of V7.out 6;have B7:Hid (Below w4.heap.size w4 wr):=B6.out.trans (hB.out.mono B6.out.size);by_cases hji:j<i
        · have HT7:Hid (IsTexts wr A (some ⟨b,o,none⟩) ks):=IsTexts.turn HT6.out (Turn.below hB.out);obtain ⟨b',o',he,_,_,hc⟩:=HT7.out.resolve_left hne;injection he with he
          injection he with he1 he2
          subst he1 he2;have g1:=hc j (by omega);have g2:=hc i hlt;rw [HY.out] at g2;obtain ⟨x,hx⟩:∃ x,(ks[j]'(by omega))=x:=⟨_,rfl⟩;rw [hx] at g1;have HXX:=Hid.out (p:=Hid _) hx;clear hc hx;by_cases hxy:x=y
          · subst hxy;go_wp2_with fail
            go_quiet (fail)
            have B8:=Hid.out (p:=Hid _) (B7.out.trans ((below_drewN _ wr nq).mono B7.out.size));clear d6 g1 g2;generalize wr.drewN nq=w8 at *;go_wp2_with fail
            go_ret
            refine .no rfl (fun O=>?_) (B4.out.trans (B8.out.mono B4.out.size));have h:=(List.getElem_inj O.apart).1 (HXX.out.trans HY.out.symm);omega
          · have q2:=text_ne hxy;have HAN:Hid (∀ j' (hj:j'<j+1) (hl:j'<ks.length),ks[j']≠y):=by
              intro j' hj' hl
              by_cases h:j'=j
              · subst h;rw [HXX.out];exact hxy
              · exact hA.out j' (by omega) hl
            clear hxy;go_wp2_with fail
            go_quiet (fail)
            go_wp2_with fail
            go_roundw
            case rel=>exact ⟨j+1,by go_num,by omega,hB.out.trans (below_drewN _ _ _),HAN.out⟩
            case measure=>simp [intOf];omega
        · have HNN:Hid ((ks.take (i+1)).Nodup):=take_nodup hlt hN.out (fun j' hj'=>by rw [HY.out];exact hA.out j' (by omega) (by omega));go_wp2_with fail
          go_roundw
          case rel=>exact ⟨i+1,by go_num,by omega,B7.out,HVN.out,HNN.out⟩
          case measure=>simp [intOf];omega
    · obtain rfl:i=ks.length:=by omega
      rw [List.take_length] at hV hN;have HO:Hid (OwnQ k is ng d e s ks n):=by
        have h1:¬ (k<1∨6<k):=HK16.out;have h3:¬ ((k≠2/\is=true)∨(k≠3/\¬ (ng=false/\d=⟨#[]⟩/\e=0))∨(k≠4/\s≠⟨#[]⟩)):=H3.out;have h5:¬ ((k<5/\0<n)∨(k≠6/\0<ks.length)):=H5.out;have h9:¬ (k=6/\ks.length≠n):=H9.out;refine ⟨by omega,by omega,fun h=>?_,fun h=>?_,fun h=>?_,fun h=>by omega,fun h=>?_,HR.out,HS.out,fun h=>?_,hV.out,hN.out⟩
        · cases is
          · rfl
          · exact absurd (.inl ⟨h,rfl⟩) h3
        · exact Classical.byContradiction fun hc=>h3 (.inr (.inl ⟨h,hc⟩))
        · exact Classical.byContradiction fun hc=>h3 (.inr (.inr ⟨h,hc⟩))
        · exact List.length_eq_zero_iff.1 (by omega)
        · exact Classical.byContradiction fun hc=>h9 ⟨h,hc⟩
      go_wp2_with fail
      go_ret
      exact .yes rfl HO.out (B4.out.trans (hB.out.mono B4.out.size))
def WholeIs (t:JV):Prop:=∀ (ra:Raw) (A:Nat->Prop) (w:World),IsV w A ra t->Calls Tryz.prog 75 #[ra.val] w (IsPost (GoodQ t) w)
theorem whole_step (N:Nat) (hN:N<=281474976710656) (k:Int) (is ng:Bool) (d:ByteArray) (e:Int) (s:ByteArray) (ks:List ByteArray) (vs:List JV) (hd:d.size<=N) (hs:s.size<=N) (hk:ks.length<=N) (hv:vs.length<=N) (hx:∀ x∈ks,x.size<=N) (IH:∀ j (h:j<vs.length),WholeIs vs[j]):WholeIs (.mk k is ng d e s ks vs):=by
  intro ra A w h
  obtain ⟨ka,kc,va,vc,rfl,ht,f,hc,hi⟩:=h.parts;have HIH:=Hid.out (p:=Hid _) IH;have HC:=Hid.out (p:=Hid _) hc;have HI:=Hid.out (p:=Hid _) hi;obtain ⟨w2,hw2,V2,B2⟩:=own_new w (Raw.mk k is ng d e s ka ks.length kc va vs.length vc);have V2:Hid (w2.heap[w.heap.size]?=some (.cells (Raw.mk k is ng d e s ka ks.length kc va vs.length vc).arr 29 (0,0))):=V2.out;have hown:=own_is N hN k is ng d e s ks vs.length hd hs hk hx ka va kc vc A w2 (ht.turn (Turn.below B2.out));have HOWN:=Hid.out (p:=Hid _) hown;clear h ht hc hi IH hown hx
  dsimp only at hw2
  unfold Raw.val at HOWN ⊢;obtain ⟨⟨x0,x1,x2,x3,x4,x5,x6,x7⟩,_⟩:=val_cells V2.out;go_enter Tryz.func75,Tryz.ntmps75
  go_wp2_with fail
  refine (Calls.mono HOWN.out ?_);rintro z w3 hz;obtain ⟨b,rfl,hb,hb3⟩:=hz;have HBO:=Hid.out (p:=Hid _) hb;have V3:=Hid.out (p:=Hid _) ((hb3.block w.heap.size (heap_lt V2.out)).trans V2.out);have B3:=Hid.out (p:=Hid _) (B2.out.trans (hb3.mono B2.out.size));clear hb hb3 x0 x1 x2 x3 x4 x5 x6 x7 V2 B2 hw2 HOWN;cases b
  case false=>
    go_wp2_with fail
    go_ret
    exact .no rfl (fun G=>by have h:=HBO.out.2 G.inv.1;cases h) B3.out
  case true=>
  have HO:=Hid.out (p:=Hid _) (HBO.out.1 rfl);clear HBO;go_wp2_with fail
  go_loopw [3] (fun p wr=>∃ i:Nat,p=.int .i64 i/\i<=vs.length/\Hid (Below w3.heap.size w3 wr)/\Hid (∀ j (h:j<vs.length),j<i->GoodQ vs[j])) (fun p _=>vs.length-(intOf p).toNat)
  case atStart=>exact ⟨0,rfl,Nat.zero_le _,Below.refl _ _,fun j h hj=>absurd hj (Nat.not_lt_zero _)⟩
  case round=>
    obtain ⟨i,rfl,hi,hB,hG⟩:=hrel;have V4:=Hid.out (p:=Hid _) ((hB.out.block w.heap.size (heap_lt V3.out)).trans V3.out);have d7:wr.cell? ⟨w.heap.size,7,none⟩=some (.slice va vs.length vc):=cell_of V4.out 7;by_cases hlt:i<vs.length
    · have hne:vs≠[]:=fun e=>by rw [e] at hlt;simp at hlt
      obtain ⟨g,o,rfl,hg,hcs⟩:=HC.out.resolve_left hne;have Bw:Hid (Below w.heap.size w wr):=B3.out.trans (hB.out.mono B3.out.size);have K1:=Hid.out (p:=Hid _) ((hcs i hlt).below hg Bw.out);have I1:=Hid.out (p:=Hid _) ((HI.out i hlt).behind Bw.out);have hcall:=HIH.out i hlt (f i) A wr I1.out;clear hcs;generalize f i=x at *;have HCL:=Hid.out (p:=Hid _) hcall;have K1c:CellsAt wr g (o+i*8) x:=K1.out;obtain ⟨u0,u1,u2,u3,u4,u5,u6,u7⟩:=K1c.eight;clear K1 K1c hcall I1 V4;go_wp2_with fail
      refine (Calls.mono HCL.out ?_);rintro z w5 hz;obtain ⟨b,rfl,hb,hb5⟩:=hz;have HBO:=Hid.out (p:=Hid _) hb;have B5:Hid (Below w3.heap.size w3 w5):=hB.out.trans (hb5.mono hB.out.size);clear hb5 hb;cases b
      case false=>
        go_wp2_with fail
        go_ret
        exact .no rfl (fun G=>by have h:=HBO.out.2 (G.inv.2 i hlt);cases h) (B3.out.trans (B5.out.mono B3.out.size))
      case true=>
      have HGN:Hid (∀ j (h:j<vs.length),j<i+1->GoodQ vs[j]):=by
        intro j h hj
        by_cases hji:j=i
        · subst hji;exact HBO.out.1 rfl
        · exact hG.out j h (by omega)
      go_wp2_with fail
      go_roundw
      case rel=>exact ⟨i+1,by go_num,by omega,B5.out,HGN.out⟩
      case measure=>simp [intOf];omega
    · have HQ:Hid (GoodQ (.mk k is ng d e s ks vs)):=.mk k is ng d e s ks vs HO.out (fun j h=>hG.out j h (by omega));go_wp2_with fail
      go_ret
      exact .yes rfl HQ.out (B3.out.trans (hB.out.mono B3.out.size))
theorem whole_is (N:Nat) (hN:N<=281474976710656) (t:JV) (h:Held N t):WholeIs t:=by
  induction h with
  | mk k i n d e s ks vs h1 h2 h3 h4 h5 h6 ih=>exact whole_step N hN k i n d e s ks vs h1 h2 h3 h4 h5 ih
theorem right_is (N:Nat) (hN:N<=281474976710656) (t:JV) (h:Held N t) (hd:t.deepN<=1000) (ra:Raw) (A:Nat->Prop) (w:World) (hi:IsV w A ra t):Calls Tryz.prog 24 #[ra.val] w (IsPost (GoodQ t/\t.deepN<=64) w):=by
  obtain ⟨w2,hw2,V2,B2⟩:=own_new w ra;have V2:Hid (w2.heap[w.heap.size]?=some (.cells ra.arr 29 (0,0))):=V2.out;have I2:=Hid.out (p:=Hid _) (hi.behind B2.out);have hdc:=deep_any N (by omega) t (held_small h) hd ra A w2 I2.out;have HDC:=Hid.out (p:=Hid _) hdc;have hwc:=whole_is N hN t h;have HWC:=Hid.out (p:=Hid _) hwc;generalize t.deepN=dn at *;clear hi hdc hwc h;unfold Raw.val at HDC ⊢;obtain ⟨⟨x0,x1,x2,x3,x4,x5,x6,x7⟩,_⟩:=val_cells V2.out;go_enter Tryz.func24,Tryz.ntmps24
  go_wp2_with fail
  refine (Calls.mono HDC.out ?_);rintro z w3 ⟨rfl,hb3⟩;have V3:=Hid.out (p:=Hid _) ((hb3.block w.heap.size (heap_lt V2.out)).trans V2.out);have B3:=Hid.out (p:=Hid _) (B2.out.trans (hb3.mono B2.out.size));have hcall:=HWC.out ra A w3 (I2.out.behind hb3);have HCL:=Hid.out (p:=Hid _) hcall;unfold Raw.val at HCL;clear hb3 x0 x1 x2 x3 x4 x5 x6 x7 V2 B2 hw2 HDC hcall;by_cases h64:dn<=64
  · have t1:decide ((dn:Int)<=64)=true:=by rw [decide_eq_true_eq];omega
    have t2:decide (dn<=64)=true:=by rw [decide_eq_true_eq];omega
    have H64:=Hid.out (p:=Hid _) h64;obtain ⟨⟨x0,x1,x2,x3,x4,x5,x6,x7⟩,_⟩:=val_cells V3.out;clear h64 hd;go_wp2_with fail
    refine (Calls.mono HCL.out ?_);rintro z w4 hz;obtain ⟨b,rfl,hb,hb4⟩:=hz;have HBO:=Hid.out (p:=Hid _) hb;have B4:=Hid.out (p:=Hid _) (B3.out.trans (hb4.mono B3.out.size));clear hb4 hb;go_wp2_with fail
    go_ret
    exact ⟨b,rfl,⟨fun h=>⟨HBO.out.1 h,H64.out⟩,fun h=>HBO.out.2 h.1⟩,B4.out⟩
  · have t1:decide ((dn:Int)<=64)=false:=by rw [decide_eq_false_iff_not];omega
    have t2:decide (dn<=64)=false:=by rw [decide_eq_false_iff_not];omega
    have H64:=Hid.out (p:=Hid _) h64;clear h64 hd;go_wp2_with fail
    go_ret
    exact .no rfl (fun h=>H64.out h.2) B3.out
end Go.Proofs.YtliekocamnklfaaGreatDoor.Jdec
