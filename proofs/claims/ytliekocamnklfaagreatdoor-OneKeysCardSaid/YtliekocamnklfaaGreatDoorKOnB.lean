/- tree.areKeys of any keys. -/
import Derived.Test.YtliekocamnklfaaGreatDoorKJenS
set_option linter.unusedVariables false
set_option linter.unusedSimpArgs false
set_option maxRecDepth 100000
set_option maxHeartbeats 4000000
namespace Go.Proofs.YtliekocamnklfaaGreatDoor.Jdec
open Go.RowKit Strs
structure KeysQ (ks:List ByteArray):Prop where
  words:∀ x∈ks,Utf.validB x.data.toList=true
  apart:ks.Nodup
theorem KeysQ.more {ks:List ByteArray} {i:Nat} (h:i<ks.length) (hq:KeysQ (ks.take i)) (hv:Utf.validB ks[i].data.toList=true) (hn:(ks.take i).any (fun x=>decide (x=ks[i]))=false):KeysQ (ks.take (i+1)):=by
  have e:ks.take (i+1)=ks.take i++[ks[i]]:=by rw [List.take_add_one,List.getElem?_eq_getElem h];rfl
  rw [e];refine ⟨fun x hx=>?_,?_⟩
  · rcases List.mem_append.1 hx with hx | hx
    · exact hq.words x hx
    · rw [List.mem_singleton.1 hx];exact hv
  · rw [List.nodup_append];refine ⟨hq.apart,by simp,fun a ha b hb e=>?_⟩;rw [List.mem_singleton.1 hb] at e;rw [List.any_eq_false] at hn;exact hn a ha (decide_eq_true e)
theorem KeysQ.not_word {ks:List ByteArray} {i:Nat} (h:i<ks.length) (hv:Utf.validB ks[i].data.toList=false):¬ KeysQ ks:=fun hq=>by
  rw [hq.words _ (List.getElem_mem h)] at hv;cases hv
theorem KeysQ.not_apart {ks:List ByteArray} {i:Nat} (h:i<ks.length) (hn:(ks.take i).any (fun x=>decide (x=ks[i]))=true):¬ KeysQ ks:=fun hq=>by
  rw [List.any_eq_true] at hn;obtain ⟨x,hx,e⟩:=hn;obtain rfl:=of_decide_eq_true e;obtain ⟨j,hj,e⟩:=List.getElem_of_mem hx;rw [List.length_take] at hj;rw [List.getElem_take] at e;exact absurd ((List.getElem_inj hq.apart).1 e) (by omega)
def IsPost (P:Prop) (w:World) (x:Ending) (w':World):Prop:=∃ b,x=.returned (.bool b)/\(b=true↔P)/\Below w.heap.size w w'
theorem IsPost.yes {P:Prop} {w w':World} {x:Ending} (hx:x=.returned (.bool true)) (h:P) (hB:Below w.heap.size w w'):IsPost P w x w':=⟨true,hx,⟨fun _=>h,fun _=>rfl⟩,hB⟩
theorem IsPost.no {P:Prop} {w w':World} {x:Ending} (hx:x=.returned (.bool false)) (h:¬ P) (hB:Below w.heap.size w w'):IsPost P w x w':=⟨false,hx,⟨fun e=>(by cases e),fun p=>absurd p h⟩,hB⟩
theorem valid_is (s:ByteArray) (w:World) (hs:s.size<=4611686018427387904) (T:Utf.Sizes w) (b:Bool) (h:Utf.validB s.data.toList=b):Calls Tryz.prog 147 #[.string s] w fun e w'=>e=.returned (.bool b)/\w=w':=by
  have:=Quote.valid_any s w hs T;rw [Utf.badZ_neg,h] at this;exact this
theorem areKeys_is (ks:List ByteArray) (ka:Option Addr) (kc:Nat) (A:Nat->Prop) (w:World) (ht:IsTexts w A ka ks) (hl:ks.length<=3000) (hs:∀ x∈ks,x.size<=1000000) (T:Utf.Sizes w):Calls Tryz.prog 180 #[.slice ka ks.length kc] w (IsPost (KeysQ ks) w):=by
  have HT:Hid (IsTexts w A ka ks):=ht;have HS:=Hid.out (p:=Hid _) hs;have HZ:=Hid.out (p:=Hid _) T;obtain ⟨w1,hw1⟩:∃ w1,w.alloc (.map #[] 0)=w1:=⟨_,rfl⟩;have S1:Hid (Seen w1 w.heap.size 0 []):=by rw [<-hw1];exact Seen.made w
  have B1:Hid (Below w.heap.size w w1):=by rw [<-hw1];exact (Below.refl _ _).alloc (Nat.le_refl _) _
  clear ht hs T;have hmm:=makeMap_hint ks.length;go_enter Tryz.func180,Tryz.ntmps180
  go_wp2_with fail
  clear hw1
  go_loopw [11] (fun p wr=>∃ i:Nat,p=.int .i64 i/\i<=ks.length/\Hid (KeysQ (ks.take i))/\Hid (Seen wr w.heap.size i (ks.take i))/\Hid (Below w.heap.size w wr)) (fun p _=>ks.length-(intOf p).toNat)
  case atStart=>exact ⟨0,rfl,Nat.zero_le _,⟨fun x hx=>(by cases hx),List.nodup_nil⟩,S1.out,B1.out⟩
  case round=>
    obtain ⟨i,rfl,hi,hQ,hS,hB⟩:=hrel;by_cases hlt:i<ks.length
    · have hne:ks≠[]:=fun e=>by rw [e] at hlt;simp at hlt
      have HT5:Hid (IsTexts wr A ka ks):=IsTexts.turn HT.out (Turn.below hB.out);obtain ⟨b,o,rfl,_,_,hc⟩:=HT5.out.resolve_left hne;have g2:=hc i hlt;have hx2:=HS.out ks[i] (List.getElem_mem hlt);have hmore:=fun a b=>KeysQ.more hlt hQ.out a b;have hnw:=fun a=>KeysQ.not_word hlt a;have hna:=fun a=>KeysQ.not_apart hlt a;have htk:ks.take (i+1)=ks.take i++[ks[i]]:=by rw [List.take_add_one,List.getElem?_eq_getElem hlt];rfl
      generalize ks[i]=x at *;have hlook:=hS.out.look x (by unfold maxLen;omega);obtain ⟨V,hV⟩:∃ V,Utf.validB x.data.toList=V:=⟨_,rfl⟩;obtain ⟨S,hSS⟩:∃ S,(ks.take i).any (fun y=>decide (y=x))=S:=⟨_,rfl⟩;rw [hSS] at hlook hmore hna;rw [hV] at hmore hnw;have hva:=valid_is x wr (by omega) (HZ.out.stays hB.out) V hV;have hkey:=key_of x (by unfold maxLen;omega);have HVA:=Hid.out (p:=Hid _) hva;have HTK:=Hid.out (p:=Hid _) htk;have HM:=Hid.out (p:=Hid _) hmore;have HNW:=Hid.out (p:=Hid _) hnw;have HNA:=Hid.out (p:=Hid _) hna;obtain ⟨D,hD1,hD2⟩:=hS.out;have HD1:Hid (wr.ownsMap Tryz.prog 9 (plainElem Tryz.prog 4) w.heap.size i D):=hD1;have HD2:=Hid.out (p:=Hid _) hD2;clear hc hva htk hD1 hD2 HT5 hV hSS hmore hnw hna;cases S
      case true=>
        go_wp2_with fail
        go_ret
        exact .no rfl (HNA.out (by trivial)) hB.out
      case false=>
        cases V
        case false=>
          go_wp2_with fail
          refine (Calls.mono HVA.out ?_);rintro e w' ⟨rfl,rfl⟩;go_wp2_with fail
          go_ret
          exact .no rfl (HNW.out (by trivial)) hB.out
        case true=>
          go_wp2_with fail
          refine (Calls.mono HVA.out ?_);rintro e w' ⟨rfl,rfl⟩;go_wp2_with (at_mapUpdate;refine wpList_mapUpdate_own _ rfl _ _ _ 202 rfl 9 4 keyLaw Tryz.underlying202 _ w.heap.size i D rfl HD1.out (by unfold maxLen;omega) _ _ _ rfl rfl hkey _ [] (plainElem_bool Tryz.underlying4 true) ?_)
          intro w4 hown4 hgrow4
          have S4:Hid (Seen w4 w.heap.size (i+1) (ks.take (i+1))):=by rw [Hid,HTK.out];exact Seen.put HD1.out HD2.out hown4
          have B4:Hid (Below w.heap.size w w4):=hB.out.grown hgrow4 hB.out.size (fun k e=>by cases e;exact Nat.le_refl _);have Q4:Hid (KeysQ (ks.take (i+1))):=HM.out (by trivial) (by trivial);clear hown4 hgrow4 hlook g2;go_wp2_with fail
          go_roundw
          case rel=>exact ⟨i+1,by go_num,by omega,Q4.out,S4.out,B4.out⟩
          case measure=>simp [intOf];omega
    · have hik:i=ks.length:=by omega
      have Q:Hid (KeysQ ks):=by have:=hQ.out;rw [hik,List.take_length] at this;exact this
      clear hik;go_wp2_with fail
      go_ret
      exact .yes rfl Q.out hB.out
set_option maxHeartbeats 16000000
theorem holds_no (k:Int) (h5:(k == 5)=false) (h6:(k == 6)=false) (w:World):Calls Tryz.prog 179 #[.int .i64 k] w fun e w'=>e=.returned (.bool false)/\w=w':=by
  go_enter Tryz.func179,Tryz.ntmps179
  go_wp2_with fail
  go_ret
  exact ⟨rfl,rfl⟩
theorem plain_is (k:Int) (is ng:Bool) (d:ByteArray) (e:Int) (s:ByteArray) (ks:List ByteArray) (n:Nat) (hd:d.size<=4611686018427387904) (hs:s.size<=4611686018427387904) (hk:ks.length<=3000) (hx:∀ x∈ks,x.size<=1000000) (ka va:Option Addr) (kc vc:Nat) (A:Nat->Prop) (w:World) (T:Utf.Sizes w) (ht:IsTexts w A ka ks):Calls Tryz.prog 138 #[(Raw.mk k is ng d e s ka ks.length kc va n vc).val] w (IsPost (OwnQ k is ng d e s ks n) w):=by
  obtain ⟨w2,hw2,V2,B2⟩:=own_new w (Raw.mk k is ng d e s ka ks.length kc va n vc);have V2:Hid (w2.heap[w.heap.size]?=some (.cells (Raw.mk k is ng d e s ka ks.length kc va n vc).arr 29 (0,0))):=V2.out
  dsimp only at hw2
  unfold Raw.val;obtain ⟨R,hR⟩:∃ R,Num.right ng d.data.toList e=R:=⟨_,rfl⟩;obtain ⟨S,hS⟩:∃ S,Utf.validB s.data.toList=S:=⟨_,rfl⟩;have hrc:=fun w=>Num.right_any ng d e w (by omega);rw [hR] at hrc;have HRC:=Hid.out (p:=Hid _) hrc;have HVC:Hid (∀ w,Utf.Sizes w->Calls Tryz.prog 147 #[.string s] w fun e w'=>e=.returned (.bool S)/\w=w'):=fun w T=>valid_is s w (by omega) T S hS;have HKC:Hid (∀ w',Below w.heap.size w w'->Calls Tryz.prog 180 #[.slice ka ks.length kc] w' (IsPost (KeysQ ks) w')):=fun w' hb=>areKeys_is ks ka kc A w' (ht.turn (Turn.below hb)) hk hx (T.stays hb);have HT:Hid (Utf.Sizes w):=T;have HR:=Hid.out (p:=Hid _) hR;have HS:=Hid.out (p:=Hid _) hS;obtain ⟨⟨x0,x1,x2,x3,x4,x5,x6,x7⟩,_⟩:=val_cells V2.out;clear hrc ht hR hS hx T;go_enter Tryz.func138,Tryz.ntmps138
  obtain ⟨T1,hT1⟩:∃ T,decide (k<1∨6<k)=T:=⟨_,rfl⟩;have HT1:=Hid.out (p:=Hid _) hT1;clear hT1
  go_upto_region 1 with (fail)
  go_cut [3] from 3 (fun pp wx=>w2=wx/\pp=.bool T1)
  case first=>
    by_cases a1:k<1
    · have f1:decide (k<1)=true:=by rw [decide_eq_true_eq];exact a1
      obtain rfl:true=T1:=by rw [<-HT1.out];exact (decide_eq_true (by omega)).symm
      clear a1;go_wp2_with fail
      go_meet
      exact ⟨rfl,rfl⟩
    · have f1:decide (k<1)=false:=by rw [decide_eq_false_iff_not];exact a1
      by_cases a2:6<k
      · have f2:decide (6<k)=true:=by rw [decide_eq_true_eq];exact a2
        obtain rfl:true=T1:=by rw [<-HT1.out];exact (decide_eq_true (by omega)).symm
        clear a1 a2;go_wp2_with fail
        go_meet
        exact ⟨rfl,rfl⟩
      · have f2:decide (6<k)=false:=by rw [decide_eq_false_iff_not];exact a2
        obtain rfl:false=T1:=by rw [<-HT1.out];exact (decide_eq_false (by omega)).symm
        clear a1 a2;go_wp2_with fail
        go_meet
        exact ⟨rfl,rfl⟩
  case rest=>
  obtain ⟨rfl,rfl⟩:=hcut;cases T1
  case true=>
    go_wp2_with fail
    go_ret
    exact .no rfl (fun O=>by have h:=of_decide_eq_true HT1.out;have:=O.k1;have:=O.k6;omega) B2.out
  case false=>
  have h1:=of_decide_eq_false HT1.out;have H1:=Hid.out (p:=Hid _) h1;clear h1 HT1;obtain ⟨T3,hT3⟩:∃ T,decide (is=true/\k≠2)=T:=⟨_,rfl⟩;have HT3:=Hid.out (p:=Hid _) hT3;clear hT3
  go_upto_region 3 with (fail)
  go_cut [12] from 12 (fun pp wx=>w2=wx/\pp=.bool T3)
  case first=>
    cases is
    case false=>
      obtain rfl:false=T3:=by rw [<-HT3.out];exact (decide_eq_false (by simp)).symm
      go_wp2_with fail
      go_meet
      exact ⟨rfl,rfl⟩
    case true=>
      by_cases ck:k=2
      · have nk:(k != 2)=false:=by rw [ck];rfl
        obtain rfl:false=T3:=by rw [<-HT3.out];exact (decide_eq_false (fun h=>h.2 ck)).symm
        clear ck;go_wp2_with fail
        go_meet
        exact ⟨rfl,rfl⟩
      · have nk:(k != 2)=true:=by rw [bne_iff_ne];exact ck
        obtain rfl:true=T3:=by rw [<-HT3.out];exact (decide_eq_true (⟨rfl,ck⟩)).symm
        clear ck;go_wp2_with fail
        go_meet
        exact ⟨rfl,rfl⟩
  case rest=>
  obtain ⟨rfl,rfl⟩:=hcut;cases T3
  case true=>
    go_wp2_with fail
    go_ret
    exact .no rfl (fun O=>by obtain ⟨a,b⟩:=of_decide_eq_true HT3.out;rw [O.is b] at a;cases a) B2.out
  case false=>
  have h3:=of_decide_eq_false HT3.out;have H3:=Hid.out (p:=Hid _) h3;clear h3 HT3;obtain ⟨T5,hT5⟩:∃ T,decide (¬ (ng=false/\d=⟨#[]⟩/\e=0)/\k≠3)=T:=⟨_,rfl⟩;have HT5:=Hid.out (p:=Hid _) hT5;clear hT5
  go_upto_region 5 with (fail)
  go_cut [20] from 20 (fun pp wx=>w2=wx/\pp=.bool T5)
  case first=>
    cases ng
    case true=>
      by_cases ck:k=3
      · have nk:(k != 3)=false:=by rw [ck];rfl
        obtain rfl:false=T5:=by rw [<-HT5.out];exact (decide_eq_false (fun h=>h.2 ck)).symm
        clear ck;go_wp2_with fail
        go_meet
        exact ⟨rfl,rfl⟩
      · have nk:(k != 3)=true:=by rw [bne_iff_ne];exact ck
        obtain rfl:true=T5:=by rw [<-HT5.out];exact (decide_eq_true (⟨fun h=>by simp at h,ck⟩)).symm
        clear ck;go_wp2_with fail
        go_meet
        exact ⟨rfl,rfl⟩
    case false=>
    by_cases hd0:d=⟨#[]⟩
    case neg=>
      have hde:=toList_nil hd0;by_cases ck:k=3
      · have nk:(k != 3)=false:=by rw [ck];rfl
        obtain rfl:false=T5:=by rw [<-HT5.out];exact (decide_eq_false (fun h=>h.2 ck)).symm
        clear ck;go_wp2_with fail
        go_meet
        exact ⟨rfl,rfl⟩
      · have nk:(k != 3)=true:=by rw [bne_iff_ne];exact ck
        obtain rfl:true=T5:=by rw [<-HT5.out];exact (decide_eq_true (⟨fun h=>hd0 h.2.1,ck⟩)).symm
        clear ck;go_wp2_with fail
        go_meet
        exact ⟨rfl,rfl⟩
    case pos=>
    subst hd0;by_cases he0:e=0
    case neg=>
      have hee:(e == 0)=false:=by rw [beq_eq_false_iff_ne];exact he0
      by_cases ck:k=3
      · have nk:(k != 3)=false:=by rw [ck];rfl
        obtain rfl:false=T5:=by rw [<-HT5.out];exact (decide_eq_false (fun h=>h.2 ck)).symm
        clear ck;go_wp2_with fail
        go_meet
        exact ⟨rfl,rfl⟩
      · have nk:(k != 3)=true:=by rw [bne_iff_ne];exact ck
        obtain rfl:true=T5:=by rw [<-HT5.out];exact (decide_eq_true (⟨fun h=>he0 h.2.2,ck⟩)).symm
        clear ck;go_wp2_with fail
        go_meet
        exact ⟨rfl,rfl⟩
    case pos=>
    subst he0;obtain rfl:false=T5:=by rw [<-HT5.out];exact (decide_eq_false (fun h=>h.1 ⟨rfl,rfl,rfl⟩)).symm
    go_wp2_with fail
    go_meet
    exact ⟨rfl,rfl⟩
  case rest=>
  obtain ⟨rfl,rfl⟩:=hcut;cases T5
  case true=>
    go_wp2_with fail
    go_ret
    exact .no rfl (fun O=>by obtain ⟨a,b⟩:=of_decide_eq_true HT5.out;exact a (O.num b)) B2.out
  case false=>
  have h5:=of_decide_eq_false HT5.out;have H5:=Hid.out (p:=Hid _) h5;clear h5 HT5;obtain ⟨T7,hT7⟩:∃ T,decide (s≠⟨#[]⟩/\k≠4)=T:=⟨_,rfl⟩;have HT7:=Hid.out (p:=Hid _) hT7;clear hT7
  go_upto_region 7 with (fail)
  go_cut [30] from 30 (fun pp wx=>w2=wx/\pp=.bool T7)
  case first=>
    by_cases hs0:s=⟨#[]⟩
    case neg=>
      have hse:=toList_nil hs0;by_cases ck:k=4
      · have nk:(k != 4)=false:=by rw [ck];rfl
        obtain rfl:false=T7:=by rw [<-HT7.out];exact (decide_eq_false (fun h=>h.2 ck)).symm
        clear ck;go_wp2_with fail
        go_meet
        exact ⟨rfl,rfl⟩
      · have nk:(k != 4)=true:=by rw [bne_iff_ne];exact ck
        obtain rfl:true=T7:=by rw [<-HT7.out];exact (decide_eq_true (⟨hs0,ck⟩)).symm
        clear ck;go_wp2_with fail
        go_meet
        exact ⟨rfl,rfl⟩
    case pos=>
    subst hs0;obtain rfl:false=T7:=by rw [<-HT7.out];exact (decide_eq_false (fun h=>h.1 rfl)).symm
    go_wp2_with fail
    go_meet
    exact ⟨rfl,rfl⟩
  case rest=>
  obtain ⟨rfl,rfl⟩:=hcut;cases T7
  case true=>
    go_wp2_with fail
    go_ret
    exact .no rfl (fun O=>by obtain ⟨a,b⟩:=of_decide_eq_true HT7.out;exact a (O.text b)) B2.out
  case false=>
  have h7:=of_decide_eq_false HT7.out;have H7:=Hid.out (p:=Hid _) h7;clear h7 HT7;obtain ⟨T9,hT9⟩:∃ T,decide (0<ks.length/\k≠6)=T:=⟨_,rfl⟩;have HT9:=Hid.out (p:=Hid _) hT9;clear hT9
  go_upto_region 9 with (fail)
  go_cut [39] from 39 (fun pp wx=>w2=wx/\pp=.bool T9)
  case first=>
    by_cases cp:0<ks.length
    case pos=>
      have g1:decide (0<(ks.length:Int))=true:=by rw [decide_eq_true_eq];omega
      have g2:decide (0<ks.length)=true:=by rw [decide_eq_true_eq];exact cp
      by_cases ck:k=6
      · have nk:(k != 6)=false:=by rw [ck];rfl
        obtain rfl:false=T9:=by rw [<-HT9.out];exact (decide_eq_false (fun h=>h.2 ck)).symm
        clear ck cp;go_wp2_with fail
        go_meet
        exact ⟨rfl,rfl⟩
      · have nk:(k != 6)=true:=by rw [bne_iff_ne];exact ck
        obtain rfl:true=T9:=by rw [<-HT9.out];exact (decide_eq_true (⟨cp,ck⟩)).symm
        clear ck cp;go_wp2_with fail
        go_meet
        exact ⟨rfl,rfl⟩
    case neg=>
      have g1:decide (0<(ks.length:Int))=false:=by rw [decide_eq_false_iff_not];omega
      have g2:decide (0<ks.length)=false:=by rw [decide_eq_false_iff_not];exact cp
      obtain rfl:false=T9:=by rw [<-HT9.out];exact (decide_eq_false (fun h=>cp h.1)).symm
      clear cp;go_wp2_with fail
      go_meet
      exact ⟨rfl,rfl⟩
  case rest=>
  obtain ⟨rfl,rfl⟩:=hcut;cases T9
  case true=>
    go_wp2_with fail
    go_ret
    exact .no rfl (fun O=>by obtain ⟨a,b⟩:=of_decide_eq_true HT9.out;rw [O.noKeys b] at a;exact absurd a (by simp)) B2.out
  case false=>
  have h9:=of_decide_eq_false HT9.out;have H9:=Hid.out (p:=Hid _) h9;clear h9 HT9;obtain ⟨T11,hT11⟩:∃ T,decide (0<n/\k≠5/\k≠6)=T:=⟨_,rfl⟩;have HT11:=Hid.out (p:=Hid _) hT11;clear hT11
  go_upto_region 11 with (fail)
  go_cut [49] from 49 (fun pp wx=>w2=wx/\pp=.bool T11)
  case first=>
    by_cases cp:0<n
    case pos=>
      have g1:decide (0<(n:Int))=true:=by rw [decide_eq_true_eq];omega
      have g2:decide (0<n)=true:=by rw [decide_eq_true_eq];exact cp
      by_cases c5:k=5
      · subst c5;obtain rfl:false=T11:=by rw [<-HT11.out];exact (decide_eq_false (fun h=>by omega)).symm
        clear cp;go_wp2_with fail
        refine (holds_5 w2).mono ?_;rintro z w9 ⟨rfl,rfl⟩;go_wp2_with fail
        go_meet
        exact ⟨rfl,rfl⟩
      by_cases c6:k=6
      · subst c6;obtain rfl:false=T11:=by rw [<-HT11.out];exact (decide_eq_false (fun h=>by omega)).symm
        clear cp;go_wp2_with fail
        refine (holds_6 w2).mono ?_;rintro z w9 ⟨rfl,rfl⟩;go_wp2_with fail
        go_meet
        exact ⟨rfl,rfl⟩
      have n5:(k == 5)=false:=by rw [beq_eq_false_iff_ne];exact c5
      have n6:(k == 6)=false:=by rw [beq_eq_false_iff_ne];exact c6
      obtain rfl:true=T11:=by rw [<-HT11.out];exact (decide_eq_true (⟨cp,c5,c6⟩)).symm
      clear cp;go_wp2_with fail
      refine (holds_no k n5 n6 w2).mono ?_;rintro z w9 ⟨rfl,rfl⟩;go_wp2_with fail
      go_meet
      exact ⟨rfl,rfl⟩
    case neg=>
      have g1:decide (0<(n:Int))=false:=by rw [decide_eq_false_iff_not];omega
      have g2:decide (0<n)=false:=by rw [decide_eq_false_iff_not];exact cp
      obtain rfl:false=T11:=by rw [<-HT11.out];exact (decide_eq_false (fun h=>cp h.1)).symm
      clear cp;go_wp2_with fail
      go_meet
      exact ⟨rfl,rfl⟩
  case rest=>
  obtain ⟨rfl,rfl⟩:=hcut;cases T11
  case true=>
    go_wp2_with fail
    go_ret
    exact .no rfl (fun O=>by obtain ⟨a,b,c⟩:=of_decide_eq_true HT11.out;have h1:=O.kids;have h6:=O.k6;omega) B2.out
  case false=>
  have h11:=of_decide_eq_false HT11.out;have H11:=Hid.out (p:=Hid _) h11;clear h11 HT11;obtain ⟨T13,hT13⟩:∃ T,decide (k=6/\ks.length≠n)=T:=⟨_,rfl⟩;have HT13:=Hid.out (p:=Hid _) hT13;clear hT13
  go_upto_region 13 with (fail)
  go_cut [60] from 60 (fun pp wx=>w2=wx/\pp=.bool T13)
  case first=>
    by_cases c6:k=6
    · subst c6;by_cases cn:ks.length=n
      · have g1:((ks.length:Int) != (n:Int))=false:=by rw [cn];simp
        obtain rfl:false=T13:=by rw [<-HT13.out];exact (decide_eq_false (fun h=>h.2 cn)).symm
        clear cn;go_wp2_with fail
        go_meet
        exact ⟨rfl,rfl⟩
      · have g1:((ks.length:Int) != (n:Int))=true:=by rw [bne_iff_ne];omega
        obtain rfl:true=T13:=by rw [<-HT13.out];exact (decide_eq_true (⟨rfl,cn⟩)).symm
        clear cn;go_wp2_with fail
        go_meet
        exact ⟨rfl,rfl⟩
    · have n6:(k == 6)=false:=by rw [beq_eq_false_iff_ne];exact c6
      obtain rfl:false=T13:=by rw [<-HT13.out];exact (decide_eq_false (fun h=>c6 h.1)).symm
      clear c6;go_wp2_with fail
      go_meet
      exact ⟨rfl,rfl⟩
  case rest=>
  obtain ⟨rfl,rfl⟩:=hcut;cases T13
  case true=>
    go_wp2_with fail
    go_ret
    exact .no rfl (fun O=>by obtain ⟨a,b⟩:=of_decide_eq_true HT13.out;exact b (O.both a)) B2.out
  case false=>
  have h13:=of_decide_eq_false HT13.out;have H13:=Hid.out (p:=Hid _) h13;clear h13 HT13;go_wp2_with fail
  refine (Calls.mono (HRC.out w2) ?_);rintro z w3 ⟨rfl,hb3⟩;have V3:=Hid.out (p:=Hid _) ((hb3.block w.heap.size (heap_lt V2.out)).trans V2.out);have B3:=Hid.out (p:=Hid _) (B2.out.trans (hb3.mono B2.out.size));clear hb3 x0 x1 x2 x3 x4 x5 x6 x7 V2 B2 hw2 HRC;cases R
  case false=>
    go_wp2_with fail
    go_ret
    exact .no rfl (fun O=>by have h:=O.right;rw [HR.out] at h;cases h) B3.out
  case true=>
  obtain ⟨⟨x0,x1,x2,x3,x4,x5,x6,x7⟩,_⟩:=val_cells V3.out;go_wp2_with fail
  refine (Calls.mono (HVC.out w3 (HT.out.stays B3.out)) ?_);rintro z w4 ⟨rfl,rfl⟩;cases S
  case false=>
    go_wp2_with fail
    go_ret
    exact .no rfl (fun O=>by have h:=O.valid;rw [HS.out] at h;cases h) B3.out
  case true=>
  go_wp2_with fail
  refine (Calls.mono (HKC.out w3 B3.out) ?_);rintro z w5 ⟨b,rfl,hq,hb5⟩;have B5:=Hid.out (p:=Hid _) (B3.out.trans (hb5.mono B3.out.size));have HQ:=Hid.out (p:=Hid _) hq;clear hb5 hq;cases b
  case false=>
    go_wp2_with fail
    go_ret
    exact .no rfl (fun O=>by have h:=HQ.out.2 ⟨O.words,O.apart⟩;cases h) B5.out
  case true=>
  go_wp2_with fail
  go_ret
  refine .yes rfl ?_ B5.out;have q:=HQ.out.1 (by trivial);have h1:¬ (k<1∨6<k):=H1.out;have h3:=H3.out;have h5:=H5.out;have h7:=H7.out;have h9:¬ (0<ks.length/\k≠6):=H9.out;have h11:¬ (0<n/\k≠5/\k≠6):=H11.out;have h13:=H13.out;exact ⟨by omega,by omega,fun a=>by cases is with | false=>rfl | true=>exact absurd ⟨rfl,a⟩ h3,fun a=>Decidable.byContradiction fun c=>h5 ⟨c,a⟩,fun a=>Decidable.byContradiction fun c=>h7 ⟨c,a⟩,fun a=>by omega,fun a=>List.length_eq_zero_iff.1 (by omega),HR.out,HS.out,fun a=>Decidable.byContradiction fun c=>h13 ⟨a,c⟩,q.words,q.apart⟩
end Go.Proofs.YtliekocamnklfaaGreatDoor.Jdec
