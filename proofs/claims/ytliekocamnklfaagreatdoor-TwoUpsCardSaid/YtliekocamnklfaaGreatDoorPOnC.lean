/- tree.plain of any value. (Written by gen/onb.py.) -/
import Derived.Test.YtliekocamnklfaaGreatDoorPOnA
import Derived.Test.YtliekocamnklfaaGreatDoorPRtC
import Derived.Test.YtliekocamnklfaaGreatDoorPJenK
set_option linter.unusedVariables false
set_option linter.unusedSimpArgs false
set_option maxRecDepth 100000
set_option maxHeartbeats 16000000
namespace Go.Proofs.YtliekocamnklfaaGreatDoor.Jdec
open Go.RowKit Strs
theorem holds_no (k:Int) (h5:(k == 5)=false) (h6:(k == 6)=false) (w:World):Calls Tryz.prog 179 #[.int .i64 k] w fun e w'=>e=.returned (.bool false)/\w=w':=by
  go_enter Tryz.func179,Tryz.ntmps179
  go_wp2_with fail
  go_ret
  exact ⟨rfl,rfl⟩
theorem plain_is (k:Int) (is ng:Bool) (d:ByteArray) (e:Int) (s:ByteArray) (ks:List ByteArray) (n:Nat) (hd:d.size<=4611686018427387904) (hs:s.size<=4611686018427387904) (hk:ks.length<=3000) (hx:∀ x∈ks,x.size<=1000000) (ka va:Option Addr) (kc vc:Nat) (A:Nat->Prop) (w:World) (T:Utf.Sizes w) (ht:IsTexts w A ka ks):Calls Tryz.prog 138 #[(Raw.mk k is ng d e s ka ks.length kc va n vc).val] w (IsPost (OwnQ k is ng d e s ks n) w):=by
  obtain ⟨w2,hw2,V2,B2⟩:=own_new w (Raw.mk k is ng d e s ka ks.length kc va n vc);have V2:Hid (w2.heap[w.heap.size]?=some (.cells (Raw.mk k is ng d e s ka ks.length kc va n vc).arr 29 (0,0))):=V2.out
  dsimp only at hw2
  unfold Raw.val;obtain ⟨R,hR⟩:∃ R,Num.right ng d.data.toList e=R:=⟨_,rfl⟩;obtain ⟨S,hS⟩:∃ S,Utf.validB s.data.toList=S:=⟨_,rfl⟩;have hrc:=fun w=>Num.right_any ng d e w (by omega);rw [hR] at hrc;have HRC:=Hid.out (p:=Hid _) hrc;have HVC:Hid (∀ w,Utf.Sizes w->Calls Tryz.prog 147 #[.string s] w fun e w'=>e=.returned (.bool S)/\w=w'):=fun w T=>valid_is s w (by omega) T S hS;have HKC:Hid (∀ w',Below w.heap.size w w'->Calls Tryz.prog 180 #[.slice ka ks.length kc] w' (IsPost (KeysQ ks) w')):=fun w' hb=>areKeys_is ks ka kc A w' (ht.turn (Turn.below hb)) hk hx (T.stays hb);have HT:Hid (Utf.Sizes w):=T;have HR:=Hid.out (p:=Hid _) hR;have HS:=Hid.out (p:=Hid _) hS;obtain ⟨⟨x0,x1,x2,x3,x4,x5,x6,x7⟩,_⟩:=val_cells V2.out;clear hrc ht hR hS hx T;go_enter Tryz.func138,Tryz.ntmps138
  obtain ⟨T1,hT1⟩:∃ T,decide (k<1∨6<k)=T:=⟨_,rfl⟩;have HT1:=Hid.out (p:=Hid _) hT1;clear hT1
  go_upto_region 1 with (fail)
  go_cut [3] from 3 (fun pp wx=>w2=wx/\pp=.bool T1)
  case first=>
    by_cases a1:k<1
    · have f1:decide (k<1)=true:=by rw [decide_eq_true_eq];exact a1
      obtain rfl:true=T1:=by rw [<-HT1.out];exact (decide_eq_true (by omega)).symm
      clear a1;go_wp2_with fail
      go_meet
      exact ⟨rfl,rfl⟩
    · have f1:decide (k<1)=false:=by rw [decide_eq_false_iff_not];exact a1
      by_cases a2:6<k
      · have f2:decide (6<k)=true:=by rw [decide_eq_true_eq];exact a2
        obtain rfl:true=T1:=by rw [<-HT1.out];exact (decide_eq_true (by omega)).symm
        clear a1 a2;go_wp2_with fail
        go_meet
        exact ⟨rfl,rfl⟩
      · have f2:decide (6<k)=false:=by rw [decide_eq_false_iff_not];exact a2
        obtain rfl:false=T1:=by rw [<-HT1.out];exact (decide_eq_false (by omega)).symm
        clear a1 a2;go_wp2_with fail
        go_meet
        exact ⟨rfl,rfl⟩
  case rest=>
  obtain ⟨rfl,rfl⟩:=hcut;cases T1
  case true=>
    go_wp2_with fail
    go_ret
    exact .no rfl (fun O=>by have h:=of_decide_eq_true HT1.out;have:=O.k1;have:=O.k6;omega) B2.out
  case false=>
  have h1:=of_decide_eq_false HT1.out;have H1:=Hid.out (p:=Hid _) h1;clear h1 HT1;obtain ⟨T3,hT3⟩:∃ T,decide (is=true/\k≠2)=T:=⟨_,rfl⟩;have HT3:=Hid.out (p:=Hid _) hT3;clear hT3
  go_upto_region 3 with (fail)
  go_cut [12] from 12 (fun pp wx=>w2=wx/\pp=.bool T3)
  case first=>
    cases is
    case false=>
      obtain rfl:false=T3:=by rw [<-HT3.out];exact (decide_eq_false (by simp)).symm
      go_wp2_with fail
      go_meet
      exact ⟨rfl,rfl⟩
    case true=>
      by_cases ck:k=2
      · have nk:(k != 2)=false:=by rw [ck];rfl
        obtain rfl:false=T3:=by rw [<-HT3.out];exact (decide_eq_false (fun h=>h.2 ck)).symm
        clear ck;go_wp2_with fail
        go_meet
        exact ⟨rfl,rfl⟩
      · have nk:(k != 2)=true:=by rw [bne_iff_ne];exact ck
        obtain rfl:true=T3:=by rw [<-HT3.out];exact (decide_eq_true (⟨rfl,ck⟩)).symm
        clear ck;go_wp2_with fail
        go_meet
        exact ⟨rfl,rfl⟩
  case rest=>
  obtain ⟨rfl,rfl⟩:=hcut;cases T3
  case true=>
    go_wp2_with fail
    go_ret
    exact .no rfl (fun O=>by obtain ⟨a,b⟩:=of_decide_eq_true HT3.out;rw [O.is b] at a;cases a) B2.out
  case false=>
  have h3:=of_decide_eq_false HT3.out;have H3:=Hid.out (p:=Hid _) h3;clear h3 HT3;obtain ⟨T5,hT5⟩:∃ T,decide (¬ (ng=false/\d=⟨#[]⟩/\e=0)/\k≠3)=T:=⟨_,rfl⟩;have HT5:=Hid.out (p:=Hid _) hT5;clear hT5
  go_upto_region 5 with (fail)
  go_cut [20] from 20 (fun pp wx=>w2=wx/\pp=.bool T5)
  case first=>
    cases ng
    case true=>
      by_cases ck:k=3
      · have nk:(k != 3)=false:=by rw [ck];rfl
        obtain rfl:false=T5:=by rw [<-HT5.out];exact (decide_eq_false (fun h=>h.2 ck)).symm
        clear ck;go_wp2_with fail
        go_meet
        exact ⟨rfl,rfl⟩
      · have nk:(k != 3)=true:=by rw [bne_iff_ne];exact ck
        obtain rfl:true=T5:=by rw [<-HT5.out];exact (decide_eq_true (⟨fun h=>by simp at h,ck⟩)).symm
        clear ck;go_wp2_with fail
        go_meet
        exact ⟨rfl,rfl⟩
    case false=>
    by_cases hd0:d=⟨#[]⟩
    case neg=>
      have hde:=toList_nil hd0;by_cases ck:k=3
      · have nk:(k != 3)=false:=by rw [ck];rfl
        obtain rfl:false=T5:=by rw [<-HT5.out];exact (decide_eq_false (fun h=>h.2 ck)).symm
        clear ck;go_wp2_with fail
        go_meet
        exact ⟨rfl,rfl⟩
      · have nk:(k != 3)=true:=by rw [bne_iff_ne];exact ck
        obtain rfl:true=T5:=by rw [<-HT5.out];exact (decide_eq_true (⟨fun h=>hd0 h.2.1,ck⟩)).symm
        clear ck;go_wp2_with fail
        go_meet
        exact ⟨rfl,rfl⟩
    case pos=>
    subst hd0;by_cases he0:e=0
    case neg=>
      have hee:(e == 0)=false:=by rw [beq_eq_false_iff_ne];exact he0
      by_cases ck:k=3
      · have nk:(k != 3)=false:=by rw [ck];rfl
        obtain rfl:false=T5:=by rw [<-HT5.out];exact (decide_eq_false (fun h=>h.2 ck)).symm
        clear ck;go_wp2_with fail
        go_meet
        exact ⟨rfl,rfl⟩
      · have nk:(k != 3)=true:=by rw [bne_iff_ne];exact ck
        obtain rfl:true=T5:=by rw [<-HT5.out];exact (decide_eq_true (⟨fun h=>he0 h.2.2,ck⟩)).symm
        clear ck;go_wp2_with fail
        go_meet
        exact ⟨rfl,rfl⟩
    case pos=>
    subst he0;obtain rfl:false=T5:=by rw [<-HT5.out];exact (decide_eq_false (fun h=>h.1 ⟨rfl,rfl,rfl⟩)).symm
    go_wp2_with fail
    go_meet
    exact ⟨rfl,rfl⟩
  case rest=>
  obtain ⟨rfl,rfl⟩:=hcut;cases T5
  case true=>
    go_wp2_with fail
    go_ret
    exact .no rfl (fun O=>by obtain ⟨a,b⟩:=of_decide_eq_true HT5.out;exact a (O.num b)) B2.out
  case false=>
  have h5:=of_decide_eq_false HT5.out;have H5:=Hid.out (p:=Hid _) h5;clear h5 HT5;obtain ⟨T7,hT7⟩:∃ T,decide (s≠⟨#[]⟩/\k≠4)=T:=⟨_,rfl⟩;have HT7:=Hid.out (p:=Hid _) hT7;clear hT7
  go_upto_region 7 with (fail)
  go_cut [30] from 30 (fun pp wx=>w2=wx/\pp=.bool T7)
  case first=>
    by_cases hs0:s=⟨#[]⟩
    case neg=>
      have hse:=toList_nil hs0;by_cases ck:k=4
      · have nk:(k != 4)=false:=by rw [ck];rfl
        obtain rfl:false=T7:=by rw [<-HT7.out];exact (decide_eq_false (fun h=>h.2 ck)).symm
        clear ck;go_wp2_with fail
        go_meet
        exact ⟨rfl,rfl⟩
      · have nk:(k != 4)=true:=by rw [bne_iff_ne];exact ck
        obtain rfl:true=T7:=by rw [<-HT7.out];exact (decide_eq_true (⟨hs0,ck⟩)).symm
        clear ck;go_wp2_with fail
        go_meet
        exact ⟨rfl,rfl⟩
    case pos=>
    subst hs0;obtain rfl:false=T7:=by rw [<-HT7.out];exact (decide_eq_false (fun h=>h.1 rfl)).symm
    go_wp2_with fail
    go_meet
    exact ⟨rfl,rfl⟩
  case rest=>
  obtain ⟨rfl,rfl⟩:=hcut;cases T7
  case true=>
    go_wp2_with fail
    go_ret
    exact .no rfl (fun O=>by obtain ⟨a,b⟩:=of_decide_eq_true HT7.out;exact a (O.text b)) B2.out
  case false=>
  have h7:=of_decide_eq_false HT7.out;have H7:=Hid.out (p:=Hid _) h7;clear h7 HT7;obtain ⟨T9,hT9⟩:∃ T,decide (0<ks.length/\k≠6)=T:=⟨_,rfl⟩;have HT9:=Hid.out (p:=Hid _) hT9;clear hT9
  go_upto_region 9 with (fail)
  go_cut [39] from 39 (fun pp wx=>w2=wx/\pp=.bool T9)
  case first=>
    by_cases cp:0<ks.length
    case pos=>
      have g1:decide (0<(ks.length:Int))=true:=by rw [decide_eq_true_eq];omega
      have g2:decide (0<ks.length)=true:=by rw [decide_eq_true_eq];exact cp
      by_cases ck:k=6
      · have nk:(k != 6)=false:=by rw [ck];rfl
        obtain rfl:false=T9:=by rw [<-HT9.out];exact (decide_eq_false (fun h=>h.2 ck)).symm
        clear ck cp;go_wp2_with fail
        go_meet
        exact ⟨rfl,rfl⟩
      · have nk:(k != 6)=true:=by rw [bne_iff_ne];exact ck
        obtain rfl:true=T9:=by rw [<-HT9.out];exact (decide_eq_true (⟨cp,ck⟩)).symm
        clear ck cp;go_wp2_with fail
        go_meet
        exact ⟨rfl,rfl⟩
    case neg=>
      have g1:decide (0<(ks.length:Int))=false:=by rw [decide_eq_false_iff_not];omega
      have g2:decide (0<ks.length)=false:=by rw [decide_eq_false_iff_not];exact cp
      obtain rfl:false=T9:=by rw [<-HT9.out];exact (decide_eq_false (fun h=>cp h.1)).symm
      clear cp;go_wp2_with fail
      go_meet
      exact ⟨rfl,rfl⟩
  case rest=>
  obtain ⟨rfl,rfl⟩:=hcut;cases T9
  case true=>
    go_wp2_with fail
    go_ret
    exact .no rfl (fun O=>by obtain ⟨a,b⟩:=of_decide_eq_true HT9.out;rw [O.noKeys b] at a;exact absurd a (by simp)) B2.out
  case false=>
  have h9:=of_decide_eq_false HT9.out;have H9:=Hid.out (p:=Hid _) h9;clear h9 HT9;obtain ⟨T11,hT11⟩:∃ T,decide (0<n/\k≠5/\k≠6)=T:=⟨_,rfl⟩;have HT11:=Hid.out (p:=Hid _) hT11;clear hT11
  go_upto_region 11 with (fail)
  go_cut [49] from 49 (fun pp wx=>w2=wx/\pp=.bool T11)
  case first=>
    by_cases cp:0<n
    case pos=>
      have g1:decide (0<(n:Int))=true:=by rw [decide_eq_true_eq];omega
      have g2:decide (0<n)=true:=by rw [decide_eq_true_eq];exact cp
      by_cases c5:k=5
      · subst c5;obtain rfl:false=T11:=by rw [<-HT11.out];exact (decide_eq_false (fun h=>by omega)).symm
        clear cp;go_wp2_with fail
        refine (holds_5 w2).mono ?_;rintro z w9 ⟨rfl,rfl⟩;go_wp2_with fail
        go_meet
        exact ⟨rfl,rfl⟩
      by_cases c6:k=6
      · subst c6;obtain rfl:false=T11:=by rw [<-HT11.out];exact (decide_eq_false (fun h=>by omega)).symm
        clear cp;go_wp2_with fail
        refine (holds_6 w2).mono ?_;rintro z w9 ⟨rfl,rfl⟩;go_wp2_with fail
        go_meet
        exact ⟨rfl,rfl⟩
      have n5:(k == 5)=false:=by rw [beq_eq_false_iff_ne];exact c5
      have n6:(k == 6)=false:=by rw [beq_eq_false_iff_ne];exact c6
      obtain rfl:true=T11:=by rw [<-HT11.out];exact (decide_eq_true (⟨cp,c5,c6⟩)).symm
      clear cp;go_wp2_with fail
      refine (holds_no k n5 n6 w2).mono ?_;rintro z w9 ⟨rfl,rfl⟩;go_wp2_with fail
      go_meet
      exact ⟨rfl,rfl⟩
    case neg=>
      have g1:decide (0<(n:Int))=false:=by rw [decide_eq_false_iff_not];omega
      have g2:decide (0<n)=false:=by rw [decide_eq_false_iff_not];exact cp
      obtain rfl:false=T11:=by rw [<-HT11.out];exact (decide_eq_false (fun h=>cp h.1)).symm
      clear cp;go_wp2_with fail
      go_meet
      exact ⟨rfl,rfl⟩
  case rest=>
  obtain ⟨rfl,rfl⟩:=hcut;cases T11
  case true=>
    go_wp2_with fail
    go_ret
    exact .no rfl (fun O=>by obtain ⟨a,b,c⟩:=of_decide_eq_true HT11.out;have h1:=O.kids;have h6:=O.k6;omega) B2.out
  case false=>
  have h11:=of_decide_eq_false HT11.out;have H11:=Hid.out (p:=Hid _) h11;clear h11 HT11;obtain ⟨T13,hT13⟩:∃ T,decide (k=6/\ks.length≠n)=T:=⟨_,rfl⟩;have HT13:=Hid.out (p:=Hid _) hT13;clear hT13
  go_upto_region 13 with (fail)
  go_cut [60] from 60 (fun pp wx=>w2=wx/\pp=.bool T13)
  case first=>
    by_cases c6:k=6
    · subst c6;by_cases cn:ks.length=n
      · have g1:((ks.length:Int) != (n:Int))=false:=by rw [cn];simp
        obtain rfl:false=T13:=by rw [<-HT13.out];exact (decide_eq_false (fun h=>h.2 cn)).symm
        clear cn;go_wp2_with fail
        go_meet
        exact ⟨rfl,rfl⟩
      · have g1:((ks.length:Int) != (n:Int))=true:=by rw [bne_iff_ne];omega
        obtain rfl:true=T13:=by rw [<-HT13.out];exact (decide_eq_true (⟨rfl,cn⟩)).symm
        clear cn;go_wp2_with fail
        go_meet
        exact ⟨rfl,rfl⟩
    · have n6:(k == 6)=false:=by rw [beq_eq_false_iff_ne];exact c6
      obtain rfl:false=T13:=by rw [<-HT13.out];exact (decide_eq_false (fun h=>c6 h.1)).symm
      clear c6;go_wp2_with fail
      go_meet
      exact ⟨rfl,rfl⟩
  case rest=>
  obtain ⟨rfl,rfl⟩:=hcut;cases T13
  case true=>
    go_wp2_with fail
    go_ret
    exact .no rfl (fun O=>by obtain ⟨a,b⟩:=of_decide_eq_true HT13.out;exact b (O.both a)) B2.out
  case false=>
  have h13:=of_decide_eq_false HT13.out;have H13:=Hid.out (p:=Hid _) h13;clear h13 HT13;go_wp2_with fail
  refine (Calls.mono (HRC.out w2) ?_);rintro z w3 ⟨rfl,hb3⟩;have V3:=Hid.out (p:=Hid _) ((hb3.block w.heap.size (heap_lt V2.out)).trans V2.out);have B3:=Hid.out (p:=Hid _) (B2.out.trans (hb3.mono B2.out.size));clear hb3 x0 x1 x2 x3 x4 x5 x6 x7 V2 B2 hw2 HRC;cases R
  case false=>
    go_wp2_with fail
    go_ret
    exact .no rfl (fun O=>by have h:=O.right;rw [HR.out] at h;cases h) B3.out
  case true=>
  obtain ⟨⟨x0,x1,x2,x3,x4,x5,x6,x7⟩,_⟩:=val_cells V3.out;go_wp2_with fail
  refine (Calls.mono (HVC.out w3 (HT.out.stays B3.out)) ?_);rintro z w4 ⟨rfl,rfl⟩;cases S
  case false=>
    go_wp2_with fail
    go_ret
    exact .no rfl (fun O=>by have h:=O.valid;rw [HS.out] at h;cases h) B3.out
  case true=>
  go_wp2_with fail
  refine (Calls.mono (HKC.out w3 B3.out) ?_);rintro z w5 ⟨b,rfl,hq,hb5⟩;have B5:=Hid.out (p:=Hid _) (B3.out.trans (hb5.mono B3.out.size));have HQ:=Hid.out (p:=Hid _) hq;clear hb5 hq;cases b
  case false=>
    go_wp2_with fail
    go_ret
    exact .no rfl (fun O=>by have h:=HQ.out.2 ⟨O.words,O.apart⟩;cases h) B5.out
  case true=>
  go_wp2_with fail
  go_ret
  refine .yes rfl ?_ B5.out;have q:=HQ.out.1 (by trivial);have h1:¬ (k<1∨6<k):=H1.out;have h3:=H3.out;have h5:=H5.out;have h7:=H7.out;have h9:¬ (0<ks.length/\k≠6):=H9.out;have h11:¬ (0<n/\k≠5/\k≠6):=H11.out;have h13:=H13.out;exact ⟨by omega,by omega,fun a=>by cases is with | false=>rfl | true=>exact absurd ⟨rfl,a⟩ h3,fun a=>Decidable.byContradiction fun c=>h5 ⟨c,a⟩,fun a=>Decidable.byContradiction fun c=>h7 ⟨c,a⟩,fun a=>by omega,fun a=>List.length_eq_zero_iff.1 (by omega),HR.out,HS.out,fun a=>Decidable.byContradiction fun c=>h13 ⟨a,c⟩,q.words,q.apart⟩
set_option maxHeartbeats 4000000
theorem GoodQ.inv {k:Int} {i n:Bool} {d:ByteArray} {e:Int} {s:ByteArray} {ks:List ByteArray} {vs:List JV} (h:GoodQ (.mk k i n d e s ks vs)):OwnQ k i n d e s ks vs.length/\∀ j (h:j<vs.length),GoodQ vs[j]:=by
  cases h with
  | mk _ _ _ _ _ _ _ _ a b=>exact ⟨a,b⟩
theorem deepNs_all {m:Nat}:∀ vs:List JV,(∀ j (h:j<vs.length),vs[j].deepN<=m)->deepNs vs<=m
  | [],_=>by rw [deepNs_nil];exact Nat.zero_le _
  | v::t,h=>by
    have h1:=h 0 (Nat.zero_lt_succ _);have h2:=deepNs_all t fun j hj=>by have:=h (j+1) (by simpa using hj);rwa [List.getElem_cons_succ] at this
    rw [deepNs_cons];exact Nat.max_le.2 ⟨h1,h2⟩
def TRightQ (t:JV):Prop:=∀ (ra:Raw) (A:Nat->Prop) (w:World) (dp:Nat),dp<=1000->Utf.Sizes w->IsV w A ra t->Calls Tryz.prog 100 #[ra.val,.int .i64 dp] w (IsPost (GoodQ t/\t.deepN<=dp) w)
theorem trightq_step (k:Int) (is ng:Bool) (d:ByteArray) (e:Int) (s:ByteArray) (ks:List ByteArray) (vs:List JV) (hds:d.size<=1000000) (hs:s.size<=1000000) (hks:ks.length<=3000) (hv:vs.length<=3000) (hz:∀ x∈ks,x.size<=1000000) (IH:∀ j (h:j<vs.length),TRightQ vs[j]):TRightQ (.mk k is ng d e s ks vs):=by
  intro ra A w dp hdl T h
  have hdk:=deepN_mk k is ng d e s ks vs;have hno1:dp<1->¬ (GoodQ (.mk k is ng d e s ks vs)/\(JV.mk k is ng d e s ks vs).deepN<=dp):=fun h1 h2=>by omega
  have hno2:¬ OwnQ k is ng d e s ks vs.length->¬ (GoodQ (.mk k is ng d e s ks vs)/\(JV.mk k is ng d e s ks vs).deepN<=dp):=fun h1 h2=>h1 h2.1.inv.1;have hno3:OwnQ k is ng d e s ks vs.length->∀ i (hi:i<vs.length),¬ (GoodQ vs[i]/\vs[i].deepN<=dp-1)->¬ (GoodQ (.mk k is ng d e s ks vs)/\(JV.mk k is ng d e s ks vs).deepN<=dp):=fun O i hi h1 h2=>by
    refine h1 ⟨h2.1.inv.2 i hi,?_⟩;have a:=O.kids;have b:=O.k6;have c:=deepNs_mem vs i hi;have e:=h2.2;rw [hdk,if_pos (by omega)] at e;omega
  have hyes:OwnQ k is ng d e s ks vs.length->1<=dp->(∀ i (hi:i<vs.length),GoodQ vs[i]/\vs[i].deepN<=dp-1)->(GoodQ (.mk k is ng d e s ks vs)/\(JV.mk k is ng d e s ks vs).deepN<=dp):=fun O h1 h2=>by
    refine ⟨.mk k is ng d e s ks vs O fun i hi=>(h2 i hi).1,?_⟩;have:=deepNs_all vs fun i hi=>(h2 i hi).2;rw [hdk];split <;> omega
  obtain ⟨ka,kc,va,vc,rfl,ht,f,hc,hi⟩:=h.parts;obtain ⟨Q,hQ⟩:∃ Q,(GoodQ (.mk k is ng d e s ks vs)/\(JV.mk k is ng d e s ks vs).deepN<=dp)=Q:=⟨_,rfl⟩;rw [hQ] at hno1 hno2 hno3 hyes ⊢;have HN1:=Hid.out (p:=Hid _) hno1;have HN2:=Hid.out (p:=Hid _) hno2;have HN3:=Hid.out (p:=Hid _) hno3;have HYES:=Hid.out (p:=Hid _) hyes;have HIH:=Hid.out (p:=Hid _) IH;have HC:=Hid.out (p:=Hid _) hc;have HI:=Hid.out (p:=Hid _) hi;have HT:=Hid.out (p:=Hid _) T;obtain ⟨w2,hw2,V2,B2⟩:=own_new w (Raw.mk k is ng d e s ka ks.length kc va vs.length vc);have V2:Hid (w2.heap[w.heap.size]?=some (.cells (Raw.mk k is ng d e s ka ks.length kc va vs.length vc).arr 29 (0,0))):=V2.out;have hp:=plain_is k is ng d e s ks vs.length (by omega) (by omega) hks hz ka va kc vc A w2 (T.stays B2.out) (ht.turn (Turn.below B2.out));have HP:=Hid.out (p:=Hid _) hp;clear h ht hc hi IH hp hz hdk T hno1 hno2 hno3 hyes hQ
  dsimp only at hw2
  unfold Raw.val at HP ⊢;obtain ⟨⟨x0,x1,x2,x3,x4,x5,x6,x7⟩,_⟩:=val_cells V2.out;by_cases hd1:dp<1
  · have q1:decide ((dp:Int)<1)=true:=by rw [decide_eq_true_eq];omega
    have q2:decide (dp<1)=true:=by rw [decide_eq_true_eq];omega
    have HD:=Hid.out (p:=Hid _) hd1;clear hd1;go_enter Tryz.func100,Tryz.ntmps100
    go_wp2_with fail
    go_ret
    exact .no rfl (HN1.out HD.out) B2.out
  have q1:decide ((dp:Int)<1)=false:=by rw [decide_eq_false_iff_not];omega
  have q2:decide (dp<1)=false:=by rw [decide_eq_false_iff_not];omega
  have HD:Hid (1<=dp):=by rw [Hid];omega
  have hd1':1<=dp:=by omega
  clear hd1;go_enter Tryz.func100,Tryz.ntmps100
  go_wp2_with fail
  refine (Calls.mono HP.out ?_);rintro z w3 ⟨b,rfl,hb,hb3⟩;have HB:=Hid.out (p:=Hid _) hb;have V3:=Hid.out (p:=Hid _) ((hb3.block w.heap.size (heap_lt V2.out)).trans V2.out);have B3:=Hid.out (p:=Hid _) (B2.out.trans (hb3.mono B2.out.size));clear hb hb3 x0 x1 x2 x3 x4 x5 x6 x7 V2 B2 hw2 HP;cases b
  case false=>
    go_wp2_with fail
    go_ret
    exact .no rfl (HN2.out fun O=>by have h:=HB.out.2 O;cases h) B3.out
  case true=>
  have HO:Hid (OwnQ k is ng d e s ks vs.length):=HB.out.1 rfl;have x7:w3.cell? ⟨w.heap.size,7,none⟩=some (.slice va vs.length vc):=cell_of V3.out 7;go_wp2_with fail
  clear x7
  go_loopw [17] (fun p wr=>∃ i:Nat,p=.int .i64 i/\i<=vs.length/\Hid (∀ j (hj:j<vs.length),j<i->GoodQ vs[j]/\vs[j].deepN<=dp-1)/\Hid (Below w3.heap.size w3 wr)) (fun p _=>vs.length-(intOf p).toNat)
  case atStart=>exact ⟨0,rfl,Nat.zero_le _,fun j _ h=>absurd h (Nat.not_lt_zero _),Below.refl _ _⟩
  case round=>
    obtain ⟨i,rfl,hi,hA,hB⟩:=hrel;by_cases hlt:i<vs.length
    · have hne:vs≠[]:=fun e=>by rw [e] at hlt;simp at hlt
      obtain ⟨g,o,rfl,hg,hcs⟩:=HC.out.resolve_left hne;have Bw:Hid (Below w.heap.size w wr):=B3.out.trans (hB.out.mono B3.out.size);have K1:=Hid.out (p:=Hid _) ((hcs i hlt).below hg Bw.out);have I1:=Hid.out (p:=Hid _) ((HI.out i hlt).behind Bw.out);obtain ⟨w4,hw4,V4,B4⟩:=own_new wr (f i);have hcall:=HIH.out i hlt (f i) A w4 (dp-1) (by omega) ((HT.out.stays Bw.out).stays B4.out) (I1.out.behind B4.out);have hdi:(dp:Int)-1=((dp-1:Nat):Int):=by omega
      have hmore:GoodQ vs[i]/\vs[i].deepN<=dp-1->∀ j (hj:j<vs.length),j<i+1->GoodQ vs[j]/\vs[j].deepN<=dp-1:=fun h j hj hji=>by
        by_cases e:j=i
        · subst e;exact h
        · exact hA.out j hj (by omega)
      have hnot:=fun h=>HN3.out HO.out i hlt h;have HM:=Hid.out (p:=Hid _) hmore;have HNOT:=Hid.out (p:=Hid _) hnot;clear hcs hmore hnot;generalize f i=x at *;have HCL:=Hid.out (p:=Hid _) hcall;unfold Raw.val at HCL;have K1c:CellsAt wr g (o+i*8) x:=K1.out;obtain ⟨u0,u1,u2,u3,u4,u5,u6,u7⟩:=K1c.eight;have V4:Hid (w4.heap[wr.heap.size]?=some (.cells x.arr 29 (0,0))):=V4.out;obtain ⟨⟨y0,y1,y2,y3,y4,y5,y6,y7⟩,_⟩:=val_cells V4.out;clear K1 K1c hcall I1;go_wp2_with fail
      refine (Calls.mono HCL.out ?_);rintro z w5 ⟨b,rfl,hb,hb5⟩;have HB5:=Hid.out (p:=Hid _) hb;have B5:Hid (Below w3.heap.size w3 w5):=(hB.out.trans (B4.out.mono hB.out.size)).trans (hb5.mono (Nat.le_trans hB.out.size B4.out.size));clear hb5 hb;cases b
      case false=>
        go_wp2_with fail
        go_ret
        exact .no rfl (HNOT.out fun h=>by have h:=HB5.out.2 h;cases h) (B3.out.trans (B5.out.mono B3.out.size))
      case true=>
        have A5:Hid (∀ j (hj:j<vs.length),j<i+1->GoodQ vs[j]/\vs[j].deepN<=dp-1):=HM.out (HB5.out.1 rfl);go_wp2_with fail
        go_roundw
        case rel=>exact ⟨i+1,by go_num,by omega,A5.out,B5.out⟩
        case measure=>simp [intOf];omega
    · have AA:Hid (∀ j (hj:j<vs.length),GoodQ vs[j]/\vs[j].deepN<=dp-1):=fun j hj=>hA.out j hj (by omega);go_wp2_with fail
      go_ret
      exact .yes rfl (HYES.out HO.out HD.out AA.out) (B3.out.trans (hB.out.mono B3.out.size))
theorem trightq_any (t:JV) (hf:Fine t):t.mass<=3000->TRightQ t:=by
  induction hf with
  | mk k i n d e s ks vs f1 f2 f3 f4 ih=>
    intro hm
    rw [mass_mk] at hm;have hl:=masses_len vs;exact trightq_step k i n d e s ks vs (by omega) (by omega) (by omega) (by omega) (fun x hx=>Nat.le_trans (f3 x hx) (by omega)) (fun j hj=>ih j hj (by have:=masses_mem vs j hj;omega))
theorem tree_is (t:JV) (hf:Fine t) (hm:t.mass<=3000) (ra:Raw) (A:Nat->Prop) (w:World) (T:Utf.Sizes w) (hi:IsV w A ra t):Calls Tryz.prog 50 #[ra.val] w (IsPost (GoodQ t/\t.deepN<=64) w):=by
  obtain ⟨w2,hw2,V2,B2⟩:=own_new w ra;have V2:Hid (w2.heap[w.heap.size]?=some (.cells ra.arr 29 (0,0))):=V2.out;have hc:Calls Tryz.prog 100 #[ra.val,.int .i64 64] w2 (IsPost (GoodQ t/\t.deepN<=64) w2):=trightq_any t hf hm ra A w2 64 (by omega) (T.stays B2.out) (hi.behind B2.out);have HC:=Hid.out (p:=Hid _) hc;obtain ⟨Q,hQ⟩:∃ Q,(GoodQ t/\t.deepN<=64)=Q:=⟨_,rfl⟩;rw [hQ] at HC ⊢;clear hc hi T hf hQ;unfold Raw.val at HC ⊢;obtain ⟨⟨x0,x1,x2,x3,x4,x5,x6,x7⟩,_⟩:=val_cells V2.out;go_enter Tryz.func50,Tryz.ntmps50
  go_wp2_with fail
  refine (Calls.mono HC.out ?_);rintro z w3 ⟨b,rfl,hb,hb3⟩;have HB:=Hid.out (p:=Hid _) hb;have B3:=Hid.out (p:=Hid _) (B2.out.trans (hb3.mono B2.out.size));clear hb3 hb;go_wp2_with fail
  go_ret
  exact ⟨b,rfl,HB.out,B3.out⟩
end Go.Proofs.YtliekocamnklfaaGreatDoor.Jdec
