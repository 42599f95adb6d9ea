/- addr.Right. -/
import Derived.Test.YtliekocamnklfaaGreatDoorPJenE
set_option linter.unusedVariables false
set_option linter.unusedSimpArgs false
set_option maxRecDepth 100000
set_option maxHeartbeats 8000000
namespace Go.Proofs.YtliekocamnklfaaGreatDoor.Addr
open Go.RowKit Go.Shelf Utf Strs Lex
open Jdec (IsTexts)
structure Adr where
  path:List ByteArray
  type:ByteArray
  name:ByteArray
  key:Int
  place:Nat
  word:ByteArray
def wordsA (pa:Option Addr) (pc:Nat) (a:Adr):Value:=.agg #[.slice pa a.path.length pc,.string a.type,.string a.name,.int .i64 a.key,.int .u64 a.place,.string a.word]
def arrA (pa:Option Addr) (pc:Nat) (a:Adr):Array Value:=#[.slice pa a.path.length pc,.string a.type,.string a.name,.int .i64 a.key,.int .u64 a.place,.string a.word]
def moduleL:List UInt8:=[109,111,100,117,108,101]
def keyA (a:Adr):Bool:=
  if a.key=0 then a.place == 0 && a.word.toList.isEmpty
  else if a.key=1 then a.word.toList.isEmpty
  else if a.key=2 then a.place == 0 && decide (badZ a.word.data.toList<0)
  else false
def rightA (a:Adr):Bool:=!(a.type.toList == moduleL) && decide (a.path.length<=20) && identsB [a.type,a.name] && identsB a.path && keyA a
theorem adr_new (w:World) (pa:Option Addr) (pc:Nat) (a:Adr):∃ w1,w.alloc (.cells #[.slice pa a.path.length pc,.string a.type,.string a.name,.int .i64 a.key,.int .u64 a.place,.string a.word] 67)=w1/\Hid (w1.heap[w.heap.size]?=some (.cells (arrA pa pc a) 67 (0,0)))/\Hid (Below w.heap.size w w1):=
  ⟨_,rfl,heap_alloc_new _ _,(Below.refl _ _).alloc (Nat.le_refl _) _⟩
theorem adr_cells {w:World} {b:Nat} {pa:Option Addr} {pc:Nat} {a:Adr} (h:w.heap[b]?=some (.cells (arrA pa pc a) 67 (0,0))):w.cell? ⟨b,0,none⟩=some (.slice pa a.path.length pc)/\w.cell? ⟨b,1,none⟩=some (.string a.type)/\w.cell? ⟨b,2,none⟩=some (.string a.name)/\w.cell? ⟨b,3,none⟩=some (.int .i64 a.key)/\w.cell? ⟨b,4,none⟩=some (.int .u64 a.place)/\w.cell? ⟨b,5,none⟩=some (.string a.word):=
  ⟨cell_of h 0,cell_of h 1,cell_of h 2,cell_of h 3,cell_of h 4,cell_of h 5⟩
theorem two_new (w:World) (x y:ByteArray):∃ w1,w.alloc (.cells #[.string x,.string y] 9)=w1/\Hid (IsTexts w1 (fun _=>True) (some ⟨w.heap.size,0,none⟩) [x,y])/\Hid (Below w.heap.size w w1):=by
  refine ⟨_,rfl,.inr ⟨w.heap.size,0,rfl,trivial,by simp,fun i hi=>?_⟩,(Below.refl _ _).alloc (Nat.le_refl _) _⟩;have h:=heap_alloc_new w (.cells #[.string x,.string y] 9 (0,0))
  match i,hi with
  | 0,_=>exact cell_of h 0
  | 1,_=>exact cell_of h 1
theorem right_any (a:Adr) (pa:Option Addr) (pc:Nat) (A:Nat->Prop) (w:World) (ht:IsTexts w A pa a.path) (hl:a.path.length<=3000) (hs:∀ x∈a.path,x.size<=1048576) (h1:a.type.size<=1048576) (h2:a.name.size<=1048576) (h3:a.word.size<=1048576) (T:Tabs w):Calls Tryz.prog 107 #[wordsA pa pc a] w fun e w'=>e=.returned (.bool (rightA a))/\Below w.heap.size w w':=by
  obtain ⟨w1,hw1,V1,B1⟩:=adr_new w pa pc a;obtain ⟨x0,x1,x2,x3,x4,x5⟩:=adr_cells V1.out;unfold wordsA;by_cases q1:(a.type.toList == moduleL)=true
  · have HF:Hid (rightA a=false):=by rw [Hid,rightA,q1];rfl
    unfold moduleL at q1;go_enter Tryz.func107,Tryz.ntmps107
    go_wp2_with fail
    go_ret
    exact ⟨by rw [HF.out] <;> rfl,B1.out⟩
  have q1:(a.type.toList == moduleL)=false:=by simpa using q1
  by_cases hp:20<a.path.length
  · have q2:decide ((20:Int)<(a.path.length:Int))=true:=by rw [decide_eq_true_eq];omega
    have q3:decide (20<a.path.length)=true:=by rw [decide_eq_true_eq];omega
    have HF:Hid (rightA a=false):=by
      have:decide (a.path.length<=20)=false:=by rw [decide_eq_false_iff_not];omega
      rw [Hid,rightA,q1,this];rfl
    unfold moduleL at q1;clear hp;go_enter Tryz.func107,Tryz.ntmps107
    go_wp2_with fail
    go_ret
    exact ⟨by rw [HF.out] <;> rfl,B1.out⟩
  have q2:decide ((20:Int)<(a.path.length:Int))=false:=by rw [decide_eq_false_iff_not];omega
  have q3:decide (20<a.path.length)=false:=by rw [decide_eq_false_iff_not];omega
  have HRA:Hid (rightA a=(identsB [a.type,a.name] && identsB a.path && keyA a)):=by
    have:decide (a.path.length<=20)=true:=by rw [decide_eq_true_eq];omega
    rw [Hid,rightA,q1,this];rfl
  obtain ⟨w2,hw2,X2,B2⟩:=two_new w1 a.type a.name;have hc:=idents_any [a.type,a.name] _ 2 _ w2 X2.out (by simp) (fun x hx=>by simp at hx;rcases hx with rfl | rfl <;> assumption) ((T.stays B1.out).stays B2.out);have HC:=Hid.out (p:=Hid _) hc;have HP:Hid (∀ w',Below w.heap.size w w'->Calls Tryz.prog 146 #[.slice pa a.path.length pc] w' fun e w''=>e=.returned (.bool (identsB a.path))/\Below w'.heap.size w' w''):=fun w' hb=>idents_any a.path pa pc A w' (ht.turn (Jdec.Turn.below hb)) hl hs (T.stays hb);have HVA:Hid (∀ w',Below w.heap.size w w'->Calls Tryz.prog 147 #[.string a.word] w' fun e w''=>e=.returned (.bool (decide (badZ a.word.data.toList<0)))/\w'=w''):=fun w' hb=>Quote.valid_any a.word w' (by omega) (T.stays hb).z;obtain ⟨r1,hr1⟩:∃ r,identsB [a.type,a.name]=r:=⟨_,rfl⟩;obtain ⟨r2,hr2⟩:∃ r,identsB a.path=r:=⟨_,rfl⟩;rw [hr1] at HC HRA;rw [hr2] at HP HRA;have hl1:=heap_lt V1.out;have B12:Hid (Below w.heap.size w w2):=B1.out.trans (B2.out.mono (by omega));have V2:Hid (w2.heap[w.heap.size]?=some (.cells (arrA pa pc a) 67 (0,0))):=(B2.out.block _ hl1).trans V1.out;have h12:=B2.out.size;unfold moduleL at q1;clear hc hp hr1 hr2 ht hs T;go_enter Tryz.func107,Tryz.ntmps107
  go_wp2_with fail
  refine (Calls.mono HC.out ?_);rintro z w3 ⟨rfl,hb3⟩;have B3:Hid (Below w.heap.size w w3):=B12.out.trans (hb3.mono (by omega));have V3:Hid (w3.heap[w.heap.size]?=some (.cells (arrA pa pc a) 67 (0,0))):=(hb3.block _ (by omega)).trans V2.out;have h3:=hb3.size;have hpp:=HP.out w3 B3.out;have HP3:=Hid.out (p:=Hid _) hpp;clear hb3 x0 x1 x2 x3 x4 x5 hw1 hw2 HC HP hpp;obtain ⟨x0,x1,x2,x3,x4,x5⟩:=adr_cells V3.out;cases r1
  · go_wp2_with fail
    go_ret
    exact ⟨by rw [HRA.out] <;> rfl,B3.out⟩
  go_wp2_with fail
  refine (Calls.mono HP3.out ?_);rintro z w4 ⟨rfl,hb4⟩;have B4:Hid (Below w.heap.size w w4):=B3.out.trans (hb4.mono (by omega));have V4:Hid (w4.heap[w.heap.size]?=some (.cells (arrA pa pc a) 67 (0,0))):=(hb4.block _ (by omega)).trans V3.out;have hva:=HVA.out w4 B4.out;have HV4:=Hid.out (p:=Hid _) hva;clear hb4 x0 x1 x2 x3 x4 x5 HP3 hva HVA;obtain ⟨x0,x1,x2,x3,x4,x5⟩:=adr_cells V4.out;cases r2
  · go_wp2_with fail
    go_ret
    exact ⟨by rw [HRA.out] <;> rfl,B4.out⟩
  have HRK:Hid (rightA a=keyA a):=by rw [Hid,HRA.out];rfl
  obtain ⟨e5,he5⟩:∃ b,a.word.toList.isEmpty=b:=⟨_,rfl⟩;obtain ⟨v5,hv5⟩:∃ b,decide (badZ a.word.data.toList<0)=b:=⟨_,rfl⟩;rw [hv5] at HV4;obtain ⟨p5,hp5⟩:∃ b,(a.place == 0)=b:=⟨_,rfl⟩;have HK:Hid (keyA a=if a.key=0 then p5 && e5 else if a.key=1 then e5 else if a.key=2 then p5 && v5 else false):=by rw [Hid,keyA,he5,hv5,hp5]
  have hp6:((a.place:Int) == 0)=p5:=by
    rw [<-hp5];by_cases h:a.place=0
    · rw [h];rfl
    · rw [beq_eq_false_iff_ne.2 h,beq_eq_false_iff_ne];omega
  clear hv5 hp5 HRA;by_cases k0:a.key=0
  · have t0:(a.key == 0)=true:=by rw [beq_iff_eq];exact k0
    have HF:Hid (rightA a=(p5 && e5)):=by rw [Hid,HRK.out,HK.out,if_pos k0]
    clear k0 HK HRK;cases p5 <;> cases e5
    all_goals
      go_wp2_with fail
      go_ret
      exact ⟨by rw [HF.out] <;> rfl,B4.out⟩
  have t0:(a.key == 0)=false:=by rw [beq_eq_false_iff_ne];exact k0
  by_cases k1:a.key=1
  · have t1:(a.key == 1)=true:=by rw [beq_iff_eq];exact k1
    have HF:Hid (rightA a=e5):=by rw [Hid,HRK.out,HK.out,if_neg k0,if_pos k1]
    clear k0 k1 HK HRK;cases e5
    all_goals
      go_wp2_with fail
      go_ret
      exact ⟨by rw [HF.out] <;> rfl,B4.out⟩
  have t1:(a.key == 1)=false:=by rw [beq_eq_false_iff_ne];exact k1
  by_cases k2:a.key=2
  · have t2:(a.key == 2)=true:=by rw [beq_iff_eq];exact k2
    have HF:Hid (rightA a=(p5 && v5)):=by rw [Hid,HRK.out,HK.out,if_neg k0,if_neg k1,if_pos k2]
    clear k0 k1 k2 HK HRK;cases p5
    · go_wp2_with fail
      go_ret
      exact ⟨by rw [HF.out] <;> rfl,B4.out⟩
    · go_wp2_with fail
      refine (Calls.mono HV4.out ?_);rintro z w5 ⟨rfl,rfl⟩;go_wp2_with fail
      go_ret
      exact ⟨by rw [HF.out] <;> rfl,B4.out⟩
  · have t2:(a.key == 2)=false:=by rw [beq_eq_false_iff_ne];exact k2
    have HF:Hid (rightA a=false):=by rw [Hid,HRK.out,HK.out,if_neg k0,if_neg k1,if_neg k2]
    clear k0 k1 k2 HK HRK;go_wp2_with fail
    go_ret
    exact ⟨by rw [HF.out] <;> rfl,B4.out⟩
theorem idents_two (a b:ByteArray):identsB [a,b]=(identB a.data.toList && identB b.data.toList):=by simp [identsB]
theorem valid_neg (l:List UInt8):decide (badZ l<0)=validB l:=badZ_neg l
theorem empty_word {x:ByteArray} (h:x.toList.isEmpty=true):validB x.data.toList=true:=by
  rw [ByteArray.toList_eq,List.isEmpty_iff] at h;rw [h];rfl
theorem rright_any (a:Adr) (pa:Option Addr) (pc:Nat) (A:Nat->Prop) (w:World) (ht:IsTexts w A pa a.path) (hl:a.path.length<=3000) (hs:∀ x∈a.path,x.size<=1000000) (h1:a.type.size<=1000000) (h2:a.name.size<=1000000) (h3:a.word.size<=1000000):Calls Tryz.prog 114 #[wordsA pa pc a] w fun e w'=>e=.returned (.bool (rightA a))/\Below w.heap.size w w':=by
  obtain ⟨w1,hw1,V1,B1⟩:=adr_new w pa pc a;obtain ⟨x0,x1,x2,x3,x4,x5⟩:=adr_cells V1.out;have hl1:=heap_lt V1.out;unfold wordsA;by_cases hp:20<a.path.length
  · have q2:decide ((20:Int)<(a.path.length:Int))=true:=by rw [decide_eq_true_eq];omega
    have q3:decide (20<a.path.length)=true:=by rw [decide_eq_true_eq];omega
    have HF:Hid (rightA a=false):=by
      have:decide (a.path.length<=20)=false:=by rw [decide_eq_false_iff_not];omega
      rw [Hid,rightA,this];simp
    clear hp;go_enter Tryz.func114,Tryz.ntmps114
    go_wp2_with fail
    go_ret
    exact ⟨by rw [HF.out] <;> rfl,B1.out⟩
  have q2:decide ((20:Int)<(a.path.length:Int))=false:=by rw [decide_eq_false_iff_not];omega
  have q3:decide (20<a.path.length)=false:=by rw [decide_eq_false_iff_not];omega
  obtain ⟨r1,hr1⟩:∃ r,identB a.type.data.toList=r:=⟨_,rfl⟩;obtain ⟨r2,hr2⟩:∃ r,identB a.name.data.toList=r:=⟨_,rfl⟩;obtain ⟨m,hm⟩:∃ m,(a.type.toList == moduleL)=m:=⟨_,rfl⟩;have HRA:Hid (rightA a=(!m && (r1 && r2) && identsB a.path && keyA a)):=by
    have:decide (a.path.length<=20)=true:=by rw [decide_eq_true_eq];omega
    rw [Hid,rightA,this,idents_two,hr1,hr2,hm];simp
  have n1:=name_any a.type w1 h1;rw [hr1] at n1;have N1:=Hid.out (p:=Hid _) n1;have N2:Hid (∀ w',Calls Tryz.prog 155 #[.string a.name] w' fun e w''=>e=.returned (.bool r2)/\Below w'.heap.size w' w''):=fun w'=>by rw [<-hr2];exact name_any a.name w' h2
  have NP:Hid (∀ i (h:i<a.path.length) w',Calls Tryz.prog 155 #[.string a.path[i]] w' fun e w''=>e=.returned (.bool (identB a.path[i].data.toList))/\Below w'.heap.size w' w''):=fun i h w'=>name_any _ w' (hs _ (List.getElem_mem h));have NV:Hid (∀ w',Calls Tryz.prog 156 #[.string a.word] w' fun e w''=>e=.returned (.bool (validB a.word.data.toList))/\Below w'.heap.size w' w''):=fun w'=>rvalid_any a.word w' (by omega);have HTX:=Hid.out (p:=Hid _) ht;unfold moduleL at hm;clear hp n1 hr1 hr2 ht hs;go_enter Tryz.func114,Tryz.ntmps114
  go_wp2_with fail
  refine (Calls.mono N1.out ?_);rintro z w3 ⟨rfl,hb3⟩;have B3:Hid (Below w.heap.size w w3):=B1.out.trans (hb3.mono (by omega));have V3:Hid (w3.heap[w.heap.size]?=some (.cells (arrA pa pc a) 67 (0,0))):=(hb3.block _ hl1).trans V1.out;have h3:=hb3.size;have n2:=N2.out w3;have N23:=Hid.out (p:=Hid _) n2;clear hb3 x0 x1 x2 x3 x4 x5 hw1 N1 N2 n2;obtain ⟨x0,x1,x2,x3,x4,x5⟩:=adr_cells V3.out;cases r1
  · go_wp2_with fail
    go_ret
    exact ⟨by rw [HRA.out] <;> simp,B3.out⟩
  go_wp2_with fail
  refine (Calls.mono N23.out ?_);rintro z w4 ⟨rfl,hb4⟩;have B4:Hid (Below w.heap.size w w4):=B3.out.trans (hb4.mono (by omega));have V4:Hid (w4.heap[w.heap.size]?=some (.cells (arrA pa pc a) 67 (0,0))):=(hb4.block _ (by omega)).trans V3.out;have h4:=hb4.size;clear hb4 x0 x1 x2 x3 x4 x5 N23;obtain ⟨x0,x1,x2,x3,x4,x5⟩:=adr_cells V4.out;cases r2
  · go_wp2_with fail
    go_ret
    exact ⟨by rw [HRA.out] <;> simp,B4.out⟩
  cases m
  case true=>
    go_wp2_with fail
    go_ret
    exact ⟨by rw [HRA.out] <;> simp,B4.out⟩
  case false=>
  have HRB:Hid (rightA a=(identsB a.path && keyA a)):=by rw [Hid,HRA.out];rfl
  clear HRA;go_wp2_with fail
  clear x0 x1 x2 x3 x4 x5
  go_loopw [3] (fun p wr=>∃ i:Nat,p=.int .i64 i/\i<=a.path.length/\Hid (identsB (a.path.take i)=true)/\Hid (Below w4.heap.size w4 wr)) (fun p _=>a.path.length-(intOf p).toNat)
  case atStart=>exact ⟨0,rfl,Nat.zero_le _,rfl,Below.refl _ _⟩
  case round=>
    obtain ⟨i,rfl,hi,hT,hB⟩:=hrel;have Vr:Hid (wr.heap[w.heap.size]?=some (.cells (arrA pa pc a) 67 (0,0))):=(hB.out.block _ (by omega)).trans V4.out;have Br:Hid (Below w.heap.size w wr):=B4.out.trans (hB.out.mono (by omega));have hrs:=hB.out.size;obtain ⟨x0,x1,x2,x3,x4,x5⟩:=adr_cells Vr.out;by_cases hlt:i<a.path.length
    · obtain ⟨b,o,rfl,_,hb,hc⟩:=HTX.out.resolve_left (by intro e;rw [e] at hlt;simp at hlt);have k0:wr.cell? ⟨b,o+i,none⟩=some (.string a.path[i]):=(World.cell?_of_block (w:=w) (Br.out.block b hb)).trans (hc i hlt);have hcall:=NP.out i hlt wr;have HCL:=Hid.out (p:=Hid _) hcall;have HTK:=Hid.out (p:=Hid _) (idents_take hlt);obtain ⟨r,hr⟩:∃ r,identB a.path[i].data.toList=r:=⟨_,rfl⟩;have HRR:=Hid.out (p:=Hid _) hr;rw [hr] at HCL;obtain ⟨x,hx⟩:∃ x,a.path[i]=x:=⟨_,rfl⟩;rw [hx] at HCL k0;clear hcall hc hr hx;go_wp2_with fail
      refine (Calls.mono HCL.out ?_);rintro z w5 ⟨rfl,hb5⟩;have B5:Hid (Below w4.heap.size w4 w5):=hB.out.trans (hb5.mono hrs);have B15:Hid (Below w.heap.size w w5):=Br.out.trans (hb5.mono (by omega));clear hb5 k0 HCL;cases r
      · have HF:Hid (rightA a=false):=by
          have:identsB a.path=false:=by
            rw [identsB,List.all_eq_false];exact ⟨_,List.getElem_mem hlt,by rw [HRR.out];simp⟩
          rw [Hid,HRB.out,this];rfl
        go_wp2_with fail
        go_ret
        exact ⟨by rw [HF.out] <;> rfl,B15.out⟩
      · have HN:Hid (identsB (a.path.take (i+1))=true):=by rw [Hid,HTK.out,hT.out,HRR.out];rfl
        go_wp2_with fail
        go_roundw
        case rel=>exact ⟨i+1,by go_num,by omega,HN.out,B5.out⟩
        case measure=>simp [intOf];omega
    · obtain rfl:i=a.path.length:=by omega
      have HRK:Hid (rightA a=keyA a):=by
        have:=hT.out;rw [List.take_length] at this;rw [Hid,HRB.out,this];rfl
      have NVr:=NV.out wr;obtain ⟨e5,he5⟩:∃ b,a.word.toList.isEmpty=b:=⟨_,rfl⟩;obtain ⟨v5,hv5⟩:∃ b,validB a.word.data.toList=b:=⟨_,rfl⟩;have hev:e5=true->v5=true:=fun h=>by rw [<-hv5];exact empty_word (by rw [he5];exact h)
      rw [hv5] at NVr;obtain ⟨p5,hp5⟩:∃ b,(a.place == 0)=b:=⟨_,rfl⟩;have HK:Hid (keyA a=if a.key=0 then p5 && e5 else if a.key=1 then e5 else if a.key=2 then p5 && v5 else false):=by rw [Hid,keyA,he5,valid_neg,hv5,hp5]
      have hp6:((a.place:Int) != 0)=!p5:=by
        rw [<-hp5];by_cases h:a.place=0
        · rw [h];rfl
        · rw [beq_eq_false_iff_ne.2 h,bne_iff_ne.2 (by omega)];rfl
      have NVV:=Hid.out (p:=Hid _) NVr;clear hv5 hp5 NVr NV NP;by_cases k0:a.key=0
      · have t0:decide (a.key<0)=false:=by rw [decide_eq_false_iff_not];omega
        have t1:decide (2<a.key)=false:=by rw [decide_eq_false_iff_not];omega
        have t2:(a.key != 1)=true:=by rw [bne_iff_ne];omega
        have t3:(a.key != 2)=true:=by rw [bne_iff_ne];omega
        have HF:Hid (rightA a=(p5 && e5)):=by rw [Hid,HRK.out,HK.out,if_pos k0]
        clear k0 HK HRK;cases p5
        · go_wp2_with fail
          go_ret
          exact ⟨by rw [HF.out] <;> rfl,Br.out⟩
        · cases e5
          · go_wp2_with fail
            go_ret
            exact ⟨by rw [HF.out] <;> rfl,Br.out⟩
          · obtain rfl:=hev rfl;clear hev;go_wp2_with fail
            refine (Calls.mono NVV.out ?_);rintro z w5 ⟨rfl,hb5⟩;have B5:Hid (Below w.heap.size w w5):=Br.out.trans (hb5.mono (by omega));clear hb5;go_wp2_with fail
            go_ret
            exact ⟨by rw [HF.out] <;> rfl,B5.out⟩
      by_cases k1:a.key=1
      · have t0:decide (a.key<0)=false:=by rw [decide_eq_false_iff_not];omega
        have t1:decide (2<a.key)=false:=by rw [decide_eq_false_iff_not];omega
        have t2:(a.key != 1)=false:=by rw [k1];rfl
        have t3:(a.key != 2)=true:=by rw [bne_iff_ne];omega
        have HF:Hid (rightA a=e5):=by rw [Hid,HRK.out,HK.out,if_neg k0,if_pos k1]
        clear k0 k1 HK HRK;cases e5
        · go_wp2_with fail
          go_ret
          exact ⟨by rw [HF.out] <;> rfl,Br.out⟩
        · obtain rfl:=hev rfl;clear hev;go_wp2_with fail
          refine (Calls.mono NVV.out ?_);rintro z w5 ⟨rfl,hb5⟩;have B5:Hid (Below w.heap.size w w5):=Br.out.trans (hb5.mono (by omega));clear hb5;go_wp2_with fail
          go_ret
          exact ⟨by rw [HF.out] <;> rfl,B5.out⟩
      by_cases k2:a.key=2
      · have t0:decide (a.key<0)=false:=by rw [decide_eq_false_iff_not];omega
        have t1:decide (2<a.key)=false:=by rw [decide_eq_false_iff_not];omega
        have t2:(a.key != 1)=true:=by rw [bne_iff_ne];omega
        have t3:(a.key != 2)=false:=by rw [k2];rfl
        have HF:Hid (rightA a=(p5 && v5)):=by rw [Hid,HRK.out,HK.out,if_neg k0,if_neg k1,if_pos k2]
        clear k0 k1 k2 HK HRK hev;cases p5
        · go_wp2_with fail
          go_ret
          exact ⟨by rw [HF.out] <;> rfl,Br.out⟩
        · go_wp2_with fail
          refine (Calls.mono NVV.out ?_);rintro z w5 ⟨rfl,hb5⟩;have B5:Hid (Below w.heap.size w w5):=Br.out.trans (hb5.mono (by omega));clear hb5;go_wp2_with fail
          go_ret
          exact ⟨by rw [HF.out] <;> rfl,B5.out⟩
      · have HF:Hid (rightA a=false):=by rw [Hid,HRK.out,HK.out,if_neg k0,if_neg k1,if_neg k2]
        clear HK HRK hev;by_cases kn:a.key<0
        · have t0:decide (a.key<0)=true:=by rw [decide_eq_true_eq];exact kn
          clear k0 k1 k2 kn;go_wp2_with fail
          go_ret
          exact ⟨by rw [HF.out] <;> rfl,Br.out⟩
        · have t0:decide (a.key<0)=false:=by rw [decide_eq_false_iff_not];exact kn
          have t1:decide (2<a.key)=true:=by rw [decide_eq_true_eq];omega
          clear k0 k1 k2 kn;go_wp2_with fail
          go_ret
          exact ⟨by rw [HF.out] <;> rfl,Br.out⟩
end Go.Proofs.YtliekocamnklfaaGreatDoor.Addr
