/- tabulariumref06.digit, run, Scan: the reference's number's text. -/
import Derived.Test.YtliekocamnklfaaGreatDoorPRefOB
import Derived.Test.YtliekocamnklfaaGreatDoorPNumW
import Derived.Deep.DeepCutAuto
import Derived.WalkMore
set_option linter.unusedVariables false
set_option linter.unusedSimpArgs false
set_option maxRecDepth 100000
set_option maxHeartbeats 2000000
namespace Go.Proofs.YtliekocamnklfaaGreatDoor.Num
open Go.RowKit Utf Strs
def dig (n:Nat):Bool:=decide (48<=n) && decide (n<=57)
def digitAt (l:List UInt8) (i:Nat):Bool:=dig (byt l i)
def rrun (l:List UInt8) (i:Nat):Nat:=i+((l.drop i).takeWhile (fun c=>dig c.toNat)).length
theorem byt_ge (l:List UInt8) (i:Nat) (h:l.length<=i):byt l i=0:=by
  unfold byt;rw [List.getD_eq_getElem?_getD,List.getElem?_eq_none h];rfl
theorem byt_at (s:ByteArray) (i:Nat) (h:i<s.size):byt s.data.toList i=s[i].toNat:=by
  have:=byt_drop s 0 i (by omega);simpa using this
theorem rrun_step (l:List UInt8) (i:Nat) (h:digitAt l i=true):rrun l i=rrun l (i+1):=by
  have hi:i<l.length:=by
    rcases Nat.lt_or_ge i l.length with h1 | h1
    · exact h1
    · unfold digitAt at h;rw [byt_ge l i h1] at h;cases h
  unfold rrun;rw [List.drop_eq_getElem_cons hi,List.takeWhile_cons,if_pos (by
    unfold digitAt byt at h;rw [List.getD_eq_getElem?_getD,List.getElem?_eq_getElem hi] at h;exact h)]
  simp;omega
theorem rrun_stop (l:List UInt8) (i:Nat) (h:digitAt l i=false):rrun l i=i:=by
  unfold rrun
  cases hd:l.drop i with
  | nil=>rfl
  | cons c t=>
    have hi:i<l.length:=by
      rcases Nat.lt_or_ge i l.length with h1 | h1
      · exact h1
      · rw [List.drop_of_length_le h1] at hd;cases hd
    rw [List.drop_eq_getElem_cons hi] at hd;injection hd with h1 h2
    have:dig c.toNat=false:=by
      unfold digitAt byt at h;rw [List.getD_eq_getElem?_getD,List.getElem?_eq_getElem hi] at h;rw [<-h1];exact h
    rw [List.takeWhile_cons,if_neg (by rw [this];decide)];rfl
theorem rrun_le (l:List UInt8) (i:Nat) (h:i<=l.length):i<=rrun l i/\rrun l i<=l.length:=by
  unfold rrun;have:=(List.takeWhile_prefix (p:=fun c:UInt8=>dig c.toNat) (l:=l.drop i)).length_le;rw [List.length_drop] at this;omega
theorem rdigit_any (s:ByteArray) (i:Nat) (w:World) (hi:i<=4611686018427387904) (hs:s.size<=4611686018427387904):Calls Tryz.prog 136 #[.string s,.int .i64 i] w fun e w'=>e=.returned (.bool (digitAt s.data.toList i))/\w=w':=by
  by_cases hlt:i<s.size
  · have hb:=byt_at s i hlt;have HB:Hid (digitAt s.data.toList i=(decide (48<=s[i].toNat) && decide (s[i].toNat<=57))):=by rw [Hid,digitAt,hb,dig]
    clear hb;by_cases h1:48<=s[i].toNat
    · have HR:Hid (digitAt s.data.toList i=decide ((s[i].toNat:Int)<=57)):=by
        rw [Hid,HB.out,decide_eq_true h1,Bool.true_and];congr 1;exact propext ⟨fun h=>by omega,fun h=>by omega⟩
      go_enter Tryz.func136,Tryz.ntmps136
      go_wp2_with fail
      go_ret
      exact ⟨by rw [HR.out];rfl,rfl⟩
    · have HR:Hid (digitAt s.data.toList i=false):=by rw [Hid,HB.out];simp [h1]
      go_enter Tryz.func136,Tryz.ntmps136
      go_wp2_with fail
      go_ret
      exact ⟨by rw [HR.out];rfl,rfl⟩
  · have HR:Hid (digitAt s.data.toList i=false):=by rw [Hid,digitAt,byt_ge _ _ (by simp;omega)];rfl
    go_enter Tryz.func136,Tryz.ntmps136
    go_wp2_with fail
    go_ret
    exact ⟨by rw [HR.out];rfl,rfl⟩
theorem digitAt_lt {s:ByteArray} {i:Nat} (h:digitAt s.data.toList i=true):i<s.size:=by
  rcases Nat.lt_or_ge i s.size with h1 | h1
  · exact h1
  · unfold digitAt at h;rw [byt_ge _ _ (by simp;omega)] at h;cases h
theorem rrun_any (s:ByteArray) (i:Nat) (w:World) (hi:i<=s.size) (hs:s.size<=4611686018427387903):Calls Tryz.prog 178 #[.string s,.int .i64 i] w fun e w'=>e=.returned (.int .i64 (rrun s.data.toList i))/\w=w':=by
  go_enter Tryz.func178,Tryz.ntmps178
  go_wp2_with fail
  go_loop [1] (fun p=>∃ k:Nat,k<=s.size/\p=.int .i64 k/\Hid (rrun s.data.toList i=rrun s.data.toList k)) (fun p=>s.size-(intOf p).toNat)
  case atStart=>exact ⟨i,hi,rfl,rfl⟩
  case round=>
    obtain ⟨k,hk,rfl,hr⟩:=hrel;go_wp2_with fail
    refine (rdigit_any s k w (by omega) (by omega)).mono ?_;rintro e w' ⟨rfl,rfl⟩;cases hd:digitAt s.data.toList k
    · have HR:Hid (rrun s.data.toList i=k):=by rw [Hid,hr.out,rrun_stop _ _ hd]
      clear hd;go_wp2_with fail
      go_ret
      exact ⟨by rw [HR.out];rfl,rfl⟩
    · have hlt:=digitAt_lt hd;have HR:Hid (rrun s.data.toList i=rrun s.data.toList (k+1)):=by rw [Hid,hr.out,rrun_step _ _ hd]
      clear hd;go_wp2_with fail
      go_round
      case rel=>exact ⟨k+1,by omega,by go_num,HR.out⟩
      case measure=>simp [intOf];omega
def e0 (l:List UInt8):Nat:=if byt l 0=45 then 1 else 0
def e1 (l:List UInt8) (i:Nat):Nat:=if byt l i=48 then i+1 else rrun l i
def e2 (l:List UInt8) (i:Nat):Nat:=if byt l i=46/\digitAt l (i+1)=true then rrun l (i+1) else i
def e3 (l:List UInt8) (k:Nat):Nat:=if byt l k=43∨byt l k=45 then k+1 else k
def e4 (l:List UInt8) (i:Nat):Nat:=if (byt l i=101∨byt l i=69)/\digitAt l (e3 l (i+1))=true then rrun l (e3 l (i+1)) else i
def rscan (l:List UInt8):Nat:=if digitAt l (e0 l)=true then e4 l (e2 l (e1 l (e0 l))) else 0
theorem bool_int (n k:Nat):Value.bool ((n:Int) == (k:Int))=Value.bool (n == k):=by
  congr 1;rw [Bool.eq_iff_iff,beq_iff_eq,beq_iff_eq];omega
theorem rscan_any (s:ByteArray) (w:World) (hs:s.size<=2147483648):Calls Tryz.prog 135 #[.string s] w fun e w'=>e=.returned (.int .i64 (rscan s.data.toList))/\w=w':=by
  go_enter Tryz.func135,Tryz.ntmps135
  have hb0:∀ i,s.size<=i->byt s.data.toList i=0:=fun i h=>byt_ge _ _ (by simp;omega);have hb1:∀ i (h:i<s.size),byt s.data.toList i=s[i].toNat:=fun i h=>byt_at s i h;have HB0:=Hid.out (p:=Hid _) hb0;clear hb0;have HB1:=Hid.out (p:=Hid _) hb1;clear hb1;have hdg:∀ i,digitAt s.data.toList i=true->i<s.size:=fun i h=>digitAt_lt h;have hrr:∀ i,i<=s.size->rrun s.data.toList i<=s.size:=fun i h=>by have:=(rrun_le s.data.toList i (by simpa using h)).2;simpa using this
  have HDG:=Hid.out (p:=Hid _) hdg;clear hdg;have HRR:=Hid.out (p:=Hid _) hrr;clear hrr;have HR0:Hid (rscan s.data.toList=if digitAt s.data.toList (e0 s.data.toList)=true then e4 s.data.toList (e2 s.data.toList (e1 s.data.toList (e0 s.data.toList))) else 0):=rfl
  go_upto_region 2 with (fail)
  go_cut [3,12] (fun p3 p12 wx=>w=wx/\p3=.int .i64 0/\p12=.bool (byt s.data.toList 0 == 45))
  case first=>
    by_cases h:0<s.size
    · have e:=HB1.out 0 h;have HE:=Hid.out (p:=Hid _) e;clear e;go_wp2_with fail
      go_meet
      refine ⟨rfl,rfl,?_⟩;rw [HE.out];exact bool_int _ _
    · have e:=HB0.out 0 (by omega);have HE:=Hid.out (p:=Hid _) e;clear e;go_wp2_with fail
      go_meet
      exact ⟨rfl,rfl,by rw [HE.out];rfl⟩
  case rest=>
  obtain ⟨rfl,rfl,rfl⟩:=hcut
  go_upto_if 12 with (fail)
  go_cut [3] (fun p3 wx=>w=wx/\∃ i:Nat,p3=.int .i64 i/\i=e0 s.data.toList/\i<=1)
  case first=>
    cases hb:(byt s.data.toList 0 == 45)
    · have HE:Hid (e0 s.data.toList=0):=by rw [Hid,e0,if_neg (by simpa using hb)]
      clear hb;go_wp2_with fail
      go_meet
      exact ⟨rfl,0,rfl,HE.out.symm,by omega⟩
    · have HE:Hid (e0 s.data.toList=1):=by rw [Hid,e0,if_pos (by simpa using hb)]
      clear hb;go_wp2_with fail
      go_meet
      exact ⟨rfl,1,rfl,HE.out.symm,by omega⟩
  case rest=>
  obtain ⟨rfl,i,rfl,hi,hi1⟩:=hcut;rw [<-hi] at HR0;clear hi;go_wp2_with fail
  refine (rdigit_any s i w (by omega) (by omega)).mono ?_;rintro e w' ⟨rfl,rfl⟩;cases hd:digitAt s.data.toList i
  · rw [hd,if_neg (by decide)] at HR0;clear hd;go_wp2_with fail
    go_ret
    exact ⟨by rw [HR0.out];rfl,rfl⟩
  have hil:=HDG.out i hd;rw [hd,if_pos rfl] at HR0;clear hd;have hbi:=HB1.out i hil;have HBI:=Hid.out (p:=Hid _) hbi;clear hbi
  go_upto_if 20 with (fail)
  go_cut [3] (fun p3 wx=>w=wx/\∃ j:Nat,p3=.int .i64 j/\j=e1 s.data.toList i/\j<=s.size)
  case first=>
    by_cases hz:s[i].toNat=48
    · have hq:((s[i].toNat:Int) == 48)=true:=by rw [beq_iff_eq];omega
      have HE:Hid (e1 s.data.toList i=i+1):=by rw [Hid,e1,if_pos (by rw [HBI.out];exact hz)]
      clear hz;go_wp2_with fail
      go_meet
      exact ⟨rfl,i+1,by go_num,HE.out.symm,by omega⟩
    · have hq:((s[i].toNat:Int) == 48)=false:=by rw [beq_eq_false_iff_ne];omega
      have HE:Hid (e1 s.data.toList i=rrun s.data.toList i):=by rw [Hid,e1,if_neg (by rw [HBI.out];exact hz)]
      clear hz;go_wp2_with fail
      refine (rrun_any s i w (by omega) (by omega)).mono ?_;rintro e w' ⟨rfl,rfl⟩;have hle:=HRR.out i (by omega);go_wp2_with fail
      go_meet
      exact ⟨rfl,_,rfl,HE.out.symm,hle⟩
  case rest=>
  obtain ⟨rfl,j,rfl,hj,hjl⟩:=hcut;rw [<-hj] at HR0;clear hj HBI hil hi1
  go_upto_region 9 with (fail)
  go_cut [3,41] (fun p3 p41 wx=>w=wx/\p3=.int .i64 j/\p41=.bool (byt s.data.toList j == 46 && digitAt s.data.toList (j+1)))
  case first=>
    by_cases h:j<s.size
    · have e:=HB1.out j h;have HE:=Hid.out (p:=Hid _) e;clear e;by_cases hz:s[j].toNat=46
      · have hq:((s[j].toNat:Int) == 46)=true:=by rw [beq_iff_eq];omega
        have HZ:=Hid.out (p:=Hid _) hz;clear hz;go_wp2_with fail
        rw [show (j:Int)+1=((j+1:Nat):Int) by omega];refine (rdigit_any s (j+1) w (by omega) (by omega)).mono ?_;rintro e w' ⟨rfl,rfl⟩;go_wp2_with fail
        go_meet
        exact ⟨rfl,rfl,by rw [HE.out,HZ.out];rfl⟩
      · have hq:((s[j].toNat:Int) == 46)=false:=by rw [beq_eq_false_iff_ne];omega
        have HZ:Hid ((s[j].toNat == 46)=false):=by rw [Hid,beq_eq_false_iff_ne];exact hz
        clear hz;go_wp2_with fail
        go_meet
        exact ⟨rfl,rfl,by rw [HE.out,HZ.out];rfl⟩
    · have e:=HB0.out j (by omega);have HE:=Hid.out (p:=Hid _) e;clear e;go_wp2_with fail
      go_meet
      exact ⟨rfl,rfl,by rw [HE.out];rfl⟩
  case rest=>
  obtain ⟨rfl,rfl,rfl⟩:=hcut
  go_upto_if 41 with (fail)
  go_cut [3] (fun p3 wx=>w=wx/\∃ k:Nat,p3=.int .i64 k/\k=e2 s.data.toList j/\k<=s.size)
  case first=>
    cases hb:(byt s.data.toList j == 46 && digitAt s.data.toList (j+1))
    · have HE:Hid (e2 s.data.toList j=j):=by
        rw [Hid,e2,if_neg];rintro ⟨h1,h2⟩;rw [h1,h2] at hb;cases hb
      clear hb;go_wp2_with fail
      go_meet
      exact ⟨rfl,j,rfl,HE.out.symm,hjl⟩
    · rw [Bool.and_eq_true,beq_iff_eq] at hb;have hlt:=HDG.out _ hb.2;have HE:Hid (e2 s.data.toList j=rrun s.data.toList (j+1)):=by rw [Hid,e2,if_pos hb]
      clear hb;go_wp2_with fail
      rw [show (j:Int)+1=((j+1:Nat):Int) by omega];refine (rrun_any s (j+1) w (by omega) (by omega)).mono ?_;rintro e w' ⟨rfl,rfl⟩;have hle:=HRR.out (j+1) (by omega);go_wp2_with fail
      go_meet
      exact ⟨rfl,_,rfl,HE.out.symm,hle⟩
  case rest=>
  obtain ⟨rfl,k,rfl,hk,hkl⟩:=hcut;rw [<-hk] at HR0;clear hk hjl;by_cases h:k<s.size
  · have e:=HB1.out k h;have HE:=Hid.out (p:=Hid _) e;clear e;by_cases hz:s[k].toNat=101∨s[k].toNat=69
    · have HR1:Hid (rscan s.data.toList=if digitAt s.data.toList (e3 s.data.toList (k+1))=true then rrun s.data.toList (e3 s.data.toList (k+1)) else k):=by
        rw [Hid,HR0.out,e4,HE.out];by_cases hd:digitAt s.data.toList (e3 s.data.toList (k+1))=true
        · rw [if_pos ⟨hz,hd⟩,if_pos hd]
        · rw [if_neg (fun h=>hd h.2),if_neg hd]
      clear HR0;have hz2:(((s[k].toNat:Int) == 101)=true)∨(((s[k].toNat:Int) == 101)=false/\((s[k].toNat:Int) == 69)=true):=by
        by_cases h1:s[k].toNat=101
        · left;rw [beq_iff_eq];omega
        · right;rw [beq_eq_false_iff_ne,beq_iff_eq];omega
      have HZ:=Hid.out (p:=Hid _) hz;clear hz
      go_upto_region 11 with (fail)
      go_cut [3,61] (fun p3 p61 wx=>w=wx/\p3=.int .i64 k/\p61=.bool true)
      case first=>
        rcases hz2 with hq | ⟨hq,hq2⟩
        · go_wp2_with fail
          go_meet
          exact ⟨rfl,rfl,rfl⟩
        · go_wp2_with fail
          go_meet
          exact ⟨rfl,rfl,rfl⟩
      case rest=>
      obtain ⟨rfl,rfl,rfl⟩:=hcut;clear hz2
      go_upto_region 13 with (fail)
      go_cut [3,4,79] (fun p3 p4 p79 wx=>w=wx/\p3=.int .i64 k/\p4=.int .i64 (k+1:Nat)/\p79=.bool (byt s.data.toList (k+1) == 43 || byt s.data.toList (k+1) == 45))
      case first=>
        by_cases h2:k+1<s.size
        · have e2:=HB1.out (k+1) h2;have HE2:=Hid.out (p:=Hid _) e2;clear e2;have hkk:(k:Int)+1=((k+1:Nat):Int):=by omega
          by_cases hz:s[k+1].toNat=43
          · have hq:((s[k+1].toNat:Int) == 43)=true:=by rw [beq_iff_eq];omega
            have HZ:=Hid.out (p:=Hid _) hz;clear hz;generalize k+1=k1 at *;go_wp2_with fail
            go_meet
            exact ⟨rfl,rfl,by rw [hkk],by rw [HE2.out,HZ.out];rfl⟩
          · have hq:((s[k+1].toNat:Int) == 43)=false:=by rw [beq_eq_false_iff_ne];omega
            have HZ:Hid ((s[k+1].toNat == 43)=false):=by rw [Hid,beq_eq_false_iff_ne];exact hz
            clear hz;generalize k+1=k1 at *;go_wp2_with fail
            go_meet
            refine ⟨rfl,rfl,by rw [hkk],?_⟩;rw [HE2.out,HZ.out,Bool.false_or];exact bool_int _ _
        · have e2:=HB0.out (k+1) (by omega);have HE2:=Hid.out (p:=Hid _) e2;clear e2;have hkk:(k:Int)+1=((k+1:Nat):Int):=by omega
          generalize k+1=k1 at *;go_wp2_with fail
          go_meet
          exact ⟨rfl,rfl,by rw [hkk],by rw [HE2.out];rfl⟩
      case rest=>
      obtain ⟨rfl,rfl,rfl,rfl⟩:=hcut
      go_upto_if 79 with (fail)
      go_cut [3,4] (fun p3 p4 wx=>w=wx/\p3=.int .i64 k/\∃ m:Nat,p4=.int .i64 m/\m=e3 s.data.toList (k+1)/\m<=s.size+1)
      case first=>
        cases hb:(byt s.data.toList (k+1) == 43 || byt s.data.toList (k+1) == 45)
        · have HE3:Hid (e3 s.data.toList (k+1)=k+1):=by
            rw [Hid,e3,if_neg];rintro (h1 | h1) <;> rw [h1] at hb <;> cases hb
          clear hb;go_wp2_with fail
          go_meet
          exact ⟨rfl,rfl,_,rfl,HE3.out.symm,by omega⟩
        · rw [Bool.or_eq_true,beq_iff_eq,beq_iff_eq] at hb;have hlt:k+1<s.size:=by
            rcases Nat.lt_or_ge (k+1) s.size with h1 | h1
            · exact h1
            · have:=HB0.out _ h1;rw [this] at hb;omega
          have HE3:Hid (e3 s.data.toList (k+1)=k+1+1):=by rw [Hid,e3,if_pos hb]
          clear hb;go_wp2_with fail
          go_meet
          exact ⟨rfl,rfl,k+1+1,by go_num,HE3.out.symm,by omega⟩
      case rest=>
      obtain ⟨rfl,rfl,m,rfl,hm,hml⟩:=hcut;rw [<-hm] at HR1;clear hm;go_wp2_with fail
      refine (rdigit_any s m w (by omega) (by omega)).mono ?_;rintro e w' ⟨rfl,rfl⟩;cases hd:digitAt s.data.toList m
      · rw [hd,if_neg (by decide)] at HR1;clear hd;go_wp2_with fail
        go_ret
        exact ⟨by rw [HR1.out];rfl,rfl⟩
      · rw [hd,if_pos rfl] at HR1;have hlt:=HDG.out _ hd;clear hd;go_wp2_with fail
        refine (rrun_any s m w (by omega) (by omega)).mono ?_;rintro e w' ⟨rfl,rfl⟩;go_wp2_with fail
        go_ret
        exact ⟨by rw [HR1.out];rfl,rfl⟩
    · have HR1:Hid (rscan s.data.toList=k):=by rw [Hid,HR0.out,e4,HE.out,if_neg (fun h=>hz h.1)]
      have hq1:((s[k].toNat:Int) == 101)=false:=by rw [beq_eq_false_iff_ne];omega
      have hq2:((s[k].toNat:Int) == 69)=false:=by rw [beq_eq_false_iff_ne];omega
      clear hz HR0;go_wp2_with fail
      go_ret
      exact ⟨by rw [HR1.out];rfl,rfl⟩
  · have e:=HB0.out k (by omega);have HR1:Hid (rscan s.data.toList=k):=by rw [Hid,HR0.out,e4,e,if_neg (fun h=>by omega)]
    clear e HR0;go_wp2_with fail
    go_ret
    exact ⟨by rw [HR1.out];rfl,rfl⟩
theorem rright_et (d:ByteArray) (x:Int) (w:World) (hs:d.size<=4611686018427387904) (h0:d.size=0):Calls Tryz.prog 116 #[.agg #[.bool true,.string d,.int .i64 x]] w fun e w'=>e=.returned (.bool (right true d.data.toList x))/\Below w.heap.size w w':=by
  have hl:d.data.toList=[]:=List.eq_nil_of_length_eq_zero (by simpa using h0);have HR:Hid (right true d.data.toList x=(!true && x == 0)):=by rw [Hid,hl];rfl
  clear hl;have q0:((d.size:Int) == 0)=true:=by rw [beq_iff_eq];omega
  generalize hx:(x == 0)=xb at HR;go_enter Tryz.func116,Tryz.ntmps116
  go_wp2_with fail
  go_ret
  exact ⟨bool_ret (by rw [HR.out];rfl),(Below.refl _ _).alloc (Nat.le_refl _) _⟩
theorem rright_ef (d:ByteArray) (x:Int) (w:World) (hs:d.size<=4611686018427387904) (h0:d.size=0):Calls Tryz.prog 116 #[.agg #[.bool false,.string d,.int .i64 x]] w fun e w'=>e=.returned (.bool (right false d.data.toList x))/\Below w.heap.size w w':=by
  have hl:d.data.toList=[]:=List.eq_nil_of_length_eq_zero (by simpa using h0);have HR:Hid (right false d.data.toList x=(!false && x == 0)):=by rw [Hid,hl];rfl
  clear hl;have q0:((d.size:Int) == 0)=true:=by rw [beq_iff_eq];omega
  generalize hx:(x == 0)=xb at HR;go_enter Tryz.func116,Tryz.ntmps116
  go_wp2_with fail
  go_ret
  exact ⟨bool_ret (by rw [HR.out];rfl),(Below.refl _ _).alloc (Nat.le_refl _) _⟩
theorem rright_long (neg:Bool) (d:ByteArray) (x:Int) (w:World) (hs:d.size<=4611686018427387904) (h1:1000<d.size):Calls Tryz.prog 116 #[.agg #[.bool neg,.string d,.int .i64 x]] w fun e w'=>e=.returned (.bool (right neg d.data.toList x))/\Below w.heap.size w w':=by
  have q0:((d.size:Int) == 0)=false:=by rw [beq_eq_false_iff_ne];omega
  have hl:¬ d.data.toList=[]:=List.ne_nil_of_length_pos (by simp;omega);have HR:Hid (right neg d.data.toList x=false):=by
    rw [Hid, right, if_neg hl, if_pos (by have:d.data.toList.length=d.size:=by simp
                                          omega)]
  clear hl;have d1:decide (1000<(d.size:Int))=true:=by simp;omega
  go_enter Tryz.func116,Tryz.ntmps116
  go_wp2_with fail
  go_ret
  exact ⟨bool_ret (by rw [HR.out]),(Below.refl _ _).alloc (Nat.le_refl _) _⟩
theorem rright_low (neg:Bool) (d:ByteArray) (x:Int) (w:World) (hs:d.size<=4611686018427387904) (h0:0<d.size) (h1:d.size<=1000) (h2:x < -10000):Calls Tryz.prog 116 #[.agg #[.bool neg,.string d,.int .i64 x]] w fun e w'=>e=.returned (.bool (right neg d.data.toList x))/\Below w.heap.size w w':=by
  have q0:((d.size:Int) == 0)=false:=by rw [beq_eq_false_iff_ne];omega
  have hl:¬ d.data.toList=[]:=List.ne_nil_of_length_pos (by simp;omega);have HR:Hid (right neg d.data.toList x=false):=by
    rw [Hid, right, if_neg hl, if_pos (by have:d.data.toList.length=d.size:=by simp
                                          omega)]
  clear hl;have d1:decide (1000<(d.size:Int))=false:=by simp;omega
  have d2:decide (x < -10000)=true:=by simp;omega
  go_enter Tryz.func116,Tryz.ntmps116
  go_wp2_with fail
  go_ret
  exact ⟨bool_ret (by rw [HR.out]),(Below.refl _ _).alloc (Nat.le_refl _) _⟩
theorem rright_high (neg:Bool) (d:ByteArray) (x:Int) (w:World) (hs:d.size<=4611686018427387904) (h0:0<d.size) (h1:d.size<=1000) (h2:10000<x):Calls Tryz.prog 116 #[.agg #[.bool neg,.string d,.int .i64 x]] w fun e w'=>e=.returned (.bool (right neg d.data.toList x))/\Below w.heap.size w w':=by
  have q0:((d.size:Int) == 0)=false:=by rw [beq_eq_false_iff_ne];omega
  have hl:¬ d.data.toList=[]:=List.ne_nil_of_length_pos (by simp;omega);have HR:Hid (right neg d.data.toList x=false):=by
    rw [Hid, right, if_neg hl, if_pos (by have:d.data.toList.length=d.size:=by simp
                                          omega)]
  clear hl;have d1:decide (1000<(d.size:Int))=false:=by simp;omega
  have d2:decide (x < -10000)=false:=by simp;omega
  have d3:decide (10000<x)=true:=by simp;omega
  go_enter Tryz.func116,Tryz.ntmps116
  go_wp2_with fail
  go_ret
  exact ⟨bool_ret (by rw [HR.out]),(Below.refl _ _).alloc (Nat.le_refl _) _⟩
theorem rright_loop (neg:Bool) (d:ByteArray) (x:Int) (w:World) (hs:d.size<=4611686018427387904) (h0:0<d.size) (h1:d.size<=1000) (h2:-10000<=x) (h3:x<=10000):Calls Tryz.prog 116 #[.agg #[.bool neg,.string d,.int .i64 x]] w fun e w'=>e=.returned (.bool (right neg d.data.toList x))/\Below w.heap.size w w':=by
  have q0:((d.size:Int) == 0)=false:=by rw [beq_eq_false_iff_ne];omega
  have hl:¬ d.data.toList=[]:=List.ne_nil_of_length_pos (by simp;omega);have HR:Hid (right neg d.data.toList x=(d.data.toList.all isDigit && (d[0] != 48) && (d[d.size-1] != 48))):=by
    rw [Hid, right, if_neg hl, if_neg (by have:d.data.toList.length=d.size:=by simp
                                          omega),headD_byte d h0,getLastD_byte d h0]
  clear hl;have d1:decide (1000<(d.size:Int))=false:=by simp;omega
  have d2:decide (x < -10000)=false:=by simp;omega
  have d3:decide (10000<x)=false:=by simp;omega
  go_enter Tryz.func116,Tryz.ntmps116
  go_wp2_with fail
  have hdg:∀ i,i<d.size->digitAt d.data.toList i=isDigit (d.data.toList.getD i 0):=fun i h=>rfl
  go_loop [3] (fun p3=>∃ i:Nat,i<=d.size/\p3=.int .i64 i/\Hid (d.data.toList.all isDigit=(d.data.toList.drop i).all isDigit)) (fun p3=>d.size-(intOf p3).toNat)
  case atStart=>exact ⟨0,Nat.zero_le _,rfl,rfl⟩
  case round=>
    obtain ⟨i,hi,rfl,hf⟩:=hrel;clear hdg;by_cases hlt:i<d.size
    · have HS:Hid ((d.data.toList.drop i).all isDigit=(isDigit d[i] && (d.data.toList.drop (i+1)).all isDigit)):=by rw [Hid,drop_byte d i hlt,List.all_cons]
      have HD:Hid (digitAt d.data.toList i=isDigit d[i]):=by
        rw [Hid,digitAt,Utf.byt,List.getD_eq_getElem?_getD,List.getElem?_eq_getElem (by simpa using hlt)];rfl
      go_wp2_with fail
      refine (rdigit_any d i _ (by omega) (by omega)).mono ?_;rintro e w' ⟨rfl,rfl⟩;rw [HD.out];cases hdi:isDigit d[i]
      · have HF:Hid (right neg d.data.toList x=false):=by rw [Hid,HR.out,hf.out,HS.out,hdi];rfl
        clear hdi;go_wp2_with fail
        go_ret
        exact ⟨bool_ret (by rw [HF.out]),(Below.refl _ _).alloc (Nat.le_refl _) _⟩
      · have HN:Hid (d.data.toList.all isDigit=(d.data.toList.drop (i+1)).all isDigit):=by rw [Hid,hf.out,HS.out,hdi];rfl
        clear hdi;go_wp2_with fail
        go_round
        case rel=>exact ⟨i+1,by omega,by go_num,HN.out⟩
        case measure=>simp [intOf];omega
    · obtain rfl:i=d.size:=by omega
      have ha:d.data.toList.all isDigit=true:=by rw [hf.out,List.drop_of_length_le (by simp)];rfl
      have HF:Hid (right neg d.data.toList x=(((d[0].toNat:Int) != 48) && ((d[d.size-1].toNat:Int) != 48))):=by
        rw [Hid,HR.out,ha,u8_ne,u8_ne];rfl
      clear ha;have hsub:d.size-1<d.size:=by omega
      have hcst:((d.size:Int)-1)=((d.size-1:Nat):Int):=by omega
      cases hb1:((d[0].toNat:Int) != 48)
      · go_wp2_with fail
        go_ret
        exact ⟨bool_ret (by rw [HF.out,hb1];rfl),(Below.refl _ _).alloc (Nat.le_refl _) _⟩
      · go_wp2_with fail
        go_ret
        refine ⟨bool_ret ?_,(Below.refl _ _).alloc (Nat.le_refl _) _⟩;rw [HF.out,hb1];rfl
theorem rright_any (neg:Bool) (d:ByteArray) (x:Int) (w:World) (hs:d.size<=4611686018427387904):Calls Tryz.prog 116 #[.agg #[.bool neg,.string d,.int .i64 x]] w fun e w'=>e=.returned (.bool (right neg d.data.toList x))/\Below w.heap.size w w':=by
  by_cases h0:d.size=0
  · cases neg
    · exact rright_ef d x w hs h0
    · exact rright_et d x w hs h0
  by_cases h1:1000<d.size
  · exact rright_long neg d x w hs h1
  by_cases h2:x < -10000
  · exact rright_low neg d x w hs (by omega) (by omega) h2
  by_cases h3:10000<x
  · exact rright_high neg d x w hs (by omega) (by omega) h3
  · exact rright_loop neg d x w hs (by omega) (by omega) (by omega) (by omega)
end Go.Proofs.YtliekocamnklfaaGreatDoor.Num
