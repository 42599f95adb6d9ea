/- Contracts of package utf over the seat's program. -/
import Derived.Test.YtliekocamnklfaaGreatDoorProg
import Derived.Test.YtliekocamnklfaaGreatDoorPPlainA
import Derived.Test.YtliekocamnklfaaGreatDoorPFrame
import Derived.WalkKit
import Derived.BigQuiet
import Derived.Deep.QuietTactic
import Derived.Deep.LoopGhost
import Derived.Outline
import Derived.WalkLawsBesides
import Derived.RangeFuncNested
import Derived.RangeFuncBound
import Derived.RangeFuncCalls
import Derived.RangeFuncLeaves
import Derived.Shelf.Abstract
import Derived.Shelf.RegionOpen
import Derived.OwnWalkIn
import Derived.TacticsInMore
import Derived.LoopNIn
import Derived.LoopIn
set_option linter.unusedVariables false
set_option linter.unusedSimpArgs false
set_option maxRecDepth 100000
set_option maxHeartbeats 2000000
namespace Go.Proofs.YtliekocamnklfaaGreatDoor.Utf
open Go.RowKit
theorem isScalar_any (c:Nat) (w:World):Calls Tryz.prog 278 #[.int .i64 c] w fun e w'=>e=.returned (.bool (scalarB c))/\w=w':=by
  have h0:decide (0<=(c:Int))=true:=by simp
  by_cases h1:c<=1114111
  · have d1:decide ((c:Int)<=1114111)=true:=by simp;omega
    by_cases h2:c<55296
    · have d2:decide ((c:Int)<55296)=true:=by simp;omega
      have H:Hid (scalarB c=true):=by unfold Hid scalarB;simp [h1,h2]
      go_enter Tryz.func278,Tryz.ntmps278
      go_wp2
      go_ret
      rw [H.out];exact ⟨rfl,rfl⟩
    · have d2:decide ((c:Int)<55296)=false:=by simp;omega
      by_cases h3:57343<c
      · have d3:decide (57343<(c:Int))=true:=by simp;omega
        have H:Hid (scalarB c=true):=by unfold Hid scalarB;simp [h1,h3]
        go_enter Tryz.func278,Tryz.ntmps278
        go_wp2
        go_ret
        rw [H.out];exact ⟨rfl,rfl⟩
      · have d3:decide (57343<(c:Int))=false:=by simp;omega
        have H:Hid (scalarB c=false):=by unfold Hid scalarB;simp [h1,h2,h3]
        go_enter Tryz.func278,Tryz.ntmps278
        go_wp2
        go_ret
        rw [H.out];exact ⟨rfl,rfl⟩
  · have d1:decide ((c:Int)<=1114111)=false:=by simp;omega
    have H:Hid (scalarB c=false):=by unfold Hid scalarB;simp [h1]
    go_enter Tryz.func278,Tryz.ntmps278
    go_wp2
    go_ret
    rw [H.out];exact ⟨rfl,rfl⟩
theorem width_any (c:Nat) (w:World):Calls Tryz.prog 279 #[.int .i64 c] w fun e w'=>e=.returned (.int .i64 (width c))/\w=w':=by
  by_cases h1:c<128
  · have dh1:decide ((c:Int)<128)=true:=by simp;omega
    have H:Hid (width c=1):=by unfold Hid width;(repeat' split) <;> omega
    go_enter Tryz.func279,Tryz.ntmps279
    go_wp2
    go_ret
    rw [H.out];exact ⟨rfl,rfl⟩
  · have dh1:decide ((c:Int)<128)=false:=by simp;omega
    by_cases h2:c<2048
    · have dh2:decide ((c:Int)<2048)=true:=by simp;omega
      have H:Hid (width c=2):=by unfold Hid width;(repeat' split) <;> omega
      go_enter Tryz.func279,Tryz.ntmps279
      go_wp2
      go_ret
      rw [H.out];exact ⟨rfl,rfl⟩
    · have dh2:decide ((c:Int)<2048)=false:=by simp;omega
      by_cases h3:c<65536
      · have dh3:decide ((c:Int)<65536)=true:=by simp;omega
        have H:Hid (width c=3):=by unfold Hid width;(repeat' split) <;> omega
        go_enter Tryz.func279,Tryz.ntmps279
        go_wp2
        go_ret
        rw [H.out];exact ⟨rfl,rfl⟩
      · have dh3:decide ((c:Int)<65536)=false:=by simp;omega
        have H:Hid (width c=4):=by unfold Hid width;(repeat' split) <;> omega
        go_enter Tryz.func279,Tryz.ntmps279
        go_wp2
        go_ret
        rw [H.out];exact ⟨rfl,rfl⟩
theorem isScalar_eq (c:Nat) (b:Bool) (h:scalarB c=b) (w:World):Calls Tryz.prog 278 #[.int .i64 c] w fun e w'=>e=.returned (.bool b)/\w=w':=by rw [<-h];exact isScalar_any c w
theorem width_eq (c k:Nat) (h:width c=k) (w:World):Calls Tryz.prog 279 #[.int .i64 c] w fun e w'=>e=.returned (.int .i64 k)/\w=w':=by rw [<-h];exact width_any c w
structure Sizes (w:World):Prop where
  cell:∀ n,n<256->w.cell? ⟨5,n / 8,none⟩=some (.int .i64 (sizeAt n))
def First (s:ByteArray) (i:Nat) (w:World) (e:Ending) (w':World):Prop:=
  e=.returned (.tuple #[.int .i64 (one (s.data.toList.drop i)).1,.int .i64 (one (s.data.toList.drop i)).2])/\w=w'
theorem byt_drop (s:ByteArray) (i j:Nat) (h:i+j<s.size):byt (s.data.toList.drop i) j=s[i+j].toNat:=by
  unfold byt;rw [List.getD_eq_getElem?_getD,List.getElem?_drop,List.getElem?_eq_getElem (by simpa using h)]
  rfl
theorem byt_drop0 (s:ByteArray) (i:Nat) (h:i<s.size):byt (s.data.toList.drop i) 0=s[i].toNat:=byt_drop s i 0 h
theorem len_drop (s:ByteArray) (i:Nat):(s.data.toList.drop i).length=s.size-i:=by simp
theorem one_none {l:List UInt8} (h:stands l (sizeAt (byt l 0))=false):one l=(0,0):=by unfold one;rw [h];rfl
theorem one_some {l:List UInt8} (k c:Nat) (hk:sizeAt (byt l 0)=k) (hc:val l k=c) (h:stands l k=true):one l=(c,k):=by unfold one;rw [hk,h,hc];rfl
theorem first_of {s:ByteArray} {i:Nat} {w:World} (c k:Nat) (h:one (s.data.toList.drop i)=(c,k)):First s i w (.returned (.tuple #[.int .i64 c,.int .i64 k])) w:=by
  unfold First;rw [h];exact ⟨rfl,rfl⟩
theorem first_end (s:ByteArray) (i:Nat) (w:World) (hi:s.size<=i) (hs:i<=4611686018427387904):Calls Tryz.prog 235 #[.string s,.int .i64 i] w (First s i w):=by
  have hn:one (s.data.toList.drop i)=(0,0):=one_none (by
    unfold stands;rw [len_drop];have:¬ (1<=sizeAt (byt (s.data.toList.drop i) 0)/\sizeAt (byt (s.data.toList.drop i) 0)<=s.size-i):=by omega
    rcases Decidable.not_and_iff_or_not.1 this with h | h <;> simp [h])
  have H:=Hid.out (p:=Hid _) hn;clear hn;go_enter Tryz.func235,Tryz.ntmps235
  go_wp2
  go_ret2
  exact first_of 0 0 H
theorem first_ascii (s:ByteArray) (i:Nat) (w:World) (hi:i<s.size) (hs:s.size<=4611686018427387904) (T:Sizes w) (hb:s[i].toNat<128):Calls Tryz.prog 235 #[.string s,.int .i64 i] w (First s i w):=by
  have hc:=T.cell s[i].toNat (by omega);have hz:sizeAt s[i].toNat=1:=by unfold sizeAt;rw [if_pos hb]
  have ho:one (s.data.toList.drop i)=(s[i].toNat,1):=by
    have e0:=byt_drop0 s i hi;refine one_some 1 _ (by rw [e0,hz]) (by unfold val;simp [e0]) ?_;have hv:val (s.data.toList.drop i) 1=s[i].toNat:=by unfold val;simp [e0]
    have h1:scalarB s[i].toNat=true:=by simp [scalarB];omega
    have h2:width s[i].toNat=1:=by simp [width,hb]
    simp [stands,e0,hz,hv,h1,h2,conts,len_drop]
    omega
  have H:=Hid.out (p:=Hid _) ho;clear ho;rw [hz] at hc;have h256:s[i].toNat<256:=by omega
  clear hz T;go_enter Tryz.func235,Tryz.ntmps235
  go_wp2
  go_ret2
  exact first_of _ 1 H
theorem first_zero (s:ByteArray) (i:Nat) (w:World) (hi:i<s.size) (hs:s.size<=4611686018427387904) (T:Sizes w) (hb:sizeAt s[i].toNat=0∨s.size-i<sizeAt s[i].toNat):Calls Tryz.prog 235 #[.string s,.int .i64 i] w (First s i w):=by
  have h256:s[i].toNat<256:=UInt8.toNat_lt _;have hc:=T.cell s[i].toNat h256;have ho:one (s.data.toList.drop i)=(0,0):=one_none (by
    unfold stands;rw [len_drop,byt_drop0 s i hi];rcases hb with h | h
    · simp [h]
    · have:¬ sizeAt s[i].toNat<=s.size-i:=by omega
      simp [this])
  have H:=Hid.out (p:=Hid _) ho;clear ho;clear T;have hle:=sizeAt_le s[i].toNat;generalize sizeAt s[i].toNat=z at *;rcases hb with h | h
  · subst h;go_enter Tryz.func235,Tryz.ntmps235
    go_wp2
    go_ret2
    exact first_of 0 0 H
  · by_cases hz:z=0
    · subst hz;omega
    have hzb:((z:Int) == 0)=false:=by simp;omega
    go_enter Tryz.func235,Tryz.ntmps235
    go_wp2
    go_ret2
    exact first_of 0 0 H
theorem first_2_bad1 (s:ByteArray) (i:Nat) (w:World) (hi:i<s.size) (hs:s.size<=4611686018427387904) (T:Sizes w) (hb:192<=s[i].toNat) (hb2:s[i].toNat<224) (hk:i+1<s.size)  (n1:cont (s[i+1]'(by omega)).toNat=false):Calls Tryz.prog 235 #[.string s,.int .i64 i] w (First s i w):=by
  have hz:sizeAt s[i].toNat=2:=by unfold sizeAt;(repeat' split) <;> omega
  have h256:s[i].toNat<256:=UInt8.toNat_lt _;have hc:=T.cell s[i].toNat h256;rw [hz] at hc;clear T;have hj1:i+1<s.size:=by omega
  have b1:s[i+1].toNat<256:=UInt8.toNat_lt _;have ho:one (s.data.toList.drop i)=(0,0):=one_none (by
    rw [byt_drop0 s i hi,hz];simp [stands,conts,byt_drop s i 1 hj1,n1])
  have H:=Hid.out (p:=Hid _) ho;clear ho;have f1:(bits .and .i64 (s[i+1].toNat:Int) 192 != 128)=true:=by rw [Bits.and192 _ b1];unfold cont at n1;rw [n1];rfl
  clear hz;clear n1;go_enter Tryz.func235,Tryz.ntmps235
  go_wp2
  refine wp_loop_rounds 1 ?_;rw [rounds_succ]
  go_wp2
  go_ret2
  exact first_of 0 0 H
theorem first_2_noscalar (s:ByteArray) (i:Nat) (w:World) (hi:i<s.size) (hs:s.size<=4611686018427387904) (T:Sizes w) (hb:192<=s[i].toNat) (hb2:s[i].toNat<224) (hk:i+1<s.size) (g1:cont (s[i+1]'(by omega)).toNat=true) (c:Nat) (hcc:c=((s[i].toNat % 32)*64+s[i+1].toNat % 64)) (q:scalarB c=false):Calls Tryz.prog 235 #[.string s,.int .i64 i] w (First s i w):=by
  have hz:sizeAt s[i].toNat=2:=by unfold sizeAt;(repeat' split) <;> omega
  have h256:s[i].toNat<256:=UInt8.toNat_lt _;have hc:=T.cell s[i].toNat h256;rw [hz] at hc;clear T;have hj1:i+1<s.size:=by omega
  have b1:s[i+1].toNat<256:=UInt8.toNat_lt _;have hv:val (s.data.toList.drop i) 2=c:=by
    have e0:=byt_drop0 s i hi;have e1:=byt_drop s i 1 hj1;have r1:=g1;simp only [cont,Bool.and_eq_true,decide_eq_true_eq] at r1
    unfold val;simp [e0,e1]
    omega
  have ho:one (s.data.toList.drop i)=(0,0):=one_none (by rw [byt_drop0 s i hi,hz];unfold stands;rw [hv,q];simp);have H:=Hid.out (p:=Hid _) ho;clear ho;have f1:(bits .and .i64 (s[i+1].toNat:Int) 192 != 128)=false:=by rw [Bits.and192 _ b1];unfold cont at g1;rw [g1];rfl
  have Q:=Hid.out (p:=Hid _) q;clear q;have HC:=Hid.out (p:=Hid _) hcc;clear hcc;clear hz hv;clear g1;go_enter Tryz.func235,Tryz.ntmps235
  go_wp2
  refine wp_loop_rounds 2 ?_;rw [rounds_succ]
  go_wp2
  rw [rounds_succ];go_wp2_with fail
  rw [Bits.scalar2 _ _ h256 b1,<-HC.out];refine (isScalar_eq _ false Q.out w).mono ?_;rintro e w' ⟨rfl,rfl⟩;go_wp2_with fail
  go_ret2
  exact first_of 0 0 H
theorem first_2_nowidth (s:ByteArray) (i:Nat) (w:World) (hi:i<s.size) (hs:s.size<=4611686018427387904) (T:Sizes w) (hb:192<=s[i].toNat) (hb2:s[i].toNat<224) (hk:i+1<s.size) (g1:cont (s[i+1]'(by omega)).toNat=true) (c:Nat) (hcc:c=((s[i].toNat % 32)*64+s[i+1].toNat % 64)) (q:scalarB c=true) (q2:¬ width c=2):Calls Tryz.prog 235 #[.string s,.int .i64 i] w (First s i w):=by
  have hz:sizeAt s[i].toNat=2:=by unfold sizeAt;(repeat' split) <;> omega
  have h256:s[i].toNat<256:=UInt8.toNat_lt _;have hc:=T.cell s[i].toNat h256;rw [hz] at hc;clear T;have hj1:i+1<s.size:=by omega
  have b1:s[i+1].toNat<256:=UInt8.toNat_lt _;have hv:val (s.data.toList.drop i) 2=c:=by
    have e0:=byt_drop0 s i hi;have e1:=byt_drop s i 1 hj1;have r1:=g1;simp only [cont,Bool.and_eq_true,decide_eq_true_eq] at r1
    unfold val;simp [e0,e1]
    omega
  have ho:one (s.data.toList.drop i)=(0,0):=one_none (by rw [byt_drop0 s i hi,hz];unfold stands;rw [hv];simp [q2]);have H:=Hid.out (p:=Hid _) ho;clear ho;have f1:(bits .and .i64 (s[i+1].toNat:Int) 192 != 128)=false:=by rw [Bits.and192 _ b1];unfold cont at g1;rw [g1];rfl
  have Q:=Hid.out (p:=Hid _) q;clear q;have HC:=Hid.out (p:=Hid _) hcc;clear hcc;have qb:(((width c:Nat):Int) != 2)=true:=by rw [bne_iff_ne];omega
  clear hz hv;clear g1;go_enter Tryz.func235,Tryz.ntmps235
  go_wp2
  refine wp_loop_rounds 2 ?_;rw [rounds_succ]
  go_wp2
  rw [rounds_succ];go_wp2_with fail
  rw [Bits.scalar2 _ _ h256 b1,<-HC.out];refine (isScalar_eq _ true Q.out w).mono ?_;rintro e w' ⟨rfl,rfl⟩;go_wp2_with fail
  refine (width_any _ w).mono ?_;rintro e w' ⟨rfl,rfl⟩;go_wp2_with fail
  go_ret2
  exact first_of 0 0 H
theorem first_2_ok (s:ByteArray) (i:Nat) (w:World) (hi:i<s.size) (hs:s.size<=4611686018427387904) (T:Sizes w) (hb:192<=s[i].toNat) (hb2:s[i].toNat<224) (hk:i+1<s.size) (g1:cont (s[i+1]'(by omega)).toNat=true) (c:Nat) (hcc:c=((s[i].toNat % 32)*64+s[i+1].toNat % 64)) (q:scalarB c=true) (q2:width c=2):Calls Tryz.prog 235 #[.string s,.int .i64 i] w (First s i w):=by
  have hz:sizeAt s[i].toNat=2:=by unfold sizeAt;(repeat' split) <;> omega
  have h256:s[i].toNat<256:=UInt8.toNat_lt _;have hc:=T.cell s[i].toNat h256;rw [hz] at hc;clear T;have hj1:i+1<s.size:=by omega
  have b1:s[i+1].toNat<256:=UInt8.toNat_lt _;have hv:val (s.data.toList.drop i) 2=c:=by
    have e0:=byt_drop0 s i hi;have e1:=byt_drop s i 1 hj1;have r1:=g1;simp only [cont,Bool.and_eq_true,decide_eq_true_eq] at r1
    unfold val;simp [e0,e1]
    omega
  have ho:one (s.data.toList.drop i)=(c,2):=one_some 2 _ (by rw [byt_drop0 s i hi,hz]) hv (by
    unfold stands;rw [hv,byt_drop0 s i hi,hz,len_drop,q,q2];have q3:2<=s.size-i:=by omega
    simp [conts,byt_drop s i 1 hj1,g1]
    omega)
  have H:=Hid.out (p:=Hid _) ho;clear ho;have f1:(bits .and .i64 (s[i+1].toNat:Int) 192 != 128)=false:=by rw [Bits.and192 _ b1];unfold cont at g1;rw [g1];rfl
  have Q:=Hid.out (p:=Hid _) q;clear q;have HC:=Hid.out (p:=Hid _) hcc;clear hcc;have qb:(((width c:Nat):Int) != 2)=false:=by rw [q2];rfl
  clear hz hv;clear g1;go_enter Tryz.func235,Tryz.ntmps235
  go_wp2
  refine wp_loop_rounds 2 ?_;rw [rounds_succ]
  go_wp2
  rw [rounds_succ];go_wp2_with fail
  rw [Bits.scalar2 _ _ h256 b1,<-HC.out];refine (isScalar_eq _ true Q.out w).mono ?_;rintro e w' ⟨rfl,rfl⟩;go_wp2_with fail
  refine (width_any _ w).mono ?_;rintro e w' ⟨rfl,rfl⟩;go_wp2_with fail
  go_ret2
  exact first_of c 2 H
theorem first_3_bad1 (s:ByteArray) (i:Nat) (w:World) (hi:i<s.size) (hs:s.size<=4611686018427387904) (T:Sizes w) (hb:224<=s[i].toNat) (hb2:s[i].toNat<240) (hk:i+2<s.size)  (n1:cont (s[i+1]'(by omega)).toNat=false):Calls Tryz.prog 235 #[.string s,.int .i64 i] w (First s i w):=by
  have hz:sizeAt s[i].toNat=3:=by unfold sizeAt;(repeat' split) <;> omega
  have h256:s[i].toNat<256:=UInt8.toNat_lt _;have hc:=T.cell s[i].toNat h256;rw [hz] at hc;clear T;have hj1:i+1<s.size:=by omega
  have b1:s[i+1].toNat<256:=UInt8.toNat_lt _;have hj2:i+2<s.size:=by omega
  have b2:s[i+2].toNat<256:=UInt8.toNat_lt _;have ho:one (s.data.toList.drop i)=(0,0):=one_none (by
    rw [byt_drop0 s i hi,hz];simp [stands,conts,byt_drop s i 1 hj1,n1])
  have H:=Hid.out (p:=Hid _) ho;clear ho;have f1:(bits .and .i64 (s[i+1].toNat:Int) 192 != 128)=true:=by rw [Bits.and192 _ b1];unfold cont at n1;rw [n1];rfl
  clear hz;clear n1;go_enter Tryz.func235,Tryz.ntmps235
  go_wp2
  refine wp_loop_rounds 1 ?_;rw [rounds_succ]
  go_wp2
  go_ret2
  exact first_of 0 0 H
theorem first_3_bad2 (s:ByteArray) (i:Nat) (w:World) (hi:i<s.size) (hs:s.size<=4611686018427387904) (T:Sizes w) (hb:224<=s[i].toNat) (hb2:s[i].toNat<240) (hk:i+2<s.size) (g1:cont (s[i+1]'(by omega)).toNat=true) (n2:cont (s[i+2]'(by omega)).toNat=false):Calls Tryz.prog 235 #[.string s,.int .i64 i] w (First s i w):=by
  have hz:sizeAt s[i].toNat=3:=by unfold sizeAt;(repeat' split) <;> omega
  have h256:s[i].toNat<256:=UInt8.toNat_lt _;have hc:=T.cell s[i].toNat h256;rw [hz] at hc;clear T;have hj1:i+1<s.size:=by omega
  have b1:s[i+1].toNat<256:=UInt8.toNat_lt _;have hj2:i+2<s.size:=by omega
  have b2:s[i+2].toNat<256:=UInt8.toNat_lt _;have ho:one (s.data.toList.drop i)=(0,0):=one_none (by
    rw [byt_drop0 s i hi,hz];simp [stands,conts,byt_drop s i 2 hj2,n2])
  have H:=Hid.out (p:=Hid _) ho;clear ho;have f1:(bits .and .i64 (s[i+1].toNat:Int) 192 != 128)=false:=by rw [Bits.and192 _ b1];unfold cont at g1;rw [g1];rfl
  have f2:(bits .and .i64 (s[i+2].toNat:Int) 192 != 128)=true:=by rw [Bits.and192 _ b2];unfold cont at n2;rw [n2];rfl
  clear hz;clear g1;clear n2;go_enter Tryz.func235,Tryz.ntmps235
  go_wp2
  refine wp_loop_rounds 2 ?_;rw [rounds_succ]
  go_wp2
  rw [rounds_succ]
  go_wp2
  go_ret2
  exact first_of 0 0 H
theorem first_3_noscalar (s:ByteArray) (i:Nat) (w:World) (hi:i<s.size) (hs:s.size<=4611686018427387904) (T:Sizes w) (hb:224<=s[i].toNat) (hb2:s[i].toNat<240) (hk:i+2<s.size) (g1:cont (s[i+1]'(by omega)).toNat=true) (g2:cont (s[i+2]'(by omega)).toNat=true) (c:Nat) (hcc:c=(((s[i].toNat % 16)*64+s[i+1].toNat % 64)*64+s[i+2].toNat % 64)) (q:scalarB c=false):Calls Tryz.prog 235 #[.string s,.int .i64 i] w (First s i w):=by
  have hz:sizeAt s[i].toNat=3:=by unfold sizeAt;(repeat' split) <;> omega
  have h256:s[i].toNat<256:=UInt8.toNat_lt _;have hc:=T.cell s[i].toNat h256;rw [hz] at hc;clear T;have hj1:i+1<s.size:=by omega
  have b1:s[i+1].toNat<256:=UInt8.toNat_lt _;have hj2:i+2<s.size:=by omega
  have b2:s[i+2].toNat<256:=UInt8.toNat_lt _;have hv:val (s.data.toList.drop i) 3=c:=by
    have e0:=byt_drop0 s i hi;have e1:=byt_drop s i 1 hj1;have r1:=g1;simp only [cont,Bool.and_eq_true,decide_eq_true_eq] at r1
    have e2:=byt_drop s i 2 hj2;have r2:=g2;simp only [cont,Bool.and_eq_true,decide_eq_true_eq] at r2
    unfold val;simp [e0,e1,e2]
    omega
  have ho:one (s.data.toList.drop i)=(0,0):=one_none (by rw [byt_drop0 s i hi,hz];unfold stands;rw [hv,q];simp);have H:=Hid.out (p:=Hid _) ho;clear ho;have f1:(bits .and .i64 (s[i+1].toNat:Int) 192 != 128)=false:=by rw [Bits.and192 _ b1];unfold cont at g1;rw [g1];rfl
  have f2:(bits .and .i64 (s[i+2].toNat:Int) 192 != 128)=false:=by rw [Bits.and192 _ b2];unfold cont at g2;rw [g2];rfl
  have Q:=Hid.out (p:=Hid _) q;clear q;have HC:=Hid.out (p:=Hid _) hcc;clear hcc;clear hz hv;clear g1;clear g2;go_enter Tryz.func235,Tryz.ntmps235
  go_wp2
  refine wp_loop_rounds 3 ?_;rw [rounds_succ]
  go_wp2
  rw [rounds_succ]
  go_wp2
  rw [rounds_succ];go_wp2_with fail
  rw [Bits.scalar3 _ _ _ h256 b1 b2,<-HC.out];refine (isScalar_eq _ false Q.out w).mono ?_;rintro e w' ⟨rfl,rfl⟩;go_wp2_with fail
  go_ret2
  exact first_of 0 0 H
theorem first_3_nowidth (s:ByteArray) (i:Nat) (w:World) (hi:i<s.size) (hs:s.size<=4611686018427387904) (T:Sizes w) (hb:224<=s[i].toNat) (hb2:s[i].toNat<240) (hk:i+2<s.size) (g1:cont (s[i+1]'(by omega)).toNat=true) (g2:cont (s[i+2]'(by omega)).toNat=true) (c:Nat) (hcc:c=(((s[i].toNat % 16)*64+s[i+1].toNat % 64)*64+s[i+2].toNat % 64)) (q:scalarB c=true) (q2:¬ width c=3):Calls Tryz.prog 235 #[.string s,.int .i64 i] w (First s i w):=by
  have hz:sizeAt s[i].toNat=3:=by unfold sizeAt;(repeat' split) <;> omega
  have h256:s[i].toNat<256:=UInt8.toNat_lt _;have hc:=T.cell s[i].toNat h256;rw [hz] at hc;clear T;have hj1:i+1<s.size:=by omega
  have b1:s[i+1].toNat<256:=UInt8.toNat_lt _;have hj2:i+2<s.size:=by omega
  have b2:s[i+2].toNat<256:=UInt8.toNat_lt _;have hv:val (s.data.toList.drop i) 3=c:=by
    have e0:=byt_drop0 s i hi;have e1:=byt_drop s i 1 hj1;have r1:=g1;simp only [cont,Bool.and_eq_true,decide_eq_true_eq] at r1
    have e2:=byt_drop s i 2 hj2;have r2:=g2;simp only [cont,Bool.and_eq_true,decide_eq_true_eq] at r2
    unfold val;simp [e0,e1,e2]
    omega
  have ho:one (s.data.toList.drop i)=(0,0):=one_none (by rw [byt_drop0 s i hi,hz];unfold stands;rw [hv];simp [q2]);have H:=Hid.out (p:=Hid _) ho;clear ho;have f1:(bits .and .i64 (s[i+1].toNat:Int) 192 != 128)=false:=by rw [Bits.and192 _ b1];unfold cont at g1;rw [g1];rfl
  have f2:(bits .and .i64 (s[i+2].toNat:Int) 192 != 128)=false:=by rw [Bits.and192 _ b2];unfold cont at g2;rw [g2];rfl
  have Q:=Hid.out (p:=Hid _) q;clear q;have HC:=Hid.out (p:=Hid _) hcc;clear hcc;have qb:(((width c:Nat):Int) != 3)=true:=by rw [bne_iff_ne];omega
  clear hz hv;clear g1;clear g2;go_enter Tryz.func235,Tryz.ntmps235
  go_wp2
  refine wp_loop_rounds 3 ?_;rw [rounds_succ]
  go_wp2
  rw [rounds_succ]
  go_wp2
  rw [rounds_succ];go_wp2_with fail
  rw [Bits.scalar3 _ _ _ h256 b1 b2,<-HC.out];refine (isScalar_eq _ true Q.out w).mono ?_;rintro e w' ⟨rfl,rfl⟩;go_wp2_with fail
  refine (width_any _ w).mono ?_;rintro e w' ⟨rfl,rfl⟩;go_wp2_with fail
  go_ret2
  exact first_of 0 0 H
theorem first_3_ok (s:ByteArray) (i:Nat) (w:World) (hi:i<s.size) (hs:s.size<=4611686018427387904) (T:Sizes w) (hb:224<=s[i].toNat) (hb2:s[i].toNat<240) (hk:i+2<s.size) (g1:cont (s[i+1]'(by omega)).toNat=true) (g2:cont (s[i+2]'(by omega)).toNat=true) (c:Nat) (hcc:c=(((s[i].toNat % 16)*64+s[i+1].toNat % 64)*64+s[i+2].toNat % 64)) (q:scalarB c=true) (q2:width c=3):Calls Tryz.prog 235 #[.string s,.int .i64 i] w (First s i w):=by
  have hz:sizeAt s[i].toNat=3:=by unfold sizeAt;(repeat' split) <;> omega
  have h256:s[i].toNat<256:=UInt8.toNat_lt _;have hc:=T.cell s[i].toNat h256;rw [hz] at hc;clear T;have hj1:i+1<s.size:=by omega
  have b1:s[i+1].toNat<256:=UInt8.toNat_lt _;have hj2:i+2<s.size:=by omega
  have b2:s[i+2].toNat<256:=UInt8.toNat_lt _;have hv:val (s.data.toList.drop i) 3=c:=by
    have e0:=byt_drop0 s i hi;have e1:=byt_drop s i 1 hj1;have r1:=g1;simp only [cont,Bool.and_eq_true,decide_eq_true_eq] at r1
    have e2:=byt_drop s i 2 hj2;have r2:=g2;simp only [cont,Bool.and_eq_true,decide_eq_true_eq] at r2
    unfold val;simp [e0,e1,e2]
    omega
  have ho:one (s.data.toList.drop i)=(c,3):=one_some 3 _ (by rw [byt_drop0 s i hi,hz]) hv (by
    unfold stands;rw [hv,byt_drop0 s i hi,hz,len_drop,q,q2];have q3:3<=s.size-i:=by omega
    simp [conts,byt_drop s i 1 hj1,g1,byt_drop s i 2 hj2,g2]
    omega)
  have H:=Hid.out (p:=Hid _) ho;clear ho;have f1:(bits .and .i64 (s[i+1].toNat:Int) 192 != 128)=false:=by rw [Bits.and192 _ b1];unfold cont at g1;rw [g1];rfl
  have f2:(bits .and .i64 (s[i+2].toNat:Int) 192 != 128)=false:=by rw [Bits.and192 _ b2];unfold cont at g2;rw [g2];rfl
  have Q:=Hid.out (p:=Hid _) q;clear q;have HC:=Hid.out (p:=Hid _) hcc;clear hcc;have qb:(((width c:Nat):Int) != 3)=false:=by rw [q2];rfl
  clear hz hv;clear g1;clear g2;go_enter Tryz.func235,Tryz.ntmps235
  go_wp2
  refine wp_loop_rounds 3 ?_;rw [rounds_succ]
  go_wp2
  rw [rounds_succ]
  go_wp2
  rw [rounds_succ];go_wp2_with fail
  rw [Bits.scalar3 _ _ _ h256 b1 b2,<-HC.out];refine (isScalar_eq _ true Q.out w).mono ?_;rintro e w' ⟨rfl,rfl⟩;go_wp2_with fail
  refine (width_any _ w).mono ?_;rintro e w' ⟨rfl,rfl⟩;go_wp2_with fail
  go_ret2
  exact first_of c 3 H
theorem first_4_bad1 (s:ByteArray) (i:Nat) (w:World) (hi:i<s.size) (hs:s.size<=4611686018427387904) (T:Sizes w) (hb:240<=s[i].toNat) (hb2:s[i].toNat<248) (hk:i+3<s.size)  (n1:cont (s[i+1]'(by omega)).toNat=false):Calls Tryz.prog 235 #[.string s,.int .i64 i] w (First s i w):=by
  have hz:sizeAt s[i].toNat=4:=by unfold sizeAt;(repeat' split) <;> omega
  have h256:s[i].toNat<256:=UInt8.toNat_lt _;have hc:=T.cell s[i].toNat h256;rw [hz] at hc;clear T;have hj1:i+1<s.size:=by omega
  have b1:s[i+1].toNat<256:=UInt8.toNat_lt _;have hj2:i+2<s.size:=by omega
  have b2:s[i+2].toNat<256:=UInt8.toNat_lt _;have hj3:i+3<s.size:=by omega
  have b3:s[i+3].toNat<256:=UInt8.toNat_lt _;have ho:one (s.data.toList.drop i)=(0,0):=one_none (by
    rw [byt_drop0 s i hi,hz];simp [stands,conts,byt_drop s i 1 hj1,n1])
  have H:=Hid.out (p:=Hid _) ho;clear ho;have f1:(bits .and .i64 (s[i+1].toNat:Int) 192 != 128)=true:=by rw [Bits.and192 _ b1];unfold cont at n1;rw [n1];rfl
  clear hz;clear n1;go_enter Tryz.func235,Tryz.ntmps235
  go_wp2
  refine wp_loop_rounds 1 ?_;rw [rounds_succ]
  go_wp2
  go_ret2
  exact first_of 0 0 H
theorem first_4_bad2 (s:ByteArray) (i:Nat) (w:World) (hi:i<s.size) (hs:s.size<=4611686018427387904) (T:Sizes w) (hb:240<=s[i].toNat) (hb2:s[i].toNat<248) (hk:i+3<s.size) (g1:cont (s[i+1]'(by omega)).toNat=true) (n2:cont (s[i+2]'(by omega)).toNat=false):Calls Tryz.prog 235 #[.string s,.int .i64 i] w (First s i w):=by
  have hz:sizeAt s[i].toNat=4:=by unfold sizeAt;(repeat' split) <;> omega
  have h256:s[i].toNat<256:=UInt8.toNat_lt _;have hc:=T.cell s[i].toNat h256;rw [hz] at hc;clear T;have hj1:i+1<s.size:=by omega
  have b1:s[i+1].toNat<256:=UInt8.toNat_lt _;have hj2:i+2<s.size:=by omega
  have b2:s[i+2].toNat<256:=UInt8.toNat_lt _;have hj3:i+3<s.size:=by omega
  have b3:s[i+3].toNat<256:=UInt8.toNat_lt _;have ho:one (s.data.toList.drop i)=(0,0):=one_none (by
    rw [byt_drop0 s i hi,hz];simp [stands,conts,byt_drop s i 2 hj2,n2])
  have H:=Hid.out (p:=Hid _) ho;clear ho;have f1:(bits .and .i64 (s[i+1].toNat:Int) 192 != 128)=false:=by rw [Bits.and192 _ b1];unfold cont at g1;rw [g1];rfl
  have f2:(bits .and .i64 (s[i+2].toNat:Int) 192 != 128)=true:=by rw [Bits.and192 _ b2];unfold cont at n2;rw [n2];rfl
  clear hz;clear g1;clear n2;go_enter Tryz.func235,Tryz.ntmps235
  go_wp2
  refine wp_loop_rounds 2 ?_;rw [rounds_succ]
  go_wp2
  rw [rounds_succ]
  go_wp2
  go_ret2
  exact first_of 0 0 H
theorem first_4_bad3 (s:ByteArray) (i:Nat) (w:World) (hi:i<s.size) (hs:s.size<=4611686018427387904) (T:Sizes w) (hb:240<=s[i].toNat) (hb2:s[i].toNat<248) (hk:i+3<s.size) (g1:cont (s[i+1]'(by omega)).toNat=true) (g2:cont (s[i+2]'(by omega)).toNat=true) (n3:cont (s[i+3]'(by omega)).toNat=false):Calls Tryz.prog 235 #[.string s,.int .i64 i] w (First s i w):=by
  have hz:sizeAt s[i].toNat=4:=by unfold sizeAt;(repeat' split) <;> omega
  have h256:s[i].toNat<256:=UInt8.toNat_lt _;have hc:=T.cell s[i].toNat h256;rw [hz] at hc;clear T;have hj1:i+1<s.size:=by omega
  have b1:s[i+1].toNat<256:=UInt8.toNat_lt _;have hj2:i+2<s.size:=by omega
  have b2:s[i+2].toNat<256:=UInt8.toNat_lt _;have hj3:i+3<s.size:=by omega
  have b3:s[i+3].toNat<256:=UInt8.toNat_lt _;have ho:one (s.data.toList.drop i)=(0,0):=one_none (by
    rw [byt_drop0 s i hi,hz];simp [stands,conts,byt_drop s i 3 hj3,n3])
  have H:=Hid.out (p:=Hid _) ho;clear ho;have f1:(bits .and .i64 (s[i+1].toNat:Int) 192 != 128)=false:=by rw [Bits.and192 _ b1];unfold cont at g1;rw [g1];rfl
  have f2:(bits .and .i64 (s[i+2].toNat:Int) 192 != 128)=false:=by rw [Bits.and192 _ b2];unfold cont at g2;rw [g2];rfl
  have f3:(bits .and .i64 (s[i+3].toNat:Int) 192 != 128)=true:=by rw [Bits.and192 _ b3];unfold cont at n3;rw [n3];rfl
  clear hz;clear g1;clear g2;clear n3;go_enter Tryz.func235,Tryz.ntmps235
  go_wp2
  refine wp_loop_rounds 3 ?_;rw [rounds_succ]
  go_wp2
  rw [rounds_succ]
  go_wp2
  rw [rounds_succ]
  go_wp2
  go_ret2
  exact first_of 0 0 H
theorem first_4_noscalar (s:ByteArray) (i:Nat) (w:World) (hi:i<s.size) (hs:s.size<=4611686018427387904) (T:Sizes w) (hb:240<=s[i].toNat) (hb2:s[i].toNat<248) (hk:i+3<s.size) (g1:cont (s[i+1]'(by omega)).toNat=true) (g2:cont (s[i+2]'(by omega)).toNat=true) (g3:cont (s[i+3]'(by omega)).toNat=true) (c:Nat) (hcc:c=((((s[i].toNat % 8)*64+s[i+1].toNat % 64)*64+s[i+2].toNat % 64)*64+s[i+3].toNat % 64)) (q:scalarB c=false):Calls Tryz.prog 235 #[.string s,.int .i64 i] w (First s i w):=by
  have hz:sizeAt s[i].toNat=4:=by unfold sizeAt;(repeat' split) <;> omega
  have h256:s[i].toNat<256:=UInt8.toNat_lt _;have hc:=T.cell s[i].toNat h256;rw [hz] at hc;clear T;have hj1:i+1<s.size:=by omega
  have b1:s[i+1].toNat<256:=UInt8.toNat_lt _;have hj2:i+2<s.size:=by omega
  have b2:s[i+2].toNat<256:=UInt8.toNat_lt _;have hj3:i+3<s.size:=by omega
  have b3:s[i+3].toNat<256:=UInt8.toNat_lt _;have hv:val (s.data.toList.drop i) 4=c:=by
    have e0:=byt_drop0 s i hi;have e1:=byt_drop s i 1 hj1;have r1:=g1;simp only [cont,Bool.and_eq_true,decide_eq_true_eq] at r1
    have e2:=byt_drop s i 2 hj2;have r2:=g2;simp only [cont,Bool.and_eq_true,decide_eq_true_eq] at r2
    have e3:=byt_drop s i 3 hj3;have r3:=g3;simp only [cont,Bool.and_eq_true,decide_eq_true_eq] at r3
    unfold val;simp [e0,e1,e2,e3]
    omega
  have ho:one (s.data.toList.drop i)=(0,0):=one_none (by rw [byt_drop0 s i hi,hz];unfold stands;rw [hv,q];simp);have H:=Hid.out (p:=Hid _) ho;clear ho;have f1:(bits .and .i64 (s[i+1].toNat:Int) 192 != 128)=false:=by rw [Bits.and192 _ b1];unfold cont at g1;rw [g1];rfl
  have f2:(bits .and .i64 (s[i+2].toNat:Int) 192 != 128)=false:=by rw [Bits.and192 _ b2];unfold cont at g2;rw [g2];rfl
  have f3:(bits .and .i64 (s[i+3].toNat:Int) 192 != 128)=false:=by rw [Bits.and192 _ b3];unfold cont at g3;rw [g3];rfl
  have Q:=Hid.out (p:=Hid _) q;clear q;have HC:=Hid.out (p:=Hid _) hcc;clear hcc;clear hz hv;clear g1;clear g2;clear g3;go_enter Tryz.func235,Tryz.ntmps235
  go_wp2
  refine wp_loop_rounds 4 ?_;rw [rounds_succ]
  go_wp2
  rw [rounds_succ]
  go_wp2
  rw [rounds_succ]
  go_wp2
  rw [rounds_succ];go_wp2_with fail
  rw [Bits.scalar4 _ _ _ _ h256 b1 b2 b3,<-HC.out];refine (isScalar_eq _ false Q.out w).mono ?_;rintro e w' ⟨rfl,rfl⟩;go_wp2_with fail
  go_ret2
  exact first_of 0 0 H
theorem first_4_nowidth (s:ByteArray) (i:Nat) (w:World) (hi:i<s.size) (hs:s.size<=4611686018427387904) (T:Sizes w) (hb:240<=s[i].toNat) (hb2:s[i].toNat<248) (hk:i+3<s.size) (g1:cont (s[i+1]'(by omega)).toNat=true) (g2:cont (s[i+2]'(by omega)).toNat=true) (g3:cont (s[i+3]'(by omega)).toNat=true) (c:Nat) (hcc:c=((((s[i].toNat % 8)*64+s[i+1].toNat % 64)*64+s[i+2].toNat % 64)*64+s[i+3].toNat % 64)) (q:scalarB c=true) (q2:¬ width c=4):Calls Tryz.prog 235 #[.string s,.int .i64 i] w (First s i w):=by
  have hz:sizeAt s[i].toNat=4:=by unfold sizeAt;(repeat' split) <;> omega
  have h256:s[i].toNat<256:=UInt8.toNat_lt _;have hc:=T.cell s[i].toNat h256;rw [hz] at hc;clear T;have hj1:i+1<s.size:=by omega
  have b1:s[i+1].toNat<256:=UInt8.toNat_lt _;have hj2:i+2<s.size:=by omega
  have b2:s[i+2].toNat<256:=UInt8.toNat_lt _;have hj3:i+3<s.size:=by omega
  have b3:s[i+3].toNat<256:=UInt8.toNat_lt _;have hv:val (s.data.toList.drop i) 4=c:=by
    have e0:=byt_drop0 s i hi;have e1:=byt_drop s i 1 hj1;have r1:=g1;simp only [cont,Bool.and_eq_true,decide_eq_true_eq] at r1
    have e2:=byt_drop s i 2 hj2;have r2:=g2;simp only [cont,Bool.and_eq_true,decide_eq_true_eq] at r2
    have e3:=byt_drop s i 3 hj3;have r3:=g3;simp only [cont,Bool.and_eq_true,decide_eq_true_eq] at r3
    unfold val;simp [e0,e1,e2,e3]
    omega
  have ho:one (s.data.toList.drop i)=(0,0):=one_none (by rw [byt_drop0 s i hi,hz];unfold stands;rw [hv];simp [q2]);have H:=Hid.out (p:=Hid _) ho;clear ho;have f1:(bits .and .i64 (s[i+1].toNat:Int) 192 != 128)=false:=by rw [Bits.and192 _ b1];unfold cont at g1;rw [g1];rfl
  have f2:(bits .and .i64 (s[i+2].toNat:Int) 192 != 128)=false:=by rw [Bits.and192 _ b2];unfold cont at g2;rw [g2];rfl
  have f3:(bits .and .i64 (s[i+3].toNat:Int) 192 != 128)=false:=by rw [Bits.and192 _ b3];unfold cont at g3;rw [g3];rfl
  have Q:=Hid.out (p:=Hid _) q;clear q;have HC:=Hid.out (p:=Hid _) hcc;clear hcc;have qb:(((width c:Nat):Int) != 4)=true:=by rw [bne_iff_ne];omega
  clear hz hv;clear g1;clear g2;clear g3;go_enter Tryz.func235,Tryz.ntmps235
  go_wp2
  refine wp_loop_rounds 4 ?_;rw [rounds_succ]
  go_wp2
  rw [rounds_succ]
  go_wp2
  rw [rounds_succ]
  go_wp2
  rw [rounds_succ];go_wp2_with fail
  rw [Bits.scalar4 _ _ _ _ h256 b1 b2 b3,<-HC.out];refine (isScalar_eq _ true Q.out w).mono ?_;rintro e w' ⟨rfl,rfl⟩;go_wp2_with fail
  refine (width_any _ w).mono ?_;rintro e w' ⟨rfl,rfl⟩;go_wp2_with fail
  go_ret2
  exact first_of 0 0 H
theorem first_4_ok (s:ByteArray) (i:Nat) (w:World) (hi:i<s.size) (hs:s.size<=4611686018427387904) (T:Sizes w) (hb:240<=s[i].toNat) (hb2:s[i].toNat<248) (hk:i+3<s.size) (g1:cont (s[i+1]'(by omega)).toNat=true) (g2:cont (s[i+2]'(by omega)).toNat=true) (g3:cont (s[i+3]'(by omega)).toNat=true) (c:Nat) (hcc:c=((((s[i].toNat % 8)*64+s[i+1].toNat % 64)*64+s[i+2].toNat % 64)*64+s[i+3].toNat % 64)) (q:scalarB c=true) (q2:width c=4):Calls Tryz.prog 235 #[.string s,.int .i64 i] w (First s i w):=by
  have hz:sizeAt s[i].toNat=4:=by unfold sizeAt;(repeat' split) <;> omega
  have h256:s[i].toNat<256:=UInt8.toNat_lt _;have hc:=T.cell s[i].toNat h256;rw [hz] at hc;clear T;have hj1:i+1<s.size:=by omega
  have b1:s[i+1].toNat<256:=UInt8.toNat_lt _;have hj2:i+2<s.size:=by omega
  have b2:s[i+2].toNat<256:=UInt8.toNat_lt _;have hj3:i+3<s.size:=by omega
  have b3:s[i+3].toNat<256:=UInt8.toNat_lt _;have hv:val (s.data.toList.drop i) 4=c:=by
    have e0:=byt_drop0 s i hi;have e1:=byt_drop s i 1 hj1;have r1:=g1;simp only [cont,Bool.and_eq_true,decide_eq_true_eq] at r1
    have e2:=byt_drop s i 2 hj2;have r2:=g2;simp only [cont,Bool.and_eq_true,decide_eq_true_eq] at r2
    have e3:=byt_drop s i 3 hj3;have r3:=g3;simp only [cont,Bool.and_eq_true,decide_eq_true_eq] at r3
    unfold val;simp [e0,e1,e2,e3]
    omega
  have ho:one (s.data.toList.drop i)=(c,4):=one_some 4 _ (by rw [byt_drop0 s i hi,hz]) hv (by
    unfold stands;rw [hv,byt_drop0 s i hi,hz,len_drop,q,q2];have q3:4<=s.size-i:=by omega
    simp [conts,byt_drop s i 1 hj1,g1,byt_drop s i 2 hj2,g2,byt_drop s i 3 hj3,g3]
    omega)
  have H:=Hid.out (p:=Hid _) ho;clear ho;have f1:(bits .and .i64 (s[i+1].toNat:Int) 192 != 128)=false:=by rw [Bits.and192 _ b1];unfold cont at g1;rw [g1];rfl
  have f2:(bits .and .i64 (s[i+2].toNat:Int) 192 != 128)=false:=by rw [Bits.and192 _ b2];unfold cont at g2;rw [g2];rfl
  have f3:(bits .and .i64 (s[i+3].toNat:Int) 192 != 128)=false:=by rw [Bits.and192 _ b3];unfold cont at g3;rw [g3];rfl
  have Q:=Hid.out (p:=Hid _) q;clear q;have HC:=Hid.out (p:=Hid _) hcc;clear hcc;have qb:(((width c:Nat):Int) != 4)=false:=by rw [q2];rfl
  clear hz hv;clear g1;clear g2;clear g3;go_enter Tryz.func235,Tryz.ntmps235
  go_wp2
  refine wp_loop_rounds 4 ?_;rw [rounds_succ]
  go_wp2
  rw [rounds_succ]
  go_wp2
  rw [rounds_succ]
  go_wp2
  rw [rounds_succ];go_wp2_with fail
  rw [Bits.scalar4 _ _ _ _ h256 b1 b2 b3,<-HC.out];refine (isScalar_eq _ true Q.out w).mono ?_;rintro e w' ⟨rfl,rfl⟩;go_wp2_with fail
  refine (width_any _ w).mono ?_;rintro e w' ⟨rfl,rfl⟩;go_wp2_with fail
  go_ret2
  exact first_of c 4 H
theorem first_any (s:ByteArray) (i:Nat) (w:World) (hi:i<=4611686018427387904) (hs:s.size<=4611686018427387904) (T:Sizes w):Calls Tryz.prog 235 #[.string s,.int .i64 i] w (First s i w):=by
  by_cases h0:i<s.size
  · have h256:s[i].toNat<256:=UInt8.toNat_lt _;by_cases c1:s[i].toNat<128
    · exact first_ascii s i w h0 hs T c1
    by_cases c2:sizeAt s[i].toNat=0∨s.size-i<sizeAt s[i].toNat
    · exact first_zero s i w h0 hs T c2
    have hz:sizeAt s[i].toNat=2/\192<=s[i].toNat/\s[i].toNat<224∨sizeAt s[i].toNat=3/\224<=s[i].toNat/\s[i].toNat<240∨sizeAt s[i].toNat=4/\240<=s[i].toNat/\s[i].toNat<248:=by
      unfold sizeAt at c2 ⊢;(repeat' split) <;> (repeat' split at c2) <;> omega
    rcases hz with ⟨hz,a,b⟩ | ⟨hz,a,b⟩ | ⟨hz,a,b⟩
    · have hk:i+1<s.size:=by omega
      cases g1:cont (s[i+1]'(by omega)).toNat
      · exact first_2_bad1 s i w h0 hs T a b hk g1
      · cases q:scalarB (s[i].toNat % 32*64+s[i+1].toNat % 64)
        · exact first_2_noscalar s i w h0 hs T a b hk g1 _ rfl q
        · by_cases q2:width (s[i].toNat % 32*64+s[i+1].toNat % 64)=2
          · exact first_2_ok s i w h0 hs T a b hk g1 _ rfl q q2
          · exact first_2_nowidth s i w h0 hs T a b hk g1 _ rfl q q2
    · have hk:i+2<s.size:=by omega
      cases g1:cont (s[i+1]'(by omega)).toNat
      · exact first_3_bad1 s i w h0 hs T a b hk g1
      cases g2:cont (s[i+2]'(by omega)).toNat
      · exact first_3_bad2 s i w h0 hs T a b hk g1 g2
      · cases q:scalarB ((s[i].toNat % 16*64+s[i+1].toNat % 64)*64+s[i+2].toNat % 64)
        · exact first_3_noscalar s i w h0 hs T a b hk g1 g2 _ rfl q
        · by_cases q2:width ((s[i].toNat % 16*64+s[i+1].toNat % 64)*64+s[i+2].toNat % 64)=3
          · exact first_3_ok s i w h0 hs T a b hk g1 g2 _ rfl q q2
          · exact first_3_nowidth s i w h0 hs T a b hk g1 g2 _ rfl q q2
    · have hk:i+3<s.size:=by omega
      cases g1:cont (s[i+1]'(by omega)).toNat
      · exact first_4_bad1 s i w h0 hs T a b hk g1
      cases g2:cont (s[i+2]'(by omega)).toNat
      · exact first_4_bad2 s i w h0 hs T a b hk g1 g2
      cases g3:cont (s[i+3]'(by omega)).toNat
      · exact first_4_bad3 s i w h0 hs T a b hk g1 g2 g3
      · cases q:scalarB (((s[i].toNat % 8*64+s[i+1].toNat % 64)*64+s[i+2].toNat % 64)*64+s[i+3].toNat % 64)
        · exact first_4_noscalar s i w h0 hs T a b hk g1 g2 g3 _ rfl q
        · by_cases q2:width (((s[i].toNat % 8*64+s[i+1].toNat % 64)*64+s[i+2].toNat % 64)*64+s[i+3].toNat % 64)=4
          · exact first_4_ok s i w h0 hs T a b hk g1 g2 g3 _ rfl q q2
          · exact first_4_nowidth s i w h0 hs T a b hk g1 g2 g3 _ rfl q q2
  · exact first_end s i w (by omega) hi
def badZ (l:List UInt8):Int:=match bad (l.length+1) l 0 with | some p=>p | none=>-1
theorem bad_mono:∀ (n m:Nat) (l:List UInt8) (p:Nat),l.length<n->l.length<m->bad n l p=bad m l p
  | 0,_,_,_,h,_=>by omega
  | _+1,0,_,_,_,h=>by omega
  | n+1,m+1,l,p,h,h'=>by
    unfold bad;by_cases hl:l=[]
    · rw [if_pos hl,if_pos hl]
    · rw [if_neg hl,if_neg hl];by_cases hz:(one l).2=0
      · rw [if_pos hz,if_pos hz]
      · rw [if_neg hz,if_neg hz];have h1:=(one_size_le l).1;exact bad_mono n m _ _ (by rw [List.length_drop];omega) (by rw [List.length_drop];omega)
theorem badZ_step (l:List UInt8) (k:Nat) (hk:k<=l.length):bad (l.length-k+1) (l.drop k) k=if k=l.length then none else if (one (l.drop k)).2=0 then some k else bad (l.length-(k+(one (l.drop k)).2)+1) (l.drop (k+(one (l.drop k)).2)) (k+(one (l.drop k)).2):=by
  conv=>lhs;unfold bad
  by_cases h:k=l.length
  · subst h;simp
  · have hne:¬ l.drop k=[]:=by intro e;have:=congrArg List.length e;simp at this;omega
    rw [if_neg hne,if_neg h];by_cases hz:(one (l.drop k)).2=0
    · rw [if_pos hz,if_pos hz]
    · rw [if_neg hz,if_neg hz,List.drop_drop];have h1:=(one_size_le (l.drop k)).1;rw [List.length_drop] at h1;exact bad_mono _ _ _ _ (by rw [List.length_drop];omega) (by rw [List.length_drop];omega)
theorem ret_i64 {a b:Int} (h:a=b):Ending.returned (.int .i64 a)=.returned (.int .i64 b):=by rw [h]
theorem bad_any (s:ByteArray) (w:World) (hs:s.size<=4611686018427387904) (T:Sizes w):Calls Tryz.prog 194 #[.string s] w fun e w'=>e=.returned (.int .i64 (badZ s.data.toList))/\w=w':=by
  have HT:=Hid.out (p:=Hid _) T;clear T;go_enter Tryz.func194,Tryz.ntmps194
  go_wp2_with fail
  go_loop [3] (fun p=>∃ k:Nat,k<=s.size/\p=.int .i64 k/\Hid (bad (s.data.toList.length+1) s.data.toList 0=bad (s.data.toList.length-k+1) (s.data.toList.drop k) k)) (fun p=>s.size-(intOf p).toNat)
  case atStart=>exact ⟨0,Nat.zero_le _,rfl,rfl⟩
  case round=>
    obtain ⟨k,hk,rfl,hb⟩:=hrel;have hl:s.data.toList.length=s.size:=by simp
    by_cases hlt:k<s.size
    · have h1:=one_size_le (s.data.toList.drop k);rw [List.length_drop,hl] at h1;have hst:=badZ_step s.data.toList k (by rw [hl];omega);rw [hl,if_neg (by omega)] at hst;have HS:=Hid.out (p:=Hid _) hst;clear hst;have HL:=Hid.out (p:=Hid _) hl;clear hl;go_wp2_with fail
      refine (first_any s k w (by omega) hs HT).mono ?_;rintro e w' ⟨rfl,rfl⟩;generalize one (s.data.toList.drop k)=o at *;obtain ⟨c,z⟩:=o;simp only at h1 HS
      by_cases hz:z=0
      · subst hz;go_wp2_with fail
        go_ret
        refine ⟨ret_i64 ?_,rfl⟩;unfold badZ;rw [hb.out,HL.out,HS.out]
        rfl
      · have hzb:((z:Int) == 0)=false:=by simp;omega
        go_wp2_with fail
        go_round
        case rel=>exact ⟨k+z,by omega,by go_num,by rw [Hid,hb.out,HL.out,HS.out,if_neg hz]⟩
        case measure=>simp [intOf];omega
    · obtain rfl:k=s.size:=by omega
      go_wp2_with fail
      go_ret
      refine ⟨ret_i64 ?_,rfl⟩;unfold badZ;rw [hb.out,badZ_step _ _ (by simp)];simp
open Quote
theorem or128:∀ x:Nat,x<64->bits .or .i64 128 (x:Int)=((128+x:Nat):Int):=by decide +kernel
theorem and63' (c:Nat) (hc:c<4611686018427387904):bits .and .i64 (c:Int) 63=((c % 64:Nat):Int):=by
  have:=Bits.and_nat c 63 (by omega) (by omega);rw [show ((63:Nat):Int)=63 from rfl] at this;rw [this];have e:=Nat.and_two_pow_sub_one_eq_mod c 6;simp only [Nat.reducePow,Nat.reduceSub] at e
  rw [e]
theorem tail_eq (c:Nat) (hc:c<4611686018427387904):bits .or .i64 128 (bits .and .i64 (c:Int) 63)=((128+c % 64:Nat):Int):=by
  rw [and63' c hc];exact or128 _ (by omega)
theorem tail_any (c:Nat) (w:World) (hc:c<4611686018427387904):Calls Tryz.prog 326 #[.int .i64 c] w fun e w'=>e=.returned (.int .u8 ((128+c % 64:Nat):Int))/\w=w':=by
  have h1:=Hid.out (p:=Hid _) (tail_eq c hc);go_enter Tryz.func326,Tryz.ntmps326
  go_wp2
  go_ret
  refine ⟨?_,rfl⟩;show Ending.returned (Value.int IntKind.u8 (bits BinOp.or IntKind.i64 128 (bits BinOp.and IntKind.i64 (↑c) 63) % 256))=_;rw [h1.out]
  congr 2
  omega
theorem or192:∀ x:Nat,x<32->bits .or .i64 192 (x:Int)=((192+x:Nat):Int):=by decide +kernel
theorem or224:∀ x:Nat,x<16->bits .or .i64 224 (x:Int)=((224+x:Nat):Int):=by decide +kernel
theorem or240:∀ x:Nat,x<8->bits .or .i64 240 (x:Int)=((240+x:Nat):Int):=by decide +kernel
theorem conv_back {W:World} (a:Addr) (n cap:Nat) (l:List UInt8) (hl:l.length=n) (hc:∀ j (hj:j<l.length),W.cell? (a.add j)=some (.int .u8 (l[j].toNat:Int))):(convert 89 9 (.slice (some a) n cap)).run Tryz.prog W=.ok (.string ⟨l.toArray⟩) W:=by
  subst hl;exact run_convert_bytes_back W _ _ 5 a cap l (by kernel_rfl) (by kernel_rfl) (by kernel_rfl) hc
theorem new_cells {w:World} {cs:Array Value} {e:TypeId} (l:List UInt8) (hsz:cs.size=l.length) (h:∀ j (hj:j<l.length),cs[j]?=some (.int .u8 (l[j].toNat:Int))) (j:Nat) (hj:j<l.length):(w.alloc (.cells cs e)).cell? ((⟨w.heap.size,0,none⟩:Addr).add j)=some (.int .u8 (l[j].toNat:Int)):=by
  have e1:((⟨w.heap.size,0,none⟩:Addr).add j)=⟨w.heap.size,j,none⟩:=by unfold Addr.add;split <;> simp_all
  rw [e1,cell_of (heap_alloc_new w _)];exact h j hj
theorem ofNat_u8 (n:Nat) (h:n<256):(UInt8.ofNat n).toNat=n:=by simp;omega
theorem put_no (c:Nat) (w:World) (h1:scalarB c=false):Calls Tryz.prog 322 #[.int .i64 c] w fun e w'=>e=.returned (.tuple #[.string ⟨(put c).toArray⟩,.bool false])/\Below w.heap.size w w':=by
  have hp:put c=[]:=by unfold put;rw [h1];rfl
  have HP:=Hid.out (p:=Hid _) hp;clear hp;have H1:=Hid.out (p:=Hid _) h1;clear h1;go_enter Tryz.func322,Tryz.ntmps322
  go_wp2_with fail
  refine (isScalar_eq c false H1.out w).mono ?_;rintro e w' ⟨rfl,rfl⟩;go_wp2_with fail
  go_ret2
  rw [HP.out];exact ⟨rfl,Below.refl _ _⟩
theorem put_1 (c:Nat) (w:World) (h1:scalarB c=true) (h2:width c=1):Calls Tryz.prog 322 #[.int .i64 c] w fun e w'=>e=.returned (.tuple #[.string ⟨(put c).toArray⟩,.bool true])/\Below w.heap.size w w':=by
  have hc:c<=1114111:=by simp only [scalarB,Bool.and_eq_true,decide_eq_true_eq] at h1;exact h1.1
  have hw:0<=c/\c<128:=by unfold width at h2;(repeat' split at h2) <;> omega
  have hp:put c=[UInt8.ofNat (c)]:=by unfold put;rw [if_pos h1,h2];rfl
  have HP:=Hid.out (p:=Hid _) hp;clear hp;have H1:=Hid.out (p:=Hid _) h1;clear h1;have H2:=Hid.out (p:=Hid _) h2;clear h2;go_enter Tryz.func322,Tryz.ntmps322
  go_wp2_with fail
  refine (isScalar_eq c true H1.out w).mono ?_;rintro e w' ⟨rfl,rfl⟩;go_wp2_with fail
  refine (width_eq c 1 H2.out w).mono ?_;rintro e w' ⟨rfl,rfl⟩;go_wp2_with fail
  rw [conv_back ⟨w.heap.size,0,none⟩ 1 1 (put c) (by rw [HP.out];rfl) (new_cells _ (by rw [HP.out];rfl) (by
    rw [HP.out];intro j hj
    match j,hj with
    | 0,_=>
      show some (Value.int .u8 ((c:Int)))=some (Value.int .u8 ((UInt8.ofNat (c)).toNat:Int));rw [ofNat_u8 _ (by omega)]
      skip
      first | done | rfl | (congr 2 <;> omega)
    ))]
  simp only [Result.andThen]
  rw [Oper.upon_value];go_wp2_with fail
  go_ret2
  exact ⟨rfl,(Below.refl _ _).alloc (Nat.le_refl _) _⟩
theorem put_2 (c:Nat) (w:World) (h1:scalarB c=true) (h2:width c=2):Calls Tryz.prog 322 #[.int .i64 c] w fun e w'=>e=.returned (.tuple #[.string ⟨(put c).toArray⟩,.bool true])/\Below w.heap.size w w':=by
  have hc:c<=1114111:=by simp only [scalarB,Bool.and_eq_true,decide_eq_true_eq] at h1;exact h1.1
  have hw:128<=c/\c<2048:=by unfold width at h2;(repeat' split at h2) <;> omega
  have hp:put c=[UInt8.ofNat (192+c / 64),UInt8.ofNat (128+c % 64)]:=by unfold put;rw [if_pos h1,h2];rfl
  have HP:=Hid.out (p:=Hid _) hp;clear hp;have H1:=Hid.out (p:=Hid _) h1;clear h1;have H2:=Hid.out (p:=Hid _) h2;clear h2;go_enter Tryz.func322,Tryz.ntmps322
  go_wp2_with fail
  refine (isScalar_eq c true H1.out w).mono ?_;rintro e w' ⟨rfl,rfl⟩;go_wp2_with fail
  refine (width_eq c 2 H2.out w).mono ?_;rintro e w' ⟨rfl,rfl⟩;go_wp2_with fail
  refine (tail_any c w (by omega)).mono ?_;rintro e w' ⟨rfl,rfl⟩;go_wp2_with fail
  rw [conv_back ⟨w.heap.size,0,none⟩ 2 2 (put c) (by rw [HP.out];rfl) (new_cells _ (by rw [HP.out];rfl) (by
    rw [HP.out];intro j hj
    match j,hj with
    | 0,_=>
      show some (Value.int .u8 (bits .or .i64 192 ((c:Int) / 64) % 256))=some (Value.int .u8 ((UInt8.ofNat (192+c / 64)).toNat:Int));rw [ofNat_u8 _ (by omega)];rw [show ((c:Int) / 64)=((c / 64:Nat):Int) by omega,or192 _ (by omega)]
      first | done | rfl | (congr 2 <;> omega)
    | 1,_=>
      show some (Value.int .u8 (((128+c % 64:Nat):Int)))=some (Value.int .u8 ((UInt8.ofNat (128+c % 64)).toNat:Int));rw [ofNat_u8 _ (by omega)]
      skip
      first | done | rfl | (congr 2 <;> omega)
    ))]
  simp only [Result.andThen]
  rw [Oper.upon_value];go_wp2_with fail
  go_ret2
  exact ⟨rfl,(Below.refl _ _).alloc (Nat.le_refl _) _⟩
theorem put_3 (c:Nat) (w:World) (h1:scalarB c=true) (h2:width c=3):Calls Tryz.prog 322 #[.int .i64 c] w fun e w'=>e=.returned (.tuple #[.string ⟨(put c).toArray⟩,.bool true])/\Below w.heap.size w w':=by
  have hc:c<=1114111:=by simp only [scalarB,Bool.and_eq_true,decide_eq_true_eq] at h1;exact h1.1
  have hw:2048<=c/\c<65536:=by unfold width at h2;(repeat' split at h2) <;> omega
  have hp:put c=[UInt8.ofNat (224+c / 4096),UInt8.ofNat (128+c / 64 % 64),UInt8.ofNat (128+c % 64)]:=by unfold put;rw [if_pos h1,h2];rfl
  have HP:=Hid.out (p:=Hid _) hp;clear hp;have H1:=Hid.out (p:=Hid _) h1;clear h1;have H2:=Hid.out (p:=Hid _) h2;clear h2;go_enter Tryz.func322,Tryz.ntmps322
  go_wp2_with fail
  refine (isScalar_eq c true H1.out w).mono ?_;rintro e w' ⟨rfl,rfl⟩;go_wp2_with fail
  refine (width_eq c 3 H2.out w).mono ?_;rintro e w' ⟨rfl,rfl⟩;go_wp2_with fail
  rw [show ((c:Int) / 64:Int)=((c / 64:Nat):Int) by omega];refine (tail_any (c / 64) w (by omega)).mono ?_;rintro e w' ⟨rfl,rfl⟩;go_wp2_with fail
  refine (tail_any c w (by omega)).mono ?_;rintro e w' ⟨rfl,rfl⟩;go_wp2_with fail
  rw [conv_back ⟨w.heap.size,0,none⟩ 3 3 (put c) (by rw [HP.out];rfl) (new_cells _ (by rw [HP.out];rfl) (by
    rw [HP.out];intro j hj
    match j,hj with
    | 0,_=>
      show some (Value.int .u8 (bits .or .i64 224 ((c:Int) / 4096) % 256))=some (Value.int .u8 ((UInt8.ofNat (224+c / 4096)).toNat:Int));rw [ofNat_u8 _ (by omega)];rw [show ((c:Int) / 4096)=((c / 4096:Nat):Int) by omega,or224 _ (by omega)]
      first | done | rfl | (congr 2 <;> omega)
    | 1,_=>
      show some (Value.int .u8 (((128+c / 64 % 64:Nat):Int)))=some (Value.int .u8 ((UInt8.ofNat (128+c / 64 % 64)).toNat:Int));rw [ofNat_u8 _ (by omega)]
      skip
      first | done | rfl | (congr 2 <;> omega)
    | 2,_=>
      show some (Value.int .u8 (((128+c % 64:Nat):Int)))=some (Value.int .u8 ((UInt8.ofNat (128+c % 64)).toNat:Int));rw [ofNat_u8 _ (by omega)]
      skip
      first | done | rfl | (congr 2 <;> omega)
    ))]
  simp only [Result.andThen]
  rw [Oper.upon_value];go_wp2_with fail
  go_ret2
  exact ⟨rfl,(Below.refl _ _).alloc (Nat.le_refl _) _⟩
theorem put_4 (c:Nat) (w:World) (h1:scalarB c=true) (h2:width c=4):Calls Tryz.prog 322 #[.int .i64 c] w fun e w'=>e=.returned (.tuple #[.string ⟨(put c).toArray⟩,.bool true])/\Below w.heap.size w w':=by
  have hc:c<=1114111:=by simp only [scalarB,Bool.and_eq_true,decide_eq_true_eq] at h1;exact h1.1
  have hw:65536<=c/\c<1114112:=by unfold width at h2;(repeat' split at h2) <;> omega
  have hp:put c=[UInt8.ofNat (240+c / 262144),UInt8.ofNat (128+c / 4096 % 64),UInt8.ofNat (128+c / 64 % 64),UInt8.ofNat (128+c % 64)]:=by unfold put;rw [if_pos h1,h2];rfl
  have HP:=Hid.out (p:=Hid _) hp;clear hp;have H1:=Hid.out (p:=Hid _) h1;clear h1;have H2:=Hid.out (p:=Hid _) h2;clear h2;go_enter Tryz.func322,Tryz.ntmps322
  go_wp2_with fail
  refine (isScalar_eq c true H1.out w).mono ?_;rintro e w' ⟨rfl,rfl⟩;go_wp2_with fail
  refine (width_eq c 4 H2.out w).mono ?_;rintro e w' ⟨rfl,rfl⟩;go_wp2_with fail
  rw [show ((c:Int) / 4096:Int)=((c / 4096:Nat):Int) by omega];refine (tail_any (c / 4096) w (by omega)).mono ?_;rintro e w' ⟨rfl,rfl⟩;go_wp2_with fail
  rw [show ((c:Int) / 64:Int)=((c / 64:Nat):Int) by omega];refine (tail_any (c / 64) w (by omega)).mono ?_;rintro e w' ⟨rfl,rfl⟩;go_wp2_with fail
  refine (tail_any c w (by omega)).mono ?_;rintro e w' ⟨rfl,rfl⟩;go_wp2_with fail
  rw [conv_back ⟨w.heap.size,0,none⟩ 4 4 (put c) (by rw [HP.out];rfl) (new_cells _ (by rw [HP.out];rfl) (by
    rw [HP.out];intro j hj
    match j,hj with
    | 0,_=>
      show some (Value.int .u8 (bits .or .i64 240 ((c:Int) / 262144) % 256))=some (Value.int .u8 ((UInt8.ofNat (240+c / 262144)).toNat:Int));rw [ofNat_u8 _ (by omega)];rw [show ((c:Int) / 262144)=((c / 262144:Nat):Int) by omega,or240 _ (by omega)]
      first | done | rfl | (congr 2 <;> omega)
    | 1,_=>
      show some (Value.int .u8 (((128+c / 4096 % 64:Nat):Int)))=some (Value.int .u8 ((UInt8.ofNat (128+c / 4096 % 64)).toNat:Int));rw [ofNat_u8 _ (by omega)]
      skip
      first | done | rfl | (congr 2 <;> omega)
    | 2,_=>
      show some (Value.int .u8 (((128+c / 64 % 64:Nat):Int)))=some (Value.int .u8 ((UInt8.ofNat (128+c / 64 % 64)).toNat:Int));rw [ofNat_u8 _ (by omega)]
      skip
      first | done | rfl | (congr 2 <;> omega)
    | 3,_=>
      show some (Value.int .u8 (((128+c % 64:Nat):Int)))=some (Value.int .u8 ((UInt8.ofNat (128+c % 64)).toNat:Int));rw [ofNat_u8 _ (by omega)]
      skip
      first | done | rfl | (congr 2 <;> omega)
    ))]
  simp only [Result.andThen]
  rw [Oper.upon_value];go_wp2_with fail
  go_ret2
  exact ⟨rfl,(Below.refl _ _).alloc (Nat.le_refl _) _⟩
theorem put_any (c:Nat) (w:World) (h:scalarB c=true):Calls Tryz.prog 322 #[.int .i64 c] w fun e w'=>e=.returned (.tuple #[.string ⟨(put c).toArray⟩,.bool true])/\Below w.heap.size w w':=by
  by_cases h1:width c=1
  · exact put_1 c w h h1
  by_cases h2:width c=2
  · exact put_2 c w h h2
  by_cases h3:width c=3
  · exact put_3 c w h h3
  · exact put_4 c w h (by unfold width at *;(repeat' split) <;> simp_all)
open Go.Shelf
attribute [local go_sem] Oper.semAt_some
def scal:(fuel:Nat)->List UInt8->Nat->List (Nat × Nat)
  | 0,_,_=>[]
  | n+1,l,p=>if l=[] then [] else if (one l).2=0 then [] else (p,(one l).1)::scal n (l.drop (one l).2) (p+(one l).2)
theorem scal_mono:∀ (n m:Nat) (l:List UInt8) (p:Nat),l.length<n->l.length<m->scal n l p=scal m l p
  | 0,_,_,_,h,_=>by omega
  | _+1,0,_,_,_,h=>by omega
  | n+1,m+1,l,p,h,h'=>by
    unfold scal;by_cases hl:l=[]
    · rw [if_pos hl,if_pos hl]
    · rw [if_neg hl,if_neg hl];by_cases hz:(one l).2=0
      · rw [if_pos hz,if_pos hz]
      · rw [if_neg hz,if_neg hz];have h1:=(one_size_le l).1;rw [scal_mono n m _ _ (by rw [List.length_drop];omega) (by rw [List.length_drop];omega)]
def scalAt (l:List UInt8) (k:Nat):List (Nat × Nat):=scal (l.length-k+1) (l.drop k) k
theorem scalAt_step (l:List UInt8) (k:Nat) (hk:k<=l.length):scalAt l k=if k=l.length then [] else if (one (l.drop k)).2=0 then [] else (k,(one (l.drop k)).1)::scalAt l (k+(one (l.drop k)).2):=by
  unfold scalAt;conv=>lhs;unfold scal
  by_cases h:k=l.length
  · subst h;simp
  · have hne:¬ l.drop k=[]:=by intro e;have:=congrArg List.length e;simp at this;omega
    rw [if_neg hne,if_neg h];by_cases hz:(one (l.drop k)).2=0
    · rw [if_pos hz,if_pos hz]
    · rw [if_neg hz,if_neg hz,List.drop_drop];have h1:=(one_size_le (l.drop k)).1;rw [List.length_drop] at h1
      congr 1
      exact scal_mono _ _ _ _ (by rw [List.length_drop];omega) (by rw [List.length_drop];omega)
theorem all_any (s:ByteArray) (w:World):Calls Tryz.prog 321 #[.string s] w fun e w'=>e=.returned (.func (.func 325) #[] #[.pointer (some ⟨w.heap.size,0,none⟩)])/\Below w.heap.size w w'/\w'.heap[w.heap.size]?=some (.cells #[.string s] 9 (0,0)):=by
  go_enter Tryz.func321,Tryz.ntmps321
  go_wp2
  go_ret
  exact ⟨rfl,(Below.refl _ _).alloc (Nat.le_refl _) _,heap_alloc_new _ _⟩
def KpA (Bs:Nat) (W W':World):Prop:=W'.heap[Bs]?=W.heap[Bs]?/\(Sizes W->Sizes W')
theorem KpA.t {Bs:Nat} {A B C:World} (h:KpA Bs A B) (k:KpA Bs B C):KpA Bs A C:=⟨k.1.trans h.1,fun t=>k.2 (h.2 t)⟩
theorem Sizes.kept {w w':World} (T:Sizes w) (h:w'.heap[5]?=w.heap[5]?):Sizes w':=
  ⟨fun n hn=>(World.cell?_of_block h).trans (T.cell n hn)⟩
theorem Sizes.lt {w:World} (T:Sizes w):5<w.heap.size:=by
  have h:=T.cell 0 (by omega);unfold World.cell? at h;split at h
  · rename_i h1;exact heap_lt h1
  · cases h
theorem Sizes.stays {w w':World} (T:Sizes w) (h:Below w.heap.size w w'):Sizes w':=T.kept (h.block _ T.lt)
theorem all1_in (n l Bs:Nat) (s:ByteArray) (hs:s.size<=4611686018427387904) (hn:1<=n) (J Jx:List (Nat × Nat)->World->Prop)
    (hY:∀ pre (x:Nat × Nat) W,J pre W->pre.length<(scalAt s.data.toList 0).length->YieldAt Fence.wide (n-1) Tryz.prog l #[.int .i64 x.1,.int .i64 x.2] W fun e W'=>
      (e=.returned (.bool true)/\J (pre++[x]) W'/\KpA Bs W W')∨(e=.returned (.bool false)/\Jx (pre++[x]) W'))
    (W:World) (hBs:W.heap[Bs]?=some (.cells #[.string s] 9 (0,0))) (T:Sizes W) (h0:J [] W) :
    CallsIn Fence.wide n Tryz.prog 325 #[.func (.yield l) #[] #[],.pointer (some ⟨Bs,0,none⟩)] W fun e W'=>(∃ v,e=.returned v) ∧
      ((∃ ys,ys=scalAt s.data.toList 0/\J ys W')∨(∃ pre,pre <+: scalAt s.data.toList 0/\Jx pre W')):=by
  refine callsIn_of_wp Tryz.func325 rfl trivial ?_ rfl;simp only [Tryz.ntmps325,List.size_toArray,List.length_cons,List.length_nil,Nat.reduceAdd,Nat.reduceSub,Array.replicate_succ,Array.replicate_zero,List.push_toArray,List.append_toArray,List.nil_append,List.cons_append]
  gi_wp2_with fail
  gi_loopw [3] (fun p wr=>∃ (k:Nat) (pre:List (Nat × Nat)),k<=s.size/\p=.int .i64 k/\Hid (scalAt s.data.toList 0=pre++scalAt s.data.toList k)/\Hid (J pre wr)/\Hid (wr.heap[Bs]?=some (.cells #[.string s] 9 (0,0)))/\Hid (Sizes wr))
    (fun p _=>s.size-(intOf p).toNat)
  case atStart=>exact ⟨0,[],Nat.zero_le _,rfl,rfl,h0,hBs,T⟩
  case round=>
    obtain ⟨k,pre,hk,rfl,hp,hJ,hb,ht⟩:=hrel;have hl:s.data.toList.length=s.size:=by simp
    have hc:wr.cell? ⟨Bs,0,none⟩=some (.string s):=cell_of hb.out 0;by_cases hlt:k<s.size
    · have h1:=one_size_le (s.data.toList.drop k);rw [List.length_drop,hl] at h1;have hst:=scalAt_step s.data.toList k (by rw [hl];omega);rw [hl,if_neg (by omega)] at hst;have HS:=Hid.out (p:=Hid _) hst;clear hst;have HL:=Hid.out (p:=Hid _) hl;clear hl
      gi_wp2_with fail
      refine ⟨trivial,?_⟩;refine (callsIn_wide.2 (first_any s k wr (by omega) hs ht.out)).mono ?_;rintro e w' ⟨rfl,rfl⟩;generalize one (s.data.toList.drop k)=o at *;obtain ⟨c,z⟩:=o;simp only at h1 HS
      by_cases hz:z=0
      · subst hz
        gi_wp2_with fail
        refine ⟨fun _ h=>(by cases h),?_⟩
        gi_wp2_with fail
        refine bodyPost_ret (results_none rfl _ _ _) rfl ?_;refine ⟨⟨_,rfl⟩,.inl ⟨pre,?_,hJ.out⟩⟩;rw [hp.out,HS.out];simp
      · have hzb:((z:Int) == 0)=false:=by simp;omega
        obtain ⟨fn,tmps,assign,body,hy,hR⟩:=hY pre (k,c) wr hJ.out (by rw [hp.out,HS.out,if_neg hz];simp)
        dsimp only at hy
        gi_wp2_with fail
        refine hR.mono ?_;rintro e W3 (⟨rfl,hJ3,hk3⟩ | ⟨rfl,hJx3⟩)
        · have J3:Hid (J (pre++[(k,c)]) W3):=hJ3;have B3:Hid (W3.heap[Bs]?=some (.cells #[.string s] 9 (0,0))):=hk3.1.trans hb.out;have T3:Hid (Sizes W3):=hk3.2 ht.out;clear hJ3 hk3
          gi_wp2_with fail
          go_roundw
          case rel=>exact ⟨k+z,pre++[(k,c)],by omega,by go_num,by rw [Hid,hp.out,HS.out,if_neg hz];simp,J3.out,B3.out,T3.out⟩
          case measure=>simp [intOf];omega
        · have J3:Hid (Jx (pre++[(k,c)]) W3):=hJx3;clear hJx3
          gi_wp2_with fail
          refine bodyPost_ret (results_none rfl _ _ _) rfl ?_;exact ⟨⟨_,rfl⟩,.inr ⟨pre++[(k,c)],by rw [hp.out,HS.out,if_neg hz];exact ⟨scalAt s.data.toList (k+z),by simp⟩,J3.out⟩⟩
    · obtain rfl:k=s.size:=by omega
      gi_wp2_with fail
      go_end0
      refine ⟨⟨_,rfl⟩,.inl ⟨pre,?_,hJ.out⟩⟩;rw [hp.out,scalAt_step _ _ (by simp)];simp
theorem scal_stops (n Bs:Nat) (s:ByteArray) (hs:s.size<=4611686018427387904) (hn:1<=n) (w:World) (hBs:w.heap[Bs]?=some (.cells #[.string s] 9 (0,0))) (T:Sizes w) :
    SeqStopsK Fence.wide n Tryz.prog 325 #[.pointer (some ⟨Bs,0,none⟩)] (fun x:Nat × Nat=>#[Value.int .i64 x.1,Value.int .i64 x.2]) (KpA Bs) (fun ys=>ys=scalAt s.data.toList 0) (fun pre=>pre <+: scalAt s.data.toList 0) (scalAt s.data.toList 0).length w:=fun l J Jx W hW _ _ hY h0=>
  all1_in n l Bs s hs hn J Jx hY W ((hW.block _ (heap_lt hBs)).trans hBs) (T.stays hW) h0
end Go.Proofs.YtliekocamnklfaaGreatDoor.Utf
