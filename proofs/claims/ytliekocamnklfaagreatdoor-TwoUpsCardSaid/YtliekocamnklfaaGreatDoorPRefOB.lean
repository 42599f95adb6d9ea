/- tabulariumref02.Put: the reference's bytes of a scalar. -/
import Derived.Test.YtliekocamnklfaaGreatDoorPQuoteC
import Derived.Deep.QuietTactic
import Derived.BigQuiet
import Derived.Outline
import Derived.IntWalk
import Derived.Deep.RegionWith
set_option linter.unusedVariables false
set_option linter.unusedSimpArgs false
set_option maxRecDepth 100000
set_option maxHeartbeats 2000000
namespace Go.Proofs.YtliekocamnklfaaGreatDoor.Utf
open Go.RowKit Quote
def putI (c:Int):List UInt8:=if 0<=c then put c.toNat else []
theorem putI_nat (c:Nat):putI (c:Int)=put c:=by unfold putI;rw [if_pos (by omega)];rfl
theorem putI_neg (c:Int) (h:c<0):putI c=[]:=by unfold putI;rw [if_neg (by omega)]
theorem put_none (c:Nat) (h:scalarB c=false):put c=[]:=by unfold put;rw [h];rfl
def RPut (c:Int) (w:World) (e:Ending) (w':World):Prop:=e=.returned (.string ⟨(putI c).toArray⟩)/\Below w.heap.size w w'
theorem rput_no (c:Int) (w:World) (h1:c<0∨1114111<c∨55296<=c/\c<=57343):Calls Tryz.prog 266 #[.int .i64 c] w (RPut c w):=by
  have HP:Hid (putI c=[]):=by
    rw [Hid];by_cases h:c<0
    · exact putI_neg c h
    · obtain ⟨n,rfl⟩:∃ n:Nat,c=n:=⟨c.toNat,by omega⟩;rw [putI_nat];apply put_none;unfold scalarB;rw [Bool.and_eq_false_iff];by_cases h2:n<=1114111
      · right;simp;omega
      · left;simp;omega
  have hc:c<0∨0<=c/\1114111<c∨0<=c/\c<=1114111/\55296<=c/\c<=57343:=by omega
  clear h1;rcases hc with h | h | h
  all_goals
    go_enter Tryz.func266,Tryz.ntmps266
    go_wp2_with fail
    go_ret
    exact ⟨by rw [HP.out];rfl,Below.refl _ _⟩
theorem rput_1 (c:Nat) (w:World) (h1:0<=c) (h2:c<128):Calls Tryz.prog 266 #[.int .i64 c] w (RPut c w):=by
  have hs:scalarB c=true:=by simp [scalarB];omega
  have hp:put c=[UInt8.ofNat (c)]:=by
    unfold put;rw [if_pos hs];unfold width;rw [if_pos (show c<128 by omega)];rfl
  have HQ:Hid (putI (c:Int)=put c):=putI_nat c;have HP:=Hid.out (p:=Hid _) hp;clear hp hs;have t0:decide ((c:Int)<0)=false:=by first | (rw [decide_eq_true_eq];omega) | (rw [decide_eq_false_iff_not];omega)
  have t1:decide (1114111<(c:Int))=false:=by first | (rw [decide_eq_true_eq];omega) | (rw [decide_eq_false_iff_not];omega)
  have t2:decide (55296<=(c:Int))=false:=by first | (rw [decide_eq_true_eq];omega) | (rw [decide_eq_false_iff_not];omega)
  have t3:decide ((c:Int)<128)=true:=by first | (rw [decide_eq_true_eq];omega) | (rw [decide_eq_false_iff_not];omega)
  have H1:=Hid.out (p:=Hid _) h1;clear h1;have H2:=Hid.out (p:=Hid _) h2;clear h2;go_enter Tryz.func266,Tryz.ntmps266
  go_wp2_with fail
  rw [conv_back ⟨w.heap.size,0,none⟩ 1 1 (put c) (by rw [HP.out];rfl) (new_cells _ (by rw [HP.out];rfl) (by
    rw [HP.out];intro j hj
    have h1:=H1.out;have h2:=H2.out
    match j,hj with
    | 0,_=>
      show some (Value.int .u8 _)=some (Value.int .u8 ((UInt8.ofNat (c)).toNat:Int));rw [ofNat_u8 _ (by omega)]
      first | done | rfl | (congr 2 <;> omega)
    ))]
  simp only [Result.andThen]
  rw [Oper.upon_value];go_wp2_with fail
  go_ret
  exact ⟨by rw [HQ.out];rfl,(Below.refl _ _).alloc (Nat.le_refl _) _⟩
theorem rput_2 (c:Nat) (w:World) (h1:128<=c) (h2:c<2048):Calls Tryz.prog 266 #[.int .i64 c] w (RPut c w):=by
  have hs:scalarB c=true:=by simp [scalarB];omega
  have hp:put c=[UInt8.ofNat (192+c / 64),UInt8.ofNat (128+c % 64)]:=by
    unfold put;rw [if_pos hs];unfold width;rw [if_neg (show ¬ c<128 by omega),if_pos (show c<2048 by omega)];rfl
  have HQ:Hid (putI (c:Int)=put c):=putI_nat c;obtain ⟨b,hb⟩:∃ b:Nat,c / 64=b:=⟨_,rfl⟩;have gb:(c:Int) / 64=(b:Int):=by omega
  have lb:b<32:=by omega
  rw [hb] at hp;clear hb;have HP:=Hid.out (p:=Hid _) hp;clear hp hs;have t0:decide ((c:Int)<0)=false:=by first | (rw [decide_eq_true_eq];omega) | (rw [decide_eq_false_iff_not];omega)
  have t1:decide (1114111<(c:Int))=false:=by first | (rw [decide_eq_true_eq];omega) | (rw [decide_eq_false_iff_not];omega)
  have t2:decide (55296<=(c:Int))=false:=by first | (rw [decide_eq_true_eq];omega) | (rw [decide_eq_false_iff_not];omega)
  have t3:decide ((c:Int)<128)=false:=by first | (rw [decide_eq_true_eq];omega) | (rw [decide_eq_false_iff_not];omega)
  have t4:decide ((c:Int)<2048)=true:=by first | (rw [decide_eq_true_eq];omega) | (rw [decide_eq_false_iff_not];omega)
  have H1:=Hid.out (p:=Hid _) h1;clear h1;have H2:=Hid.out (p:=Hid _) h2;clear h2;go_enter Tryz.func266,Tryz.ntmps266
  go_wp2_with fail
  rw [conv_back ⟨w.heap.size,0,none⟩ 2 2 (put c) (by rw [HP.out];rfl) (new_cells _ (by rw [HP.out];rfl) (by
    rw [HP.out];intro j hj
    have h1:=H1.out;have h2:=H2.out
    match j,hj with
    | 0,_=>
      show some (Value.int .u8 _)=some (Value.int .u8 ((UInt8.ofNat (192+b)).toNat:Int));rw [ofNat_u8 _ (by omega)]
      first | done | rfl | (congr 2 <;> omega)
    | 1,_=>
      show some (Value.int .u8 _)=some (Value.int .u8 ((UInt8.ofNat (128+c % 64)).toNat:Int));rw [ofNat_u8 _ (by omega)]
      first | done | rfl | (congr 2 <;> omega)
    ))]
  simp only [Result.andThen]
  rw [Oper.upon_value];go_wp2_with fail
  go_ret
  exact ⟨by rw [HQ.out];rfl,(Below.refl _ _).alloc (Nat.le_refl _) _⟩
theorem rput_3a (c:Nat) (w:World) (h1:2048<=c) (h2:c<65536) (h3:c<55296):Calls Tryz.prog 266 #[.int .i64 c] w (RPut c w):=by
  have hs:scalarB c=true:=by simp [scalarB];omega
  have hp:put c=[UInt8.ofNat (224+c / 4096),UInt8.ofNat (128+c / 64 % 64),UInt8.ofNat (128+c % 64)]:=by
    unfold put;rw [if_pos hs];unfold width;rw [if_neg (show ¬ c<128 by omega),if_neg (show ¬ c<2048 by omega),if_pos (show c<65536 by omega)];rfl
  have HQ:Hid (putI (c:Int)=put c):=putI_nat c;obtain ⟨a,ha⟩:∃ a:Nat,c / 4096=a:=⟨_,rfl⟩;have ga:(c:Int) / 4096=(a:Int):=by omega
  have la:a<16:=by omega
  rw [ha] at hp;clear ha;obtain ⟨b,hb⟩:∃ b:Nat,c / 64=b:=⟨_,rfl⟩;have gb:(c:Int) / 64=(b:Int):=by omega
  have lb:b<1024:=by omega
  rw [hb] at hp;clear hb;have HP:=Hid.out (p:=Hid _) hp;clear hp hs;have t0:decide ((c:Int)<0)=false:=by first | (rw [decide_eq_true_eq];omega) | (rw [decide_eq_false_iff_not];omega)
  have t1:decide (1114111<(c:Int))=false:=by first | (rw [decide_eq_true_eq];omega) | (rw [decide_eq_false_iff_not];omega)
  have t2:decide (55296<=(c:Int))=false:=by first | (rw [decide_eq_true_eq];omega) | (rw [decide_eq_false_iff_not];omega)
  have t3:decide ((c:Int)<128)=false:=by first | (rw [decide_eq_true_eq];omega) | (rw [decide_eq_false_iff_not];omega)
  have t4:decide ((c:Int)<2048)=false:=by first | (rw [decide_eq_true_eq];omega) | (rw [decide_eq_false_iff_not];omega)
  have t5:decide ((c:Int)<65536)=true:=by first | (rw [decide_eq_true_eq];omega) | (rw [decide_eq_false_iff_not];omega)
  have H1:=Hid.out (p:=Hid _) h1;clear h1;have H2:=Hid.out (p:=Hid _) h2;clear h2;have H3:=Hid.out (p:=Hid _) h3;clear h3;go_enter Tryz.func266,Tryz.ntmps266
  go_wp2_with fail
  rw [conv_back ⟨w.heap.size,0,none⟩ 3 3 (put c) (by rw [HP.out];rfl) (new_cells _ (by rw [HP.out];rfl) (by
    rw [HP.out];intro j hj
    have h1:=H1.out;have h2:=H2.out
    match j,hj with
    | 0,_=>
      show some (Value.int .u8 _)=some (Value.int .u8 ((UInt8.ofNat (224+a)).toNat:Int));rw [ofNat_u8 _ (by omega)]
      first | done | rfl | (congr 2 <;> omega)
    | 1,_=>
      show some (Value.int .u8 _)=some (Value.int .u8 ((UInt8.ofNat (128+b % 64)).toNat:Int));rw [ofNat_u8 _ (by omega)]
      first | done | rfl | (congr 2 <;> omega)
    | 2,_=>
      show some (Value.int .u8 _)=some (Value.int .u8 ((UInt8.ofNat (128+c % 64)).toNat:Int));rw [ofNat_u8 _ (by omega)]
      first | done | rfl | (congr 2 <;> omega)
    ))]
  simp only [Result.andThen]
  rw [Oper.upon_value];go_wp2_with fail
  go_ret
  exact ⟨by rw [HQ.out];rfl,(Below.refl _ _).alloc (Nat.le_refl _) _⟩
theorem rput_3b (c:Nat) (w:World) (h1:2048<=c) (h2:c<65536) (h3:57343<c):Calls Tryz.prog 266 #[.int .i64 c] w (RPut c w):=by
  have hs:scalarB c=true:=by simp [scalarB];omega
  have hp:put c=[UInt8.ofNat (224+c / 4096),UInt8.ofNat (128+c / 64 % 64),UInt8.ofNat (128+c % 64)]:=by
    unfold put;rw [if_pos hs];unfold width;rw [if_neg (show ¬ c<128 by omega),if_neg (show ¬ c<2048 by omega),if_pos (show c<65536 by omega)];rfl
  have HQ:Hid (putI (c:Int)=put c):=putI_nat c;obtain ⟨a,ha⟩:∃ a:Nat,c / 4096=a:=⟨_,rfl⟩;have ga:(c:Int) / 4096=(a:Int):=by omega
  have la:a<16:=by omega
  rw [ha] at hp;clear ha;obtain ⟨b,hb⟩:∃ b:Nat,c / 64=b:=⟨_,rfl⟩;have gb:(c:Int) / 64=(b:Int):=by omega
  have lb:b<1024:=by omega
  rw [hb] at hp;clear hb;have HP:=Hid.out (p:=Hid _) hp;clear hp hs;have t0:decide ((c:Int)<0)=false:=by first | (rw [decide_eq_true_eq];omega) | (rw [decide_eq_false_iff_not];omega)
  have t1:decide (1114111<(c:Int))=false:=by first | (rw [decide_eq_true_eq];omega) | (rw [decide_eq_false_iff_not];omega)
  have t2:decide (55296<=(c:Int))=true:=by first | (rw [decide_eq_true_eq];omega) | (rw [decide_eq_false_iff_not];omega)
  have t3:decide ((c:Int)<=57343)=false:=by first | (rw [decide_eq_true_eq];omega) | (rw [decide_eq_false_iff_not];omega)
  have t4:decide ((c:Int)<128)=false:=by first | (rw [decide_eq_true_eq];omega) | (rw [decide_eq_false_iff_not];omega)
  have t5:decide ((c:Int)<2048)=false:=by first | (rw [decide_eq_true_eq];omega) | (rw [decide_eq_false_iff_not];omega)
  have t6:decide ((c:Int)<65536)=true:=by first | (rw [decide_eq_true_eq];omega) | (rw [decide_eq_false_iff_not];omega)
  have H1:=Hid.out (p:=Hid _) h1;clear h1;have H2:=Hid.out (p:=Hid _) h2;clear h2;have H3:=Hid.out (p:=Hid _) h3;clear h3;go_enter Tryz.func266,Tryz.ntmps266
  go_wp2_with fail
  rw [conv_back ⟨w.heap.size,0,none⟩ 3 3 (put c) (by rw [HP.out];rfl) (new_cells _ (by rw [HP.out];rfl) (by
    rw [HP.out];intro j hj
    have h1:=H1.out;have h2:=H2.out
    match j,hj with
    | 0,_=>
      show some (Value.int .u8 _)=some (Value.int .u8 ((UInt8.ofNat (224+a)).toNat:Int));rw [ofNat_u8 _ (by omega)]
      first | done | rfl | (congr 2 <;> omega)
    | 1,_=>
      show some (Value.int .u8 _)=some (Value.int .u8 ((UInt8.ofNat (128+b % 64)).toNat:Int));rw [ofNat_u8 _ (by omega)]
      first | done | rfl | (congr 2 <;> omega)
    | 2,_=>
      show some (Value.int .u8 _)=some (Value.int .u8 ((UInt8.ofNat (128+c % 64)).toNat:Int));rw [ofNat_u8 _ (by omega)]
      first | done | rfl | (congr 2 <;> omega)
    ))]
  simp only [Result.andThen]
  rw [Oper.upon_value];go_wp2_with fail
  go_ret
  exact ⟨by rw [HQ.out];rfl,(Below.refl _ _).alloc (Nat.le_refl _) _⟩
theorem rput_4 (c:Nat) (w:World) (h1:65536<=c) (h2:c<=1114111):Calls Tryz.prog 266 #[.int .i64 c] w (RPut c w):=by
  have hs:scalarB c=true:=by simp [scalarB];omega
  have hp:put c=[UInt8.ofNat (240+c / 262144),UInt8.ofNat (128+c / 4096 % 64),UInt8.ofNat (128+c / 64 % 64),UInt8.ofNat (128+c % 64)]:=by
    unfold put;rw [if_pos hs];unfold width;rw [if_neg (show ¬ c<128 by omega),if_neg (show ¬ c<2048 by omega),if_neg (show ¬ c<65536 by omega)];rfl
  have HQ:Hid (putI (c:Int)=put c):=putI_nat c;obtain ⟨u,hu⟩:∃ u:Nat,c / 262144=u:=⟨_,rfl⟩;have gu:(c:Int) / 262144=(u:Int):=by omega
  have lu:u<8:=by omega
  rw [hu] at hp;clear hu;obtain ⟨a,ha⟩:∃ a:Nat,c / 4096=a:=⟨_,rfl⟩;have ga:(c:Int) / 4096=(a:Int):=by omega
  have la:a<272:=by omega
  rw [ha] at hp;clear ha;obtain ⟨b,hb⟩:∃ b:Nat,c / 64=b:=⟨_,rfl⟩;have gb:(c:Int) / 64=(b:Int):=by omega
  have lb:b<17408:=by omega
  rw [hb] at hp;clear hb;have HP:=Hid.out (p:=Hid _) hp;clear hp hs;have t0:decide ((c:Int)<0)=false:=by first | (rw [decide_eq_true_eq];omega) | (rw [decide_eq_false_iff_not];omega)
  have t1:decide (1114111<(c:Int))=false:=by first | (rw [decide_eq_true_eq];omega) | (rw [decide_eq_false_iff_not];omega)
  have t2:decide (55296<=(c:Int))=true:=by first | (rw [decide_eq_true_eq];omega) | (rw [decide_eq_false_iff_not];omega)
  have t3:decide ((c:Int)<=57343)=false:=by first | (rw [decide_eq_true_eq];omega) | (rw [decide_eq_false_iff_not];omega)
  have t4:decide ((c:Int)<128)=false:=by first | (rw [decide_eq_true_eq];omega) | (rw [decide_eq_false_iff_not];omega)
  have t5:decide ((c:Int)<2048)=false:=by first | (rw [decide_eq_true_eq];omega) | (rw [decide_eq_false_iff_not];omega)
  have t6:decide ((c:Int)<65536)=false:=by first | (rw [decide_eq_true_eq];omega) | (rw [decide_eq_false_iff_not];omega)
  have H1:=Hid.out (p:=Hid _) h1;clear h1;have H2:=Hid.out (p:=Hid _) h2;clear h2;go_enter Tryz.func266,Tryz.ntmps266
  go_wp2_with fail
  rw [conv_back ⟨w.heap.size,0,none⟩ 4 4 (put c) (by rw [HP.out];rfl) (new_cells _ (by rw [HP.out];rfl) (by
    rw [HP.out];intro j hj
    have h1:=H1.out;have h2:=H2.out
    match j,hj with
    | 0,_=>
      show some (Value.int .u8 _)=some (Value.int .u8 ((UInt8.ofNat (240+u)).toNat:Int));rw [ofNat_u8 _ (by omega)]
      first | done | rfl | (congr 2 <;> omega)
    | 1,_=>
      show some (Value.int .u8 _)=some (Value.int .u8 ((UInt8.ofNat (128+a % 64)).toNat:Int));rw [ofNat_u8 _ (by omega)]
      first | done | rfl | (congr 2 <;> omega)
    | 2,_=>
      show some (Value.int .u8 _)=some (Value.int .u8 ((UInt8.ofNat (128+b % 64)).toNat:Int));rw [ofNat_u8 _ (by omega)]
      first | done | rfl | (congr 2 <;> omega)
    | 3,_=>
      show some (Value.int .u8 _)=some (Value.int .u8 ((UInt8.ofNat (128+c % 64)).toNat:Int));rw [ofNat_u8 _ (by omega)]
      first | done | rfl | (congr 2 <;> omega)
    ))]
  simp only [Result.andThen]
  rw [Oper.upon_value];go_wp2_with fail
  go_ret
  exact ⟨by rw [HQ.out];rfl,(Below.refl _ _).alloc (Nat.le_refl _) _⟩
theorem rput_any (c:Int) (w:World):Calls Tryz.prog 266 #[.int .i64 c] w (RPut c w):=by
  by_cases h:c<0∨1114111<c∨55296<=c/\c<=57343
  · exact rput_no c w h
  · obtain ⟨n,rfl⟩:∃ n:Nat,c=n:=⟨c.toNat,by omega⟩;by_cases h1:n<128
    · exact rput_1 n w (by omega) h1
    by_cases h2:n<2048
    · exact rput_2 n w (by omega) h2
    by_cases h3:n<65536
    · by_cases h4:n<55296
      · exact rput_3a n w (by omega) h3 h4
      · exact rput_3b n w (by omega) h3 (by omega)
    · exact rput_4 n w (by omega) (by omega)
open Strs
def lead (n:Nat):Int:=if n=1 then 0 else if n=2 then 192 else if n=3 then 224 else 240
def guessAt (l:List UInt8) (i:Nat):Int:=((l.take i).drop 1).foldl (fun c b=>c*64+b.toNat-128) ((byt l 0:Int)-lead l.length)
def guess (l:List UInt8):Int:=guessAt l l.length
theorem guessAt_one (l:List UInt8) (h:l≠[]):guessAt l 1=(byt l 0:Int)-lead l.length:=by
  obtain ⟨c,t,rfl⟩:=List.exists_cons_of_ne_nil h
  rfl
theorem guessAt_succ (l:List UInt8) (i:Nat) (h1:1<=i) (h:i<l.length):guessAt l (i+1)=guessAt l i*64+l[i].toNat-128:=by
  unfold guessAt;rw [List.take_succ_eq_append_getElem h,List.drop_append_of_le_length (by rw [List.length_take];omega),List.foldl_append]
  rfl
def Bd (i:Nat) (c:Int):Prop:=(i=1->-240<=c/\c<=255)/\(i=2->-16000<=c/\c<=17000)/\(i=3->-1100000<=c/\c<=1100000)/\(i=4->-71000000<=c/\c<=71000000)
theorem Bd.succ {i:Nat} {c:Int} {b:Nat} (h:Bd i c) (h1:1<=i) (h3:i<=3) (hb:b<256):Bd (i+1) (c*64+b-128):=by
  unfold Bd at *;rcases (by omega:i=1∨i=2∨i=3) with rfl | rfl | rfl <;> simp at h ⊢ <;> omega
theorem Bd.le {i:Nat} {c:Int} (h:Bd i c) (h1:1<=i) (h3:i<=4):-71000000<=c/\c<=71000000:=by
  unfold Bd at h;rcases (by omega:i=1∨i=2∨i=3∨i=4) with rfl | rfl | rfl | rfl <;> simp at h <;> omega
theorem guess_any (s:ByteArray) (w:World) (h0:0<s.size) (h4:s.size<=4):Calls Tryz.prog 265 #[.string s] w fun e w'=>e=.returned (.int .i64 (guess s.data.toList))/\Below w.heap.size w w':=by
  have hl:s.data.toList.length=s.size:=by simp
  have hb0:byt s.data.toList 0=s[0].toNat:=by
    unfold byt;rw [List.getD_eq_getElem?_getD,List.getElem?_eq_getElem (by omega)];rfl
  have hg1:=guessAt_one s.data.toList (List.ne_nil_of_length_pos (by omega));rw [hb0,hl] at hg1;have hbl:=UInt8.toNat_lt s[0];have hlead:lead s.size=0∨lead s.size=192∨lead s.size=224∨lead s.size=240:=by unfold lead;(repeat' split) <;> simp
  have HS:Hid (∀ (i:Nat) (hi:i<s.size),1<=i->guessAt s.data.toList (i+1)=guessAt s.data.toList i*64+s[i].toNat-128):=fun i hi h1=>guessAt_succ _ _ h1 (by omega);have HG1:=Hid.out (p:=Hid _) hg1;clear hg1 hb0;have HL:=Hid.out (p:=Hid _) hl;clear hl;have HE:=Hid.out (p:=Hid _) hlead;clear hlead;rcases (by omega:s.size=1∨s.size=2∨s.size=3∨s.size=4) with hz | hz | hz | hz
  all_goals
    go_enter Tryz.func265,Tryz.ntmps265
    go_wp2_with fail
    go_quiet (fail)
    go_wp2_with fail
    have HZ:=Hid.out (p:=Hid _) hz
    go_loop [4,5] (fun p4 p5=>∃ (i:Nat) (c:Int),1<=i/\i<=s.size/\p5=.int .i64 i/\p4=.int .i64 c/\Hid (c=guessAt s.data.toList i)/\Hid (Bd i c)) (fun _ p5=>s.size-(intOf p5).toNat)
    case atStart=>
      refine ⟨1,_,Nat.le_refl _,h0,rfl,rfl,?_,?_⟩
      · have e2:=congrArg lead HZ.out;rw [Hid,HG1.out,e2];simp [lead]
      · rw [Hid];unfold Bd;omega
    case round=>
      obtain ⟨i,c,h1,hi,rfl,rfl,hc,hbd⟩:=hrel;by_cases hlt:i<s.size
      · have hs:=HS.out i hlt h1;have hb2:=UInt8.toNat_lt s[i];have HN:Hid (c*64+s[i].toNat-128=guessAt s.data.toList (i+1)):=by rw [Hid,hs,hc.out]
        have HB:Hid (Bd (i+1) (c*64+s[i].toNat-128)):=hbd.out.succ h1 (by omega) hb2;have hle:=hbd.out.le h1 (by omega);have hlt2:=hlt;rw [hz] at hlt2;clear hs;go_wp2_with fail
        all_goals
          go_round
          case rel=>exact ⟨i+1,_,by omega,by omega,by go_num,rfl,HN.out,HB.out⟩
          case measure=>simp [intOf];omega
      · have hlt2:=hlt;rw [hz] at hlt2;have HF:Hid (c=guess s.data.toList):=by rw [Hid,hc.out,guess,HL.out,show i=s.size by omega]
        go_wp2_with fail
        go_ret
        exact ⟨by rw [<-HF.out];rfl,((Below.refl _ _).alloc (Nat.le_refl _) _).trans (below_drewN _ _ _)⟩
theorem u8_eq (n:Nat) (a:UInt8) (h:n=a.toNat):UInt8.ofNat n=a:=by subst h;simp
theorem put_w {c k:Nat} (h:scalarB c=true) (hw:width c=k):put c=if k=1 then [UInt8.ofNat c]
    else if k=2 then [UInt8.ofNat (192+c / 64),UInt8.ofNat (128+c % 64)]
    else if k=3 then [UInt8.ofNat (224+c / 4096),UInt8.ofNat (128+c / 64 % 64),UInt8.ofNat (128+c % 64)]
    else [UInt8.ofNat (240+c / 262144),UInt8.ofNat (128+c / 4096 % 64),UInt8.ofNat (128+c / 64 % 64),UInt8.ofNat (128+c % 64)]:=by
  subst hw;unfold put;rw [if_pos h]
theorem take1 {l:List UInt8} (h:1<=l.length):∃ a,l.take 1=[a]/\byt l 0=a.toNat:=by
  match l,h with
  | a::l,_=>exact ⟨a,rfl,rfl⟩
theorem take2 {l:List UInt8} (h:2<=l.length):∃ a b,l.take 2=[a,b]/\byt l 0=a.toNat/\byt l 1=b.toNat:=by
  match l,h with
  | a::b::l,_=>exact ⟨a,b,rfl,rfl,rfl⟩
theorem take3 {l:List UInt8} (h:3<=l.length):∃ a b c,l.take 3=[a,b,c]/\byt l 0=a.toNat/\byt l 1=b.toNat/\byt l 2=c.toNat:=by
  match l,h with
  | a::b::c::l,_=>exact ⟨a,b,c,rfl,rfl,rfl,rfl⟩
theorem take4 {l:List UInt8} (h:4<=l.length):∃ a b c d,l.take 4=[a,b,c,d]/\byt l 0=a.toNat/\byt l 1=b.toNat/\byt l 2=c.toNat/\byt l 3=d.toNat:=by
  match l,h with
  | a::b::c::d::l,_=>exact ⟨a,b,c,d,rfl,rfl,rfl,rfl,rfl⟩
theorem guess1 (a:UInt8):guess [a]=a.toNat:=by simp [guess,guessAt,byt,lead]
theorem guess2 (a b:UInt8):guess [a,b]=((a.toNat:Int)-192)*64+b.toNat-128:=by simp [guess,guessAt,byt,lead]
theorem guess3 (a b c:UInt8):guess [a,b,c]=(((a.toNat:Int)-224)*64+b.toNat-128)*64+c.toNat-128:=by simp [guess,guessAt,byt,lead]
theorem guess4 (a b c d:UInt8):guess [a,b,c,d]=((((a.toNat:Int)-240)*64+b.toNat-128)*64+c.toNat-128)*64+d.toNat-128:=by simp [guess,guessAt,byt,lead]
theorem sizeAt_cases (n k:Nat) (h:sizeAt n=k) (h1:1<=k):(k=1/\n<128)∨(k=2/\192<=n/\n<224)∨(k=3/\224<=n/\n<240)∨(k=4/\240<=n/\n<248):=by
  unfold sizeAt at h
  repeat' split at h
  all_goals omega
theorem cont_iff (n:Nat):cont n=true↔128<=n/\n<192:=by simp [cont]
theorem stands_hit (l:List UInt8) (k:Nat) (h:stands l k=true):guess (l.take k)=val l k/\put (val l k)=l.take k:=by
  simp only [stands,Bool.and_eq_true,decide_eq_true_eq] at h
  obtain ⟨⟨⟨⟨⟨h1,h2⟩,h3⟩,h4⟩,h5⟩,h6⟩:=h;rcases sizeAt_cases _ _ h3 h1 with ⟨rfl,hn⟩ | ⟨rfl,hn⟩ | ⟨rfl,hn⟩ | ⟨rfl,hn⟩
  · obtain ⟨a,ht,ha⟩:=take1 h2;rw [ht,put_w h5 h6,guess1];have hv:val l 1=a.toNat:=ha;rw [hv];exact ⟨rfl,by simp⟩
  · obtain ⟨a,b,ht,ha,hb⟩:=take2 h2;rw [ht,put_w h5 h6,guess2];have hv:val l 2=(a.toNat-192)*64+(b.toNat-128):=by rw [<-ha,<-hb];rfl
    simp only [conts,show ¬ (2<=1) by decide,if_false,if_true,cont_iff,hb] at h4
    rw [ha] at hn;rw [hv];refine ⟨by omega,?_⟩;simp only [show ¬ (2=1) by decide,if_false,if_true]
    rw [u8_eq _ a (by omega),u8_eq _ b (by omega)]
  · obtain ⟨a,b,c,ht,ha,hb,hc⟩:=take3 h2;rw [ht,put_w h5 h6,guess3];have hv:val l 3=((a.toNat-224)*64+(b.toNat-128))*64+(c.toNat-128):=by rw [<-ha,<-hb,<-hc];rfl
    simp only [conts,show ¬ (3<=1) by decide,show ¬ (3=2) by decide,if_false,if_true,cont_iff,hb,hc,Bool.and_eq_true] at h4
    rw [ha] at hn;rw [hv];refine ⟨by omega,?_⟩;simp only [show ¬ (3=1) by decide,show ¬ (3=2) by decide,if_false,if_true]
    rw [u8_eq _ a (by omega),u8_eq _ b (by omega),u8_eq _ c (by omega)]
  · obtain ⟨a,b,c,d,ht,ha,hb,hc,hd⟩:=take4 h2;rw [ht,put_w h5 h6,guess4];have hv:val l 4=(((a.toNat-240)*64+(b.toNat-128))*64+(c.toNat-128))*64+(d.toNat-128):=by rw [<-ha,<-hb,<-hc,<-hd];rfl
    simp only [conts,show ¬ (4<=1) by decide,show ¬ (4=2) by decide,show ¬ (4=3) by decide,if_false,if_true,cont_iff,hb,hc,hd,Bool.and_eq_true] at h4
    rw [ha] at hn;rw [hv];refine ⟨by omega,?_⟩;simp only [show ¬ (4=1) by decide,show ¬ (4=2) by decide,show ¬ (4=3) by decide,if_false,if_true]
    rw [u8_eq _ a (by omega),u8_eq _ b (by omega),u8_eq _ c (by omega),u8_eq _ d (by omega)]
theorem putI_some {c:Int} {m:List UInt8} (h:putI c=m) (hm:m≠[]):∃ n:Nat,c=n/\put n=m/\scalarB n=true/\width n=m.length:=by
  unfold putI at h;split at h
  · refine ⟨c.toNat,by omega,h,?_⟩;by_cases hs:scalarB c.toNat=true
    · exact ⟨hs,by rw [<-h];exact (put_length_width _ hs).symm⟩
    · rw [put_none _ (by simpa using hs)] at h;exact absurd h.symm hm
  · exact absurd h.symm hm
theorem width_le (n:Nat):(width n=1->n<128)/\(width n=2->128<=n/\n<2048)/\(width n=3->2048<=n/\n<65536)/\(width n=4->65536<=n):=by
  unfold width;(repeat' split) <;> omega
theorem ofNat_eq {n:Nat} {a:UInt8} (h:UInt8.ofNat n=a) (hn:n<256):n=a.toNat:=by subst h;simp;omega
theorem hit_stands (l:List UInt8) (k:Nat) (h1:1<=k) (h4:k<=4) (hl:k<=l.length) (h:putI (guess (l.take k))=l.take k):stands l k=true/\(val l k:Int)=guess (l.take k):=by
  have hne:l.take k≠[]:=by
    intro e;have:=congrArg List.length e;rw [List.length_take,List.length_nil] at this;omega
  obtain ⟨n,hg,hp,hs,hw⟩:=putI_some h hne;have hlen:(l.take k).length=k:=by rw [List.length_take];omega
  rw [hlen] at hw;have hb:=width_le n;have hmax:n<=1114111:=by simp only [scalarB,Bool.and_eq_true,decide_eq_true_eq] at hs;exact hs.1
  rw [put_w hs hw] at hp;have key:∀ v:Nat,val l k=v->v=n->sizeAt (byt l 0)=k->conts l k=true->stands l k=true/\(val l k:Int)=guess (l.take k):=by
    intro v hv hvn hz hc
    refine ⟨?_,by rw [hg,hv,hvn]⟩;simp only [stands,Bool.and_eq_true,decide_eq_true_eq]
    rw [hv,hvn];exact ⟨⟨⟨⟨⟨h1,hl⟩,hz⟩,hc⟩,hs⟩,hw⟩
  rcases (by omega:k=1∨k=2∨k=3∨k=4) with rfl | rfl | rfl | rfl
  · obtain ⟨a,ht,ha⟩:=take1 hl;rw [ht,guess1] at hg;have hn:=hb.1 hw;refine key a.toNat ha (by omega) ?_ rfl;rw [ha];unfold sizeAt;rw [if_pos (by omega)]
  · obtain ⟨a,b,ht,ha,hb'⟩:=take2 hl;rw [ht,guess2] at hg;have hn:=hb.2.1 hw;rw [ht] at hp;simp only [show ¬ (2=1) by decide,if_false,if_true,List.cons.injEq,and_true] at hp
    have e1:=ofNat_eq hp.1 (by omega);have e2:=ofNat_eq hp.2 (by omega);refine key _ rfl ?_ ?_ ?_
    · rw [show val l 2=(a.toNat-192)*64+(b.toNat-128) by rw [<-ha,<-hb'];rfl];omega
    · rw [ha];unfold sizeAt;rw [if_neg (by omega),if_neg (by omega),if_pos (by omega)]
    · simp only [conts,show ¬ (2<=1) by decide,if_false,if_true,cont_iff,hb'];omega
  · obtain ⟨a,b,c,ht,ha,hb',hc⟩:=take3 hl;rw [ht,guess3] at hg;have hn:=hb.2.2.1 hw;rw [ht] at hp;simp only [show ¬ (3=1) by decide,show ¬ (3=2) by decide,if_false,if_true,List.cons.injEq,and_true] at hp
    have e1:=ofNat_eq hp.1 (by omega);have e2:=ofNat_eq hp.2.1 (by omega);have e3:=ofNat_eq hp.2.2 (by omega);refine key _ rfl ?_ ?_ ?_
    · rw [show val l 3=((a.toNat-224)*64+(b.toNat-128))*64+(c.toNat-128) by rw [<-ha,<-hb',<-hc];rfl];omega
    · rw [ha];unfold sizeAt;rw [if_neg (by omega),if_neg (by omega),if_neg (by omega),if_pos (by omega)]
    · simp only [conts,show ¬ (3<=1) by decide,show ¬ (3=2) by decide,if_false,if_true,cont_iff,hb',hc,Bool.and_eq_true];omega
  · obtain ⟨a,b,c,d,ht,ha,hb',hc,hd⟩:=take4 hl;rw [ht,guess4] at hg;have hn:=hb.2.2.2 hw;rw [ht] at hp;simp only [show ¬ (4=1) by decide,show ¬ (4=2) by decide,show ¬ (4=3) by decide,if_false,if_true,List.cons.injEq,and_true] at hp
    have e1:=ofNat_eq hp.1 (by omega);have e2:=ofNat_eq hp.2.1 (by omega);have e3:=ofNat_eq hp.2.2.1 (by omega);have e4:=ofNat_eq hp.2.2.2 (by omega);refine key _ rfl ?_ ?_ ?_
    · rw [show val l 4=(((a.toNat-240)*64+(b.toNat-128))*64+(c.toNat-128))*64+(d.toNat-128) by rw [<-ha,<-hb',<-hc,<-hd];rfl];omega
    · rw [ha];unfold sizeAt;rw [if_neg (by omega),if_neg (by omega),if_neg (by omega),if_neg (by omega),if_pos (by omega)]
    · simp only [conts,show ¬ (4<=1) by decide,show ¬ (4=2) by decide,show ¬ (4=3) by decide,if_false,if_true,cont_iff,hb',hc,hd,Bool.and_eq_true];omega
theorem one_hit (l:List UInt8) (k:Nat) (h1:1<=k) (h4:k<=4) (hl:k<=l.length) (h:putI (guess (l.take k))=l.take k):((one l).1:Int)=guess (l.take k)/\(one l).2=k:=by
  obtain ⟨hs,hv⟩:=hit_stands l k h1 h4 hl h;have hz:sizeAt (byt l 0)=k:=by
    simp only [stands,Bool.and_eq_true,decide_eq_true_eq] at hs;exact hs.1.1.1.2
  unfold one;rw [hz,if_pos hs];exact ⟨hv,rfl⟩
theorem one_miss (l:List UInt8) (h:∀ k,1<=k->k<=4->k<=l.length->putI (guess (l.take k))≠l.take k):one l=(0,0):=by
  unfold one;by_cases hs:stands l (sizeAt (byt l 0))=true
  · exfalso
    obtain ⟨h1,h2⟩:=stands_hit _ _ hs;simp only [stands,Bool.and_eq_true,decide_eq_true_eq] at hs
    refine h _ hs.1.1.1.1.1 (sizeAt_le _) hs.1.1.1.1.2 ?_;rw [h1,putI_nat,h2]
  · rw [if_neg hs]
theorem str_of (a:ByteArray) (l:List UInt8) (h:a.data.toList=l):a=⟨l.toArray⟩:=by
  subst h;rfl
theorem ext_data (s:ByteArray) (k q n:Nat) (h:k+n=q):(s.extract k q).data.toList=(s.data.toList.drop k).take n:=by
  subst h;rw [Lib.extract_data]
  congr 1
  omega
def ROne (s:ByteArray) (k:Nat) (w:World) (e:Ending) (w':World):Prop:=
  e=.returned (.tuple #[.int .i64 (one (s.data.toList.drop k)).1,.int .i64 (one (s.data.toList.drop k)).2])/\Below w.heap.size w w'
theorem rone_any (s:ByteArray) (k:Nat) (w:World) (hk:k<=s.size) (hs:s.size<=4611686018427387904):Calls Tryz.prog 217 #[.string s,.int .i64 k] w (ROne s k w):=by
  go_enter Tryz.func217,Tryz.ntmps217
  go_wp2_with fail
  go_loopw [6] (fun p6 wr=>∃ n:Nat,1<=n/\n<=5/\p6=.int .i64 n/\Hid (∀ j,1<=j->j<n->j<=s.size-k->putI (guess ((s.data.toList.drop k).take j))≠(s.data.toList.drop k).take j)/\Hid (Below w.heap.size w wr)) (fun p6 _=>5-(intOf p6).toNat)
  case atStart=>exact ⟨1,by omega,by omega,rfl,fun j h1 h2=>by omega,Below.refl _ _⟩
  case round=>
    obtain ⟨n,h1,h5,rfl,hno,hb⟩:=hrel;by_cases hlt:n<=4/\k+n<=s.size
    · obtain ⟨hn4,hkn⟩:=hlt;obtain ⟨q,hq⟩:∃ q:Nat,k+n=q:=⟨_,rfl⟩;have hqq:(k:Int)+(n:Int)=(q:Int):=by omega
      have hd1:decide ((n:Int)<=4)=true:=by rw [decide_eq_true_eq];omega
      have hd2:decide ((q:Int)<=(s.size:Int))=true:=by rw [decide_eq_true_eq];omega
      have hq1:k<=q:=by omega
      have hq2:q<=s.size:=by omega
      have hx:(s.extract k q).data.toList=(s.data.toList.drop k).take n:=ext_data s k q n hq;have hxs:(s.extract k q).size=n:=by rw [ByteArray.size_extract];omega
      obtain ⟨x,hxe⟩:∃ x,x=s.extract k q:=⟨_,rfl⟩;rw [<-hxe] at hx hxs;have hgu:=guess_any x wr (by omega) (by omega);rw [hx] at hgu;have hlen:n<=(s.data.toList.drop k).length:=by rw [List.length_drop];simp;omega
      have hyes:=one_hit (s.data.toList.drop k) n h1 hn4 hlen;have HXE:=Hid.out (p:=Hid _) hxe;clear hxe;have HX:=Hid.out (p:=Hid _) hx;clear hx;have HXS:=Hid.out (p:=Hid _) hxs;clear hxs;have HQ:=Hid.out (p:=Hid _) hq;clear hq;have HG:=Hid.out (p:=Hid _) hgu;clear hgu;have HY:=Hid.out (p:=Hid _) hyes;clear hyes;clear hlen;obtain ⟨g,hg⟩:∃ g,guess ((s.data.toList.drop k).take n)=g:=⟨_,rfl⟩;rw [hg] at HG HY;have HGE:=Hid.out (p:=Hid _) hg;clear hg;go_wp2_with fail
      rw [<-HXE.out];refine (Calls.mono HG.out ?_);rintro e w1 ⟨rfl,hb1⟩;have B1:Hid (Below w.heap.size w w1):=hb.out.trans (hb1.mono hb.out.size);clear hb1 HG;have hxr:=HXE.out.symm;have hwr:IntKind.i64.wrap (q:Int)=(q:Int):=IntWalk.i64_in _ (by omega);cases hc:(putI g == x.toList)
      · have HN:Hid (∀ j,1<=j->j<n+1->j<=s.size-k->putI (guess ((s.data.toList.drop k).take j))≠(s.data.toList.drop k).take j):=by
          intro j j1 j2 j3
          by_cases hj:j=n
          · subst hj;rw [HGE.out,<-HX.out];have hc':=hc;rw [Lib.toList_data,beq_eq_false_iff_ne] at hc';exact hc'
          · exact hno.out j j1 (by omega) j3
        go_wp2_with fail
        go_region_with (go_at_call 266;refine (rput_any g w1.drew).mono ?_;rintro e w2 ⟨rfl,hb2⟩;have B2:Hid (Below w.heap.size w w2):=(B1.out.drew).trans (hb2.mono B1.out.size);clear hb2)
        all_goals
          go_wp2_with fail
          go_roundw
          case rel=>exact ⟨n+1,by omega,by omega,by go_num,HN.out,B2.out⟩
          case measure=>simp [intOf];omega
      · have HF:Hid (one (s.data.toList.drop k)=(g.toNat,n)/\0<=g):=by
          have hc':=hc;rw [Lib.toList_data,beq_iff_eq] at hc';obtain ⟨y1,y2⟩:=HY.out (by rw [<-HX.out];exact hc');exact ⟨Prod.ext (by simp only;omega) y2,by omega⟩
        go_wp2_with fail
        go_region_with (go_at_call 266;refine (rput_any g w1.drew).mono ?_;rintro e w2 ⟨rfl,hb2⟩;have B2:Hid (Below w.heap.size w w2):=(B1.out.drew).trans (hb2.mono B1.out.size);clear hb2)
        all_goals
          go_wp2_with fail
          go_ret2
          refine ⟨?_,B2.out⟩;rw [HF.out.1];have h0:=HF.out.2;show Ending.returned (.tuple #[.int .i64 g,.int .i64 n])=Ending.returned (.tuple #[.int .i64 (g.toNat:Nat),.int .i64 n]);rw [show ((g.toNat:Nat):Int)=g by omega]
    · have HF:Hid (one (s.data.toList.drop k)=(0,0)):=by
        refine one_miss _ (fun j j1 j2 j3=>hno.out j j1 ?_ ?_)
        · rw [List.length_drop] at j3;simp at j3;omega
        · rw [List.length_drop] at j3;simpa using j3
      have hn5:decide ((n:Int)<=4)=true->decide ((k:Int)+(n:Int)<=(s.size:Int))=false:=by
        intro h;rw [decide_eq_true_eq] at h;rw [decide_eq_false_iff_not];omega
      by_cases h4:n<=4
      · have hd1:decide ((n:Int)<=4)=true:=by rw [decide_eq_true_eq];omega
        have hd2:=hn5 hd1;clear hn5 hlt h4;go_wp2_with fail
        go_ret2
        exact ⟨by rw [HF.out];rfl,hb.out⟩
      · have hd1:decide ((n:Int)<=4)=false:=by rw [decide_eq_false_iff_not];omega
        clear hn5 hlt h4;go_wp2_with fail
        go_ret2
        exact ⟨by rw [HF.out];rfl,hb.out⟩
theorem rbad_any (s:ByteArray) (w:World) (hs:s.size<=4611686018427387904):Calls Tryz.prog 203 #[.string s] w fun e w'=>e=.returned (.int .i64 (badZ s.data.toList))/\Below w.heap.size w w':=by
  go_enter Tryz.func203,Tryz.ntmps203
  go_wp2_with fail
  go_loopw [3] (fun p wr=>∃ k:Nat,k<=s.size/\p=.int .i64 k/\Hid (bad (s.data.toList.length+1) s.data.toList 0=bad (s.data.toList.length-k+1) (s.data.toList.drop k) k)/\Hid (Below w.heap.size w wr)) (fun p _=>s.size-(intOf p).toNat)
  case atStart=>exact ⟨0,Nat.zero_le _,rfl,rfl,Below.refl _ _⟩
  case round=>
    obtain ⟨k,hk,rfl,hb,hB⟩:=hrel;have hl:s.data.toList.length=s.size:=by simp
    by_cases hlt:k<s.size
    · have h1:=one_size_le (s.data.toList.drop k);rw [List.length_drop,hl] at h1;have hst:=badZ_step s.data.toList k (by rw [hl];omega);rw [hl,if_neg (by omega)] at hst;have HS:=Hid.out (p:=Hid _) hst;clear hst;have HL:=Hid.out (p:=Hid _) hl;clear hl;go_wp2_with fail
      refine (rone_any s k wr (by omega) hs).mono ?_;rintro e w1 ⟨rfl,hb1⟩;have B1:Hid (Below w.heap.size w w1):=hB.out.trans (hb1.mono hB.out.size);clear hb1;generalize one (s.data.toList.drop k)=o at *;obtain ⟨c,z⟩:=o;simp only at h1 HS
      by_cases hz:z=0
      · subst hz;go_wp2_with fail
        go_ret
        refine ⟨ret_i64 ?_,B1.out⟩;unfold badZ;rw [hb.out,HL.out,HS.out]
        rfl
      · have hzb:((z:Int) == 0)=false:=by simp;omega
        go_wp2_with fail
        go_roundw
        case rel=>exact ⟨k+z,by omega,by go_num,by rw [Hid,hb.out,HL.out,HS.out,if_neg hz],B1.out⟩
        case measure=>simp [intOf];omega
    · obtain rfl:k=s.size:=by omega
      go_wp2_with fail
      go_ret
      refine ⟨ret_i64 ?_,hB.out⟩;unfold badZ;rw [hb.out,badZ_step _ _ (by simp)];simp
def validB (l:List UInt8):Bool:=(bad (l.length+1) l 0).isNone
theorem badZ_neg (l:List UInt8):decide (badZ l<0)=validB l:=by
  unfold badZ validB
  cases bad (l.length+1) l 0 with
  | none=>rfl
  | some k=>simp
theorem rvalid_any (s:ByteArray) (w:World) (hs:s.size<=4611686018427387904):Calls Tryz.prog 156 #[.string s] w fun e w'=>e=.returned (.bool (validB s.data.toList))/\Below w.heap.size w w':=by
  have hv:=badZ_neg s.data.toList;have hc:=rbad_any s w hs;obtain ⟨z,hz⟩:∃ z,badZ s.data.toList=z:=⟨_,rfl⟩;rw [hz] at hv hc;clear hz;have HV:=Hid.out (p:=Hid _) hv;clear hv;go_enter Tryz.func156,Tryz.ntmps156
  go_wp2_with fail
  refine hc.mono ?_;rintro e w1 ⟨rfl,hb1⟩;have B1:Hid (Below w.heap.size w w1):=hb1;clear hb1;go_wp2_with fail
  go_ret
  exact ⟨by rw [<-HV.out];rfl,B1.out⟩
end Go.Proofs.YtliekocamnklfaaGreatDoor.Utf
