/- tabulariumref11.one: comments. -/
import Derived.Test.YtliekocamnklfaaGreatDoorPRefNM
import Derived.Outline
set_option linter.unusedVariables false
set_option linter.unusedSimpArgs false
set_option maxRecDepth 100000
set_option maxHeartbeats 4000000
namespace Go.Proofs.YtliekocamnklfaaGreatDoor.Lex
open Go.RowKit Utf Strs
theorem take_snoc_at (s:ByteArray) (k v:Nat) (h:k<=v) (hv:v<s.size):(s.data.toList.drop k).take (v+1-k)=(s.data.toList.drop k).take (v-k)++[s[v]]:=by
  rw [show v+1-k=(v-k)+1 by omega,List.take_add_one,List.getElem?_drop,show k+(v-k)=v by omega,List.getElem?_eq_getElem (by simpa using hv)]
  rfl
theorem one_rem1 (s:ByteArray) (k:Nat) (w:World) (hk:k<s.size) (hs:s.size<=2000000) (hl:letterB s[k].toNat=false) (h:s[k].toNat=35):Calls Tryz.prog 304 #[.string s,.int .i64 k] w (OPost s.data.toList k (next (s.data.toList.drop k)) w):=by
  have hb0:byt (s.data.toList.drop k) 0=s[k].toNat:=byt_drop0 s k hk;have q10:((s[k].toNat:Int) == 10)=false:=by rw [beq_eq_false_iff_ne];omega
  have HL:=Hid.out (p:=Hid _) hl;have d1:decide (48<=(s[k].toNat:Int))=false:=by rw [decide_eq_false_iff_not];omega
  have q34:((s[k].toNat:Int) == 34)=false:=by rw [beq_eq_false_iff_ne];omega
  have q35:((s[k].toNat:Int) == 35)=true:=by rw [beq_iff_eq];omega
  have HN:Hid (next (s.data.toList.drop k)=remark (s.data.toList.drop k)):=by
    rw [Hid,next,hb0,if_neg (by rw [hl];decide),if_neg (by rw [h];decide),if_neg (by omega),if_neg (by omega),if_pos (Or.inl h)]
  have HK:Hid (s[k].toNat=35∨s[k].toNat=47):=.inl h;clear hb0 hl h;have F0:Hid (Fresh w (w.alloc (.cells #[.slice none 0 0,.int .i64 0,.int .i64 0] 254))):=Fresh.new w;go_enter Tryz.func304,Tryz.ntmps304
  go_wp2_with fail
  refine (rletter_any s[k].toNat _).mono ?_;rintro e w' ⟨rfl,rfl⟩;rw [HL.out];go_wp2_with fail
  refine (rend_any s k _ (by omega) (by omega)).mono ?_;rintro e w' ⟨rfl,rfl⟩;have hle:=lend_le s k (by omega);have hst:k+1<=lend s.data.toList k:=by
    rw [lend_step s k hk,if_neg (by have:=HK.out;omega)];exact (lend_le s (k+1) (by omega)).1
  have hL:Hid (trimB (line (s.data.toList.drop k))=trimB ((s.data.toList.drop k).take (lend s.data.toList k-k))):=by
    rw [Hid,lend,show k+(line (s.data.toList.drop k)).length-k=(line (s.data.toList.drop k)).length by omega,<-line_take]
  obtain ⟨t0,ht0⟩:∃ t0,lend s.data.toList k=t0:=⟨_,rfl⟩;rw [ht0] at hle hst hL;rw [ht0];clear ht0;obtain ⟨hle1,hle2⟩:=hle;go_wp2_with fail
  go_loop [10] (fun p10=>∃ t:Nat,p10=.int .i64 t/\k+1<=t/\t<=s.size/\Hid (trimB (line (s.data.toList.drop k))=trimB ((s.data.toList.drop k).take (t-k)))) (fun p10=>(intOf p10).toNat)
  case atStart=>exact ⟨t0,rfl,hst,hle2,hL.out⟩
  case round=>
  obtain ⟨t,rfl,ht1,ht2,hf⟩:=hrel;obtain ⟨v,hv⟩:∃ v,t=v+1:=⟨t-1,by omega⟩;have hvv:(t:Int)-1=(v:Int):=by omega
  have hvs:v<s.size:=by omega
  have hsn:Hid ((s.data.toList.drop k).take (t-k)=(s.data.toList.drop k).take (v-k)++[s[v]]):=by
    rw [Hid,hv];exact take_snoc_at s k v (by omega) hvs
  have hkv:Hid (blankN s[v].toNat=true->k<v):=by
    intro hb
    rcases Nat.lt_or_ge k v with h | h
    · exact h
    · exfalso
      have e:v=k:=by omega
      subst e;have:=HK.out;unfold blankN at hb;simp only [Bool.or_eq_true,beq_iff_eq] at hb
      omega
  have HV:=Hid.out (p:=Hid _) hv;clear hv;cases hbl:blankN s[v].toNat
  · have hT:Hid (trimB (line (s.data.toList.drop k))=(s.data.toList.drop k).take (t-k)):=by
      rw [Hid,hf.out,hsn.out,trimB_snoc,if_neg (by rw [hbl];decide)]
    have HBL:=Hid.out (p:=Hid _) hbl;clear hbl hkv;obtain ⟨m,hm⟩:∃ m,(s.data.toList.drop k).take (t-k)=m:=⟨_,rfl⟩;have hcc:=fun w=>rcomment_any s k t 6 w (by omega) ht2 (by omega);rw [hm] at hcc hT;have HM:Hid ((s.data.toList.drop k).take m.length=m):=by
      rw [Hid,<-hm,List.length_take];exact List.take_eq_take_iff.2 (by omega)
    have HCC:=Hid.out (p:=Hid _) hcc;have HN:Hid (next (s.data.toList.drop k)=comment 6 m):=by rw [Hid,HN.out,remark_trim,hT.out]
    clear hm hcc hT hf hsn;go_wp2_with fail
    refine (rblank_any s[v].toNat _).mono ?_;rintro e w' ⟨rfl,rfl⟩;rw [HBL.out];go_wp2_with fail
    refine (Calls.mono (HCC.out _) ?_);intro e w2 hc
    have hlw:w.heap.size<w2.heap.size:=by
      unfold ComPost at hc;have hlt:=heap_lt F0.out.1;split at hc
      · have:=hc.2.size;omega
      · obtain ⟨g,_,_,_,h⟩:=hc;have:=h.size;omega
    have HC:Hid (ComPost m k 6 _ e w2):=hc;clear hc;by_cases hwe:(within m).2≠0
    · have hcm:Hid (comment 6 m=(0,0,(within m).1,(within m).2)):=by rw [Hid,comment,if_pos hwe]
      obtain ⟨rfl,hb2⟩:ToldErr _ (k+(within m).1) (within m).2 e w2:=by
        have:=HC.out;unfold ComPost at this;rw [if_pos hwe] at this;exact this
      have HWE:=Hid.out (p:=Hid _) hwe;have FF:Hid (Fresh w w2):=Fresh.on F0.out hb2;clear hb2 hwe HC;generalize (within m).1=wp at *;generalize (within m).2=we at *;have c0:=cell_of FF.out.1 0;have c1:=cell_of FF.out.1 1;have c2:=cell_of FF.out.1 2;have f0:=frozen_of FF.out.1 0;have f1:=frozen_of FF.out.1 1;have f2:=frozen_of FF.out.1 2;go_wp2_with fail
      exact one_ret (FF.out.put _ _ _) (by rw [HN.out,hcm.out];exact post_err HWE.out ⟨rfl,told3 FF.out.2⟩) rfl
    · have hcm:Hid (comment 6 m=(6,m.length,0,0)):=by rw [Hid,comment,if_neg hwe]
      obtain ⟨g,hg,rfl,hx,hb2⟩:ToldOk _ (6,m,k) e w2:=by
        have:=HC.out;unfold ComPost at this;rw [if_neg hwe] at this;exact this
      have FF:Hid (Fresh w w2):=Fresh.on F0.out hb2;have HG:Hid (g≠w.heap.size):=by have:=heap_lt F0.out.1;unfold Hid;omega
      have HX:=Hid.out (p:=Hid _) hx;have GL:Hid (w.heap.size<=g):=by have:=heap_lt F0.out.1;unfold Hid;omega
      clear hx hb2 hwe HC;have c0:=cell_of FF.out.1 0;have c1:=cell_of FF.out.1 1;have c2:=cell_of FF.out.1 2;have f0:=frozen_of FF.out.1 0;have f1:=frozen_of FF.out.1 1;have f2:=frozen_of FF.out.1 2;go_wp2_with fail
      exact one_ret (FF.out.put _ _ _) (by
        rw [HN.out,hcm.out];refine post_ok ?_;rw [HM.out];exact ⟨g,GL.out,rfl,far3 HX.out HG.out,told3 FF.out.2⟩) rfl
  · have hkv':=hkv.out hbl;have HF:Hid (trimB (line (s.data.toList.drop k))=trimB ((s.data.toList.drop k).take (v-k))):=by
      rw [Hid,hf.out,hsn.out,trimB_snoc,if_pos hbl]
    have HBL:=Hid.out (p:=Hid _) hbl;clear hbl hkv hf hsn;go_wp2_with fail
    refine (rblank_any s[v].toNat _).mono ?_;rintro e w' ⟨rfl,rfl⟩;rw [HBL.out];go_wp2_with fail
    go_round
    case rel=>exact ⟨v,rfl,by omega,by omega,HF.out⟩
    case measure=>have:=HV.out;simp [intOf];omega
theorem one_rem2 (s:ByteArray) (k:Nat) (w:World) (hk:k<s.size) (hs:s.size<=2000000) (hl:letterB s[k].toNat=false) (h:s[k].toNat=47) (hp:[47,47].isPrefixOf (s.data.toList.drop k)=true):Calls Tryz.prog 304 #[.string s,.int .i64 k] w (OPost s.data.toList k (next (s.data.toList.drop k)) w):=by
  have hb0:byt (s.data.toList.drop k) 0=s[k].toNat:=byt_drop0 s k hk;have q10:((s[k].toNat:Int) == 10)=false:=by rw [beq_eq_false_iff_ne];omega
  have HL:=Hid.out (p:=Hid _) hl;have d1:decide (48<=(s[k].toNat:Int))=false:=by rw [decide_eq_false_iff_not];omega
  have q34:((s[k].toNat:Int) == 34)=false:=by rw [beq_eq_false_iff_ne];omega
  have q35:((s[k].toNat:Int) == 35)=false:=by rw [beq_eq_false_iff_ne];omega
  have HN:Hid (next (s.data.toList.drop k)=remark (s.data.toList.drop k)):=by
    rw [Hid,next,hb0,if_neg (by rw [hl];decide),if_neg (by rw [h];decide),if_neg (by omega),if_neg (by omega),if_pos (Or.inr hp)]
  have HK:Hid (s[k].toNat=35∨s[k].toNat=47):=.inr h;have HP:=Hid.out (p:=Hid _) hp;clear hb0 hl h hp;have F0:Hid (Fresh w (w.alloc (.cells #[.slice none 0 0,.int .i64 0,.int .i64 0] 254))):=Fresh.new w;go_enter Tryz.func304,Tryz.ntmps304
  go_wp2_with fail
  refine (rletter_any s[k].toNat _).mono ?_;rintro e w' ⟨rfl,rfl⟩;rw [HL.out];go_wp2_with fail
  refine (ris_any s ⟨#[47,47]⟩ k _ (by omega) (by omega) (by decide) (by decide)).mono ?_;rintro e w' ⟨rfl,rfl⟩;rw [show (⟨#[47,47]⟩:ByteArray).data.toList=[47,47] from rfl,HP.out];go_wp2_with fail
  refine (rend_any s k _ (by omega) (by omega)).mono ?_;rintro e w' ⟨rfl,rfl⟩;have hle:=lend_le s k (by omega);have hst:k+1<=lend s.data.toList k:=by
    rw [lend_step s k hk,if_neg (by have:=HK.out;omega)];exact (lend_le s (k+1) (by omega)).1
  have hL:Hid (trimB (line (s.data.toList.drop k))=trimB ((s.data.toList.drop k).take (lend s.data.toList k-k))):=by
    rw [Hid,lend,show k+(line (s.data.toList.drop k)).length-k=(line (s.data.toList.drop k)).length by omega,<-line_take]
  obtain ⟨t0,ht0⟩:∃ t0,lend s.data.toList k=t0:=⟨_,rfl⟩;rw [ht0] at hle hst hL;rw [ht0];clear ht0;obtain ⟨hle1,hle2⟩:=hle;go_wp2_with fail
  go_loop [10] (fun p10=>∃ t:Nat,p10=.int .i64 t/\k+1<=t/\t<=s.size/\Hid (trimB (line (s.data.toList.drop k))=trimB ((s.data.toList.drop k).take (t-k)))) (fun p10=>(intOf p10).toNat)
  case atStart=>exact ⟨t0,rfl,hst,hle2,hL.out⟩
  case round=>
  obtain ⟨t,rfl,ht1,ht2,hf⟩:=hrel;obtain ⟨v,hv⟩:∃ v,t=v+1:=⟨t-1,by omega⟩;have hvv:(t:Int)-1=(v:Int):=by omega
  have hvs:v<s.size:=by omega
  have hsn:Hid ((s.data.toList.drop k).take (t-k)=(s.data.toList.drop k).take (v-k)++[s[v]]):=by
    rw [Hid,hv];exact take_snoc_at s k v (by omega) hvs
  have hkv:Hid (blankN s[v].toNat=true->k<v):=by
    intro hb
    rcases Nat.lt_or_ge k v with h | h
    · exact h
    · exfalso
      have e:v=k:=by omega
      subst e;have:=HK.out;unfold blankN at hb;simp only [Bool.or_eq_true,beq_iff_eq] at hb
      omega
  have HV:=Hid.out (p:=Hid _) hv;clear hv;cases hbl:blankN s[v].toNat
  · have hT:Hid (trimB (line (s.data.toList.drop k))=(s.data.toList.drop k).take (t-k)):=by
      rw [Hid,hf.out,hsn.out,trimB_snoc,if_neg (by rw [hbl];decide)]
    have HBL:=Hid.out (p:=Hid _) hbl;clear hbl hkv;obtain ⟨m,hm⟩:∃ m,(s.data.toList.drop k).take (t-k)=m:=⟨_,rfl⟩;have hcc:=fun w=>rcomment_any s k t 6 w (by omega) ht2 (by omega);rw [hm] at hcc hT;have HM:Hid ((s.data.toList.drop k).take m.length=m):=by
      rw [Hid,<-hm,List.length_take];exact List.take_eq_take_iff.2 (by omega)
    have HCC:=Hid.out (p:=Hid _) hcc;have HN:Hid (next (s.data.toList.drop k)=comment 6 m):=by rw [Hid,HN.out,remark_trim,hT.out]
    clear hm hcc hT hf hsn;go_wp2_with fail
    refine (rblank_any s[v].toNat _).mono ?_;rintro e w' ⟨rfl,rfl⟩;rw [HBL.out];go_wp2_with fail
    refine (Calls.mono (HCC.out _) ?_);intro e w2 hc
    have hlw:w.heap.size<w2.heap.size:=by
      unfold ComPost at hc;have hlt:=heap_lt F0.out.1;split at hc
      · have:=hc.2.size;omega
      · obtain ⟨g,_,_,_,h⟩:=hc;have:=h.size;omega
    have HC:Hid (ComPost m k 6 _ e w2):=hc;clear hc;by_cases hwe:(within m).2≠0
    · have hcm:Hid (comment 6 m=(0,0,(within m).1,(within m).2)):=by rw [Hid,comment,if_pos hwe]
      obtain ⟨rfl,hb2⟩:ToldErr _ (k+(within m).1) (within m).2 e w2:=by
        have:=HC.out;unfold ComPost at this;rw [if_pos hwe] at this;exact this
      have HWE:=Hid.out (p:=Hid _) hwe;have FF:Hid (Fresh w w2):=Fresh.on F0.out hb2;clear hb2 hwe HC;generalize (within m).1=wp at *;generalize (within m).2=we at *;have c0:=cell_of FF.out.1 0;have c1:=cell_of FF.out.1 1;have c2:=cell_of FF.out.1 2;have f0:=frozen_of FF.out.1 0;have f1:=frozen_of FF.out.1 1;have f2:=frozen_of FF.out.1 2;go_wp2_with fail
      exact one_ret (FF.out.put _ _ _) (by rw [HN.out,hcm.out];exact post_err HWE.out ⟨rfl,told3 FF.out.2⟩) rfl
    · have hcm:Hid (comment 6 m=(6,m.length,0,0)):=by rw [Hid,comment,if_neg hwe]
      obtain ⟨g,hg,rfl,hx,hb2⟩:ToldOk _ (6,m,k) e w2:=by
        have:=HC.out;unfold ComPost at this;rw [if_neg hwe] at this;exact this
      have FF:Hid (Fresh w w2):=Fresh.on F0.out hb2;have HG:Hid (g≠w.heap.size):=by have:=heap_lt F0.out.1;unfold Hid;omega
      have HX:=Hid.out (p:=Hid _) hx;have GL:Hid (w.heap.size<=g):=by have:=heap_lt F0.out.1;unfold Hid;omega
      clear hx hb2 hwe HC;have c0:=cell_of FF.out.1 0;have c1:=cell_of FF.out.1 1;have c2:=cell_of FF.out.1 2;have f0:=frozen_of FF.out.1 0;have f1:=frozen_of FF.out.1 1;have f2:=frozen_of FF.out.1 2;go_wp2_with fail
      exact one_ret (FF.out.put _ _ _) (by
        rw [HN.out,hcm.out];refine post_ok ?_;rw [HM.out];exact ⟨g,GL.out,rfl,far3 HX.out HG.out,told3 FF.out.2⟩) rfl
  · have hkv':=hkv.out hbl;have HF:Hid (trimB (line (s.data.toList.drop k))=trimB ((s.data.toList.drop k).take (v-k))):=by
      rw [Hid,hf.out,hsn.out,trimB_snoc,if_pos hbl]
    have HBL:=Hid.out (p:=Hid _) hbl;clear hbl hkv hf hsn;go_wp2_with fail
    refine (rblank_any s[v].toNat _).mono ?_;rintro e w' ⟨rfl,rfl⟩;rw [HBL.out];go_wp2_with fail
    go_round
    case rel=>exact ⟨v,rfl,by omega,by omega,HF.out⟩
    case measure=>have:=HV.out;simp [intOf];omega
theorem one_aside (s:ByteArray) (k:Nat) (w:World) (hk:k<s.size) (hs:s.size<=2000000) (hl:letterB s[k].toNat=false) (h:s[k].toNat=47) (hp:[47,47].isPrefixOf (s.data.toList.drop k)=false) (hp2:[47,42].isPrefixOf (s.data.toList.drop k)=true):Calls Tryz.prog 304 #[.string s,.int .i64 k] w (OPost s.data.toList k (next (s.data.toList.drop k)) w):=by
  have hb0:byt (s.data.toList.drop k) 0=s[k].toNat:=byt_drop0 s k hk;have q10:((s[k].toNat:Int) == 10)=false:=by rw [beq_eq_false_iff_ne];omega
  have HL:=Hid.out (p:=Hid _) hl;have d1:decide (48<=(s[k].toNat:Int))=false:=by rw [decide_eq_false_iff_not];omega
  have q34:((s[k].toNat:Int) == 34)=false:=by rw [beq_eq_false_iff_ne];omega
  have q35:((s[k].toNat:Int) == 35)=false:=by rw [beq_eq_false_iff_ne];omega
  have HN:Hid (next (s.data.toList.drop k)=aside (s.data.toList.drop k)):=by
    rw [Hid,next,hb0,if_neg (by rw [hl];decide),if_neg (by rw [h];decide),if_neg (by omega),if_neg (by omega),if_neg (by rw [hp];simp;omega),if_pos hp2]
  have HP:=Hid.out (p:=Hid _) hp;have HP2:=Hid.out (p:=Hid _) hp2;obtain ⟨tl,htl⟩:=pre2 hp2;have hl2:2<=(line (s.data.toList.drop k)).length:=by
    rw [htl,line_cons,if_neg (by decide),line_cons,if_neg (by decide)];simp
  obtain ⟨t0,ht0⟩:∃ t0,lend s.data.toList k=t0:=⟨_,rfl⟩;have hle:=lend_le s k (by omega);rw [ht0] at hle;have hll:(line (s.data.toList.drop k)).length=t0-k:=by rw [<-ht0,lend];omega
  have hex:∀ i,(s.extract 0 t0).data.toList.drop (k+i)=(line (s.data.toList.drop k)).drop i:=by
    intro i
    conv=>rhs;rw [line_take (s.data.toList.drop k),hll]
    rw [Lib.extract_data,List.drop_take,List.drop_take,List.drop_drop,List.drop_drop,Nat.zero_add,show t0-0-(k+i)=t0-k-i by omega]
  have hxs:(s.extract 0 t0).size=t0:=by rw [ByteArray.size_extract];omega
  have ht2:k+2<=t0:=by omega
  obtain ⟨hle1,hle2⟩:=hle;obtain ⟨X,hX⟩:∃ X,X=s.extract 0 t0:=⟨_,rfl⟩;rw [<-hX] at hex hxs;have HXX:=Hid.out (p:=Hid _) hX;have HEX:=Hid.out (p:=Hid _) hex;have HXS:=Hid.out (p:=Hid _) hxs;have HLL:=Hid.out (p:=Hid _) hll;have HT0:=Hid.out (p:=Hid _) ht0;have HL2:=Hid.out (p:=Hid _) hl2;clear hb0 hl h hp hp2 htl hl2 ht0 hll hex hxs hX;have F0:Hid (Fresh w (w.alloc (.cells #[.slice none 0 0,.int .i64 0,.int .i64 0] 254))):=Fresh.new w;go_enter Tryz.func304,Tryz.ntmps304
  go_wp2_with fail
  refine (rletter_any s[k].toNat _).mono ?_;rintro e w' ⟨rfl,rfl⟩;rw [HL.out];go_wp2_with fail
  refine (ris_any s ⟨#[47,47]⟩ k _ (by omega) (by omega) (by decide) (by decide)).mono ?_;rintro e w' ⟨rfl,rfl⟩;rw [show (⟨#[47,47]⟩:ByteArray).data.toList=[47,47] from rfl,HP.out];go_wp2_with fail
  refine (ris_any s ⟨#[47,42]⟩ k _ (by omega) (by omega) (by decide) (by decide)).mono ?_;rintro e w' ⟨rfl,rfl⟩;rw [show (⟨#[47,42]⟩:ByteArray).data.toList=[47,42] from rfl,HP2.out];go_wp2_with fail
  refine (rend_any s k _ (by omega) (by omega)).mono ?_;rintro e w' ⟨rfl,rfl⟩;rw [HT0.out];go_wp2_with fail
  go_loop [12] (fun p12=>∃ (i q:Nat),p12=.int .i64 q/\Hid (q=k+i)/\2<=i/\q<=t0/\Hid (∀ j,2<=j->j<i->[42,47].isPrefixOf ((line (s.data.toList.drop k)).drop j)=false)) (fun p12=>t0-(intOf p12).toNat)
  case atStart=>exact ⟨2,k+2,by go_num,rfl,by omega,ht2,fun j h1 h2=>by omega⟩
  case round=>
  obtain ⟨i,q,rfl,hq,hi,hqt,hno⟩:=hrel;by_cases hlt:q<t0
  · have hxd:X.data.toList.drop q=(line (s.data.toList.drop k)).drop i:=by rw [hq.out];exact HEX.out i
    have his:=fun w=>ris_any X ⟨#[42,47]⟩ q w (by rw [HXS.out];omega) (by rw [HXS.out];omega) (by decide) (by decide);rw [hxd,show (⟨#[42,47]⟩:ByteArray).data.toList=[42,47] from rfl] at his;clear hxd;have hxe:s.extract 0 t0=X:=HXX.out.symm;cases hit:List.isPrefixOf [42,47] ((line (s.data.toList.drop k)).drop i)
    · have HF:Hid (∀ j,2<=j->j<i+1->[42,47].isPrefixOf ((line (s.data.toList.drop k)).drop j)=false):=by
        intro j h1 h2
        by_cases e:j=i
        · rw [e];exact hit
        · exact hno.out j h1 (by omega)
      rw [hit] at his;have HIS:=Hid.out (p:=Hid _) his;clear his hit;go_wp2_with fail
      refine (Calls.mono (HIS.out _) ?_);rintro e w' ⟨rfl,rfl⟩;go_wp2_with fail
      go_round
      case rel=>exact ⟨i+1,q+1,by go_num,by have:=hq.out;unfold Hid;omega,by omega,by omega,HF.out⟩
      case measure=>simp [intOf];omega
    · have hcm:aside (s.data.toList.drop k)=comment 7 ((s.data.toList.drop k).take (i+2)):=aside_at _ i hi hit hno.out;have hr:=(List.isPrefixOf_iff_prefix.1 hit).length_le;rw [List.length_drop,HLL.out] at hr;simp only [List.length_cons,List.length_nil] at hr
      have hq2:q+2<=t0:=by have:=hq.out;omega
      rw [hit] at his;have HIS:=Hid.out (p:=Hid _) his;obtain ⟨t,ht⟩:∃ t,q+2=t:=⟨_,rfl⟩;have htt:(q:Int)+2=(t:Int):=by omega
      have htk:t-k=i+2:=by have:=hq.out;omega
      have hts:t<=s.size:=by omega
      have hkt:k<=t:=by omega
      obtain ⟨m,hm⟩:∃ m,(s.data.toList.drop k).take (i+2)=m:=⟨_,rfl⟩;have hcc:=fun w=>rcomment_any s k t 7 w hkt hts (by omega);rw [htk,hm] at hcc;rw [hm] at hcm;have HM:Hid ((s.data.toList.drop k).take m.length=m):=by
        rw [Hid,<-hm,List.length_take];exact List.take_eq_take_iff.2 (by omega)
      have HCC:=Hid.out (p:=Hid _) hcc;have HN:Hid (next (s.data.toList.drop k)=comment 7 m):=by rw [Hid,HN.out,hcm]
      clear hm hcc hcm his hit ht htk hr;go_wp2_with fail
      refine (Calls.mono (HIS.out _) ?_);rintro e w' ⟨rfl,rfl⟩;go_wp2_with fail
      refine (Calls.mono (HCC.out _) ?_);intro e w2 hc
      have hlw:w.heap.size<w2.heap.size:=by
        unfold ComPost at hc;have hlt:=heap_lt F0.out.1;split at hc
        · have:=hc.2.size;omega
        · obtain ⟨g,_,_,_,h⟩:=hc;have:=h.size;omega
      have HC:Hid (ComPost m k 7 _ e w2):=hc;clear hc;by_cases hwe:(within m).2≠0
      · have hcm:Hid (comment 7 m=(0,0,(within m).1,(within m).2)):=by rw [Hid,comment,if_pos hwe]
        obtain ⟨rfl,hb2⟩:ToldErr _ (k+(within m).1) (within m).2 e w2:=by
          have:=HC.out;unfold ComPost at this;rw [if_pos hwe] at this;exact this
        have HWE:=Hid.out (p:=Hid _) hwe;have FF:Hid (Fresh w w2):=Fresh.on F0.out hb2;clear hb2 hwe HC;generalize (within m).1=wp at *;generalize (within m).2=we at *;have c0:=cell_of FF.out.1 0;have c1:=cell_of FF.out.1 1;have c2:=cell_of FF.out.1 2;have f0:=frozen_of FF.out.1 0;have f1:=frozen_of FF.out.1 1;have f2:=frozen_of FF.out.1 2;go_wp2_with fail
        exact one_ret (FF.out.put _ _ _) (by rw [HN.out,hcm.out];exact post_err HWE.out ⟨rfl,told3 FF.out.2⟩) rfl
      · have hcm:Hid (comment 7 m=(7,m.length,0,0)):=by rw [Hid,comment,if_neg hwe]
        obtain ⟨g,hg,rfl,hx,hb2⟩:ToldOk _ (7,m,k) e w2:=by
          have:=HC.out;unfold ComPost at this;rw [if_neg hwe] at this;exact this
        have FF:Hid (Fresh w w2):=Fresh.on F0.out hb2;have HG:Hid (g≠w.heap.size):=by have:=heap_lt F0.out.1;unfold Hid;omega
        have HX:=Hid.out (p:=Hid _) hx;have GL:Hid (w.heap.size<=g):=by have:=heap_lt F0.out.1;unfold Hid;omega
        clear hx hb2 hwe HC;have c0:=cell_of FF.out.1 0;have c1:=cell_of FF.out.1 1;have c2:=cell_of FF.out.1 2;have f0:=frozen_of FF.out.1 0;have f1:=frozen_of FF.out.1 1;have f2:=frozen_of FF.out.1 2;go_wp2_with fail
        exact one_ret (FF.out.put _ _ _) (by
          rw [HN.out,hcm.out];refine post_ok ?_;rw [HM.out];exact ⟨g,GL.out,rfl,far3 HX.out HG.out,told3 FF.out.2⟩) rfl
  · have hil:i=(line (s.data.toList.drop k)).length:=by rw [HLL.out];have:=hq.out;omega
    have HX:Hid (next (s.data.toList.drop k)=(0,0,0,2)):=by
      rw [Hid,HN.out,aside_none _ (by rw [<-hil];exact hno.out) HL2.out]
    clear hil;have FF:=Hid.out (p:=Hid _) F0.out;clear F0;go_wp2_with fail
    exact one_ret (heap_alloc_new _ _) (by rw [HX.out];exact post_err (by decide) ⟨rfl,(Below.refl _ _).alloc (Nat.le_refl _) _⟩) rfl
def dsign:List ByteArray:=[⟨#[61,61]⟩,⟨#[33,61]⟩,⟨#[60,61]⟩,⟨#[62,61]⟩,⟨#[38,38]⟩,⟨#[124,124]⟩]
def ssign:List ByteArray:=[⟨#[61]⟩,⟨#[60]⟩,⟨#[62]⟩,⟨#[43]⟩,⟨#[45]⟩,⟨#[42]⟩,⟨#[47]⟩,⟨#[37]⟩,⟨#[33]⟩,⟨#[63]⟩,⟨#[58]⟩,⟨#[44]⟩,⟨#[46]⟩,⟨#[40]⟩,⟨#[41]⟩,⟨#[91]⟩,⟨#[93]⟩,⟨#[123]⟩,⟨#[125]⟩]
def dcells:Array Value:=#[.string ⟨#[61,61]⟩,.string ⟨#[33,61]⟩,.string ⟨#[60,61]⟩,.string ⟨#[62,61]⟩,.string ⟨#[38,38]⟩,.string ⟨#[124,124]⟩]
def scells:Array Value:=#[.string ⟨#[61]⟩,.string ⟨#[60]⟩,.string ⟨#[62]⟩,.string ⟨#[43]⟩,.string ⟨#[45]⟩,.string ⟨#[42]⟩,.string ⟨#[47]⟩,.string ⟨#[37]⟩,.string ⟨#[33]⟩,.string ⟨#[63]⟩,.string ⟨#[58]⟩,.string ⟨#[44]⟩,.string ⟨#[46]⟩,.string ⟨#[40]⟩,.string ⟨#[41]⟩,.string ⟨#[91]⟩,.string ⟨#[93]⟩,.string ⟨#[123]⟩,.string ⟨#[125]⟩]
theorem dcell:∀ i (h:i<6),dcells[i]?=some (.string (dsign[i]'h))
  | 0,_=>rfl
  | 1,_=>rfl
  | 2,_=>rfl
  | 3,_=>rfl
  | 4,_=>rfl
  | 5,_=>rfl
theorem scell:∀ i (h:i<19),scells[i]?=some (.string (ssign[i]'h))
  | 0,_=>rfl
  | 1,_=>rfl
  | 2,_=>rfl
  | 3,_=>rfl
  | 4,_=>rfl
  | 5,_=>rfl
  | 6,_=>rfl
  | 7,_=>rfl
  | 8,_=>rfl
  | 9,_=>rfl
  | 10,_=>rfl
  | 11,_=>rfl
  | 12,_=>rfl
  | 13,_=>rfl
  | 14,_=>rfl
  | 15,_=>rfl
  | 16,_=>rfl
  | 17,_=>rfl
  | 18,_=>rfl
  | n+19,h=>absurd h (by omega)
theorem dsize:∀ i (h:i<6),(dsign[i]'h).size=2
  | 0,_=>rfl
  | 1,_=>rfl
  | 2,_=>rfl
  | 3,_=>rfl
  | 4,_=>rfl
  | 5,_=>rfl
theorem ssize:∀ i (h:i<19),(ssign[i]'h).size=1
  | 0,_=>rfl
  | 1,_=>rfl
  | 2,_=>rfl
  | 3,_=>rfl
  | 4,_=>rfl
  | 5,_=>rfl
  | 6,_=>rfl
  | 7,_=>rfl
  | 8,_=>rfl
  | 9,_=>rfl
  | 10,_=>rfl
  | 11,_=>rfl
  | 12,_=>rfl
  | 13,_=>rfl
  | 14,_=>rfl
  | 15,_=>rfl
  | 16,_=>rfl
  | 17,_=>rfl
  | 18,_=>rfl
  | n+19,h=>absurd h (by omega)
theorem ddata:dsign.map (·.data.toList)=doubles:=rfl
theorem sdata:∀ n,n<256->ssign.any (fun p=>p.data.toList == [UInt8.ofNat n])=(singles.findIdx? (· == UInt8.ofNat n)).isSome:=by decide +kernel
theorem pre1 (l:List UInt8) (b:UInt8) (hl:l≠[]):List.isPrefixOf [b] l=(b == UInt8.ofNat (byt l 0)):=by
  obtain ⟨c,t,rfl⟩:=List.exists_cons_of_ne_nil hl;show (b == c && true)=(b == UInt8.ofNat c.toNat);rw [Bool.and_true];simp
theorem sign_two (l:List UInt8) (i:Nat) (h:i<6) (hp:(dsign[i]'h).data.toList.isPrefixOf l=true):sign l=2:=by
  unfold sign;rw [if_pos];rw [<-ddata,List.any_eq_true];exact ⟨_,List.mem_map.2 ⟨dsign[i]'h,List.getElem_mem _,rfl⟩,hp⟩
theorem no_two (l:List UInt8) (hn:∀ i (h:i<6),(dsign[i]'h).data.toList.isPrefixOf l=false):doubles.any (·.isPrefixOf l)=false:=by
  rw [<-ddata,List.any_eq_false];intro x hx
  obtain ⟨p,hp,rfl⟩:=List.mem_map.1 hx;obtain ⟨i,hi,rfl⟩:=List.getElem_of_mem hp;rw [hn i hi];decide
theorem sone (b:UInt8):∀ p∈ssign,∀ l:List UInt8,l≠[]->p.data.toList.isPrefixOf l=(p.data.toList == [UInt8.ofNat (byt l 0)]):=by
  intro p hp l hl
  obtain ⟨i,hi,rfl⟩:=List.getElem_of_mem hp;have hs:=ssize i hi;have:(ssign[i]).data.toList.length=1:=by rw [show (ssign[i]).data.toList.length=(ssign[i]).size by simp];exact hs
  obtain ⟨c,hc⟩:=List.length_eq_one_iff.1 this;rw [hc,pre1 l c hl];rw [Bool.eq_iff_iff];simp
theorem sign_one (l:List UInt8) (hl:l≠[]) (hd:doubles.any (·.isPrefixOf l)=false) (i:Nat) (h:i<19) (hp:(ssign[i]'h).data.toList.isPrefixOf l=true):sign l=1:=by
  unfold sign;rw [if_neg (by rw [hd];decide),if_pos];rw [<-sdata _ (byt_lt l 0),List.any_eq_true];refine ⟨ssign[i]'h,List.getElem_mem _,?_⟩;have:=sone 0 (ssign[i]'h) (List.getElem_mem _) l hl;rw [hp] at this;exact this.symm
theorem sign_none (l:List UInt8) (hl:l≠[]) (hd:doubles.any (·.isPrefixOf l)=false) (hn:∀ i (h:i<19),(ssign[i]'h).data.toList.isPrefixOf l=false):sign l=0:=by
  unfold sign;rw [if_neg (by rw [hd];decide),if_neg];rw [<-sdata _ (byt_lt l 0),List.any_eq_true];rintro ⟨p,hp,h⟩;obtain ⟨i,hi,rfl⟩:=List.getElem_of_mem hp;have:=hn i hi;rw [sone 0 _ (List.getElem_mem _) l hl,h] at this;cases this
theorem one_sign (s:ByteArray) (k:Nat) (w:World) (hk:k<s.size) (hs:s.size<=2000000) (hl:letterB s[k].toNat=false) (hd:digitB s[k].toNat=false) (h1:s[k].toNat≠10) (h2:s[k].toNat≠34) (h3:s[k].toNat≠35) (hp:[47,47].isPrefixOf (s.data.toList.drop k)=false) (hp2:[47,42].isPrefixOf (s.data.toList.drop k)=false):Calls Tryz.prog 304 #[.string s,.int .i64 k] w (OPost s.data.toList k (next (s.data.toList.drop k)) w):=by
  have hb0:byt (s.data.toList.drop k) 0=s[k].toNat:=byt_drop0 s k hk;have q10:((s[k].toNat:Int) == 10)=false:=by rw [beq_eq_false_iff_ne];omega
  have HL:=Hid.out (p:=Hid _) hl;have q34:((s[k].toNat:Int) == 34)=false:=by rw [beq_eq_false_iff_ne];omega
  have q35:((s[k].toNat:Int) == 35)=false:=by rw [beq_eq_false_iff_ne];omega
  have HN:Hid (next (s.data.toList.drop k)=if 0<sign (s.data.toList.drop k) then (4,sign (s.data.toList.drop k),0,0) else (0,0,0,3)):=by
    rw [Hid,next,hb0,if_neg (by rw [hl];decide),if_neg (by rw [hd];decide),if_neg (by omega),if_neg (by omega),if_neg (by rw [hp];simp;omega),if_neg (by rw [hp2];decide)]
  have HNE:Hid (s.data.toList.drop k≠[]):=List.ne_nil_of_length_pos (by rw [List.length_drop];simp;omega);have hdd:(decide (48<=(s[k].toNat:Int))=false)∨(decide (48<=(s[k].toNat:Int))=true/\decide ((s[k].toNat:Int)<=57)=false):=by
    unfold digitB at hd;rw [Bool.and_eq_false_iff,decide_eq_false_iff_not,decide_eq_false_iff_not] at hd;rw [decide_eq_false_iff_not,decide_eq_true_eq,decide_eq_false_iff_not];omega
  have HP:=Hid.out (p:=Hid _) hp;have HP2:=Hid.out (p:=Hid _) hp2;clear hb0 hl hd h1 h2 h3 hp hp2;rcases hdd with e1 | ⟨e1,e2⟩
  all_goals
    have F0:Hid (Fresh w (w.alloc (.cells #[.slice none 0 0,.int .i64 0,.int .i64 0] 254))):=Fresh.new w;go_enter Tryz.func304,Tryz.ntmps304
    go_wp2_with fail
    refine (rletter_any s[k].toNat _).mono ?_;rintro e w' ⟨rfl,rfl⟩;rw [HL.out];go_wp2_with fail
    refine (ris_any s ⟨#[47,47]⟩ k _ (by omega) (by omega) (by decide) (by decide)).mono ?_;rintro e w' ⟨rfl,rfl⟩;rw [show (⟨#[47,47]⟩:ByteArray).data.toList=[47,47] from rfl,HP.out];go_wp2_with fail
    refine (ris_any s ⟨#[47,42]⟩ k _ (by omega) (by omega) (by decide) (by decide)).mono ?_;rintro e w' ⟨rfl,rfl⟩;rw [show (⟨#[47,42]⟩:ByteArray).data.toList=[47,42] from rfl,HP2.out];go_wp2_with fail
    have FW:Hid (Fresh w ((w.alloc (.cells #[.slice none 0 0,.int .i64 0,.int .i64 0] 254)).alloc (.cells dcells 9))):=F0.out.alloc _;have HC:Hid (∀ i (h:i<6),((w.alloc (.cells #[.slice none 0 0,.int .i64 0,.int .i64 0] 254)).alloc (.cells dcells 9)).cell? ⟨w.heap.size+1,i,none⟩=some (.string (dsign[i]'h))):=by
      intro i h
      rw [cell_of (heap_alloc_at _ _ (by simp))];exact dcell i h
    unfold dcells at FW HC;clear F0;generalize hWW:(w.alloc _).alloc (.cells _ _)=W at *;clear hWW
    go_loop [14,167] (fun p_ q_=>∃ i:Nat,q_=.int .i64 i/\i<=6/\Hid (∀ j (h:j<6),j<i->(dsign[j]'h).data.toList.isPrefixOf (s.data.toList.drop k)=false)) (fun _ q_=>6-(intOf q_).toNat)
    case atStart=>exact ⟨0,rfl,by omega,fun j h h0=>by omega⟩
    case round=>
    obtain ⟨i,rfl,hi,hno⟩:=hrel;by_cases hlt:i<6
    · have hcell:=HC.out i hlt;have hsz:=dsize i hlt;have his:=fun w=>ris_any s (dsign[i]'hlt) k w (by omega) (by omega) (by rw [hsz];omega) (by rw [hsz];omega);cases hit:(dsign[i]'hlt).data.toList.isPrefixOf (s.data.toList.drop k)
      · have HF:Hid (∀ j (h:j<6),j<i+1->(dsign[j]'h).data.toList.isPrefixOf (s.data.toList.drop k)=false):=by
          intro j h h0
          by_cases e:j=i
          · subst e;exact hit
          · exact hno.out j h (by omega)
        rw [hit] at his;have HIS:=Hid.out (p:=Hid _) his;clear his hit hsz;generalize dsign[i]'hlt=x at *;go_wp2_with fail
        refine (Calls.mono (HIS.out _) ?_);rintro e w' ⟨rfl,rfl⟩;go_wp2_with fail
        go_round
        case rel=>exact ⟨i+1,by go_num,by omega,HF.out⟩
        case measure=>simp [intOf];omega
      · have HX:Hid (next (s.data.toList.drop k)=(4,2,0,0)):=by
          have h2:=sign_two _ i hlt hit;rw [Hid,HN.out,h2];rfl
        have hk2:k+2<=s.size:=by
          have:=(List.isPrefixOf_iff_prefix.1 hit).length_le;rw [List.length_drop,show (dsign[i]'hlt).data.toList.length=(dsign[i]'hlt).size by simp,hsz,show s.data.toList.length=s.size by simp] at this;omega
        rw [hit] at his;have HIS:=Hid.out (p:=Hid _) his;clear his hit hsz;generalize dsign[i]'hlt=x at *;go_wp2_with fail
        refine (Calls.mono (HIS.out _) ?_);rintro e w' ⟨rfl,rfl⟩;go_wp2_with fail
        refine (rtoken_any s k 4 2 _ hk2 (by omega)).mono ?_;rintro e w2 ⟨g,hg,rfl,hx,hb2⟩;have F2:Hid (Fresh w w2):=Fresh.on FW.out hb2;have HG:Hid (g≠w.heap.size):=by have:=heap_lt (FW.out).1;have h':=hg;(try simp at h');unfold Hid;omega
        have HX2:=Hid.out (p:=Hid _) hx;have GL:Hid (w.heap.size<=g):=by have:=heap_lt (FW.out).1;have h':=hg;(try simp at h');unfold Hid;omega
        clear hx hb2;have c0:=cell_of F2.out.1 0;have c1:=cell_of F2.out.1 1;have c2:=cell_of F2.out.1 2;have f0:=frozen_of F2.out.1 0;have f1:=frozen_of F2.out.1 1;have f2:=frozen_of F2.out.1 2;go_wp2_with fail
        exact one_ret (F2.out.put _ _ _) (by rw [HX.out];exact post_ok ⟨g,GL.out,rfl,far3 HX2.out HG.out,told3 F2.out.2⟩) rfl
    · have HD:Hid (doubles.any (·.isPrefixOf (s.data.toList.drop k))=false):=no_two _ (fun i h=>hno.out i h (by omega));obtain rfl:i=6:=by omega
      clear hno HC;go_wp2_with fail
      have FV:Hid (Fresh w (W.alloc (.cells scells 9))):=FW.out.alloc _;have HC:Hid (∀ i (h:i<19),(W.alloc (.cells scells 9)).cell? ⟨W.heap.size,i,none⟩=some (.string (ssign[i]'h))):=by
        intro i h
        rw [cell_of (heap_alloc_new W _)];exact scell i h
      unfold scells at FV HC;generalize hWV:W.alloc (.cells _ _)=V at *;clear hWV
      go_loop [16,181] (fun p_ q_=>∃ i:Nat,q_=.int .i64 i/\i<=19/\Hid (∀ j (h:j<19),j<i->(ssign[j]'h).data.toList.isPrefixOf (s.data.toList.drop k)=false)) (fun _ q_=>19-(intOf q_).toNat)
      case atStart=>exact ⟨0,rfl,by omega,fun j h h0=>by omega⟩
      case round=>
      obtain ⟨i,rfl,hi,hno⟩:=hrel;by_cases hlt:i<19
      · have hcell:=HC.out i hlt;have hsz:=ssize i hlt;have his:=fun w=>ris_any s (ssign[i]'hlt) k w (by omega) (by omega) (by rw [hsz];omega) (by rw [hsz];omega);cases hit:(ssign[i]'hlt).data.toList.isPrefixOf (s.data.toList.drop k)
        · have HF:Hid (∀ j (h:j<19),j<i+1->(ssign[j]'h).data.toList.isPrefixOf (s.data.toList.drop k)=false):=by
            intro j h h0
            by_cases e:j=i
            · subst e;exact hit
            · exact hno.out j h (by omega)
          rw [hit] at his;have HIS:=Hid.out (p:=Hid _) his;clear his hit hsz;generalize ssign[i]'hlt=x at *;go_wp2_with fail
          refine (Calls.mono (HIS.out _) ?_);rintro e w' ⟨rfl,rfl⟩;go_wp2_with fail
          go_round
          case rel=>exact ⟨i+1,by go_num,by omega,HF.out⟩
          case measure=>simp [intOf];omega
        · have HX:Hid (next (s.data.toList.drop k)=(4,1,0,0)):=by
            have h2:=sign_one _ HNE.out HD.out i hlt hit;rw [Hid,HN.out,h2];rfl
          rw [hit] at his;have HIS:=Hid.out (p:=Hid _) his;clear his hit hsz;generalize ssign[i]'hlt=x at *;go_wp2_with fail
          refine (Calls.mono (HIS.out _) ?_);rintro e w' ⟨rfl,rfl⟩;go_wp2_with fail
          refine (rtoken_any s k 4 1 _ (by omega) (by omega)).mono ?_;rintro e w2 ⟨g,hg,rfl,hx,hb2⟩;have F2:Hid (Fresh w w2):=Fresh.on FV.out hb2;have HG:Hid (g≠w.heap.size):=by have:=heap_lt (FV.out).1;have h':=hg;(try simp at h');unfold Hid;omega
          have HX2:=Hid.out (p:=Hid _) hx;have GL:Hid (w.heap.size<=g):=by have:=heap_lt (FV.out).1;have h':=hg;(try simp at h');unfold Hid;omega
          clear hx hb2;have c0:=cell_of F2.out.1 0;have c1:=cell_of F2.out.1 1;have c2:=cell_of F2.out.1 2;have f0:=frozen_of F2.out.1 0;have f1:=frozen_of F2.out.1 1;have f2:=frozen_of F2.out.1 2;go_wp2_with fail
          exact one_ret (F2.out.put _ _ _) (by rw [HX.out];exact post_ok ⟨g,GL.out,rfl,far3 HX2.out HG.out,told3 F2.out.2⟩) rfl
      · have HX:Hid (next (s.data.toList.drop k)=(0,0,0,3)):=by
          have h2:=sign_none _ HNE.out HD.out (fun i h=>hno.out i h (by omega));rw [Hid,HN.out,h2];rfl
        obtain rfl:i=19:=by omega
        have c0:=cell_of FV.out.1 0;have c1:=cell_of FV.out.1 1;have c2:=cell_of FV.out.1 2;have f0:=frozen_of FV.out.1 0;have f1:=frozen_of FV.out.1 1;have f2:=frozen_of FV.out.1 2;clear hno;go_wp2_with fail
        exact one_ret (FV.out.put _ _ _) (by rw [HX.out];exact post_err (by decide) ⟨rfl,told3 FV.out.2⟩) rfl
theorem rone_tok (s:ByteArray) (k:Nat) (w:World) (hk:k<s.size) (hs:s.size<=2000000):Calls Tryz.prog 304 #[.string s,.int .i64 k] w (OPost s.data.toList k (next (s.data.toList.drop k)) w):=by
  by_cases h1:s[k].toNat=10
  · exact one_line s k w hk hs h1
  cases hl:letterB s[k].toNat with
  | true=>exact one_ident s k w hk hs hl
  | false=>
  cases hd:digitB s[k].toNat with
  | true=>
    simp only [digitB,Bool.and_eq_true,decide_eq_true_eq] at hd
    exact one_dec s k w hk hs hl hd.1 hd.2
  | false=>
  by_cases h2:s[k].toNat=34
  · exact one_quo s k w hk hs hl h2
  by_cases h3:s[k].toNat=35
  · exact one_rem1 s k w hk hs hl h3
  have h47:∀ b:UInt8,[47,b].isPrefixOf (s.data.toList.drop k)=true->s[k].toNat=47:=by
    intro b h
    obtain ⟨t,ht⟩:=pre2 h;rw [Num.drop_byte s k hk] at ht;injection ht with h4 _
    rw [h4];rfl
  cases hp:List.isPrefixOf [47,47] (s.data.toList.drop k) with
  | true=>exact one_rem2 s k w hk hs hl (h47 _ hp) hp
  | false=>
  cases hp2:List.isPrefixOf [47,42] (s.data.toList.drop k) with
  | true=>exact one_aside s k w hk hs hl (h47 _ hp2) hp hp2
  | false=>exact one_sign s k w hk hs hl hd h1 h2 h3 hp hp2
end Go.Proofs.YtliekocamnklfaaGreatDoor.Lex
