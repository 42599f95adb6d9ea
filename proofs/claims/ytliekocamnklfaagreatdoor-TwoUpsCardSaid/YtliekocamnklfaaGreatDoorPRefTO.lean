/- tabulariumref11: Letter, Blank, is, end, token, comment. -/
import Derived.Test.YtliekocamnklfaaGreatDoorPAdA
import Derived.Test.YtliekocamnklfaaGreatDoorPRefOB
import Derived.Lib.IndexMore
set_option linter.unusedVariables false
set_option linter.unusedSimpArgs false
set_option maxRecDepth 100000
set_option maxHeartbeats 4000000
namespace Go.Proofs.YtliekocamnklfaaGreatDoor.Lex
open Go.RowKit Utf Strs
theorem rletter_any (c:Nat) (w:World):Calls Tryz.prog 316 #[.int .u8 c] w fun e w'=>e=.returned (.bool (letterB c))/\w=w':=by
  by_cases h1:97<=c/\c<=122
  · have HV:Hid (letterB c=true):=by rw [Hid];simp [letterB,h1]
    obtain ⟨h1,h2⟩:=h1;have d1:decide ((c:Int)<=122)=true:=by rw [decide_eq_true_eq];omega
    go_enter Tryz.func316,Tryz.ntmps316
    go_wp2_with fail
    go_ret
    exact ⟨by rw [HV.out];rfl,rfl⟩
  by_cases h2:65<=c/\c<=90
  · have HV:Hid (letterB c=true):=by rw [Hid];simp [letterB,h2]
    obtain ⟨h2,h3⟩:=h2;have d0:decide (97<=(c:Int))=false:=by rw [decide_eq_false_iff_not];omega
    have d1:decide ((c:Int)<=90)=true:=by rw [decide_eq_true_eq];omega
    clear h1;go_enter Tryz.func316,Tryz.ntmps316
    go_wp2_with fail
    go_ret
    exact ⟨by rw [HV.out];rfl,rfl⟩
  · have HV:Hid (letterB c=((c:Int) == 95)):=by
      rw [Hid,letterB];have e1:(decide (65<=c) && decide (c<=90))=false:=by rw [Bool.and_eq_false_iff,decide_eq_false_iff_not,decide_eq_false_iff_not];omega
      have e2:(decide (97<=c) && decide (c<=122))=false:=by rw [Bool.and_eq_false_iff,decide_eq_false_iff_not,decide_eq_false_iff_not];omega
      rw [e1,e2,Bool.eq_iff_iff];simp;omega
    have hc:(decide (97<=(c:Int))=false/\decide (65<=(c:Int))=false)∨(decide (97<=(c:Int))=true/\decide ((c:Int)<=122)=false/\decide (65<=(c:Int))=true/\decide ((c:Int)<=90)=false)∨(decide (97<=(c:Int))=false/\decide (65<=(c:Int))=true/\decide ((c:Int)<=90)=false):=by
      simp only [decide_eq_true_eq,decide_eq_false_iff_not];omega
    clear h1 h2;rcases hc with ⟨d1,d2⟩ | ⟨d1,d2,d3,d4⟩ | ⟨d1,d2,d3⟩
    all_goals
      go_enter Tryz.func316,Tryz.ntmps316
      go_wp2_with fail
      go_ret
      exact ⟨by rw [HV.out];rfl,rfl⟩
def blankN (c:Nat):Bool:=c == 32 || c == 9 || c == 13
theorem blank_eq (c:UInt8):blank c=blankN c.toNat:=by
  have h:∀ k:UInt8,(k == c)=(c.toNat == k.toNat):=fun k=>by
    rw [Bool.eq_iff_iff,beq_iff_eq,beq_iff_eq];exact ⟨fun e=>by rw [e],fun e=>(UInt8.toNat_inj.1 e).symm⟩
  unfold blank blankN;simp only [List.findIdx?_cons,List.findIdx?_nil,h]
  show _=(c.toNat == (32:UInt8).toNat || c.toNat == (9:UInt8).toNat || c.toNat == (13:UInt8).toNat);cases c.toNat == (32:UInt8).toNat <;> cases c.toNat == (9:UInt8).toNat <;> cases c.toNat == (13:UInt8).toNat <;> rfl
theorem rblank_any (c:Nat) (w:World):Calls Tryz.prog 303 #[.int .u8 c] w fun e w'=>e=.returned (.bool (blankN c))/\w=w':=by
  by_cases h1:c=32
  · have HV:Hid (blankN c=true):=by rw [Hid,h1];rfl
    have d1:((c:Int) == 32)=true:=by rw [beq_iff_eq];omega
    clear h1;go_enter Tryz.func303,Tryz.ntmps303
    go_wp2_with fail
    go_ret
    exact ⟨by rw [HV.out];rfl,rfl⟩
  have d1:((c:Int) == 32)=false:=by rw [beq_eq_false_iff_ne];omega
  by_cases h2:c=9
  · have HV:Hid (blankN c=true):=by rw [Hid,h2];rfl
    have d2:((c:Int) == 9)=true:=by rw [beq_iff_eq];omega
    clear h1 h2;go_enter Tryz.func303,Tryz.ntmps303
    go_wp2_with fail
    go_ret
    exact ⟨by rw [HV.out];rfl,rfl⟩
  have d2:((c:Int) == 9)=false:=by rw [beq_eq_false_iff_ne];omega
  have HV:Hid (blankN c=((c:Int) == 13)):=by
    rw [Hid,blankN,show (c == 32)=false by simpa using h1,show (c == 9)=false by simpa using h2,Bool.eq_iff_iff];simp;omega
  clear h1 h2;go_enter Tryz.func303,Tryz.ntmps303
  go_wp2_with fail
  go_ret
  exact ⟨by rw [HV.out];rfl,rfl⟩
theorem ris_any (s p:ByteArray) (k:Nat) (w:World) (hk:k<=s.size+16) (hs:s.size<=2147483648) (hp:p.size<=16) (hp0:0<p.size):Calls Tryz.prog 317 #[.string s,.int .i64 k,.string p] w fun e w'=>e=.returned (.bool (p.data.toList.isPrefixOf (s.data.toList.drop k)))/\w=w':=by
  obtain ⟨q,hq⟩:∃ q,k+p.size=q:=⟨_,rfl⟩;have hqq:(k:Int)+(p.size:Int)=(q:Int):=by omega
  by_cases hl:q<=s.size
  · have hkq:k<=q:=by omega
    have hx:(s.extract k q).data.toList=(s.data.toList.drop k).take p.size:=ext_data s k q p.size hq;have HV:Hid (p.data.toList.isPrefixOf (s.data.toList.drop k)=((s.extract k q).toList == p.toList)):=by
      rw [Hid,Lib.toList_data,Lib.toList_data,hx,Bool.eq_iff_iff,List.isPrefixOf_iff_prefix,beq_iff_eq];rw [show p.size=p.data.toList.length by simp];constructor
      · rintro ⟨t,ht⟩;rw [<-ht];simp
      · intro h
        have:=List.take_append_drop p.data.toList.length (s.data.toList.drop k);rw [h] at this;exact ⟨_,this⟩
    have d1:decide ((q:Int)<=(s.size:Int))=true:=by rw [decide_eq_true_eq];omega
    clear hq hx;go_enter Tryz.func317,Tryz.ntmps317
    go_wp2_with fail
    go_ret
    exact ⟨by rw [HV.out];rfl,rfl⟩
  · have HV:Hid (p.data.toList.isPrefixOf (s.data.toList.drop k)=false):=by
      rw [Hid,Bool.eq_false_iff];intro h
      have:=(List.isPrefixOf_iff_prefix.1 h).length_le;rw [List.length_drop,show p.data.toList.length=p.size by simp,show s.data.toList.length=s.size by simp] at this;omega
    have d1:decide ((q:Int)<=(s.size:Int))=false:=by rw [decide_eq_false_iff_not];omega
    clear hq;go_enter Tryz.func317,Tryz.ntmps317
    go_wp2_with fail
    go_ret
    exact ⟨by rw [HV.out];rfl,rfl⟩
def lend (l:List UInt8) (k:Nat):Nat:=k+(line (l.drop k)).length
theorem line_cons (c:UInt8) (t:List UInt8):line (c::t)=if c=10 then [] else c::line t:=by
  unfold line;rw [List.findIdx?_cons];by_cases h:c=10
  · rw [if_pos h];subst h;rfl
  · rw [if_neg h,show (c == 10)=false by simpa using h];simp only [Bool.false_eq_true,if_false]
    cases t.findIdx? (· == 10) with
    | none=>rfl
    | some i=>rfl
theorem lend_step (s:ByteArray) (k:Nat) (h:k<s.size):lend s.data.toList k=if s[k].toNat=10 then k else lend s.data.toList (k+1):=by
  unfold lend;rw [Num.drop_byte s k h,line_cons];by_cases hc:s[k].toNat=10
  · rw [if_pos hc,if_pos (UInt8.toNat_inj.1 hc)];rfl
  · rw [if_neg hc,if_neg (fun e=>hc (by rw [e];rfl))];simp;omega
theorem lend_le (s:ByteArray) (k:Nat) (h:k<=s.size):k<=lend s.data.toList k/\lend s.data.toList k<=s.size:=by
  unfold lend;have:=line_le (s.data.toList.drop k);rw [List.length_drop,show s.data.toList.length=s.size by simp] at this;omega
theorem rend_any (s:ByteArray) (k:Nat) (w:World) (hk:k<=s.size) (hs:s.size<=2147483648):Calls Tryz.prog 318 #[.string s,.int .i64 k] w fun e w'=>e=.returned (.int .i64 (lend s.data.toList k))/\w=w':=by
  go_enter Tryz.func318,Tryz.ntmps318
  go_wp2_with fail
  go_loop [1] (fun p1=>∃ i:Nat,p1=.int .i64 i/\i<=s.size/\Hid (lend s.data.toList k=lend s.data.toList i)) (fun p1=>s.size-(intOf p1).toNat)
  case atStart=>exact ⟨k,rfl,hk,rfl⟩
  case round=>
    obtain ⟨i,rfl,hi,hf⟩:=hrel;by_cases hlt:i<s.size
    · have hst:=lend_step s i hlt;by_cases hc:s[i].toNat=10
      · have HF:Hid (lend s.data.toList k=i):=by rw [Hid,hf.out,hst,if_pos hc]
        have hq:((s[i].toNat:Int) != 10)=false:=by rw [bne_eq_false_iff_eq];omega
        clear hst hc;go_wp2_with fail
        go_ret
        exact ⟨by rw [HF.out];rfl,rfl⟩
      · have HF:Hid (lend s.data.toList k=lend s.data.toList (i+1)):=by rw [Hid,hf.out,hst,if_neg hc]
        have hq:((s[i].toNat:Int) != 10)=true:=by rw [bne_iff_ne];omega
        clear hst hc;go_wp2_with fail
        go_round
        case rel=>exact ⟨i+1,by go_num,by omega,HF.out⟩
        case measure=>simp [intOf];omega
    · have HF:Hid (lend s.data.toList k=i):=by
        rw [Hid,hf.out,lend,List.drop_of_length_le (by simp;omega)];rfl
      go_wp2_with fail
      go_ret
      exact ⟨by rw [HF.out];rfl,rfl⟩
theorem heap_alloc_at (w:World) (o:Obj) {k:Nat} (h:k=w.heap.size):(w.alloc o).heap[k]?=some o:=by subst h;exact heap_alloc_new w o
def ToldOk (w:World) (x:Tok) (e:Ending) (w':World):Prop:=
  ∃ g,w.heap.size<=g/\e=.returned (.agg #[.slice (some ⟨g,0,none⟩) 1 1,.int .i64 0,.int .i64 0])/\w'.heap[g]?=some (.cells #[.int .i64 x.1,.string ⟨x.2.1.toArray⟩,.int .i64 x.2.2] 194 (0,0))/\Below w.heap.size w w'
def ToldErr (w:World) (p k:Nat) (e:Ending) (w':World):Prop:=
  e=.returned (.agg #[.slice none 0 0,.int .i64 p,.int .i64 k])/\Below w.heap.size w w'
theorem told3 {w w':World} {a b c:Value} (h:Below w.heap.size w w'):Below w.heap.size w (((w'.setCell ⟨w.heap.size,0,none⟩ a).setCell ⟨w.heap.size,1,none⟩ b).setCell ⟨w.heap.size,2,none⟩ c):=
  ((h.setCell (p:=⟨w.heap.size,0,none⟩) (Nat.le_refl _) _).setCell (p:=⟨w.heap.size,1,none⟩) (Nat.le_refl _) _).setCell (p:=⟨w.heap.size,2,none⟩) (Nat.le_refl _) _
theorem rtoken_any (s:ByteArray) (k a n:Nat) (w:World) (hk:k+n<=s.size) (hs:s.size<=2147483648):Calls Tryz.prog 315 #[.string s,.int .i64 k,.int .i64 a,.int .i64 n] w (ToldOk w (a,(s.data.toList.drop k).take n,k)):=by
  obtain ⟨q,hq⟩:∃ q,k+n=q:=⟨_,rfl⟩;have hqq:(k:Int)+(n:Int)=(q:Int):=by omega
  have hkq:k<=q:=by omega
  have hqs:q<=s.size:=by omega
  have HX:Hid (s.extract k q=⟨((s.data.toList.drop k).take n).toArray⟩):=by
    rw [Hid];exact Utf.str_of _ _ (ext_data s k q n hq)
  clear hq hk;go_enter Tryz.func315,Tryz.ntmps315
  go_wp2_with fail
  refine bodyPost_ret (v:=.agg #[.slice (some ⟨w.heap.size+1,0,none⟩) 1 1,.int .i64 0,.int .i64 0]) (by simp [results,Tryz.results315,go_sem]) rfl ⟨w.heap.size+1,by omega,rfl,?_,?_⟩
  · rw [HX.out];exact heap_alloc_at _ _ (by simp)
  · exact ((Below.refl _ _).alloc (Nat.le_refl _) _).alloc (by simp) _
def ComPost (m:List UInt8) (k a:Nat) (w:World) (e:Ending) (w':World):Prop:=
  if (within m).2≠0 then ToldErr w (k+(within m).1) (within m).2 e w' else ToldOk w (a,m,k) e w'
theorem within_ctl {m:List UInt8} {x:Nat × Nat} (h:(scalAt m 0).find? ctl=some x):within m=(x.1,3):=by unfold within;rw [h]
theorem within_bad {m:List UInt8} {p:Nat} (h:(scalAt m 0).find? ctl=none) (h2:bad (m.length+1) m 0=some p):within m=(p,7):=by unfold within;rw [h,h2]
theorem within_ok {m:List UInt8} (h:(scalAt m 0).find? ctl=none) (h2:bad (m.length+1) m 0=none):within m=(0,0):=by unfold within;rw [h,h2]
theorem rcomment_any (s:ByteArray) (k t a:Nat) (w:World) (hkt:k<=t) (ht:t<=s.size) (hs:s.size<=2147483648):Calls Tryz.prog 319 #[.string s,.int .i64 k,.int .i64 t,.int .i64 a] w (ComPost ((s.data.toList.drop k).take (t-k)) k a w):=by
  obtain ⟨m,hm⟩:∃ m,(s.data.toList.drop k).take (t-k)=m:=⟨_,rfl⟩;rw [hm];have hml:m.length=t-k:=by rw [<-hm,List.length_take,List.length_drop];simp;omega
  have hxd:∀ i,(s.extract 0 t).data.toList.drop (k+i)=m.drop i:=by
    intro i
    rw [Lib.extract_data,<-hm,List.drop_take,List.drop_take,List.drop_drop];rw [List.drop_drop,Nat.zero_add,show t-0-(k+i)=t-k-i by omega]
  have hxs:(s.extract 0 t).size=t:=by rw [ByteArray.size_extract];omega
  have HXD:=Hid.out (p:=Hid _) hxd;clear hxd;have HXS:=Hid.out (p:=Hid _) hxs;clear hxs;have HML:=Hid.out (p:=Hid _) hml;clear hml;have HX:Hid (s.extract k t=⟨m.toArray⟩):=by
    rw [Hid];exact Utf.str_of _ _ (by rw [<-hm];exact ext_data s k t (t-k) (by omega))
  clear hm;go_enter Tryz.func319,Tryz.ntmps319
  go_wp2_with fail
  go_loopw [9] (fun p9 wr=>∃ (p i:Nat),p9=.int .i64 p/\Hid (p=k+i)/\p<=t/\Hid ((scalAt m 0).find? ctl=(scalAt m i).find? ctl)/\Hid (bad (m.length+1) m 0=bad (m.length-i+1) (m.drop i) i)/\Hid (wr.heap[w.heap.size]?=some (.cells #[.slice none 0 0,.int .i64 0,.int .i64 0] 254 (0,0)))/\Hid (Below w.heap.size w wr)) (fun p9 _=>t-(intOf p9).toNat)
  case atStart=>exact ⟨k,0,rfl,rfl,hkt,rfl,rfl,heap_alloc_new _ _,(Below.refl _ _).alloc (Nat.le_refl _) _⟩
  case round=>
    obtain ⟨p,i,rfl,hp,hpt,hf,hbd,hH,hB⟩:=hrel;have c0:=cell_of hH.out 0;have c1:=cell_of hH.out 1;have c2:=cell_of hH.out 2;have f0:=frozen_of hH.out 0;have f1:=frozen_of hH.out 1;have f2:=frozen_of hH.out 2;have hlw:w.heap.size<wr.heap.size:=heap_lt hH.out;by_cases hlt:p<t
    · have hi:i<m.length:=by rw [HML.out];have:=hp.out;omega
      have hst:=scalAt_step m i (by omega);have hbst:=badZ_step m i (by omega);rw [if_neg (by omega)] at hst hbst;have ho:=fun w=>rone_any (s.extract 0 t) p w (by rw [HXS.out];omega) (by rw [HXS.out];omega);unfold ROne at ho;rw [show (s.extract 0 t).data.toList.drop p=m.drop i by rw [hp.out];exact HXD.out i] at ho;have h1:=(one_size_le (m.drop i)).1;rw [List.length_drop] at h1;generalize one (m.drop i)=o at *;obtain ⟨c,z⟩:=o;simp only at hst hbst ho h1
      have HO:=Hid.out (p:=Hid _) ho;clear ho;by_cases hz:z=0
      · subst hz;rw [if_pos rfl] at hst hbst;have HW:Hid (within m=(i,7)):=within_bad (by rw [hf.out,hst];rfl) (by rw [hbd.out,hbst]);have HP:=hp.out;clear hst hbst h1;have HI:=Hid.out (p:=Hid _) hi;clear hi;have HPP:=Hid.out (p:=Hid _) HP;clear HP;go_wp2_with fail
        refine (Calls.mono (HO.out _) ?_);rintro e w2 ⟨rfl,hb2⟩;have R:Hid (w2.heap[w.heap.size]?=some (.cells #[.slice none 0 0,.int .i64 0,.int .i64 0] 254 (0,0))):=(hb2.block _ hlw).trans hH.out;have B:Hid (Below w.heap.size w w2):=hB.out.trans (hb2.mono hB.out.size);clear hb2 c0 c1 c2 f0 f1 f2;have c0:=cell_of R.out 0;have c1:=cell_of R.out 1;have c2:=cell_of R.out 2;have f0:=frozen_of R.out 0;have f1:=frozen_of R.out 1;have f2:=frozen_of R.out 2;go_wp2_with fail
        refine bodyPost_ret (v:=.agg #[.slice none 0 0,.int .i64 p,.int .i64 7]) (by simp [results,Tryz.results319,go_sem,c0,c1,c2]) rfl ?_;unfold ComPost;rw [HW.out,if_pos (by simp),<-HPP.out];exact ⟨rfl,told3 B.out⟩
      · rw [if_neg hz] at hst hbst;have hzb:((z:Int) == 0)=false:=by rw [beq_eq_false_iff_ne];omega
        cases hct:ctl (i,c)
        · have HF:Hid ((scalAt m 0).find? ctl=(scalAt m (i+z)).find? ctl):=by
            rw [Hid,hf.out,hst,List.find?_cons,hct]
          have HBD:Hid (bad (m.length+1) m 0=bad (m.length-(i+z)+1) (m.drop (i+z)) (i+z)):=by rw [Hid,hbd.out,hbst]
          have HZ:Hid (p+z=k+(i+z)):=by have:=hp.out;unfold Hid;omega
          have HL:Hid (p+z<=t):=by have:=HML.out;have:=hp.out;unfold Hid;omega
          have hc9:(decide ((c:Int)<32)=false)∨(decide ((c:Int)<32)=true/\((c:Int) != 9)=false):=by
            unfold ctl at hct;rw [Bool.and_eq_false_iff,decide_eq_false_iff_not,bne_eq_false_iff_eq] at hct;simp only at hct
            by_cases h:c<32
            · right;rw [decide_eq_true_eq,bne_eq_false_iff_eq];omega
            · left;rw [decide_eq_false_iff_not];omega
          have hpz:=HL.out;clear hst hbst hct;have HI:=Hid.out (p:=Hid _) hi;clear hi;rcases hc9 with e1 | ⟨e1,e2⟩
          all_goals
            go_wp2_with fail
            refine (Calls.mono (HO.out _) ?_);rintro e w2 ⟨rfl,hb2⟩;have R:Hid (w2.heap[w.heap.size]?=some (.cells #[.slice none 0 0,.int .i64 0,.int .i64 0] 254 (0,0))):=(hb2.block _ hlw).trans hH.out;have B:Hid (Below w.heap.size w w2):=hB.out.trans (hb2.mono hB.out.size);clear hb2 c0 c1 c2 f0 f1 f2;go_wp2_with fail
            go_roundw
            case rel=>exact ⟨p+z,i+z,by go_num,HZ.out,HL.out,HF.out,HBD.out,R.out,B.out⟩
            case measure=>have:=HL.out;simp [intOf];omega
        · have HW:Hid (within m=(i,3)):=within_ctl (x:=(i,c)) (by rw [hf.out,hst,List.find?_cons,hct]);have HPP:=Hid.out (p:=Hid _) hp.out;have hc9:decide ((c:Int)<32)=true/\((c:Int) != 9)=true:=by
            unfold ctl at hct;rw [Bool.and_eq_true,decide_eq_true_eq,bne_iff_ne] at hct;simp only at hct
            rw [decide_eq_true_eq,bne_iff_ne];omega
          obtain ⟨e1,e2⟩:=hc9;clear hst hbst hct h1;have HI:=Hid.out (p:=Hid _) hi;clear hi;go_wp2_with fail
          refine (Calls.mono (HO.out _) ?_);rintro e w2 ⟨rfl,hb2⟩;have R:Hid (w2.heap[w.heap.size]?=some (.cells #[.slice none 0 0,.int .i64 0,.int .i64 0] 254 (0,0))):=(hb2.block _ hlw).trans hH.out;have B:Hid (Below w.heap.size w w2):=hB.out.trans (hb2.mono hB.out.size);clear hb2 c0 c1 c2 f0 f1 f2;have c0:=cell_of R.out 0;have c1:=cell_of R.out 1;have c2:=cell_of R.out 2;have f0:=frozen_of R.out 0;have f1:=frozen_of R.out 1;have f2:=frozen_of R.out 2;go_wp2_with fail
          refine bodyPost_ret (v:=.agg #[.slice none 0 0,.int .i64 p,.int .i64 3]) (by simp [results,Tryz.results319,go_sem,c0,c1,c2]) rfl ?_;unfold ComPost;rw [HW.out,if_pos (by simp),<-HPP.out];exact ⟨rfl,told3 B.out⟩
    · have hil:i=m.length:=by rw [HML.out];have:=hp.out;omega
      have HW:Hid (within m=(0,0)):=by
        refine within_ok ?_ ?_
        · rw [hf.out,hil,scalAt_step m m.length (Nat.le_refl _),if_pos rfl];rfl
        · rw [hbd.out,hil,badZ_step m m.length (Nat.le_refl _),if_pos rfl]
      clear hil;go_wp2_with fail
      rw [HX.out];go_wp2_with fail
      have hb:(((((wr.setCell ⟨w.heap.size,0,none⟩ (.slice (some ⟨wr.heap.size,0,none⟩) 1 1)).setCell ⟨w.heap.size,1,none⟩ (.int .i64 0)).setCell ⟨w.heap.size,2,none⟩ (.int .i64 0)).alloc (.cells #[.int .i64 a,.string ⟨m.toArray⟩,.int .i64 k] 194)).heap[w.heap.size]?=some (.cells #[.slice (some ⟨wr.heap.size,0,none⟩) 1 1,.int .i64 0,.int .i64 0] 254 (0,0))):=heap_alloc_old (heap_set_same (heap_set_same (heap_set_same hH.out _) _) _);have e0:=cell_of hb 0;have e1:=cell_of hb 1;have e2:=cell_of hb 2;refine bodyPost_ret (v:=.agg #[.slice (some ⟨wr.heap.size,0,none⟩) 1 1,.int .i64 0,.int .i64 0]) (by simp [results,Tryz.results319,go_sem,e0,e1,e2]) rfl ?_;unfold ComPost;rw [HW.out,if_neg (by simp)];exact ⟨wr.heap.size,by omega,rfl,heap_alloc_at _ _ (by simp),(told3 hB.out).alloc (by simp;omega) _⟩
open Go (Lib.index)
theorem line_take (l:List UInt8):line l=l.take (line l).length:=by
  unfold line;split
  · rw [List.length_take];exact (List.take_eq_take_iff.2 (by omega))
  · rw [List.take_length]
theorem line_next (l:List UInt8) (h:(line l).length<l.length):l[(line l).length]=10:=by
  have key:∀ n,n=(line l).length->∀ hl:n<l.length,l[n]=10:=by
    unfold line
    cases hf:l.findIdx? (· == 10) with
    | some i=>
      obtain ⟨h1,h2,_⟩:=List.findIdx?_eq_some_iff_getElem.1 hf;intro n hn hl
      have:n=i:=by rw [hn];show (l.take i).length=i;rw [List.length_take];omega
      subst this
      simpa using h2
    | none=>
      intro n hn hl
      exfalso
      have:n=l.length:=hn;omega
  exact key _ rfl h
theorem line_clean (l:List UInt8):∀ c∈line l,c≠10:=by
  intro c hc
  unfold line at hc;split at hc
  · rename_i i hi
    obtain ⟨h1,h2,h3⟩:=List.findIdx?_eq_some_iff_getElem.1 hi;obtain ⟨j,hj,rfl⟩:=List.getElem_of_mem hc;rw [List.length_take] at hj;have:=h3 j (by omega);rw [List.getElem_take]
    simpa using this
  · rename_i hn
    have:=List.findIdx?_eq_none_iff.1 hn c hc
    simpa using this
theorem pre2 {l:List UInt8} {a b:UInt8} (h:[a,b].isPrefixOf l=true):∃ t,l=a::b::t:=by
  obtain ⟨t,ht⟩:=List.isPrefixOf_iff_prefix.1 h;exact ⟨t,ht.symm⟩
theorem aside_at (l:List UInt8) (i:Nat) (h2:2<=i) (hi:[42,47].isPrefixOf ((line l).drop i)=true) (hno:∀ j,2<=j->j<i->[42,47].isPrefixOf ((line l).drop j)=false):aside l=comment 7 (l.take (i+2)):=by
  have hlen:i+2<=(line l).length:=by
    have:=(List.isPrefixOf_iff_prefix.1 hi).length_le;rw [List.length_drop] at this;simp at this;omega
  have hll:=line_le l;have hdl:∀ j,(line l).drop j=(l.drop j).take ((line l).length-j):=by
    intro j
    conv=>lhs;rw [line_take l]
    rw [List.drop_take]
  have hin:[42,47].isPrefixOf (l.drop i)=true:=by
    rw [hdl] at hi;rw [List.isPrefixOf_iff_prefix] at hi ⊢;exact hi.trans (List.take_prefix _ _)
  have hidx:Go.Lib.index (l.drop 2) [42,47]=((i-2:Nat):Int):=by
    apply Go.Lib.index_first
    · rw [List.length_drop];omega
    · show List.isPrefixOf [42,47] ((l.drop 2).drop (i-2))=true;rw [List.drop_drop,show 2+(i-2)=i by omega];exact hin
    · intro j hj
      show List.isPrefixOf [42,47] ((l.drop 2).drop j)=false;rw [List.drop_drop];have:=hno (2+j) (by omega) (by omega);rw [Bool.eq_false_iff] at this ⊢;intro h
      apply this
      rw [hdl];obtain ⟨t,ht⟩:=pre2 h;rw [ht];have:(line l).length-(2+j)=((line l).length-(2+j)-2)+2:=by omega
      rw [this];rfl
  unfold aside;rw [hidx,if_neg (by omega)];rw [show ((i-2:Nat):Int).toNat=i-2 by omega,if_neg]
  · rw [show i-2+4=i+2 by omega]
  · intro h
    obtain ⟨m,hm⟩:=Option.isSome_iff_exists.1 h;obtain ⟨h3,h4,_⟩:=List.findIdx?_eq_some_iff_getElem.1 hm;have hmem:(l.take (i-2+2))[m]∈line l:=by
      rw [line_take l];have h5:=h3;rw [List.length_take] at h5;rw [List.getElem_take];have:l[m]=(l.take (line l).length)[m]'(by rw [List.length_take];omega):=by rw [List.getElem_take]
      rw [this];exact List.getElem_mem _
    exact line_clean l _ hmem (by simpa using h4)
theorem aside_none (l:List UInt8) (hno:∀ j,2<=j->j<(line l).length->[42,47].isPrefixOf ((line l).drop j)=false) (h2:2<=(line l).length):aside l=(0,0,0,2):=by
  have hll:=line_le l;have hdl:∀ j,(line l).drop j=(l.drop j).take ((line l).length-j):=by
    intro j
    conv=>lhs;rw [line_take l]
    rw [List.drop_take]
  unfold aside;rcases Go.Lib.index_spec (l.drop 2) [42,47] with ⟨h,_⟩ | ⟨i,h,hil,ho,_⟩
  · rw [if_pos (by omega)]
  · rw [h,if_neg (by omega),if_pos];rw [show ((i:Nat):Int).toNat=i by omega];have ho':[42,47].isPrefixOf (l.drop (2+i))=true:=by
      have:List.isPrefixOf [42,47] ((l.drop 2).drop i)=true:=ho
      rwa [List.drop_drop] at this
    obtain ⟨t,ht⟩:=pre2 ho';have hlt:2+i+2<=l.length:=by
      have:=congrArg List.length ht;rw [List.length_drop] at this;simp at this;omega
    have hshort:(line l).length<2+i+2:=by
      rcases Nat.lt_or_ge (line l).length (2+i+2) with h1 | h1
      · exact h1
      · exfalso
        have:=hno (2+i) (by omega) (by omega);rw [hdl,ht,show (line l).length-(2+i)=((line l).length-(2+i)-2)+2 by omega] at this;cases this
    have hnl:=line_next l (by omega);have hne:∀ j (hj:j<l.length),(j=2+i∨j=2+i+1)->l[j]≠10:=by
      intro j hj e
      have hg:l[j]?=(l.drop (2+i))[j-(2+i)]?:=by rw [List.getElem?_drop];congr 1;omega
      rw [ht] at hg;intro e10
      rw [List.getElem?_eq_getElem hj,e10] at hg;rcases e with e | e
      · rw [show j-(2+i)=0 by omega] at hg;simp at hg
      · rw [show j-(2+i)=1 by omega] at hg;simp at hg
    have hlt2:(line l).length<i+2:=by
      rcases Nat.lt_or_ge (line l).length (i+2) with h1 | h1
      · exact h1
      · exfalso
        exact hne _ (by omega) (by omega) hnl
    cases hf:(l.take (i+2)).findIdx? (· == 10) with
    | some _=>rfl
    | none=>
      exfalso
      have hmem:l[(line l).length]∈l.take (i+2):=by
        have:l[(line l).length]=(l.take (i+2))[(line l).length]'(by rw [List.length_take];omega):=by rw [List.getElem_take]
        rw [this];exact List.getElem_mem _
      have:=List.findIdx?_eq_none_iff.1 hf _ hmem;rw [hnl] at this;simp at this
def trimB (l:List UInt8):List UInt8:=(l.reverse.dropWhile ([32,9,13].contains ·)).reverse
theorem contains_blank (c:UInt8):([32,9,13]:List UInt8).contains c=blankN c.toNat:=by
  rw [<-blank_eq];unfold blank;rw [Bool.eq_iff_iff,List.contains_iff_mem];rw [List.findIdx?_isSome,List.any_eq_true];constructor
  · intro h;exact ⟨c,h,by simp⟩
  · rintro ⟨x,h1,h2⟩;have:x=c:=by simpa using h2
    rw [<-this];exact h1
theorem trimB_snoc (l:List UInt8) (c:UInt8):trimB (l++[c])=if blankN c.toNat=true then trimB l else l++[c]:=by
  unfold trimB;rw [List.reverse_append,List.reverse_singleton,List.singleton_append,List.dropWhile_cons,contains_blank];by_cases h:blankN c.toNat=true
  · rw [if_pos h,if_pos h]
  · rw [if_neg h,if_neg h];simp
theorem remark_trim (l:List UInt8):remark l=comment 6 (trimB (line l)):=rfl
end Go.Proofs.YtliekocamnklfaaGreatDoor.Lex
