/- tabulariumref11.one: the token at a place. -/
import Derived.Test.YtliekocamnklfaaGreatDoorPRefTO
import Derived.Test.YtliekocamnklfaaGreatDoorPRefPS
import Derived.Test.YtliekocamnklfaaGreatDoorPNumE
import Derived.Deep.CutBlock
import Derived.Outline
set_option linter.unusedVariables false
set_option linter.unusedSimpArgs false
set_option maxRecDepth 100000
set_option maxHeartbeats 4000000
namespace Go.Proofs.YtliekocamnklfaaGreatDoor.Lex
open Go.RowKit Utf Strs
def OPost (l:List UInt8) (k:Nat) (x:Nx) (w:World) (e:Ending) (w':World):Prop:=
  if x.2.2.2≠0 then ToldErr w (k+x.2.2.1) x.2.2.2 e w' else ToldOk w (x.1,(l.drop k).take x.2.1,k) e w'
theorem post_ok {l:List UInt8} {k a n:Nat} {w:World} {e:Ending} {w':World} (h:ToldOk w (a,(l.drop k).take n,k) e w'):OPost l k (a,n,0,0) w e w':=by
  unfold OPost;rw [if_neg (by simp)];exact h
theorem post_err {l:List UInt8} {k c d:Nat} {w:World} {e:Ending} {w':World} (hd:d≠0) (h:ToldErr w (k+c) d e w'):OPost l k (0,0,c,d) w e w':=by
  unfold OPost;rw [if_pos (by simpa using hd)];exact h
theorem one_ret {s:ByteArray} {k:Nat} {w w':World} {tm:Array Value} {a b c:Value} {x:Nx} (hb:w'.heap[w.heap.size]?=some (.cells #[a,b,c] 254 (0,0)))
    (hp:OPost s.data.toList k x w (.returned (.agg #[a,b,c])) w')
    (h2:tm[4]?=some (.pointer (some ⟨w.heap.size,0,none⟩))) :
    bodyPost Tryz.prog Tryz.f304 (OPost s.data.toList k x w) Exit.ret { tmps:=tm,defers:=[] } w':=by
  have c0:=cell_of hb 0;have c1:=cell_of hb 1;have c2:=cell_of hb 2;refine bodyPost_ret (v:=.agg #[a,b,c]) ?_ rfl hp;simp [results,Tryz.results304,go_sem,h2,c0,c1,c2]
def Fresh (w w1:World):Prop:=w1.heap[w.heap.size]?=some (.cells #[.slice none 0 0,.int .i64 0,.int .i64 0] 254 (0,0))/\Below w.heap.size w w1
theorem Fresh.new (w:World):Fresh w (w.alloc (.cells #[.slice none 0 0,.int .i64 0,.int .i64 0] 254)):=⟨heap_alloc_new _ _,(Below.refl _ _).alloc (Nat.le_refl _) _⟩
theorem Fresh.on {w w1 w2:World} (h:Fresh w w1) (hb:Below w1.heap.size w1 w2):Fresh w w2:=⟨(hb.block _ (heap_lt h.1)).trans h.1,h.2.trans (hb.mono h.2.size)⟩
theorem Fresh.alloc {w w1:World} (h:Fresh w w1) (o:Obj):Fresh w (w1.alloc o):=⟨heap_alloc_old h.1,h.2.alloc h.2.size _⟩
theorem Fresh.put {w w1:World} (h:Fresh w w1) (a b c:Value):(((w1.setCell ⟨w.heap.size,0,none⟩ a).setCell ⟨w.heap.size,1,none⟩ b).setCell ⟨w.heap.size,2,none⟩ c).heap[w.heap.size]?=some (.cells #[a,b,c] 254 (0,0)):=
  heap_set_same (heap_set_same (heap_set_same h.1 _) _) _
theorem far3 {w1:World} {p g:Nat} {a b c:Value} {o:Obj} (h:w1.heap[g]?=some o) (hg:g≠p):(((w1.setCell ⟨p,0,none⟩ a).setCell ⟨p,1,none⟩ b).setCell ⟨p,2,none⟩ c).heap[g]?=some o:=
  heap_set_other (heap_set_other (heap_set_other h hg _) hg _) hg _
theorem one_line (s:ByteArray) (k:Nat) (w:World) (hk:k<s.size) (hs:s.size<=2000000) (h:s[k].toNat=10):Calls Tryz.prog 304 #[.string s,.int .i64 k] w (OPost s.data.toList k (next (s.data.toList.drop k)) w):=by
  have hb0:byt (s.data.toList.drop k) 0=s[k].toNat:=byt_drop0 s k hk;have HN:Hid (next (s.data.toList.drop k)=(5,1,0,0)):=by
    rw [Hid,next,hb0,h];rfl
  have q10:((s[k].toNat:Int) == 10)=true:=by rw [beq_iff_eq];omega
  clear hb0 h;rw [HN.out];have F0:Hid (Fresh w (w.alloc (.cells #[.slice none 0 0,.int .i64 0,.int .i64 0] 254))):=Fresh.new w;go_enter Tryz.func304,Tryz.ntmps304
  go_wp2_with fail
  refine (rtoken_any s k 5 1 _ (by omega) (by omega)).mono ?_;rintro e w2 ⟨g,hg,rfl,hx,hb2⟩;have F2:Hid (Fresh w w2):=Fresh.on F0.out hb2;have HG:Hid (g≠w.heap.size):=by have:=heap_lt (F0.out).1;have h':=hg;(try simp at h');unfold Hid;omega
  have HX:=Hid.out (p:=Hid _) hx;have GL:Hid (w.heap.size<=g):=by have:=heap_lt (F0.out).1;have h':=hg;(try simp at h');unfold Hid;omega
  clear hx hb2;have c0:=cell_of F2.out.1 0;have c1:=cell_of F2.out.1 1;have c2:=cell_of F2.out.1 2;have f0:=frozen_of F2.out.1 0;have f1:=frozen_of F2.out.1 1;have f2:=frozen_of F2.out.1 2;go_wp2_with fail
  exact one_ret (F2.out.put _ _ _) (by exact post_ok ⟨g,GL.out,rfl,far3 HX.out HG.out,told3 F2.out.2⟩) rfl
theorem one_ident (s:ByteArray) (k:Nat) (w:World) (hk:k<s.size) (hs:s.size<=2000000) (h:letterB s[k].toNat=true):Calls Tryz.prog 304 #[.string s,.int .i64 k] w (OPost s.data.toList k (next (s.data.toList.drop k)) w):=by
  have hb0:byt (s.data.toList.drop k) 0=s[k].toNat:=byt_drop0 s k hk;have HN:Hid (next (s.data.toList.drop k)=(1,ident (s.data.toList.drop k),0,0)):=by
    rw [Hid,next,hb0,if_pos h]
  have q10:((s[k].toNat:Int) == 10)=false:=by
    rw [beq_eq_false_iff_ne];intro e;have:s[k].toNat=10:=by omega
    rw [this] at h;cases h
  have HL:=Hid.out (p:=Hid _) h;clear hb0 h;rw [HN.out];have F0:Hid (Fresh w (w.alloc (.cells #[.slice none 0 0,.int .i64 0,.int .i64 0] 254))):=Fresh.new w;go_enter Tryz.func304,Tryz.ntmps304
  go_wp2_with fail
  refine (rletter_any s[k].toNat _).mono ?_;rintro e w' ⟨rfl,rfl⟩;rw [HL.out];have F1:=Hid.out (p:=Hid _) F0.out;clear F0;go_wp2_with fail
  go_loop [5] (fun p5=>∃ n:Nat,1<=n/\k+n<=s.size/\p5=.int .i64 n/\Hid (ident (s.data.toList.drop k)=n+((s.data.toList.drop (k+n)).takeWhile inId).length)) (fun p5=>s.size-(intOf p5).toNat)
  case atStart=>exact ⟨1,Nat.le_refl _,by omega,rfl,by rw [Hid,ident,List.drop_drop]⟩
  case round=>
    obtain ⟨n,h1,hn,rfl,hid⟩:=hrel;obtain ⟨q,hq⟩:∃ q,k+n=q:=⟨_,rfl⟩;have hqq:(k:Int)+(n:Int)=(q:Int):=by omega
    rw [hq] at hid;have hqs:q<=s.size:=by omega
    have HQ:=Hid.out (p:=Hid _) hq;by_cases hlt:q<s.size
    · have hd2:decide ((q:Int)<(s.size:Int))=true:=by rw [decide_eq_true_eq];omega
      have hcons:Hid (s.data.toList.drop q=s[q]::s.data.toList.drop (q+1)):=Num.drop_byte s q hlt;have hgo:inId s[q]=true->Hid (ident (s.data.toList.drop k)=n+1+((s.data.toList.drop (k+(n+1))).takeWhile inId).length):=by
        intro h;rw [Hid,hid.out,hcons.out,List.takeWhile_cons,if_pos h,show k+(n+1)=q+1 by omega];simp;omega
      have hno:inId s[q]=false->Hid (ident (s.data.toList.drop k)=n):=by
        intro h;rw [Hid,hid.out,hcons.out,List.takeWhile_cons,if_neg (by rw [h];decide)];rfl
      clear hq hn;cases hl:letterB s[q].toNat
      · by_cases c1:48<=s[q].toNat
        · by_cases c2:s[q].toNat<=57
          · have d1:decide (48<=(s[q].toNat:Int))=true:=by rw [decide_eq_true_eq];omega
            have d2:decide ((s[q].toNat:Int)<=57)=true:=by rw [decide_eq_true_eq];omega
            have HF:=hgo (by unfold inId digitB;rw [hl];simp [c1,c2]);have HL2:=Hid.out (p:=Hid _) hl;clear hgo hno hl c1 c2;go_wp2_with fail
            refine (rletter_any s[q].toNat _).mono ?_;rintro e w' ⟨rfl,rfl⟩;rw [HL2.out];go_wp2_with fail
            go_round
            case rel=>exact ⟨n+1,by omega,by have:=HQ.out;omega,by go_num,HF.out⟩
            case measure=>have:=HQ.out;simp [intOf];omega
          · have d1:decide (48<=(s[q].toNat:Int))=true:=by rw [decide_eq_true_eq];omega
            have d2:decide ((s[q].toNat:Int)<=57)=false:=by rw [decide_eq_false_iff_not];omega
            have HF:=hno (by unfold inId digitB;rw [hl];simp [c2]);have HL2:=Hid.out (p:=Hid _) hl;clear hgo hno hl c1 c2;go_wp2_with fail
            refine (rletter_any s[q].toNat _).mono ?_;rintro e w' ⟨rfl,rfl⟩;rw [HL2.out];go_wp2_with fail
            refine (rtoken_any s k 1 n _ (by have:=HQ.out;omega) (by omega)).mono ?_;rintro e w2 ⟨g,hg,rfl,hx,hb2⟩;have F2:Hid (Fresh w w2):=Fresh.on F1.out hb2;have HG:Hid (g≠w.heap.size):=by have:=heap_lt (F1.out).1;have h':=hg;(try simp at h');unfold Hid;omega
            have HX:=Hid.out (p:=Hid _) hx;have GL:Hid (w.heap.size<=g):=by have:=heap_lt (F1.out).1;have h':=hg;(try simp at h');unfold Hid;omega
            clear hx hb2;have c0:=cell_of F2.out.1 0;have c1:=cell_of F2.out.1 1;have c2:=cell_of F2.out.1 2;have f0:=frozen_of F2.out.1 0;have f1:=frozen_of F2.out.1 1;have f2:=frozen_of F2.out.1 2;go_wp2_with fail
            exact one_ret (F2.out.put _ _ _) (by rw [HF.out];exact post_ok ⟨g,GL.out,rfl,far3 HX.out HG.out,told3 F2.out.2⟩) rfl
        · have d1:decide (48<=(s[q].toNat:Int))=false:=by rw [decide_eq_false_iff_not];omega
          have HF:=hno (by unfold inId digitB;rw [hl];simp [c1]);have HL2:=Hid.out (p:=Hid _) hl;clear hgo hno hl c1;go_wp2_with fail
          refine (rletter_any s[q].toNat _).mono ?_;rintro e w' ⟨rfl,rfl⟩;rw [HL2.out];go_wp2_with fail
          refine (rtoken_any s k 1 n _ (by have:=HQ.out;omega) (by omega)).mono ?_;rintro e w2 ⟨g,hg,rfl,hx,hb2⟩;have F2:Hid (Fresh w w2):=Fresh.on F1.out hb2;have HG:Hid (g≠w.heap.size):=by have:=heap_lt (F1.out).1;have h':=hg;(try simp at h');unfold Hid;omega
          have HX:=Hid.out (p:=Hid _) hx;have GL:Hid (w.heap.size<=g):=by have:=heap_lt (F1.out).1;have h':=hg;(try simp at h');unfold Hid;omega
          clear hx hb2;have c0:=cell_of F2.out.1 0;have c1:=cell_of F2.out.1 1;have c2:=cell_of F2.out.1 2;have f0:=frozen_of F2.out.1 0;have f1:=frozen_of F2.out.1 1;have f2:=frozen_of F2.out.1 2;go_wp2_with fail
          exact one_ret (F2.out.put _ _ _) (by rw [HF.out];exact post_ok ⟨g,GL.out,rfl,far3 HX.out HG.out,told3 F2.out.2⟩) rfl
      · have HF:=hgo (by unfold inId;rw [hl];rfl);have HL2:=Hid.out (p:=Hid _) hl;clear hgo hno hl;go_wp2_with fail
        refine (rletter_any s[q].toNat _).mono ?_;rintro e w' ⟨rfl,rfl⟩;rw [HL2.out];go_wp2_with fail
        go_round
        case rel=>exact ⟨n+1,by omega,by have:=HQ.out;omega,by go_num,HF.out⟩
        case measure=>have:=HQ.out;simp [intOf];omega
    · have hd2:decide ((q:Int)<(s.size:Int))=false:=by rw [decide_eq_false_iff_not];omega
      have HF:Hid (ident (s.data.toList.drop k)=n):=by rw [Hid,hid.out,List.drop_of_length_le (by simp;omega)];rfl
      clear hq hn;go_wp2_with fail
      refine (rtoken_any s k 1 n _ (by have:=HQ.out;omega) (by omega)).mono ?_;rintro e w2 ⟨g,hg,rfl,hx,hb2⟩;have F2:Hid (Fresh w w2):=Fresh.on F1.out hb2;have HG:Hid (g≠w.heap.size):=by have:=heap_lt (F1.out).1;have h':=hg;(try simp at h');unfold Hid;omega
      have HX:=Hid.out (p:=Hid _) hx;have GL:Hid (w.heap.size<=g):=by have:=heap_lt (F1.out).1;have h':=hg;(try simp at h');unfold Hid;omega
      clear hx hb2;have c0:=cell_of F2.out.1 0;have c1:=cell_of F2.out.1 1;have c2:=cell_of F2.out.1 2;have f0:=frozen_of F2.out.1 0;have f1:=frozen_of F2.out.1 1;have f2:=frozen_of F2.out.1 2;go_wp2_with fail
      exact one_ret (F2.out.put _ _ _) (by rw [HF.out];exact post_ok ⟨g,GL.out,rfl,far3 HX.out HG.out,told3 F2.out.2⟩) rfl
theorem one_dec (s:ByteArray) (k:Nat) (w:World) (hk:k<s.size) (hs:s.size<=2000000) (hl:letterB s[k].toNat=false) (h1:48<=s[k].toNat) (h2:s[k].toNat<=57):Calls Tryz.prog 304 #[.string s,.int .i64 k] w (OPost s.data.toList k (next (s.data.toList.drop k)) w):=by
  have hb0:byt (s.data.toList.drop k) 0=s[k].toNat:=byt_drop0 s k hk;have q10:((s[k].toNat:Int) == 10)=false:=by rw [beq_eq_false_iff_ne];omega
  have HL:=Hid.out (p:=Hid _) hl;have d1:decide (48<=(s[k].toNat:Int))=true:=by rw [decide_eq_true_eq];omega
  have d2:decide ((s[k].toNat:Int)<=57)=true:=by rw [decide_eq_true_eq];omega
  have HN:Hid (next (s.data.toList.drop k)=decimal (s.data.toList.drop k)):=by
    rw [Hid,next,hb0,if_neg (by rw [hl];decide),if_pos (by simp [digitB,h1,h2])]
  have hsc:=fun w=>Num.rscan_any (s.extract k s.size) w (by rw [ByteArray.size_extract];omega);rw [ext_drop,Num.rscan_eq] at hsc;have hle:=Num.scan_le (s.data.toList.drop k);rw [List.length_drop,show s.data.toList.length=s.size by simp] at hle;have hdec:Hid (decimal (s.data.toList.drop k)=match Num.parse ((s.data.toList.drop k).take (Num.scan (s.data.toList.drop k))) with
    | .error e=>(0,0,0,e)
    | .ok _=>(2,Num.scan (s.data.toList.drop k),0,0)):=rfl
  generalize Num.scan (s.data.toList.drop k)=n at *;have HS:=Hid.out (p:=Hid _) hsc;obtain ⟨q,hq⟩:∃ q,k+n=q:=⟨_,rfl⟩;have hqq:(k:Int)+(n:Int)=(q:Int):=by omega
  have hkq:k<=q:=by omega
  have hqs:q<=s.size:=by omega
  have hx:=ext_data s k q n hq;have HQ:=Hid.out (p:=Hid _) hq;have hpa:=fun w=>Num.rparse_any (s.extract k q) w (by rw [ByteArray.size_extract];omega);unfold Num.RPPost at hpa;rw [hx,Num.rparse_eq _ (by rw [List.length_take,List.length_drop];simp;omega)] at hpa;clear hb0 hl h1 h2 hsc hle hq hx
  cases hp:Num.parse ((s.data.toList.drop k).take n) with
  | error e=>
    have he:=parse_err hp;rw [hp] at hpa hdec;have HX:Hid (next (s.data.toList.drop k)=(0,0,0,e)):=HN.out.trans hdec.out;have hne:((e:Int) != 0)=true:=by rw [bne_iff_ne];omega
    rw [show Num.resV (.error e)=.tuple #[.agg #[.bool false,.string ⟨#[]⟩,.int .i64 0],.int .i64 e] from rfl] at hpa;have HP:=Hid.out (p:=Hid _) hpa;have HE:=Hid.out (p:=Hid _) he;clear hpa hp he hdec HN;have F0:Hid (Fresh w (w.alloc (.cells #[.slice none 0 0,.int .i64 0,.int .i64 0] 254))):=Fresh.new w;go_enter Tryz.func304,Tryz.ntmps304
    go_wp2_with fail
    refine (rletter_any s[k].toNat _).mono ?_;rintro e w' ⟨rfl,rfl⟩;rw [HL.out];go_wp2_with fail
    refine (Calls.mono (HS.out _) ?_);rintro e w' ⟨rfl,rfl⟩;go_wp2_with fail
    refine (Calls.mono (HP.out _) ?_);rintro e w2 ⟨rfl,hb2⟩;have FF:Hid (Fresh w w2):=Fresh.on F0.out hb2;clear hb2;have c0:=cell_of FF.out.1 0;have c1:=cell_of FF.out.1 1;have c2:=cell_of FF.out.1 2;have f0:=frozen_of FF.out.1 0;have f1:=frozen_of FF.out.1 1;have f2:=frozen_of FF.out.1 2;have hlw:w.heap.size<w2.heap.size:=heap_lt FF.out.1;go_wp2_with fail
    exact one_ret (heap_alloc_old (FF.out.put _ _ _)) (by rw [HX.out];exact post_err (by have:=HE.out;omega) ⟨rfl,(told3 FF.out.2).alloc (by simp;omega) _⟩) rfl
  | ok x=>
    obtain ⟨g,d,y⟩:=x;rw [hp] at hpa hdec;have HX:Hid (next (s.data.toList.drop k)=(2,n,0,0)):=HN.out.trans hdec.out;rw [show Num.resV (.ok (g,d,y))=.tuple #[.agg #[.bool g,.string ⟨d.toArray⟩,.int .i64 y],.int .i64 0] from rfl] at hpa;have HP:=Hid.out (p:=Hid _) hpa;clear hpa hp hdec HN;have F0:Hid (Fresh w (w.alloc (.cells #[.slice none 0 0,.int .i64 0,.int .i64 0] 254))):=Fresh.new w;go_enter Tryz.func304,Tryz.ntmps304
    go_wp2_with fail
    refine (rletter_any s[k].toNat _).mono ?_;rintro e w' ⟨rfl,rfl⟩;rw [HL.out];go_wp2_with fail
    refine (Calls.mono (HS.out _) ?_);rintro e w' ⟨rfl,rfl⟩;go_wp2_with fail
    refine (Calls.mono (HP.out _) ?_);rintro e w1 ⟨rfl,hb1⟩;have F1:Hid (Fresh w w1):=Fresh.on F0.out hb1;clear hb1;go_wp2_with fail
    refine (rtoken_any s k 2 n _ (by have:=HQ.out;omega) (by omega)).mono ?_;rintro e w2 ⟨g,hg,rfl,hx,hb2⟩;have F2:Hid (Fresh w w2):=Fresh.on (F1.out.alloc _) hb2;have HG:Hid (g≠w.heap.size):=by have:=heap_lt (F1.out).1;have h':=hg;(try simp at h');unfold Hid;omega
    have HX2:=Hid.out (p:=Hid _) hx;have GL:Hid (w.heap.size<=g):=by have:=heap_lt (F1.out).1;have h':=hg;(try simp at h');unfold Hid;omega
    clear hx hb2;have c0:=cell_of F2.out.1 0;have c1:=cell_of F2.out.1 1;have c2:=cell_of F2.out.1 2;have f0:=frozen_of F2.out.1 0;have f1:=frozen_of F2.out.1 1;have f2:=frozen_of F2.out.1 2;go_wp2_with fail
    exact one_ret (F2.out.put _ _ _) (by rw [HX.out];exact post_ok ⟨g,GL.out,rfl,far3 HX2.out HG.out,told3 F2.out.2⟩) rfl
theorem one_quo (s:ByteArray) (k:Nat) (w:World) (hk:k<s.size) (hs:s.size<=2000000) (hl:letterB s[k].toNat=false) (h:s[k].toNat=34):Calls Tryz.prog 304 #[.string s,.int .i64 k] w (OPost s.data.toList k (next (s.data.toList.drop k)) w):=by
  have hb0:byt (s.data.toList.drop k) 0=s[k].toNat:=byt_drop0 s k hk;have q10:((s[k].toNat:Int) == 10)=false:=by rw [beq_eq_false_iff_ne];omega
  have HL:=Hid.out (p:=Hid _) hl;have d1:decide (48<=(s[k].toNat:Int))=false:=by rw [decide_eq_false_iff_not];omega
  have q34:((s[k].toNat:Int) == 34)=true:=by rw [beq_iff_eq];omega
  have HN:Hid (next (s.data.toList.drop k)=match Quote.scan (s.data.toList.drop k) with
    | .error e=>(0,0,0,e)
    | .ok (_,n)=>(3,n,0,0)):=by
    rw [Hid,next,hb0,if_neg (by rw [hl];decide),if_neg (by rw [h];decide),if_pos h];cases Quote.scan (s.data.toList.drop k) <;> rfl
  have hsc:=fun w=>Quote.rscan_any (s.extract k s.size) w (by rw [ByteArray.size_extract];omega);unfold Quote.RScan at hsc;rw [ext_drop] at hsc;have hfit:=(next_fits (s.data.toList.drop k) (List.ne_nil_of_length_pos (by rw [List.length_drop];simp;omega)));clear hb0 hl h
  cases hp:Quote.scan (s.data.toList.drop k) with
  | error e=>
    have he:=scan_err hp;rw [hp] at hsc HN;have hne:((e:Int) != 0)=true:=by rw [bne_iff_ne];omega
    rw [show Quote.partV (.error e)=.agg #[.string ⟨#[]⟩,.int .i64 0,.int .i64 e] from rfl] at hsc;have HP:=Hid.out (p:=Hid _) hsc;have HE:=Hid.out (p:=Hid _) he;clear hsc hp he hfit;have F0:Hid (Fresh w (w.alloc (.cells #[.slice none 0 0,.int .i64 0,.int .i64 0] 254))):=Fresh.new w;go_enter Tryz.func304,Tryz.ntmps304
    go_wp2_with fail
    refine (rletter_any s[k].toNat _).mono ?_;rintro e w' ⟨rfl,rfl⟩;rw [HL.out];go_wp2_with fail
    refine (Calls.mono (HP.out _) ?_);rintro e w2 ⟨rfl,hb2⟩;have FF:Hid (Fresh w w2):=Fresh.on F0.out hb2;clear hb2;have c0:=cell_of FF.out.1 0;have c1:=cell_of FF.out.1 1;have c2:=cell_of FF.out.1 2;have f0:=frozen_of FF.out.1 0;have f1:=frozen_of FF.out.1 1;have f2:=frozen_of FF.out.1 2;have hlw:w.heap.size<w2.heap.size:=heap_lt FF.out.1;go_wp2_with fail
    exact one_ret (heap_alloc_old (FF.out.put _ _ _)) (by rw [HN.out];exact post_err HE.out ⟨rfl,(told3 FF.out.2).alloc (by simp;omega) _⟩) rfl
  | ok x=>
    obtain ⟨g,n⟩:=x;rw [hp] at hsc HN;have hn:k+n<=s.size:=by
      have:=hfit.all;rw [HN.out,List.length_drop,show s.data.toList.length=s.size by simp] at this;simp only at this;omega
    rw [show Quote.partV (.ok (g,n))=.agg #[.string ⟨g.toArray⟩,.int .i64 n,.int .i64 0] from rfl] at hsc;have HP:=Hid.out (p:=Hid _) hsc;have HQ:=Hid.out (p:=Hid _) hn;clear hsc hp hfit hn;generalize (⟨g.toArray⟩:ByteArray)=gb at *;have F0:Hid (Fresh w (w.alloc (.cells #[.slice none 0 0,.int .i64 0,.int .i64 0] 254))):=Fresh.new w;go_enter Tryz.func304,Tryz.ntmps304
    go_wp2_with fail
    refine (rletter_any s[k].toNat _).mono ?_;rintro e w' ⟨rfl,rfl⟩;rw [HL.out];go_wp2_with fail
    refine (Calls.mono (HP.out _) ?_);rintro e w1 ⟨rfl,hb1⟩;have F1:Hid (Fresh w w1):=Fresh.on F0.out hb1;clear hb1;go_wp2_with fail
    refine (rtoken_any s k 3 n _ HQ.out (by omega)).mono ?_;rintro e w2 ⟨g,hg,rfl,hx,hb2⟩;have F2:Hid (Fresh w w2):=Fresh.on (F1.out.alloc _) hb2;have HG:Hid (g≠w.heap.size):=by have:=heap_lt (F1.out).1;have h':=hg;(try simp at h');unfold Hid;omega
    have HX:=Hid.out (p:=Hid _) hx;have GL:Hid (w.heap.size<=g):=by have:=heap_lt (F1.out).1;have h':=hg;(try simp at h');unfold Hid;omega
    clear hx hb2;have c0:=cell_of F2.out.1 0;have c1:=cell_of F2.out.1 1;have c2:=cell_of F2.out.1 2;have f0:=frozen_of F2.out.1 0;have f1:=frozen_of F2.out.1 1;have f2:=frozen_of F2.out.1 2;go_wp2_with fail
    exact one_ret (F2.out.put _ _ _) (by rw [HN.out];exact post_ok ⟨g,GL.out,rfl,far3 HX.out HG.out,told3 F2.out.2⟩) rfl
end Go.Proofs.YtliekocamnklfaaGreatDoor.Lex
