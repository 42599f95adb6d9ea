/- lex.Parse's closure: a token is put behind the others. -/
import Derived.Test.YtliekocamnklfaaGreatDoorPLexX
import Derived.WalkMore
import Derived.Deep.LoopGhost
import Derived.RangeFuncNested
import Derived.RangeFuncBound
import Derived.RangeFuncCalls
import Derived.RangeFuncLeaves
import Derived.Shelf.Abstract
import Derived.Shelf.RegionOpen
import Derived.WalkKit
import Derived.OwnWalkIn
import Derived.TacticsInMore
import Derived.LoopNIn
import Derived.LoopIn
set_option linter.unusedVariables false
set_option linter.unusedSimpArgs false
set_option maxRecDepth 100000
namespace Go.Proofs.YtliekocamnklfaaGreatDoor.Lex
open Go.RowKit Utf Strs
def tokCells (x:Tok):List Value:=[.int .i64 x.1,.string ⟨x.2.1.toArray⟩,.int .i64 x.2.2]
def toksCells (l:List Tok):List Value:=l.flatMap tokCells
theorem toksCells_snoc (l:List Tok) (x:Tok):toksCells (l++[x])=toksCells l++tokCells x:=by simp [toksCells]
theorem own_ne {w:World} {B:Nat} {e T:TypeId} {size:Nat} {v:Value} {n:Nat} {xs:List Value} {b:Nat} {cs:Array Value} {fr:Nat × Nat} (h:w.ownsRow B e size v n xs) (hb:w.heap[b]?=some (.cells cs T fr)) (hT:T≠e):v.ownBlock≠some b:=fun e'=>by
  obtain ⟨c,fz,hc⟩:=Lib.ownsRow_kind h b e';rw [hb] at hc;cases hc;exact hT rfl
theorem infoTok:(Tryz.prog.info? 194).map (fun i=>(i.zero,i.size,i.bytes))=some (some (.agg #[.int .i64 0,.string ⟨#[]⟩,.int .i64 0]),3,32):=by kernel_rfl
theorem from_ge:∀ (l:List UInt8) (st i k:Nat),k<=i->k<=Num.from_ st i k l
  | [],st,i,k,h=>Nat.le_refl _
  | c::l,st,i,k,h=>by
    unfold Num.from_;split
    · exact Nat.le_refl _
    · split
      · exact Nat.le_trans (by omega) (from_ge l _ (i+1) (i+1) (Nat.le_refl _))
      · exact from_ge l _ (i+1) k (by omega)
theorem scan_pos (c:UInt8) (t:List UInt8) (h:digitB c.toNat=true):1<=Num.scan (c::t):=by
  simp only [digitB,Bool.and_eq_true,decide_eq_true_eq] at h
  have hs:Num.sgn c.toNat=2∨Num.sgn c.toNat=3:=by
    unfold Num.sgn
    (repeat' split) <;> omega
  unfold Num.scan Num.from_;rcases hs with hs | hs
  · rw [hs];exact from_ge t 2 1 1 (Nat.le_refl _)
  · rw [hs];exact from_ge t 3 1 1 (Nat.le_refl _)
theorem takeWhile_le {p:UInt8->Bool} (l:List UInt8):(l.takeWhile p).length<=l.length:=(List.takeWhile_prefix p).length_le
theorem trimR_le {p:UInt8->Bool} (l:List UInt8):(l.reverse.dropWhile p).reverse.length<=l.length:=by
  have:=Num.dropWhile_le (p:=p) l.reverse
  simpa using this
theorem trimR_pos {p:UInt8->Bool} (c:UInt8) (t:List UInt8) (h:p c=false):1<=((c::t).reverse.dropWhile p).reverse.length:=by
  rw [List.length_reverse];by_cases hn:(c::t).reverse.dropWhile p=[]
  · have hall:∀ m:List UInt8,m.dropWhile p=[]->∀ x∈m,p x=true:=by
      intro m
      induction m with
      | nil=>intro _ x hx;cases hx
      | cons a m ih=>
        intro hm x hx
        rw [List.dropWhile_cons] at hm;split at hm
        · rename_i ha
          rcases List.mem_cons.1 hx with rfl | hx
          · exact ha
          · exact ih hm x hx
        · cases hm
    have:=hall _ hn c (by simp);rw [h] at this;cases this
  · exact List.length_pos_iff.2 hn
theorem line_head (c:UInt8) (t:List UInt8) (h:c≠10):∃ u,line (c::t)=c::u:=by
  unfold line;split
  · rename_i i hi
    cases i with
    | zero=>
      have:=(List.findIdx?_eq_some_iff_getElem.1 hi).2.1;simp at this;exact absurd this h
    | succ i=>exact ⟨t.take i,by simp⟩
  · exact ⟨t,rfl⟩
theorem line_le (l:List UInt8):(line l).length<=l.length:=by
  unfold line;split
  · rw [List.length_take];exact Nat.min_le_right _ _
  · exact Nat.le_refl _
structure Fits (l:List UInt8) (x:Nx):Prop where
  size:x.2.2.2=0->1<=x.2.1/\x.2.1<=l.length
  bad:x.2.2.1<=l.length
  kind:x.1<=7
  all:x.2.1<=l.length
theorem comment_fits (kind:Nat) (l m:List UInt8) (hk:kind<=7) (h1:1<=m.length) (h2:m.length<=l.length):Fits l (comment kind m):=by
  have:=within_le m;unfold comment;split
  · rename_i h
    exact ⟨fun e=>absurd e h,by simp;omega,by simp,by simp⟩
  · exact ⟨fun _=>⟨h1,h2⟩,by simp,hk,h2⟩
theorem next_fits (l:List UInt8) (h0:l≠[]):Fits l (next l):=by
  obtain ⟨c,t,rfl⟩:=List.exists_cons_of_ne_nil h0;have hb0:byt (c::t) 0=c.toNat:=rfl;unfold next;rw [hb0];by_cases hl:letterB c.toNat=true
  · rw [if_pos hl];have:=takeWhile_le (p:=inId) t;exact ⟨fun _=>⟨by simp [ident],by simp [ident];omega⟩,by simp,by simp,by simp [ident];omega⟩
  rw [if_neg hl];by_cases hd:digitB c.toNat=true
  · rw [if_pos hd];have h1:=scan_pos c t hd;have h2:=Num.scan_le (c::t);unfold decimal;split
    · rename_i e he
      have:=parse_err he;exact ⟨fun h=>by simp at h;omega,by simp,by simp,by simp⟩
    · exact ⟨fun _=>⟨h1,h2⟩,by simp,by simp,h2⟩
  rw [if_neg hd];by_cases hq:c.toNat=34
  · rw [if_pos hq];split
    · rename_i e he
      exact ⟨fun h=>absurd h (scan_err he),by simp,by simp,by simp⟩
    · rename_i o n hn
      have hp:=hn;rw [Quote.scan_at (c::t) (by simp) hq] at hp;have:=Quote.parts_size _ _ _ _ _ _ hp;simp only [List.length_drop,List.length_cons,List.length_nil] at this
      exact ⟨fun _=>⟨by simp;omega,by simp;omega⟩,by simp,by simp,by simp;omega⟩
  rw [if_neg hq];by_cases hr:c.toNat=10
  · rw [if_pos hr];exact ⟨fun _=>⟨by simp,by simp⟩,by simp,by simp,by simp⟩
  rw [if_neg hr];have hc10:c≠10:=fun e=>hr (by rw [e];rfl);by_cases hh:c.toNat=35∨[47,47].isPrefixOf (c::t)=true
  · rw [if_pos hh];obtain ⟨u,hu⟩:=line_head c t hc10;have hcut:([32,9,13]:List UInt8).contains c=false:=by
      have hc:c=35∨c=47:=by
        rcases hh with h | h
        · exact Or.inl (UInt8.toNat_inj.1 h)
        · right
          have:=List.isPrefixOf_iff_prefix.1 h;exact (List.cons_prefix_cons.1 this).1.symm
      rcases hc with rfl | rfl <;> rfl
    unfold remark;have h1:=trimR_pos (p:=([32,9,13].contains ·)) c u hcut;rw [<-hu] at h1;have h2:=trimR_le (p:=([32,9,13].contains ·)) (line (c::t));have h3:=line_le (c::t);exact comment_fits 6 _ _ (by decide) h1 (by omega)
  rw [if_neg hh];by_cases ha:[47,42].isPrefixOf (c::t)=true
  · rw [if_pos ha];unfold aside;split
    · exact ⟨fun h=>by simp at h,by simp,by simp,by simp⟩
    · rename_i hz
      split
      · exact ⟨fun h=>by simp at h,by simp,by simp,by simp⟩
      · have:=index_room [42,47] ((c::t).drop 2) (by simp) (by omega);rw [List.length_drop] at this;simp only [List.length_cons,List.length_nil] at this
        refine comment_fits 7 _ _ (by decide) ?_ ?_
        · rw [List.length_take,List.length_cons];omega
        · rw [List.length_take];omega
  rw [if_neg ha];by_cases hs:0<sign (c::t)
  · rw [if_pos hs];have hle:sign (c::t)<=(c::t).length:=by
      unfold sign;split
      · rename_i hd2
        obtain ⟨d,hd3,hd4⟩:=List.any_eq_true.1 hd2;have h5:=(List.isPrefixOf_iff_prefix.1 hd4).length_le;have h6:d.length=2:=by
          have:∀ d∈doubles,d.length=2:=by decide
          exact this d hd3
        omega
      · split
        · simp
        · simp
    exact ⟨fun _=>⟨hs,hle⟩,by simp,by simp,hle⟩
  · rw [if_neg hs];exact ⟨fun h=>by simp at h,by simp,by simp,by simp⟩
theorem toks_mono:∀ (n m:Nat) (l:List UInt8) (p:Nat),l.length<n->l.length<m->toks n l p=toks m l p
  | 0,_,_,_,h,_=>by omega
  | _+1,0,_,_,_,h=>by omega
  | n+1,m+1,l,p,h,h'=>by
    cases l with
    | nil=>rfl
    | cons c t=>
      unfold toks;simp only [List.length_cons] at h h'
      by_cases hb:blank c=true
      · simp only [hb,if_true]
        exact toks_mono n m t (p+1) (by omega) (by omega)
      · simp only [hb,Bool.false_eq_true,if_false]
        by_cases he:(next (c::t)).2.2.2≠0
        · rw [if_pos he,if_pos he]
        · rw [if_neg he,if_neg he];have hf:=((next_fits (c::t) (by simp)).size (by omega));have hl:((c::t).drop (next (c::t)).2.1).length<n:=by rw [List.length_drop,List.length_cons];omega
          have hl':((c::t).drop (next (c::t)).2.1).length<m:=by rw [List.length_drop,List.length_cons];omega
          rw [toks_mono n m _ _ hl hl']
def toksAt (l:List UInt8) (p:Nat):List Tok × Nat × Nat:=toks (l.length-p+1) (l.drop p) p
theorem toksAt_end (l:List UInt8):toksAt l l.length=([],0,0):=by
  unfold toksAt;simp [toks]
theorem toksAt_blank (l:List UInt8) (p:Nat) (h:p<l.length) (hb:blank l[p]=true):toksAt l p=toksAt l (p+1):=by
  unfold toksAt;rw [List.drop_eq_getElem_cons h];conv=>lhs;unfold toks
  simp only [hb,if_true]
  exact toks_mono _ _ _ _ (by rw [List.length_drop];omega) (by rw [List.length_drop];omega)
theorem toksAt_bad (l:List UInt8) (p:Nat) (h:p<l.length) (hb:blank l[p]=false) (he:(next (l.drop p)).2.2.2≠0):toksAt l p=([],p+(next (l.drop p)).2.2.1,(next (l.drop p)).2.2.2):=by
  unfold toksAt;rw [List.drop_eq_getElem_cons h] at he ⊢;conv=>lhs;unfold toks
  simp only [hb,Bool.false_eq_true,if_false]
  rw [if_pos he]
theorem toksAt_tok (l:List UInt8) (p:Nat) (h:p<l.length) (hb:blank l[p]=false) (he:(next (l.drop p)).2.2.2=0):toksAt l p=(((next (l.drop p)).1,(l.drop p).take (next (l.drop p)).2.1,p)::(toksAt l (p+(next (l.drop p)).2.1)).1,(toksAt l (p+(next (l.drop p)).2.1)).2):=by
  unfold toksAt;have hf:=(next_fits (l.drop p) (List.ne_nil_of_length_pos (by rw [List.length_drop];omega))).size he;rw [List.length_drop] at hf;have hm:=toks_mono (l.length-p) (l.length-(p+(next (l.drop p)).2.1)+1) (l.drop (p+(next (l.drop p)).2.1)) (p+(next (l.drop p)).2.1) (by rw [List.length_drop];omega) (by rw [List.length_drop];omega);rw [<-hm,<-List.drop_drop];rw [List.drop_eq_getElem_cons h] at he ⊢;conv=>lhs;unfold toks
  simp only [hb,Bool.false_eq_true,if_false]
  rw [if_neg (by rw [he];simp)]
theorem str_of (a:ByteArray) (l:List UInt8) (h:a.data.toList=l):a=⟨l.toArray⟩:=by
  subst h;rfl
theorem ext_take (s:ByteArray) (k n:Nat):s.extract k (k+n)=⟨((s.data.toList.drop k).take n).toArray⟩:=by
  apply str_of
  rw [Lib.extract_data]
  congr 1
  omega
theorem ext_drop (s:ByteArray) (k:Nat):(s.extract k s.size).data.toList=s.data.toList.drop k:=by
  rw [Lib.extract_data];apply List.take_of_length_le
  simp
def Row (w:World) (B:Nat) (v:Value) (l:List Tok):Prop:=w.ownsRow B 194 3 v l.length (toksCells l)
theorem Row.stays {w w':World} {B:Nat} {v:Value} {l:List Tok} (h:Row w B v l) (hb:Below w.heap.size w w'):Row w' B v l:=
by
  have h':w.ownsRow B 194 3 v l.length (toksCells l):=h;exact h'.kept (row:=none) ⟨hb.os,hb.tape,hb.output,hb.size,fun k hk _=>hb.block k hk⟩ (Decidable.em (v.ownBlock=none))
theorem Row.form {w:World} {B:Nat} {v:Value} {l:List Tok} (h:Row w B v l):∃ a c,v=.slice a l.length c:=by
  rcases h.2 with ⟨h1,h2⟩ | ⟨g,cap,cur,hv,_⟩
  · exact ⟨none,0,by rw [h1,h2]⟩
  · exact ⟨_,_,hv⟩
theorem Row.nil (w:World) (B:Nat):Row w B (.slice none 0 0) []:=World.ownsRow_nil _ _ _ _
open Go.RowKit Go.Shelf Utf Strs
set_option maxHeartbeats 4000000
attribute [local go_sem] Oper.semAt_some
theorem all_any (s:ByteArray) (w:World):Calls Tryz.prog 234 #[.string s] w fun e w'=>e=.returned (.func (.func 276) #[] #[.pointer (some ⟨w.heap.size,0,none⟩)])/\Below w.heap.size w w'/\w'.heap[w.heap.size]?=some (.cells #[.string s] 9 (0,0)):=by
  go_enter Tryz.func234,Tryz.ntmps234
  go_wp2
  go_ret
  exact ⟨rfl,(Below.refl _ _).alloc (Nat.le_refl _) _,heap_alloc_new _ _⟩
def KpL (Bs:Nat) (W W':World):Prop:=W'.heap[Bs]?=W.heap[Bs]?/\(Tabs W->Tabs W')
theorem KpL.t {Bs:Nat} {A B C:World} (h:KpL Bs A B) (k:KpL Bs B C):KpL Bs A C:=⟨k.1.trans h.1,fun t=>k.2 (h.2 t)⟩
theorem walkRound (n l:Nat) (s:ByteArray) (hs:s.size<=1048576) (hn:1<=n) (J Jx:List Tok->World->Prop)
    (hJ:∀ pre W W',J pre W->Below W.heap.size W W'->J pre W')
    (hY:∀ pre (x:Tok) W,J pre W->pre.length<(toksAt s.data.toList 0).1.length->YieldAt Fence.wide (n-1) Tryz.prog l #[.agg #[.int .i64 x.1,.string ⟨x.2.1.toArray⟩,.int .i64 x.2.2]] W fun e W'=>
      (e=.returned (.bool true)/\J (pre++[x]) W'/\(Tabs W->Tabs W'))∨(e=.returned (.bool false)/\Jx (pre++[x]) W'))
    (W:World) (T:Tabs W) (h0:J [] W) :
    CallsIn Fence.wide n Tryz.prog 277 #[.string s,.func (.yield l) #[] #[]] W fun e W'=>(∃ v,e=.returned v) ∧
      (J (toksAt s.data.toList 0).1 W'∨(∃ pre,pre <+: (toksAt s.data.toList 0).1/\Jx pre W')):=by
  have hl:s.data.toList.length=s.size:=by simp
  have HL:=Hid.out (p:=Hid _) hl;clear hl;have HJ:=Hid.out (p:=Hid _) hJ;clear hJ;have HY:=Hid.out (p:=Hid _) hY;clear hY;refine callsIn_of_wp Tryz.func277 rfl trivial ?_ rfl;simp only [Tryz.ntmps277,List.size_toArray,List.length_cons,List.length_nil,Nat.reduceAdd,Nat.reduceSub,Array.replicate_succ,Array.replicate_zero,List.push_toArray,List.append_toArray,List.nil_append,List.cons_append]
  gi_wp2_with fail
  refine wpIn_wide.2 ?_
  go_step3
  refine (wpIn_wide (n:=n)).1 ?_
  gi_wp2_with fail
  apply wpIn_label
  gi_wp2_with fail
  gi_loopw [4,5,6] (fun p4 p5 p wr=>∃ (k:Nat) (pre:List Tok),k<=s.size/\p4=.int .i64 0/\p5=.int .i64 0/\p=.int .i64 k/\Hid (toksAt s.data.toList 0=(pre++(toksAt s.data.toList k).1,(toksAt s.data.toList k).2))/\Hid (J pre wr)/\Hid (Tabs wr))
    (fun _ _ p _=>s.size-(intOf p).toNat)
  case atStart=>exact ⟨0,[],Nat.zero_le _,rfl,rfl,rfl,rfl,h0,T⟩
  case round=>
    obtain ⟨k,pre,hk,rfl,rfl,rfl,hp,hj,ht⟩:=hrel;by_cases hlt:k<s.size
    · have hlen:k<s.data.toList.length:=by rw [HL.out];exact hlt
      have hget:s.data.toList[k]=s[k]:=rfl;cases hbl:blank s[k]
      · have hix:[32,9,13].findIdx? (· == UInt8.ofNat s[k].toNat)=none:=by
          rw [UInt8.ofNat_toNat];unfold blank at hbl;rwa [Option.isSome_eq_false_iff,Option.isNone_iff_eq_none] at hbl
        have HX:=Hid.out (p:=Hid _) hix;clear hix;obtain ⟨a,m,c,d,hx⟩:∃ a m c d,next (s.data.toList.drop k)=(a,m,c,d):=⟨_,_,_,_,rfl⟩;have hf:=next_fits (s.data.toList.drop k) (List.ne_nil_of_length_pos (by rw [List.length_drop];omega));rw [hx] at hf;have f1:=hf.size;have f2:=hf.bad;have f4:=hf.all;simp only [List.length_drop,HL.out] at f1 f2 f4
        have hnx:=next_any (s.extract k s.size) wr (by rw [ByteArray.size_extract];omega) (by rw [ByteArray.size_extract];omega) ht.out;unfold NPost at hnx;rw [ext_drop,hx,show val (a,m,c,d)=.tuple #[.int .i64 a,.int .i64 m,.int .i64 c,.int .i64 d] from rfl] at hnx;have hbad:d≠0->Hid ((toksAt s.data.toList 0).1=pre):=by
          intro hd
          rw [Hid,hp.out,toksAt_bad _ _ hlen hbl (by rw [hx];exact hd)];simp
        have htok:d=0->Hid (toksAt s.data.toList 0=((pre++[(a,(s.data.toList.drop k).take m,k)])++(toksAt s.data.toList (k+m)).1,(toksAt s.data.toList (k+m)).2)):=by
          intro hd
          rw [Hid,hp.out,toksAt_tok _ _ hlen hbl (by rw [hx];exact hd),hx];simp
        clear hx hf hbl hget;have HN:=Hid.out (p:=Hid _) hnx;clear hnx
        gi_wp2_with fail
        refine ⟨trivial,?_⟩;refine (callsIn_wide.2 (indexByte_any ⟨#[32,9,13]⟩ s[k].toNat wr (UInt8.toNat_lt _))).mono ?_;rintro e w' ⟨rfl,rfl⟩;rw [show (⟨#[32,9,13]⟩:ByteArray).data.toList=[32,9,13] from rfl,HX.out,show zidx none=-1 from rfl]
        gi_wp2_with fail
        refine ⟨trivial,?_⟩;refine (CallsIn.mono (callsIn_wide.2 HN.out) ?_);rintro e w2 ⟨rfl,hb2⟩;have J2:Hid (J pre w2):=HJ.out pre wr w2 hj.out hb2;have T2:Hid (Tabs w2):=ht.out.stays hb2;clear hb2;by_cases hd:d=0
        · subst hd;have h1:=f1 rfl;have HF:=htok rfl;clear f1 htok hbad;obtain ⟨q,hq⟩:∃ q:Nat,k+m=q:=⟨_,rfl⟩;have hqq:(k:Int)+(m:Int)=(q:Int):=by omega
          have hq1:k<=q:=by omega
          have hq2:q<=s.size:=by omega
          have hex:Hid (s.extract k q=⟨((s.data.toList.drop k).take m).toArray⟩):=by rw [Hid,<-hq];exact ext_take s k m
          have HQ:=Hid.out (p:=Hid _) hq;clear hq;obtain ⟨fn,tmps,assign,body,hy,hR⟩:=HY.out pre (a,(s.data.toList.drop k).take m,k) w2 J2.out (by rw [HF.out];simp)
          dsimp only at hy hR
          rw [<-hex.out] at hy;have HRR:=Hid.out (p:=Hid _) hR;clear hR
          gi_wp2_with fail
          refine RoundIn.mono HRR.out ?_;rintro e w3 (⟨rfl,hj3,ht3⟩ | ⟨rfl,hjx⟩)
          · have J3:Hid (J (pre++[(a,(s.data.toList.drop k).take m,k)]) w3):=hj3;have T3:Hid (Tabs w3):=ht3 T2.out;clear hj3 ht3
            gi_wp2_with fail
            go_roundw
            case rel=>exact ⟨q,_,hq2,rfl,rfl,rfl,by rw [<-HQ.out];exact HF.out,J3.out,T3.out⟩
            case measure=>have:=HQ.out;simp [intOf];omega
          · have J3:Hid (Jx (pre++[(a,(s.data.toList.drop k).take m,k)]) w3):=hjx;clear hjx
            gi_wp2_with fail
            rw [Exit.noGoto_ret]
            go_ret2
            exact ⟨⟨_,rfl⟩,.inr ⟨_,by rw [HF.out];exact ⟨_,rfl⟩,J3.out⟩⟩
        · have hq:((d:Int) != 0)=true:=by rw [bne_iff_ne];omega
          have HF:=hbad hd;clear hbad htok f1 hd
          gi_wp2_with fail
          rw [Exit.noGoto_ret]
          go_ret2
          exact ⟨⟨_,rfl⟩,.inl (by rw [HF.out];exact J2.out)⟩
      · obtain ⟨i,hi⟩:∃ i,[32,9,13].findIdx? (· == UInt8.ofNat s[k].toNat)=some i:=by
          rw [UInt8.ofNat_toNat];unfold blank at hbl;exact Option.isSome_iff_exists.1 hbl
        have HX:=Hid.out (p:=Hid _) hi;clear hi;have hge:decide (0<=(i:Int))=true:=by simp
        have HF:Hid (toksAt s.data.toList 0=(pre++(toksAt s.data.toList (k+1)).1,(toksAt s.data.toList (k+1)).2)):=by
          rw [Hid,hp.out,toksAt_blank _ _ hlen hbl]
        clear hbl hget
        gi_wp2_with fail
        refine ⟨trivial,?_⟩;refine (callsIn_wide.2 (indexByte_any ⟨#[32,9,13]⟩ s[k].toNat wr (UInt8.toNat_lt _))).mono ?_;rintro e w' ⟨rfl,rfl⟩;rw [show (⟨#[32,9,13]⟩:ByteArray).data.toList=[32,9,13] from rfl,HX.out,show zidx (some i)=(i:Int) from rfl]
        gi_wp2_with fail
        go_roundw
        case rel=>exact ⟨k+1,pre,by omega,rfl,rfl,by go_num,HF.out,hj.out,ht.out⟩
        case measure=>simp [intOf];omega
    · obtain rfl:k=s.size:=by omega
      have HF:Hid ((toksAt s.data.toList 0).1=pre):=by
        have h1:=toksAt_end s.data.toList;rw [HL.out] at h1;rw [Hid,hp.out,h1];simp
      gi_wp2_with fail
      rw [Exit.noGoto_ret]
      go_ret2
      exact ⟨⟨_,rfl⟩,.inl (by rw [HF.out];exact hj.out)⟩
theorem all1_in (n l Bs:Nat) (s:ByteArray) (hs:s.size<=1048576) (hn:1<=n) (J Jx:List Tok->World->Prop)
    (hJ:∀ pre W W',J pre W->Below W.heap.size W W'->J pre W')
    (hY:∀ pre (x:Tok) W,J pre W->pre.length<(toksAt s.data.toList 0).1.length->YieldAt Fence.wide (n-1) Tryz.prog l #[.agg #[.int .i64 x.1,.string ⟨x.2.1.toArray⟩,.int .i64 x.2.2]] W fun e W'=>
      (e=.returned (.bool true)/\J (pre++[x]) W'/\KpL Bs W W')∨(e=.returned (.bool false)/\Jx (pre++[x]) W'))
    (W:World) (hBs:W.heap[Bs]?=some (.cells #[.string s] 9 (0,0))) (T:Tabs W) (h0:J [] W) :
    CallsIn Fence.wide n Tryz.prog 276 #[.func (.yield l) #[] #[],.pointer (some ⟨Bs,0,none⟩)] W fun e W'=>(∃ v,e=.returned v) ∧
      ((∃ ys,ys=(toksAt s.data.toList 0).1/\J ys W')∨(∃ pre,pre <+: (toksAt s.data.toList 0).1/\Jx pre W')):=by
  have hw:=walkRound n l s hs hn J Jx hJ (fun pre x W h1 h2=>(hY pre x W h1 h2).mono fun e W' h=>h.imp (fun ⟨a,b,c⟩=>⟨a,b,c.2⟩) id) W T h0;have HW:=Hid.out (p:=Hid _) hw;have hc:W.cell? ⟨Bs,0,none⟩=some (.string s):=cell_of hBs 0;clear hw hY hJ hBs T h0;refine callsIn_of_wp Tryz.func276 rfl trivial ?_ rfl;simp only [Tryz.ntmps276,List.size_toArray,List.length_cons,List.length_nil,Nat.reduceAdd,Nat.reduceSub,Array.replicate_succ,Array.replicate_zero,List.push_toArray,List.append_toArray,List.nil_append,List.cons_append]
  gi_wp2_with fail
  refine ⟨trivial,?_⟩;refine (CallsIn.mono (callsIn_wide.2 (callsIn_wide.1 HW.out)) ?_);rintro e W3 ⟨⟨v,rfl⟩,h⟩;have H3:=Hid.out (p:=Hid _) h;clear h
  gi_wp2_with fail
  go_end0
  exact ⟨⟨_,rfl⟩,H3.out.imp (fun h=>⟨_,rfl,h⟩) id⟩
theorem toks_stops (n Bs:Nat) (s:ByteArray) (hs:s.size<=1048576) (hn:1<=n) (w:World) (hBs:w.heap[Bs]?=some (.cells #[.string s] 9 (0,0))) (T:Tabs w) :
    SeqStopsK Fence.wide n Tryz.prog 276 #[.pointer (some ⟨Bs,0,none⟩)] (fun x:Tok=>#[Value.agg #[.int .i64 x.1,.string ⟨x.2.1.toArray⟩,.int .i64 x.2.2]]) (KpL Bs) (fun ys=>ys=(toksAt s.data.toList 0).1) (fun pre=>pre <+: (toksAt s.data.toList 0).1) (toksAt s.data.toList 0).1.length w:=fun l J Jx W hW hJ _ hY h0=>
  all1_in n l Bs s hs hn J Jx (fun pre A B h hb=>hJ pre A B none h ⟨hb.os,hb.tape,hb.output,hb.size,fun k hk _=>hb.block k hk⟩ (fun r h=>by cases h)) hY W ((hW.block _ (heap_lt hBs)).trans hBs) (T.stays hW) h0
end Go.Proofs.YtliekocamnklfaaGreatDoor.Lex
namespace Go.Proofs.YtliekocamnklfaaGreatDoor.Addr
open Go.RowKit Go.Shelf Utf Strs Lex
attribute [local go_sem] Oper.semAt_some
def oneTok (n:Nat) (x:Tok):Bool:=x.1 == 1 && x.2.1.length == n
def identB (l:List UInt8):Bool:=match (toksAt l 0).1 with
  | []=>false
  | x::_=>oneTok l.length x
theorem tabs_kept {w W W':World} (T:Tabs w) (t:Tabs W) (h:∀ k,k<w.heap.size->W'.heap[k]?=W.heap[k]?):Tabs W':=
  ⟨t.z.kept (h _ T.z.lt),t.s.kept (h _ T.s.lt),t.m.kept (h _ T.m.lt),t.d.kept (h _ T.d.lt)⟩
theorem cells_grown {w w':World} {k:Nat} {cs:Array Value} {T:TypeId} {fr:Nat × Nat} {row:Option Nat} (h:w.heap[k]?=some (.cells cs T fr)) (hg:w.grownBy w' row) (hr:∀ r,row=some r->∃ o:Obj,w.heap[r]?=some o/\o.isCells=false):w'.heap[k]?=some (.cells cs T fr):=
  (hg.block k (heap_lt h) (fun e=>by obtain ⟨o,h1,h2⟩:=hr k e.symm;rw [h] at h1;cases h1;cases h2)).trans h
theorem iter_some (b:Nat):∀ w,Sem.run Tryz.prog (binOp BinOp.neq 218 (.func (.func 276) #[] #[.pointer (some ⟨b,0,none⟩)]) .nilFunc) w=.ok (.bool true) w:=fun _=>by kernel_rfl
theorem ident_ret (w W:World) (D:Nat) (s:ByteArray) (tm:Array Value) (r:Bool) (hv:W.heap[w.heap.size+1]?=some (.cells #[.bool r] 4 (0,0))) (hr:r=identB s.data.toList) (hB:Below w.heap.size w W) (hD:w.heap.size<=D) (hK:W.heap[D]?=some (.deferred (some [])))
    (h2:tm[2]?=some (.pointer (some ⟨w.heap.size+1,0,none⟩))) :
    bodyPostM Fence.wide 10 Tryz.prog Tryz.f193 (fun e w'=>e=.returned (.bool (identB s.data.toList))/\Below w.heap.size w w') Exit.ret
      { tmps:=tm,defers:=[{ target:=.collected D,args:=#[] }] } W:=by
  have hg:=grownBy_putObj' W D (.deferred none);have hne:W.heap[w.heap.size+1]?=some (.cells #[.bool r] 4 (0,0)):=hv;have hv':(W.putObj D (.deferred none)).heap[w.heap.size+1]?=some (.cells #[.bool r] 4 (0,0)):=cells_grown hv hg (fun k e=>by cases e;exact ⟨_,hK,rfl⟩);have hc:=cell_of hv' 0;refine ⟨by simp,.inl ⟨_,_,rfl,run_takeDeferred hK,?_⟩⟩;refine ⟨.bool r,?_,by rw [hr],hB.grown hg hB.size (fun k e=>by cases e;exact hD)⟩;simp [results,Tryz.results193,go_sem,h2,hc]
def TokAt (w:World) (s:ByteArray) (b0:Nat) (x:Tok) (a:Act) (W:World):Prop:=
  ∃ (b:Nat) (u4 u5 u6 u7 u8 u9 u10 u11 u12 u13 u14 u15 u16 u17:Value),a={ tmps:=#[.string s,.pointer (some ⟨w.heap.size,0,none⟩),.pointer (some ⟨w.heap.size+1,0,none⟩),.pointer (some ⟨b,0,none⟩),u4,u5,u6,u7,u8,u9,u10,u11,u12,u13,u14,u15,u16,u17],defers:=[] } ∧
    b0<=b/\W.heap[b]?=some (.cells #[.int .i64 x.1,.string ⟨x.2.1.toArray⟩,.int .i64 x.2.2] 194 (0,0))
theorem ident_new (w:World) (s:ByteArray):∃ w1,(w.alloc (.cells #[.string s] 9)).alloc (.cells #[.bool false] 4)=w1/\Hid (w1.heap[w.heap.size]?=some (.cells #[.string s] 9 (0,0)))/\Hid (w1.heap[w.heap.size+1]?=some (.cells #[.bool false] 4 (0,0)))/\Hid (Below w.heap.size w w1)/\Hid (w1.heap.size=w.heap.size+2):=by
  refine ⟨_,rfl,heap_alloc_old (heap_alloc_new _ _),?_,((Below.refl _ _).alloc (Nat.le_refl _) _).alloc (by simp) _,by simp [Hid]⟩;have:=heap_alloc_new (w.alloc (.cells #[.string s] 9)) (.cells #[.bool false] 4 (0,0));unfold Hid
  simpa using this
theorem ident_any (s:ByteArray) (w:World) (hs:s.size<=1048576) (T:Tabs w):Calls Tryz.prog 193 #[.string s] w fun e w'=>e=.returned (.bool (identB s.data.toList))/\Below w.heap.size w w':=by
  have HT:=Hid.out (p:=Hid _) T;clear T;have hsl:s.data.toList.length=s.size:=by simp
  have HSL:=Hid.out (p:=Hid _) hsl;clear hsl;obtain ⟨w1,hw1,S1,R1,B1,Z1⟩:=ident_new w s;have T1:Hid (Tabs w1):=HT.out.stays B1.out;obtain ⟨bs,hbs⟩:∃ bs,w1.heap.size=bs:=⟨_,rfl⟩;have hal:=Lex.all_any s w1;rw [hbs] at hal;have HAL:=Hid.out (p:=Hid _) hal;have HBS:Hid (bs=w.heap.size+2):=by rw [<-hbs];exact Z1.out
  have HBW:Hid (w1.heap.size=bs):=hbs;clear hal hbs;have c0:=cell_of S1.out 0;rw [<-callsIn_wide (n:=10)];refine callsIn_of_wp_marks Tryz.func193 rfl trivial ?_ rfl;simp only [Tryz.ntmps193,List.size_toArray,List.length_cons,List.length_nil,Nat.reduceAdd,Nat.reduceSub,Array.replicate_succ,Array.replicate_zero,List.push_toArray,List.append_toArray,List.nil_append,List.cons_append]
  refine wpIn_wide.2 ?_;go_wp2_with fail
  refine (Calls.mono HAL.out ?_);rintro e w2 ⟨rfl,hb2x,hbox⟩;have hb2:Below w1.heap.size w1 w2:=by rw [HBW.out];exact hb2x
  clear hb2x;have X2:Hid (w2.heap[bs]?=some (.cells #[.string s] 9 (0,0))):=hbox;have S2:Hid (w2.heap[w.heap.size]?=some (.cells #[.string s] 9 (0,0))):=(hb2.block _ (heap_lt S1.out)).trans S1.out;have R2:Hid (w2.heap[w.heap.size+1]?=some (.cells #[.bool false] 4 (0,0))):=(hb2.block _ (heap_lt R1.out)).trans R1.out;have T2:Hid (Tabs w2):=T1.out.stays hb2;have B2:Hid (Below w.heap.size w w2):=B1.out.trans (hb2.mono B1.out.size);clear hb2 hbox hw1 S1 R1 B1 Z1 T1 HAL c0;have hbl2:=heap_lt X2.out;have hsq:=iter_some bs;go_wp2_with fail
  refine (wpIn_wide (n:=10)).1 ?_;refine wpIn_rangeFunc_ownH (α:=Tok) (w:=w2) rfl (by decide) (gf:=276) (lb:=#[.pointer (some ⟨bs,0,none⟩)]) rfl trivial (enters_of Tryz.func276 (by kernel_rfl) rfl)
    (toks_stops 9 bs s (by omega) (by decide) w2 X2.out T2.out) (fun h k=>KpL.t h k)
    (fun W l o o' hl ho hc _=>⟨World.putObj_heap_other (fun e=>by omega),fun t=>tabs_kept T2.out t (fun k hk=>World.putObj_heap_other (fun e=>by omega))⟩) (Below.refl _ _) (fun _=>rfl)
    (fun pre W=>pre=[]/\Hid (W.heap[w.heap.size]?=some (.cells #[.string s] 9 (0,0)))/\Hid (W.heap[w.heap.size+1]?=some (.cells #[.bool false] 4 (0,0)))/\Hid (Below w.heap.size w W)/\Hid (w2.heap.size<=W.heap.size)/\Hid (W.heap[bs]?=some (.cells #[.string s] 9 (0,0))))
    (fun c pre W=>c=.ret/\∃ x:Tok,pre=[x]/\Hid (W.heap[w.heap.size+1]?=some (.cells #[.bool (oneTok s.size x)] 4 (0,0)))/\Hid (Below w.heap.size w W))
    (fun s A B row hs hg hr=>⟨hs.1,cells_grown hs.2.1.out hg (fun r e=>(hr r e).2),cells_grown hs.2.2.1.out hg (fun r e=>(hr r e).2),hs.2.2.2.1.out.grown hg hs.2.2.2.1.out.size (fun r e=>by have:=(hr r e).1;have:=B2.out.size;omega),Nat.le_trans hs.2.2.2.2.1.out hg.size,cells_grown hs.2.2.2.2.2.out hg (fun r e=>(hr r e).2)⟩)
    (fun c s A B row hs hg hr=>⟨hs.1,by obtain ⟨_,x,h1,h3,h4⟩:=hs;exact ⟨x,h1,cells_grown h3.out hg (fun r e=>(hr r e).2),h4.out.grown hg h4.out.size (fun r e=>by have:=(hr r e).1;have:=B2.out.size;omega)⟩⟩)
    ⟨rfl,S2.out,R2.out,B2.out,Nat.le_refl _,X2.out⟩
    (TokAt w s w2.heap.size)
    (fun x a' s A B row hs hg hr=>by
      obtain ⟨b,u4,u5,u6,u7,u8,u9,u10,u11,u12,u13,u14,u15,u16,u17,h1,h2,h3⟩:=hs;exact ⟨b,u4,u5,u6,u7,u8,u9,u10,u11,u12,u13,u14,u15,u16,u17,h1,h2,cells_grown h3 hg (fun r e=>(hr r e).2)⟩)
    ?assign ?body ?done ?stop
  case assign=>
    rintro l pre x W K ⟨h1,h2,h3,h4,h5,h6⟩ hK;have HK:=Hid.out (p:=Hid _) hK;clear hK
    gi_wp2_with fail
    have HO:∀ k,k<W.heap.size->(W.alloc (.cells #[.int .i64 x.1,.string ⟨x.2.1.toArray⟩,.int .i64 x.2.2] 194)).heap[k]?=W.heap[k]?:=fun k hk=>((Below.refl W.heap.size W).alloc (Nat.le_refl _) _).block k hk;refine HK.out _ _ ((KeepsOthers.alloc W _).from _) ⟨HO _ (by have:=h5.out;omega),fun t=>tabs_kept T2.out t (fun k hk=>HO k (by have:=h5.out;omega))⟩ ⟨h1,heap_alloc_old h2.out,heap_alloc_old h3.out,h4.out.alloc h4.out.size _,by have:=h5.out;simp [Hid];omega,heap_alloc_old h6.out⟩ ?_;exact ⟨W.heap.size,_,_,_,_,_,_,_,_,_,_,_,_,_,_,rfl,h5.out,heap_alloc_new _ _⟩
  case body=>
    rintro l pre x a' W hwl hrec ⟨rfl,h2,h3,h4,h5,h6⟩ ⟨b,u4,u5,u6,u7,u8,u9,u10,u11,u12,u13,u14,u15,u16,u17,rfl,hb0,hb⟩ hlen;have cs:=cell_of h2.out 0;have cr:=cell_of h3.out 0;have fr:=frozen_of h3.out 0;have cb0:=cell_of hb 0;have cb1:=cell_of hb 1;have cb2:=cell_of hb 2;have HSET:∀ r:Bool,Hid ((W.setCell ⟨w.heap.size+1,0,none⟩ (.bool r)).heap[w.heap.size+1]?=some (.cells #[.bool r] 4 (0,0))):=fun r=>by rw [Hid,heap_set_same h3.out];rfl
    clear hrec hlen;have HFIN:∀ r:Bool,oneTok s.size x=r->Hid (Hid (KeepsFrom w2.heap.size W (W.setCell ⟨w.heap.size+1,0,none⟩ (.bool r)))/\Hid ((W.setCell ⟨w.heap.size+1,0,none⟩ (.bool r)).heap[w.heap.size+1]?=some (.cells #[.bool (oneTok s.size x)] 4 (0,0)))/\Hid (Below w.heap.size w (W.setCell ⟨w.heap.size+1,0,none⟩ (.bool r)))):=fun r e=>⟨(KeepsOthers.setCell _ _ _).from _,by rw [e];exact (HSET r).out,h4.out.setCell (p:=⟨w.heap.size+1,0,none⟩) (by show w.heap.size<=w.heap.size+1;omega) _⟩;clear HSET;by_cases hk:x.1=1
    · have q1:((x.1:Int) == 1)=true:=by rw [beq_iff_eq];omega
      by_cases hn:x.2.1.length=s.size
      · have q2:((x.2.1.length:Int) == (s.size:Int))=true:=by rw [beq_iff_eq];omega
        have HR:=HFIN true (by simp [oneTok,hk,hn]);clear hk hn HFIN
        gi_wp2_with fail
        exact ⟨HR.out.1.out,rfl,x,rfl,HR.out.2.1,HR.out.2.2⟩
      · have q2:((x.2.1.length:Int) == (s.size:Int))=false:=by rw [beq_eq_false_iff_ne];omega
        have HR:=HFIN false (by simp [oneTok,hn]);clear hk hn HFIN
        gi_wp2_with fail
        exact ⟨HR.out.1.out,rfl,x,rfl,HR.out.2.1,HR.out.2.2⟩
    · have q1:((x.1:Int) == 1)=false:=by rw [beq_eq_false_iff_ne];omega
      have HR:=HFIN false (by simp [oneTok,hk]);clear hk HFIN
      gi_wp2_with fail
      exact ⟨HR.out.1.out,rfl,x,rfl,HR.out.2.1,HR.out.2.2⟩
  case done=>
    rintro D xs W hD rfl ⟨h1,h2,h3,h4,h5,h6⟩ hKD;have HID:Hid (false=identB s.data.toList):=by rw [Hid,identB,h1]
    have cr:=cell_of h3.out 0;have fr:=frozen_of h3.out 0;have HK:=Hid.out (p:=Hid _) hKD;have HSET:Hid ((W.setCell ⟨w.heap.size+1,0,none⟩ (.bool false)).heap[w.heap.size+1]?=some (.cells #[.bool false] 4 (0,0))):=by rw [Hid,heap_set_same h3.out];rfl
    have HKD:Hid ((W.setCell ⟨w.heap.size+1,0,none⟩ (.bool false)).heap[D]?=some (.deferred (some []))):=(Below.heap_setCell _ _ _ _ (by show D≠w.heap.size+1;have:=B2.out.size;have:=heap_lt R2.out;omega)).trans HK.out;clear hKD h1;go_wp2_with fail
    exact ident_ret w _ D s _ _ HSET.out HID.out (h4.out.setCell (p:=⟨w.heap.size+1,0,none⟩) (by show w.heap.size<=w.heap.size+1;omega) _) (by have:=B2.out.size;omega) HKD.out rfl
  case stop=>
    rintro D c pre W hD hpre ⟨rfl,x,rfl,h3,h4⟩ hKD;have HID:Hid (oneTok s.size x=identB s.data.toList):=by
      obtain ⟨t,ht⟩:=hpre;rw [Hid,identB,<-ht,HSL.out];rfl
    have HK:=Hid.out (p:=Hid _) hKD;clear hKD hpre;refine wpIn_wide.2 ?_;go_wp2_with fail
    exact ident_ret w W D s _ _ h3.out HID.out h4.out (by have:=B2.out.size;omega) HK.out rfl
end Go.Proofs.YtliekocamnklfaaGreatDoor.Addr
