/- tabulariumref11.Parse. -/
import Derived.Test.YtliekocamnklfaaGreatDoorPRefK
import Derived.Test.YtliekocamnklfaaGreatDoorPAdA
import Derived.Test.YtliekocamnklfaaGreatDoorPNumW
import Derived.Test.YtliekocamnklfaaGreatDoorPUtfW
import Derived.Laws.StructEq
import Derived.Deep.RegionHeld3
import Derived.Maps.AppendAt
import Derived.WalkKit
set_option linter.unusedVariables false
set_option linter.unusedSimpArgs false
set_option maxRecDepth 100000
set_option maxHeartbeats 8000000
namespace Go.Proofs.YtliekocamnklfaaGreatDoor.Lex
open Go.RowKit Utf Strs
def whereAt (x:List Tok × Nat × Nat):Int:=if x.2.2≠0 then (x.2.1:Int) else -1
def RParse (l:List UInt8) (w:World) (e:Ending) (w':World):Prop:=
  ∃ v,e=.returned (.agg #[v,.int .i64 (whereAt (toksAt l 0)),.int .i64 (toksAt l 0).2.2])/\Row w' w.heap.size v (toksAt l 0).1/\Below w.heap.size w w'
theorem rp_ret {s:ByteArray} {w w':World} {tm:Array Value} {va:Option Addr} {n c:Nat} {b d:Int} (hb:w'.heap[w.heap.size]?=some (.cells #[.slice va n c,.int .i64 b,.int .i64 d] 254 (0,0)))
    (hp:RParse s.data.toList w (.returned (.agg #[.slice va n c,.int .i64 b,.int .i64 d])) w')
    (h2:tm[2]?=some (.pointer (some ⟨w.heap.size,0,none⟩))) :
    bodyPost Tryz.prog Tryz.f283 (RParse s.data.toList w) Exit.ret { tmps:=tm,defers:=[] } w':=by
  have c0:=cell_of hb 0;have c1:=cell_of hb 1;have c2:=cell_of hb 2;refine bodyPost_ret (v:=.agg #[.slice va n c,.int .i64 b,.int .i64 d]) ?_ rfl hp;simp [results,Tryz.results283,go_sem,h2,c0,c1,c2]
theorem Row.put3 {w w':World} {v a b c:Value} {l:List Tok} {cs:Array Value} (h:Row w' w.heap.size v l) (hb:w'.heap[w.heap.size]?=some (.cells cs 254 (0,0))):Row (((w'.setCell ⟨w.heap.size,0,none⟩ a).setCell ⟨w.heap.size,1,none⟩ b).setCell ⟨w.heap.size,2,none⟩ c) w.heap.size v l:=by
  have hne:v.ownBlock≠some w.heap.size:=own_ne h hb (by decide);have h':w'.ownsRow w.heap.size 194 3 v l.length (toksCells l):=h;have g:∀ (W:World) (i:Nat) (u:Value),W.grownBy (W.setCell ⟨w.heap.size,i,none⟩ u) (some w.heap.size):=fun W i u=>⟨rfl,rfl,rfl,by simp [World.setCell],fun k _ hk=>Below.heap_setCell _ _ _ _ (fun e=>hk (by simp [e]))⟩;exact (((h'.kept (g _ _ _) (.inr hne)).kept (g _ _ _) (.inr hne)).kept (g _ _ _) (.inr hne))
theorem rparse_any (s:ByteArray) (w:World) (hs:s.size<=2000000):Calls Tryz.prog 283 #[.string s] w (RParse s.data.toList w):=by
  obtain ⟨i0,hi,hz0,hz1,hz2⟩:=info_parts infoTok;have HI:=Hid.out (p:=Hid _) hi;clear hi;have hl:s.data.toList.length=s.size:=by simp
  have HL:=Hid.out (p:=Hid _) hl;clear hl;go_enter Tryz.func283,Tryz.ntmps283
  go_wp2_with fail
  go_loopw [3,4] (fun p3 p4 wr=>∃ (k:Nat) (pre:List Tok),p4=.int .i64 k/\k<=s.size/\Hid (pre.length<=k)/\Hid (toksAt s.data.toList 0=(pre++(toksAt s.data.toList k).1,(toksAt s.data.toList k).2))/\Hid (Row wr w.heap.size p3 pre)/\Hid (Fresh w wr)) (fun _ p4 _=>s.size-(intOf p4).toNat)
  case atStart=>exact ⟨0,[],rfl,Nat.zero_le _,Nat.zero_le _,rfl,Row.nil _ _,Fresh.new w⟩
  case round=>
    obtain ⟨k,pre,rfl,hk,hpk,hp,hR,hF⟩:=hrel;obtain ⟨va,vc,rfl⟩:=hR.out.form;by_cases hlt:k<s.size
    · have hlen:k<s.data.toList.length:=by rw [HL.out];exact hlt
      cases hbl:blankN s[k].toNat
      · have hbl':blank s.data.toList[k]=false:=by rw [blank_eq];exact hbl
        obtain ⟨a,n,c,d,hx⟩:∃ a n c d,next (s.data.toList.drop k)=(a,n,c,d):=⟨_,_,_,_,rfl⟩;have hf:=next_fits (s.data.toList.drop k) (List.ne_nil_of_length_pos (by rw [List.length_drop];omega));rw [hx] at hf;have f1:=hf.size;have f2:=hf.bad;simp only [List.length_drop,HL.out] at f1 f2
        have hcall:=fun w=>rone_tok s k w hlt hs;rw [hx] at hcall;have hbad:d≠0->Hid (toksAt s.data.toList 0=(pre,((k+c:Nat),d))):=by
          intro hd
          rw [Hid,hp.out,toksAt_bad _ _ hlen hbl' (by rw [hx];exact hd),hx];simp
        have htok:d=0->Hid (toksAt s.data.toList 0=((pre++[(a,(s.data.toList.drop k).take n,k)])++(toksAt s.data.toList (k+n)).1,(toksAt s.data.toList (k+n)).2)):=by
          intro hd
          rw [Hid,hp.out,toksAt_tok _ _ hlen hbl' (by rw [hx];exact hd),hx];simp
        have HB:=Hid.out (p:=Hid _) hbl;clear hbl hbl' hx hf;by_cases hd:d=0
        · subst hd;obtain ⟨h1,h2⟩:=f1 rfl;have HF:=htok rfl;have hxl:((s.data.toList.drop k).take n).length=n:=by rw [List.length_take,List.length_drop,HL.out];omega
          obtain ⟨x,hxe⟩:∃ x,(s.data.toList.drop k).take n=x:=⟨_,rfl⟩;have hcall2:∀ w,Calls Tryz.prog 304 #[.string s,.int .i64 k] w (ToldOk w (a,x,k)):=by
            intro w
            refine (hcall w).mono ?_;intro e w' h
            unfold OPost at h;rw [if_neg (by simp)] at h;rw [<-hxe];exact h
          rw [hxe] at HF hxl;have HC:=Hid.out (p:=Hid _) hcall2;have HXL:=Hid.out (p:=Hid _) hxl;have hxs:(⟨x.toArray⟩:ByteArray).size=n:=by show x.toArray.size=n;rw [List.size_toArray,hxl]
          clear hbad htok f1 f2 hcall hcall2 hxe hxl;obtain ⟨xb,hxb⟩:∃ xb,(⟨x.toArray⟩:ByteArray)=xb:=⟨_,rfl⟩;rw [hxb] at hxs;have HXB:=Hid.out (p:=Hid _) hxb;clear hxb;go_wp2_with fail
          refine (rblank_any s[k].toNat _).mono ?_;rintro e w' ⟨rfl,rfl⟩;rw [HB.out];go_wp2_with fail
          refine (Calls.mono (HC.out _) ?_);rintro e w2 ⟨g,hg,rfl,hgx,hb2⟩;rw [HXB.out] at hgx;have F2:Hid (Fresh w w2):=hF.out.on hb2;have R2:Hid (Row w2 w.heap.size (.slice va pre.length vc) pre):=hR.out.stays hb2;have hg2:g<w2.heap.size:=heap_lt hgx;have c0:=cell_of hgx 0;have c1:=cell_of hgx 1;have c2:=cell_of hgx 2;have hown:w2.ownsRow w.heap.size 194 3 (.slice va pre.length vc) pre.length (toksCells pre):=R2.out;have hng:(Value.slice va pre.length vc).ownBlock≠some g:=fun e=>by have:=World.ownsRow.lt hR.out g e;omega
          have hn5:(Value.slice va pre.length vc).ownBlock≠some w2.heap.size:=fun e=>by have:=hown.lt _ e;omega
          have hnr:(Value.slice va pre.length vc).ownBlock≠some w.heap.size:=own_ne hown F2.out.1 (by decide);have hlw:w.heap.size<w2.heap.size:=heap_lt F2.out.1;have hlk:Hid (pre.length<=2000000):=by have:=hpk.out;unfold Hid;omega
          have HNG:=Hid.out (p:=Hid _) hng;have HN5:=Hid.out (p:=Hid _) hn5;have HNR:=Hid.out (p:=Hid _) hnr;clear hb2 hg hng hn5 hnr;have HGX:=Hid.out (p:=Hid _) hgx;clear hgx;go_wp2_with (at_builtin;refine wpList_append_own _ rfl _ _ 195 rfl w.heap.size 194 i0 (.agg #[.int .i64 0,.string ⟨#[]⟩,.int .i64 0]) 3 32 Tryz.underlying195 HI hz0 hz1 hz2 rfl (by decide) _ _ _ rfl ((hown.alloc _).alloc _) ⟨w2.heap.size+1,0,none⟩ 1 1 [.int .i64 a,.string xb,.int .i64 k] rfl rfl ?c1 ?c2 ?c3 ?c4 ?c5 ?_)
          case c1=>
            intro j u hj
            match j,hj with
            | 0,hj=>simp at hj;subst hj;simp [Addr.add]
            | 1,hj=>simp at hj;subst hj;simp [Addr.add]
            | 2,hj=>simp at hj;subst hj;simp [Addr.add]
          case c2=>intro u hu;simp at hu;rcases hu with rfl | rfl | rfl <;> rfl
          case c3=>unfold maxLen;have:=hlk.out;omega
          case c4=>have:=hlk.out;omega
          case c5=>simp;omega
          intro v' w4 hown' hgrow _
          have hb5:w4.heap[w2.heap.size]?=some (.cells #[.slice (some ⟨g,0,none⟩) 1 1,.int .i64 0,.int .i64 0] 254 (0,0)):=by
            rw [hgrow.block _ (by simp;omega) (fun e=>HN5.out e.symm)];exact heap_alloc_old (heap_alloc_new _ _)
          have hbg:w4.heap[g]?=some (.cells #[.int .i64 a,.string xb,.int .i64 k] 194 (0,0)):=by
            rw [hgrow.block _ (by simp;omega) (fun e=>HNG.out e.symm)];exact heap_alloc_old (heap_alloc_old HGX.out)
          have F4:Hid (Fresh w w4):=by
            refine ⟨?_,?_⟩
            · rw [hgrow.block _ (by simp;omega) (fun e=>HNR.out e.symm)];exact heap_alloc_old (heap_alloc_old F2.out.1)
            · exact ((F2.out.2.alloc (by omega) _).alloc (by simp;omega) _).grown hgrow (by simp;omega) (fun k hk=>(hown.lt k hk).1)
          have R4:Hid (Row w4 w.heap.size v' (pre++[(a,x,k)])):=by
            rw [Hid,Row,toksCells_snoc];have:=hown';rw [<-HXB.out] at this
            simpa [tokCells] using this
          have d0:=cell_of hb5 0;have d1:=cell_of hb5 1;have d2:=cell_of hb5 2;have e0:=cell_of hbg 0;have e1:=cell_of hbg 1;have e2:=cell_of hbg 2;have hp4:Hid ((pre++[(a,x,k)]).length<=k+n):=by rw [Hid,List.length_append];have:=hpk.out;simp;omega
          clear hown' hgrow hown hb5 hbg c0 c1 c2;go_wp2_with fail
          go_roundw
          case rel=>exact ⟨k+n,_,by go_num,by omega,hp4.out,HF.out,R4.out,F4.out⟩
          case measure=>simp [intOf];omega
        · have hne:((d:Int) != 0)=true:=by rw [bne_iff_ne];omega
          have HF:=hbad hd;have hcall2:∀ w,Calls Tryz.prog 304 #[.string s,.int .i64 k] w (ToldErr w (k+c) d):=by
            intro w
            refine (hcall w).mono ?_;intro e w' h
            unfold OPost at h;rw [if_pos (by simpa using hd)] at h;exact h
          have HC:=Hid.out (p:=Hid _) hcall2;have HD:Hid (d≠0):=hd;clear hbad htok f1 hcall hcall2 hd;go_wp2_with fail
          refine (rblank_any s[k].toNat _).mono ?_;rintro e w' ⟨rfl,rfl⟩;rw [HB.out];go_wp2_with fail
          refine (Calls.mono (HC.out _) ?_);rintro e w2 ⟨rfl,hb2⟩;have F2:Hid (Fresh w w2):=hF.out.on hb2;have R2:Hid (Row w2 w.heap.size (.slice va pre.length vc) pre):=hR.out.stays hb2;have hlw:w.heap.size<w2.heap.size:=heap_lt F2.out.1;clear hb2;have c0:=cell_of F2.out.1 0;have c1:=cell_of F2.out.1 1;have c2:=cell_of F2.out.1 2;have f0:=frozen_of F2.out.1 0;have f1:=frozen_of F2.out.1 1;have f2:=frozen_of F2.out.1 2;go_wp2_with fail
          refine rp_ret (heap_alloc_old (F2.out.put _ _ _)) ⟨.slice va pre.length vc,?_,?_,(told3 F2.out.2).alloc (by simp;omega) _⟩ rfl
          · rw [HF.out];show _=Ending.returned (.agg #[_,.int .i64 (whereAt (pre,(k+c,d))),.int .i64 d]);rw [whereAt,if_pos HD.out];rfl
          · rw [HF.out];exact World.ownsRow.alloc (R2.out.put3 F2.out.1) _
      · have hbl':blank s.data.toList[k]=true:=by rw [blank_eq];exact hbl
        have HF:Hid (toksAt s.data.toList 0=(pre++(toksAt s.data.toList (k+1)).1,(toksAt s.data.toList (k+1)).2)):=by
          rw [Hid,hp.out,toksAt_blank _ _ hlen hbl']
        have HB:=Hid.out (p:=Hid _) hbl;clear hbl hbl';go_wp2_with fail
        refine (rblank_any s[k].toNat _).mono ?_;rintro e w' ⟨rfl,rfl⟩;rw [HB.out];go_wp2_with fail
        go_roundw
        case rel=>exact ⟨k+1,pre,by go_num,by omega,by have:=hpk.out;exact Nat.le_succ_of_le this,HF.out,hR.out,hF.out⟩
        case measure=>simp [intOf];omega
    · obtain rfl:k=s.size:=by omega
      have HF:Hid (toksAt s.data.toList 0=(pre,(0,0))):=by
        have h1:=toksAt_end s.data.toList;rw [HL.out] at h1;rw [Hid,hp.out,h1];simp
      have c0:=cell_of hF.out.1 0;have c1:=cell_of hF.out.1 1;have c2:=cell_of hF.out.1 2;have f0:=frozen_of hF.out.1 0;have f1:=frozen_of hF.out.1 1;have f2:=frozen_of hF.out.1 2;go_wp2_with fail
      refine rp_ret (hF.out.put _ _ _) ⟨.slice va pre.length vc,?_,?_,told3 hF.out.2⟩ rfl
      · rw [HF.out];rfl
      · rw [HF.out];exact hR.out.put3 hF.out.1
end Go.Proofs.YtliekocamnklfaaGreatDoor.Lex
set_option maxHeartbeats 4000000
namespace Go.Proofs.YtliekocamnklfaaGreatDoor.Addr
open Go.RowKit Go.Shelf Utf Strs Lex
theorem first_len (l:List UInt8):∀ (n p:Nat),l.length-p<=n->p<=l.length->∀ x t,(toksAt l p).1=x::t->x.2.1.length+p<=l.length:=by
  intro n
  induction n with
  | zero=>
    intro p h1 h2 x t h
    obtain rfl:p=l.length:=by omega
    rw [toksAt_end] at h;cases h
  | succ n ih=>
    intro p h1 h2 x t h
    by_cases hp:p=l.length
    · subst hp;rw [toksAt_end] at h;cases h
    have hlt:p<l.length:=by omega
    cases hb:Lex.blank l[p] with
    | true=>
      rw [toksAt_blank l p hlt hb] at h;have:=ih (p+1) (by omega) (by omega) x t h;omega
    | false=>
      by_cases he:(next (l.drop p)).2.2.2=0
      · rw [toksAt_tok l p hlt hb he] at h;injection h with h _
        subst h;simp only [List.length_take,List.length_drop]
        omega
      · rw [toksAt_bad l p hlt hb he] at h;cases h
theorem ident_toks (l:List UInt8) (h:identB l=true):toksAt l 0=([(1,l,0)],0,0):=by
  unfold identB at h;by_cases h0:l.length=0
  · have:=toksAt_end l;rw [h0] at this;rw [this] at h;cases h
  have hlt:0<l.length:=by omega
  cases hb:Lex.blank l[0] with
  | true=>
    rw [toksAt_blank l 0 hlt hb] at h
    cases hx:(toksAt l (0+1)).1 with
    | nil=>rw [hx] at h;cases h
    | cons x t=>
      have:=first_len l (l.length) (0+1) (by omega) (by omega) x t hx;rw [hx] at h;simp only [oneTok,Bool.and_eq_true,beq_iff_eq] at h
      omega
  | false=>
    by_cases he:(next (l.drop 0)).2.2.2=0
    · have ht:=toksAt_tok l 0 hlt hb he;have hf:=(next_fits (l.drop 0) (List.ne_nil_of_length_pos (by rw [List.length_drop];omega))).size he;rw [ht] at h ⊢;simp only [oneTok,Bool.and_eq_true,beq_iff_eq,List.drop_zero,List.length_take] at h hf ⊢
      have hs:(next l).2.1=l.length:=by omega
      rw [hs,h.1,Nat.zero_add,toksAt_end,List.take_length]
    · rw [toksAt_bad l 0 hlt hb he] at h;cases h
theorem ident_not {l:List UInt8} (h:identB l=false) (he:(toksAt l 0).2.2=0) (x:Tok) (hx:(toksAt l 0).1=[x]) (h1:x.1=1):x.2.1≠l:=by
  intro e
  unfold identB at h;rw [hx] at h;simp [oneTok,h1,e] at h
theorem RParse.to {l:List UInt8} {w w':World} {e:Ending} (h:RParse l w e w'):∃ v,e=.returned (.agg #[v,.int .i64 (whereAt (toksAt l 0)),.int .i64 (toksAt l 0).2.2])/\Hid (Row w' w.heap.size v (toksAt l 0).1)/\Hid (Below w.heap.size w w'):=h
theorem told_put (w:World) (a b c:Value):∃ w1,w.alloc (.cells #[a,b,c] 254)=w1/\Hid (w1.heap[w.heap.size]?=some (.cells #[a,b,c] 254 (0,0)))/\Hid (Below w.heap.size w w1):=
  ⟨_,rfl,heap_alloc_new _ _,(Below.refl _ _).alloc (Nat.le_refl _) _⟩
theorem row_one {w:World} {B c:Nat} {a:Option Addr} {x:Tok} (h:Row w B (.slice a 1 c) [x]):∃ g,a=some ⟨g,0,none⟩/\w.cell? ⟨g,0,none⟩=some (.int .i64 x.1)/\w.cell? ⟨g,1,none⟩=some (.string ⟨x.2.1.toArray⟩):=by
  have h':w.ownsRow B 194 3 (.slice a 1 c) 1 (toksCells [x]):=h;rcases h'.2 with ⟨_,h0⟩ | ⟨g,cap,cur,hv,_⟩
  · omega
  · injection hv with e1 _ _
    subst e1;have h2:=h'.cellAt 0 (by omega);have h3:=h'.cellAt 1 (by omega);exact ⟨g,rfl,h2,h3⟩
theorem alone_any (s:ByteArray) (w:World) (hs:s.size<=1000000):Calls Tryz.prog 243 #[.string s,.int .i64 1] w fun e w'=>e=.returned (.bool (identB s.data.toList))/\Below w.heap.size w w':=by
  have hp:=rparse_any s w (by omega);have HP:=Hid.out (p:=Hid _) hp;have q0:decide ((1048576:Int)<(s.size:Int))=false:=by rw [decide_eq_false_iff_not];omega
  have q00:decide (1048576<s.size)=false:=by rw [decide_eq_false_iff_not];omega
  clear hp;go_enter Tryz.func243,Tryz.ntmps243
  go_wp2_with fail
  refine (Calls.mono HP.out ?_);rintro z w2 hz;obtain ⟨v,rfl,hr,B2⟩:=RParse.to hz;obtain ⟨va,vc,rfl⟩:=hr.out.form;obtain ⟨L,hL⟩:∃ L,(toksAt s.data.toList 0).1=L:=⟨_,rfl⟩;obtain ⟨er,her⟩:∃ er,(toksAt s.data.toList 0).2.2=er:=⟨_,rfl⟩;obtain ⟨at_,hat⟩:∃ x,whereAt (toksAt s.data.toList 0)=x:=⟨_,rfl⟩;rw [hL] at hr ⊢;obtain ⟨n,hn⟩:∃ n,L.length=n:=⟨_,rfl⟩;rw [her,hat,hn];have hr:Hid (Row w2 w.heap.size (.slice va n vc) L):=by have:=hr.out;rw [hn] at this;exact this
  have HNOT:Hid (∀ x,identB s.data.toList=false->er=0->L=[x]->x.1=1->x.2.1≠s.data.toList):=fun x h1 h2 h3 h4=>ident_not h1 (by rw [her];exact h2) x (by rw [hL];exact h3) h4;have HYES:Hid (identB s.data.toList=true->er=0/\L=[(1,s.data.toList,0)]):=fun h=>by
    have:=ident_toks _ h;rw [this] at hL her;exact ⟨her.symm,hL.symm⟩
  obtain ⟨w3,hw3,X3,B3⟩:=told_put w2 (.slice va n vc) (.int .i64 at_) (.int .i64 er);have HR3:Hid (Row w3 w.heap.size (.slice va n vc) L):=hr.out.stays B3.out;have B13:Hid (Below w.heap.size w w3):=B2.out.trans (B3.out.mono B2.out.size);have c0:=cell_of X3.out 0;have c1:=cell_of X3.out 1;have c2:=cell_of X3.out 2;clear hz hr hL her hat B2 B3;by_cases he:er=0
  · have q1:((er:Int) == 0)=true:=by rw [beq_iff_eq];omega
    by_cases hl:n=1
    · subst hl;obtain ⟨x,rfl⟩:=List.length_eq_one_iff.1 hn;clear hn;obtain ⟨g,rfl,d0,d1⟩:=row_one HR3.out;by_cases hk:x.1=1
      · have q3:((x.1:Int) == 1)=true:=by rw [beq_iff_eq];omega
        by_cases ht:x.2.1=s.data.toList
        · have HF:Hid (identB s.data.toList=true):=by
            cases hi:identB s.data.toList with
            | true=>rfl
            | false=>exact absurd ht (HNOT.out x hi he rfl hk)
          have hxs:(⟨x.2.1.toArray⟩:ByteArray)=s:=by rw [ht] <;> simp
          rw [hxs] at d1;clear he hk ht HNOT HYES hxs;go_wp2_with fail
          go_ret
          exact ⟨by rw [HF.out] <;> rfl,B13.out⟩
        · have HF:Hid (identB s.data.toList=false):=by
            cases hi:identB s.data.toList with
            | false=>rfl
            | true=>exact absurd (by have:=(HYES.out hi).2;injection this with this _;rw [this]) ht
          have q4:(x.2.1 == s.toList)=false:=by
            rw [beq_eq_false_iff_ne,ByteArray.toList_eq];exact ht
          clear he hk ht HNOT HYES;go_wp2_with fail
          go_ret
          exact ⟨by rw [HF.out] <;> rfl,B13.out⟩
      · have q3:((x.1:Int) == 1)=false:=by rw [beq_eq_false_iff_ne];omega
        have HF:Hid (identB s.data.toList=false):=by
          cases hi:identB s.data.toList with
          | false=>rfl
          | true=>exact absurd (by have:=(HYES.out hi).2;injection this with this _;rw [this]) hk
        clear he hk HNOT HYES;go_wp2_with fail
        go_ret
        exact ⟨by rw [HF.out] <;> rfl,B13.out⟩
    · have q2:((n:Int) == 1)=false:=by rw [beq_eq_false_iff_ne];omega
      have HF:Hid (identB s.data.toList=false):=by
        cases hi:identB s.data.toList with
        | false=>rfl
        | true=>exact absurd (by rw [<-hn,(HYES.out hi).2];rfl) hl
      clear he hl hn HNOT HYES;go_wp2_with fail
      go_ret
      exact ⟨by rw [HF.out] <;> rfl,B13.out⟩
  · have q1:((er:Int) == 0)=false:=by rw [beq_eq_false_iff_ne];omega
    have HF:Hid (identB s.data.toList=false):=by
      cases hi:identB s.data.toList with
      | false=>rfl
      | true=>exact absurd (HYES.out hi).1 he
    clear he hn HNOT HYES;go_wp2_with fail
    go_ret
    exact ⟨by rw [HF.out] <;> rfl,B13.out⟩
theorem alone_list (s:ByteArray) (g c:Nat) (w:World) (hs:s.size<=1000000) (h0:w.cell? ⟨g,0,none⟩=some (.int .i64 1)) (h1:w.cell? ⟨g,1,none⟩=some (.string s)):Calls Tryz.prog 202 #[.slice (some ⟨g,0,none⟩) 1 c] w fun e w'=>e=.returned (.bool (identB s.data.toList))/\Below w.heap.size w w':=by
  have HA:Hid (∀ w,Calls Tryz.prog 243 #[.string s,.int .i64 1] w fun e w'=>e=.returned (.bool (identB s.data.toList))/\Below w.heap.size w w'):=fun w=>alone_any s w hs;obtain ⟨r,hr⟩:∃ r,identB s.data.toList=r:=⟨_,rfl⟩;rw [hr] at HA ⊢;clear hr;go_enter Tryz.func202,Tryz.ntmps202
  go_wp2_with fail
  go_loopw [3] (fun p wr=>(p=.int .i64 0/\w=wr)∨(p=.int .i64 1/\r=true/\Hid (Below w.heap.size w wr))) (fun p _=>1-(intOf p).toNat)
  case atStart=>exact .inl ⟨rfl,rfl⟩
  case round=>
    rcases hrel with ⟨rfl,rfl⟩ | ⟨rfl,rfl,hB⟩
    · go_wp2_with fail
      have HK:∀ w2,Below w.drew.heap.size w.drew w2->w2.cell? ⟨g,0,none⟩=some (.int .i64 1)/\w2.cell? ⟨g,1,none⟩=some (.string s):=fun w2 hb2=>⟨(World.cell?_of_block (w:=w.drew) (hb2.block g (World.block_lt_of_cell? w _ h0))).trans h0,(World.cell?_of_block (w:=w.drew) (hb2.block g (World.block_lt_of_cell? w _ h1))).trans h1⟩;have HK2:=Hid.out (p:=Hid _) HK;clear HK
      go_region_held3 (fun w'=>w'.cell? ⟨g,0,none⟩=some (.int .i64 1)/\w'.cell? ⟨g,1,none⟩=some (.string s)) (go_keep)
        (first
          | (go_at_call 243;refine (HA.out w.drew).mono ?_;rintro z w2 ⟨rfl,hb2⟩;obtain ⟨k0,k1⟩:=HK2.out w2 hb2;have HB2:=Hid.out (p:=Hid _) hb2;clear hb2))
      have HB:Hid (Below w.heap.size w w2):=⟨HB2.out.os,HB2.out.tape,HB2.out.output,HB2.out.size,HB2.out.block⟩;clear k0 k1;cases r
      · go_wp2_with fail
        go_ret
        exact ⟨rfl,HB.out⟩
      · go_wp2_with fail
        go_roundw
        case rel=>exact .inr ⟨by go_num,trivial,HB.out⟩
        case measure=>simp [intOf]
    · go_wp2_with fail
      go_ret
      exact ⟨rfl,hB.out⟩
theorem name_any (s:ByteArray) (w:World) (hs:s.size<=1000000):Calls Tryz.prog 155 #[.string s] w fun e w'=>e=.returned (.bool (identB s.data.toList))/\Below w.heap.size w w':=by
  obtain ⟨w1,hw1,X1,B1⟩:∃ w1,w.alloc (.cells #[.int .i64 1,.string s,.int .i64 0] 194)=w1/\Hid (w1.heap[w.heap.size]?=some (.cells #[.int .i64 1,.string s,.int .i64 0] 194 (0,0)))/\Hid (Below w.heap.size w w1):=⟨_,rfl,heap_alloc_new _ _,(Below.refl _ _).alloc (Nat.le_refl _) _⟩;have hc:=alone_list s w.heap.size 1 w1 hs (cell_of X1.out 0) (cell_of X1.out 1);have HC:=Hid.out (p:=Hid _) hc;clear hc;go_enter Tryz.func155,Tryz.ntmps155
  go_wp2_with fail
  refine (Calls.mono HC.out ?_);rintro z w2 ⟨rfl,hb2⟩;have B2:Hid (Below w.heap.size w w2):=B1.out.trans (hb2.mono B1.out.size);clear hb2;go_wp2_with fail
  go_ret
  exact ⟨rfl,B2.out⟩
end Go.Proofs.YtliekocamnklfaaGreatDoor.Addr
namespace Go.Proofs.YtliekocamnklfaaGreatDoor.Jdec
inductive JV where
  | mk (kind:Int) (is neg:Bool) (dig:ByteArray) (exp:Int) (str:ByteArray) (keys:List ByteArray) (kids:List JV)
def JV.zero:JV:=.mk 0 false false ⟨#[]⟩ 0 ⟨#[]⟩ [] []
def listOf (vs:List JV):JV:=.mk 5 false false ⟨#[]⟩ 0 ⟨#[]⟩ [] vs
def objectOf (ks:List ByteArray) (vs:List JV):JV:=.mk 6 false false ⟨#[]⟩ 0 ⟨#[]⟩ ks vs
open Go.RowKit
structure Raw where
  kind:Int
  is:Bool
  neg:Bool
  dig:ByteArray
  exp:Int
  str:ByteArray
  ka:Option Addr
  kn:Nat
  kc:Nat
  va:Option Addr
  vn:Nat
  vc:Nat
def Raw.val (r:Raw):Value:=.agg #[.int .i64 r.kind,.bool r.is,.bool r.neg,.string r.dig,.int .i64 r.exp,.string r.str,.slice r.ka r.kn r.kc,.slice r.va r.vn r.vc]
def Raw.cells (r:Raw):List Value:=[.int .i64 r.kind,.bool r.is,.bool r.neg,.string r.dig,.int .i64 r.exp,.string r.str,.slice r.ka r.kn r.kc,.slice r.va r.vn r.vc]
def Raw.zero:Raw:=⟨0,false,false,⟨#[]⟩,0,⟨#[]⟩,none,0,0,none,0,0⟩
def IsTexts (w:World) (A:Nat->Prop) (a:Option Addr) (l:List ByteArray):Prop:=
  l=[]∨∃ b o,a=some ⟨b,o,none⟩/\A b/\b<w.heap.size/\∀ i (h:i<l.length),w.cell? ⟨b,o+i,none⟩=some (.string l[i])
def CellsAt (w:World) (b o:Nat) (r:Raw):Prop:=∀ j u,r.cells[j]?=some u->w.cell? ⟨b,o+j,none⟩=some u
inductive IsV (w:World) (A:Nat->Prop):Raw->JV->Prop where
  | mk (r:Raw) (keys:List ByteArray) (kids:List JV) (f:Nat->Raw):r.kn=keys.length->r.vn=kids.length->IsTexts w A r.ka keys →
      (kids=[]∨∃ b o,r.va=some ⟨b,o,none⟩/\A b/\b<w.heap.size/\∀ i,i<kids.length->CellsAt w b (o+i*8) (f i)) →
      (∀ i (h:i<kids.length),IsV w A (f i) kids[i])->IsV w A r (.mk r.kind r.is r.neg r.dig r.exp r.str keys kids)
structure Turn (w w':World) (A A':Nat->Prop):Prop where
  size:w.heap.size<=w'.heap.size
  block:∀ b,A b->b<w.heap.size->w'.heap[b]?=w.heap[b]?/\A' b
theorem IsTexts.turn {w w':World} {A A':Nat->Prop} {a:Option Addr} {l:List ByteArray} (h:IsTexts w A a l) (t:Turn w w' A A'):IsTexts w' A' a l:=by
  rcases h with h | ⟨b,o,ha,hA,hb,hc⟩
  · exact .inl h
  · obtain ⟨h1,h2⟩:=t.block b hA hb;exact .inr ⟨b,o,ha,h2,Nat.lt_of_lt_of_le hb t.size,fun i hi=>(World.cell?_of_block h1).trans (hc i hi)⟩
theorem IsV.turn {w w':World} {A A':Nat->Prop} {r:Raw} {v:JV} (h:IsV w A r v) (t:Turn w w' A A'):IsV w' A' r v:=by
  induction h with
  | mk r keys kids f h1 h2 h3 h4 h5 ih=>
    refine .mk r keys kids f h1 h2 (h3.turn t) ?_ ih;rcases h4 with h4 | ⟨b,o,ha,hA,hb,hc⟩
    · exact .inl h4
    · obtain ⟨g1,g2⟩:=t.block b hA hb;exact .inr ⟨b,o,ha,g2,Nat.lt_of_lt_of_le hb t.size,fun i hi j u hu=>(World.cell?_of_block g1).trans (hc i hi j u hu)⟩
theorem Turn.mono (w:World) {A A':Nat->Prop} (h:∀ b,A b->b<w.heap.size->A' b):Turn w w A A':=⟨Nat.le_refl _,fun b hA hb=>⟨rfl,h b hA hb⟩⟩
theorem Turn.below {w w':World} {A:Nat->Prop} (h:Below w.heap.size w w'):Turn w w' A A:=⟨h.size,fun b hb hl=>⟨h.block b hl,hb⟩⟩
theorem IsV.bare (w:World) (A:Nat->Prop) (kind:Int) (is neg:Bool) (dig:ByteArray) (exp:Int) (str:ByteArray) (ka va:Option Addr) (kc vc:Nat):IsV w A ⟨kind,is,neg,dig,exp,str,ka,0,kc,va,0,vc⟩ (.mk kind is neg dig exp str [] []):=
  .mk ⟨kind,is,neg,dig,exp,str,ka,0,kc,va,0,vc⟩ [] [] (fun _=>Raw.zero) rfl rfl (.inl rfl) (.inl rfl) (fun i h=>absurd h (Nat.not_lt_zero _))
theorem flat_cells_len (rs:List Raw):(rs.flatMap Raw.cells).length=rs.length*8:=by
  induction rs with
  | nil=>rfl
  | cons r rs ih=>rw [List.flatMap_cons,List.length_append,ih,List.length_cons];simp [Raw.cells];omega
theorem flat_cells_at:∀ (rs:List Raw) (i:Nat) (h:i<rs.length) (j:Nat) (u:Value),rs[i].cells[j]?=some u->(rs.flatMap Raw.cells)[i*8+j]?=some u
  | r::rs,0,h,j,u,hu=>by
    have hu:r.cells[j]?=some u:=hu;have hj:=(List.getElem?_eq_some_iff.1 hu).1;rw [List.flatMap_cons,Nat.zero_mul,Nat.zero_add,List.getElem?_append_left hj];exact hu
  | r::rs,i+1,h,j,u,hu=>by
    have:=flat_cells_at rs i (by simpa using h) j u hu;have h8:r.cells.length=8:=rfl;rw [List.flatMap_cons,List.getElem?_append_right (by omega),h8,show (i+1)*8+j-8=i*8+j by omega];exact this
end Go.Proofs.YtliekocamnklfaaGreatDoor.Jdec
namespace Go.Proofs.YtliekocamnklfaaGreatDoor.Addr
open Go.RowKit Go.Shelf Utf Strs Lex
open Jdec (IsTexts)
def identsB (ks:List ByteArray):Bool:=ks.all fun k=>identB k.data.toList
theorem idents_take {ks:List ByteArray} {i:Nat} (h:i<ks.length):identsB (ks.take (i+1))=(identsB (ks.take i) && identB ks[i].data.toList):=by
  unfold identsB;rw [List.take_add_one,List.getElem?_eq_getElem h,List.all_append];simp
theorem idents_any (ks:List ByteArray) (ka:Option Addr) (kc:Nat) (A:Nat->Prop) (w:World) (ht:IsTexts w A ka ks) (hl:ks.length<=3000) (hs:∀ x∈ks,x.size<=1048576) (T:Tabs w):Calls Tryz.prog 146 #[.slice ka ks.length kc] w fun e w'=>e=.returned (.bool (identsB ks))/\Below w.heap.size w w':=by
  have HI:Hid (∀ i (h:i<ks.length) w',Below w.heap.size w w'->Calls Tryz.prog 193 #[.string ks[i]] w' fun e w''=>e=.returned (.bool (identB ks[i].data.toList))/\Below w'.heap.size w' w''):=fun i h w' hb=>ident_any ks[i] w' (hs _ (List.getElem_mem h)) (T.stays hb);have HTX:=Hid.out (p:=Hid _) ht;clear ht T hs;go_enter Tryz.func146,Tryz.ntmps146
  go_wp2_with fail
  go_loopw [7] (fun p wr=>∃ i:Nat,p=.int .i64 i/\i<=ks.length/\Hid (identsB (ks.take i)=true)/\Hid (Below w.heap.size w wr)) (fun p _=>ks.length-(intOf p).toNat)
  case atStart=>exact ⟨0,rfl,Nat.zero_le _,rfl,Below.refl _ _⟩
  case round=>
    obtain ⟨i,rfl,hi,hT,hB⟩:=hrel;by_cases hlt:i<ks.length
    · obtain ⟨b,o,rfl,_,hb,hc⟩:=HTX.out.resolve_left (by intro e;rw [e] at hlt;simp at hlt);have k0:wr.cell? ⟨b,o+i,none⟩=some (.string ks[i]):=(World.cell?_of_block (w:=w) (hB.out.block b hb)).trans (hc i hlt);have hcall:=HI.out i hlt wr hB.out;have HCL:=Hid.out (p:=Hid _) hcall;have HTK:=Hid.out (p:=Hid _) (idents_take hlt);have HSZ:=hB.out.size;obtain ⟨r,hr⟩:∃ r,identB ks[i].data.toList=r:=⟨_,rfl⟩;have HRR:=Hid.out (p:=Hid _) hr;rw [hr] at HCL;obtain ⟨x,hx⟩:∃ x,ks[i]=x:=⟨_,rfl⟩;rw [hx] at HCL k0;clear hcall hc hr hx;go_wp2_with fail
      refine (Calls.mono HCL.out ?_);rintro z w2 ⟨rfl,hb2⟩;have B2:Hid (Below w.heap.size w w2):=hB.out.trans (hb2.mono HSZ);clear hb2 k0 HCL;cases r
      · have HF:Hid (identsB ks=false):=by
          rw [Hid,identsB,List.all_eq_false];exact ⟨_,List.getElem_mem hlt,by rw [HRR.out];simp⟩
        go_wp2_with fail
        go_ret
        exact ⟨by rw [HF.out] <;> rfl,B2.out⟩
      · have HN:Hid (identsB (ks.take (i+1))=true):=by rw [Hid,HTK.out,hT.out,HRR.out];rfl
        go_wp2_with fail
        go_roundw
        case rel=>exact ⟨i+1,by go_num,by omega,HN.out,B2.out⟩
        case measure=>simp [intOf];omega
    · obtain rfl:i=ks.length:=by omega
      have HF:Hid (identsB ks=true):=by
        have:=hT.out;rw [List.take_length] at this;exact this
      go_wp2_with fail
      go_ret
      exact ⟨by rw [HF.out] <;> rfl,hB.out⟩
end Go.Proofs.YtliekocamnklfaaGreatDoor.Addr
namespace Go.Proofs.YtliekocamnklfaaGreatDoor.Quote
open Go.RowKit Utf Strs
theorem valid_any (s:ByteArray) (w:World) (hs:s.size<=4611686018427387904) (T:Sizes w):Calls Tryz.prog 147 #[.string s] w fun e w'=>e=.returned (.bool (decide (badZ s.data.toList<0)))/\w=w':=by
  have hc:=bad_any s w hs T;obtain ⟨z,hz⟩:∃ z,badZ s.data.toList=z:=⟨_,rfl⟩;rw [hz] at hc ⊢;clear hz;go_enter Tryz.func147,Tryz.ntmps147
  go_wp2_with fail
  refine hc.mono ?_;rintro e w' ⟨rfl,rfl⟩;go_wp2_with fail
  go_ret
  exact ⟨rfl,rfl⟩
end Go.Proofs.YtliekocamnklfaaGreatDoor.Quote
