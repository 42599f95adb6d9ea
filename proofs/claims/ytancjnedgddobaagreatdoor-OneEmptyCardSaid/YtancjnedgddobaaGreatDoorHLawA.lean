/- tabulariumref11.Parse. -/
import Derived.Test.YtancjnedgddobaaGreatDoorHRefK
import Derived.Laws.StructEq
set_option linter.unusedVariables false
set_option linter.unusedSimpArgs false
set_option maxRecDepth 100000
set_option maxHeartbeats 8000000
namespace Go.Proofs.YtancjnedgddobaaGreatDoor.Lex
open Go.RowKit Utf Strs
def whereAt (x:List Tok × Nat × Nat):Int:=if x.2.2≠0 then (x.2.1:Int) else -1
def RParse (l:List UInt8) (w:World) (e:Ending) (w':World):Prop:=
  ∃ v,e=.returned (.agg #[v,.int .i64 (whereAt (toksAt l 0)),.int .i64 (toksAt l 0).2.2])/\Row w' w.heap.size v (toksAt l 0).1/\Below w.heap.size w w'
theorem rp_ret {s:ByteArray} {w w':World} {tm:Array Value} {va:Option Addr} {n c:Nat} {b d:Int} (hb:w'.heap[w.heap.size]?=some (.cells #[.slice va n c,.int .i64 b,.int .i64 d] 258 (0,0)))
    (hp:RParse s.data.toList w (.returned (.agg #[.slice va n c,.int .i64 b,.int .i64 d])) w')
    (h2:tm[2]?=some (.pointer (some ⟨w.heap.size,0,none⟩))) :
    bodyPost Tryz.prog Tryz.f283 (RParse s.data.toList w) Exit.ret { tmps:=tm,defers:=[] } w':=by
  have c0:=cell_of hb 0;have c1:=cell_of hb 1;have c2:=cell_of hb 2;refine bodyPost_ret (v:=.agg #[.slice va n c,.int .i64 b,.int .i64 d]) ?_ rfl hp;simp [results,Tryz.results283,go_sem,h2,c0,c1,c2]
theorem Row.put3 {w w':World} {v a b c:Value} {l:List Tok} {cs:Array Value} (h:Row w' w.heap.size v l) (hb:w'.heap[w.heap.size]?=some (.cells cs 258 (0,0))):Row (((w'.setCell ⟨w.heap.size,0,none⟩ a).setCell ⟨w.heap.size,1,none⟩ b).setCell ⟨w.heap.size,2,none⟩ c) w.heap.size v l:=by
  have hne:v.ownBlock≠some w.heap.size:=own_ne h hb (by decide);have h':w'.ownsRow w.heap.size 188 3 v l.length (toksCells l):=h;have g:∀ (W:World) (i:Nat) (u:Value),W.grownBy (W.setCell ⟨w.heap.size,i,none⟩ u) (some w.heap.size):=fun W i u=>⟨rfl,rfl,rfl,by simp [World.setCell],fun k _ hk=>Below.heap_setCell _ _ _ _ (fun e=>hk (by simp [e]))⟩;exact (((h'.kept (g _ _ _) (.inr hne)).kept (g _ _ _) (.inr hne)).kept (g _ _ _) (.inr hne))
theorem rparse_any (s:ByteArray) (w:World) (hs:s.size<=2000000):Calls Tryz.prog 283 #[.string s] w (RParse s.data.toList w):=by
  obtain ⟨i0,hi,hz0,hz1,hz2⟩:=info_parts infoTok;have HI:=Hid.out (p:=Hid _) hi;clear hi;have hl:s.data.toList.length=s.size:=by simp
  have HL:=Hid.out (p:=Hid _) hl;clear hl;go_enter Tryz.func283,Tryz.ntmps283
  go_wp2_with fail
  go_loopw [3,4] (fun p3 p4 wr=>∃ (k:Nat) (pre:List Tok),p4=.int .i64 k/\k<=s.size/\Hid (pre.length<=k)/\Hid (toksAt s.data.toList 0=(pre++(toksAt s.data.toList k).1,(toksAt s.data.toList k).2))/\Hid (Row wr w.heap.size p3 pre)/\Hid (Fresh w wr)) (fun _ p4 _=>s.size-(intOf p4).toNat)
  case atStart=>exact ⟨0,[],rfl,Nat.zero_le _,Nat.zero_le _,rfl,Row.nil _ _,Fresh.new w⟩
  case round=>
    obtain ⟨k,pre,rfl,hk,hpk,hp,hR,hF⟩:=hrel;obtain ⟨va,vc,rfl⟩:=hR.out.form;by_cases hlt:k<s.size
    · have hlen:k<s.data.toList.length:=by rw [HL.out];exact hlt
      cases hbl:blankN s[k].toNat
      · have hbl':blank s.data.toList[k]=false:=by rw [blank_eq];exact hbl
        obtain ⟨a,n,c,d,hx⟩:∃ a n c d,next (s.data.toList.drop k)=(a,n,c,d):=⟨_,_,_,_,rfl⟩;have hf:=next_fits (s.data.toList.drop k) (List.ne_nil_of_length_pos (by rw [List.length_drop];omega));rw [hx] at hf;have f1:=hf.size;have f2:=hf.bad;simp only [List.length_drop,HL.out] at f1 f2
        have hcall:=fun w=>rone_tok s k w hlt hs;rw [hx] at hcall;have hbad:d≠0->Hid (toksAt s.data.toList 0=(pre,((k+c:Nat),d))):=by
          intro hd
          rw [Hid,hp.out,toksAt_bad _ _ hlen hbl' (by rw [hx];exact hd),hx];simp
        have htok:d=0->Hid (toksAt s.data.toList 0=((pre++[(a,(s.data.toList.drop k).take n,k)])++(toksAt s.data.toList (k+n)).1,(toksAt s.data.toList (k+n)).2)):=by
          intro hd
          rw [Hid,hp.out,toksAt_tok _ _ hlen hbl' (by rw [hx];exact hd),hx];simp
        have HB:=Hid.out (p:=Hid _) hbl;clear hbl hbl' hx hf;by_cases hd:d=0
        · subst hd;obtain ⟨h1,h2⟩:=f1 rfl;have HF:=htok rfl;have hxl:((s.data.toList.drop k).take n).length=n:=by rw [List.length_take,List.length_drop,HL.out];omega
          obtain ⟨x,hxe⟩:∃ x,(s.data.toList.drop k).take n=x:=⟨_,rfl⟩;have hcall2:∀ w,Calls Tryz.prog 318 #[.string s,.int .i64 k] w (ToldOk w (a,x,k)):=by
            intro w
            refine (hcall w).mono ?_;intro e w' h
            unfold OPost at h;rw [if_neg (by simp)] at h;rw [<-hxe];exact h
          rw [hxe] at HF hxl;have HC:=Hid.out (p:=Hid _) hcall2;have HXL:=Hid.out (p:=Hid _) hxl;have hxs:(⟨x.toArray⟩:ByteArray).size=n:=by show x.toArray.size=n;rw [List.size_toArray,hxl]
          clear hbad htok f1 f2 hcall hcall2 hxe hxl;obtain ⟨xb,hxb⟩:∃ xb,(⟨x.toArray⟩:ByteArray)=xb:=⟨_,rfl⟩;rw [hxb] at hxs;have HXB:=Hid.out (p:=Hid _) hxb;clear hxb;go_wp2_with fail
          refine (rblank_any s[k].toNat _).mono ?_;rintro e w' ⟨rfl,rfl⟩;rw [HB.out];go_wp2_with fail
          refine (Calls.mono (HC.out _) ?_);rintro e w2 ⟨g,hg,rfl,hgx,hb2⟩;rw [HXB.out] at hgx;have F2:Hid (Fresh w w2):=hF.out.on hb2;have R2:Hid (Row w2 w.heap.size (.slice va pre.length vc) pre):=hR.out.stays hb2;have hg2:g<w2.heap.size:=heap_lt hgx;have c0:=cell_of hgx 0;have c1:=cell_of hgx 1;have c2:=cell_of hgx 2;have hown:w2.ownsRow w.heap.size 188 3 (.slice va pre.length vc) pre.length (toksCells pre):=R2.out;have hng:(Value.slice va pre.length vc).ownBlock≠some g:=fun e=>by have:=World.ownsRow.lt hR.out g e;omega
          have hn5:(Value.slice va pre.length vc).ownBlock≠some w2.heap.size:=fun e=>by have:=hown.lt _ e;omega
          have hnr:(Value.slice va pre.length vc).ownBlock≠some w.heap.size:=own_ne hown F2.out.1 (by decide);have hlw:w.heap.size<w2.heap.size:=heap_lt F2.out.1;have hlk:Hid (pre.length<=2000000):=by have:=hpk.out;unfold Hid;omega
          have HNG:=Hid.out (p:=Hid _) hng;have HN5:=Hid.out (p:=Hid _) hn5;have HNR:=Hid.out (p:=Hid _) hnr;clear hb2 hg hng hn5 hnr;have HGX:=Hid.out (p:=Hid _) hgx;clear hgx;go_wp2_with (at_builtin;refine wpList_append_own _ rfl _ _ 189 rfl w.heap.size 188 i0 (.agg #[.int .i64 0,.string ⟨#[]⟩,.int .i64 0]) 3 32 Tryz.underlying189 HI hz0 hz1 hz2 rfl (by decide) _ _ _ rfl ((hown.alloc _).alloc _) ⟨w2.heap.size+1,0,none⟩ 1 1 [.int .i64 a,.string xb,.int .i64 k] rfl rfl ?c1 ?c2 ?c3 ?c4 ?c5 ?_)
          case c1=>
            intro j u hj
            match j,hj with
            | 0,hj=>simp at hj;subst hj;simp [Addr.add]
            | 1,hj=>simp at hj;subst hj;simp [Addr.add]
            | 2,hj=>simp at hj;subst hj;simp [Addr.add]
          case c2=>intro u hu;simp at hu;rcases hu with rfl | rfl | rfl <;> rfl
          case c3=>unfold maxLen;have:=hlk.out;omega
          case c4=>have:=hlk.out;omega
          case c5=>simp;omega
          intro v' w4 hown' hgrow _
          have hb5:w4.heap[w2.heap.size]?=some (.cells #[.slice (some ⟨g,0,none⟩) 1 1,.int .i64 0,.int .i64 0] 258 (0,0)):=by
            rw [hgrow.block _ (by simp;omega) (fun e=>HN5.out e.symm)];exact heap_alloc_old (heap_alloc_new _ _)
          have hbg:w4.heap[g]?=some (.cells #[.int .i64 a,.string xb,.int .i64 k] 188 (0,0)):=by
            rw [hgrow.block _ (by simp;omega) (fun e=>HNG.out e.symm)];exact heap_alloc_old (heap_alloc_old HGX.out)
          have F4:Hid (Fresh w w4):=by
            refine ⟨?_,?_⟩
            · rw [hgrow.block _ (by simp;omega) (fun e=>HNR.out e.symm)];exact heap_alloc_old (heap_alloc_old F2.out.1)
            · exact ((F2.out.2.alloc (by omega) _).alloc (by simp;omega) _).grown hgrow (by simp;omega) (fun k hk=>(hown.lt k hk).1)
          have R4:Hid (Row w4 w.heap.size v' (pre++[(a,x,k)])):=by
            rw [Hid,Row,toksCells_snoc];have:=hown';rw [<-HXB.out] at this
            simpa [tokCells] using this
          have d0:=cell_of hb5 0;have d1:=cell_of hb5 1;have d2:=cell_of hb5 2;have e0:=cell_of hbg 0;have e1:=cell_of hbg 1;have e2:=cell_of hbg 2;have hp4:Hid ((pre++[(a,x,k)]).length<=k+n):=by rw [Hid,List.length_append];have:=hpk.out;simp;omega
          clear hown' hgrow hown hb5 hbg c0 c1 c2;go_wp2_with fail
          go_roundw
          case rel=>exact ⟨k+n,_,by go_num,by omega,hp4.out,HF.out,R4.out,F4.out⟩
          case measure=>simp [intOf];omega
        · have hne:((d:Int) != 0)=true:=by rw [bne_iff_ne];omega
          have HF:=hbad hd;have hcall2:∀ w,Calls Tryz.prog 318 #[.string s,.int .i64 k] w (ToldErr w (k+c) d):=by
            intro w
            refine (hcall w).mono ?_;intro e w' h
            unfold OPost at h;rw [if_pos (by simpa using hd)] at h;exact h
          have HC:=Hid.out (p:=Hid _) hcall2;have HD:Hid (d≠0):=hd;clear hbad htok f1 hcall hcall2 hd;go_wp2_with fail
          refine (rblank_any s[k].toNat _).mono ?_;rintro e w' ⟨rfl,rfl⟩;rw [HB.out];go_wp2_with fail
          refine (Calls.mono (HC.out _) ?_);rintro e w2 ⟨rfl,hb2⟩;have F2:Hid (Fresh w w2):=hF.out.on hb2;have R2:Hid (Row w2 w.heap.size (.slice va pre.length vc) pre):=hR.out.stays hb2;have hlw:w.heap.size<w2.heap.size:=heap_lt F2.out.1;clear hb2;have c0:=cell_of F2.out.1 0;have c1:=cell_of F2.out.1 1;have c2:=cell_of F2.out.1 2;have f0:=frozen_of F2.out.1 0;have f1:=frozen_of F2.out.1 1;have f2:=frozen_of F2.out.1 2;go_wp2_with fail
          refine rp_ret (heap_alloc_old (F2.out.put _ _ _)) ⟨.slice va pre.length vc,?_,?_,(told3 F2.out.2).alloc (by simp;omega) _⟩ rfl
          · rw [HF.out];show _=Ending.returned (.agg #[_,.int .i64 (whereAt (pre,(k+c,d))),.int .i64 d]);rw [whereAt,if_pos HD.out];rfl
          · rw [HF.out];exact World.ownsRow.alloc (R2.out.put3 F2.out.1) _
      · have hbl':blank s.data.toList[k]=true:=by rw [blank_eq];exact hbl
        have HF:Hid (toksAt s.data.toList 0=(pre++(toksAt s.data.toList (k+1)).1,(toksAt s.data.toList (k+1)).2)):=by
          rw [Hid,hp.out,toksAt_blank _ _ hlen hbl']
        have HB:=Hid.out (p:=Hid _) hbl;clear hbl hbl';go_wp2_with fail
        refine (rblank_any s[k].toNat _).mono ?_;rintro e w' ⟨rfl,rfl⟩;rw [HB.out];go_wp2_with fail
        go_roundw
        case rel=>exact ⟨k+1,pre,by go_num,by omega,by have:=hpk.out;exact Nat.le_succ_of_le this,HF.out,hR.out,hF.out⟩
        case measure=>simp [intOf];omega
    · obtain rfl:k=s.size:=by omega
      have HF:Hid (toksAt s.data.toList 0=(pre,(0,0))):=by
        have h1:=toksAt_end s.data.toList;rw [HL.out] at h1;rw [Hid,hp.out,h1];simp
      have c0:=cell_of hF.out.1 0;have c1:=cell_of hF.out.1 1;have c2:=cell_of hF.out.1 2;have f0:=frozen_of hF.out.1 0;have f1:=frozen_of hF.out.1 1;have f2:=frozen_of hF.out.1 2;go_wp2_with fail
      refine rp_ret (hF.out.put _ _ _) ⟨.slice va pre.length vc,?_,?_,told3 hF.out.2⟩ rfl
      · rw [HF.out];rfl
      · rw [HF.out];exact hR.out.put3 hF.out.1
end Go.Proofs.YtancjnedgddobaaGreatDoor.Lex
