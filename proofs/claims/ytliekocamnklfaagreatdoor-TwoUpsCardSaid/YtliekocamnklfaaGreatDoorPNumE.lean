/- A number's text: the reference's is the program's. Plain Lean. -/
import Derived.Test.YtliekocamnklfaaGreatDoorPRefQ
set_option linter.unusedVariables false
set_option linter.unusedSimpArgs false
namespace Go.Proofs.YtliekocamnklfaaGreatDoor.Num
open Utf
theorem at_cons (l:List UInt8) (i:Nat) (h:i<l.length):∃ c:UInt8,l.drop i=c::l.drop (i+1)/\byt l i=c.toNat:=by
  refine ⟨l[i],List.drop_eq_getElem_cons h,?_⟩;unfold byt;rw [List.getD_eq_getElem?_getD,List.getElem?_eq_getElem h];rfl
theorem at_nil (l:List UInt8) (i:Nat) (h:l.length<=i):l.drop i=[]/\byt l i=0:=⟨List.drop_of_length_le h,byt_ge l i h⟩
theorem sgn_dig {n:Nat} (h:dig n=true):sgn n=2∨sgn n=3:=by
  simp only [dig,Bool.and_eq_true,decide_eq_true_eq] at h
  unfold sgn;(repeat' split) <;> omega
theorem sgn_nodig {n:Nat} (h:dig n=false):sgn n≠2/\sgn n≠3:=by
  have h:¬ (48<=n/\n<=57):=by intro e;simp [dig,e] at h
  unfold sgn;(repeat' split) <;> omega
theorem sgn_dot {n:Nat}:sgn n=4↔n=46:=by unfold sgn;(repeat' split) <;> omega
theorem sgn_mark {n:Nat}:sgn n=5↔n=101∨n=69:=by unfold sgn;(repeat' split) <;> omega
theorem sgn_sign {n:Nat}:sgn n=0∨sgn n=1↔n=43∨n=45:=by unfold sgn;(repeat' split) <;> omega
theorem sgn_zero {n:Nat}:sgn n=2↔n=48:=by unfold sgn;(repeat' split) <;> omega
theorem sgn_minus {n:Nat}:sgn n=0↔n=45:=by unfold sgn;(repeat' split) <;> omega
theorem from_nil (st i k:Nat):from_ st i k []=k:=rfl
theorem from_cons (st i k:Nat) (c:UInt8) (l:List UInt8):from_ st i k (c::l)=if step st (sgn c.toNat)=9 then k else from_ (step st (sgn c.toNat)) (i+1) (if whole (step st (sgn c.toNat)) then i+1 else k) l:=rfl
theorem digitAt_byt (l:List UInt8) (i:Nat):digitAt l i=dig (byt l i):=rfl
theorem dig_ne {n:Nat} (h:dig n=true):48<=n/\n<=57:=by simpa [dig] using h
theorem step8 {g:Nat} (h7:g<7) (h:g≠2/\g≠3):step 8 g=9/\step 7 g=9/\step 4 g=9:=by
  have:∀ g,g<7->g≠2/\g≠3->step 8 g=9/\step 7 g=9/\step 4 g=9:=by decide
  exact this g h7 h
theorem stepd {g:Nat} (h:g=2∨g=3):step 8 g=8/\step 7 g=8/\step 6 g=8/\step 5 g=5/\step 4 g=5/\step 3 g=3:=by
  rcases h with rfl | rfl <;> decide
theorem g8 (l:List UInt8):∀ (n i:Nat),l.length-i<=n->from_ 8 i i (l.drop i)=rrun l i
  | n,i,hn=>by
    rcases Nat.lt_or_ge i l.length with hi | hi
    · obtain ⟨c,hd,hb⟩:=at_cons l i hi;rw [hd,from_cons];cases hg:dig c.toNat
      · rw [if_pos (step8 (sgn_lt _) (sgn_nodig hg)).1,rrun_stop l i (by rw [digitAt_byt,hb,hg])]
      · rw [(stepd (sgn_dig hg)).1,if_neg (by decide),rrun_step l i (by rw [digitAt_byt,hb,hg])]
        cases n with
        | zero=>omega
        | succ n=>exact g8 l n (i+1) (by omega)
    · obtain ⟨hd,hb⟩:=at_nil l i hi;rw [hd,from_nil,rrun_stop l i (by rw [digitAt_byt,hb];rfl)]
theorem g8' (l:List UInt8) (i:Nat):from_ 8 i i (l.drop i)=rrun l i:=g8 l _ i (Nat.le_refl _)
theorem g7 (l:List UInt8) (i k:Nat):from_ 7 i k (l.drop i)=if digitAt l i=true then rrun l i else k:=by
  rcases Nat.lt_or_ge i l.length with hi | hi
  · obtain ⟨c,hd,hb⟩:=at_cons l i hi;rw [hd,from_cons,digitAt_byt,hb];cases hg:dig c.toNat
    · rw [if_pos (step8 (sgn_lt _) (sgn_nodig hg)).2.1,if_neg (by decide)]
    · rw [(stepd (sgn_dig hg)).2.1,if_neg (by decide),if_pos rfl,rrun_step l i (by rw [digitAt_byt,hb,hg])];exact g8' l (i+1)
  · obtain ⟨hd,hb⟩:=at_nil l i hi;rw [hd,from_nil,digitAt_byt,hb];rfl
theorem g6 (l:List UInt8) (i k:Nat):from_ 6 i k (l.drop i)=if digitAt l (e3 l i)=true then rrun l (e3 l i) else k:=by
  rcases Nat.lt_or_ge i l.length with hi | hi
  · obtain ⟨c,hd,hb⟩:=at_cons l i hi;rw [hd,from_cons];by_cases hs:c.toNat=43∨c.toNat=45
    · have h3:e3 l i=i+1:=by unfold e3;rw [if_pos (by rw [hb];exact hs)]
      have hst:step 6 (sgn c.toNat)=7:=by
        rcases sgn_sign.2 hs with h | h <;> rw [h] <;> rfl
      rw [hst,if_neg (by decide),h3];exact g7 l (i+1) k
    · have h3:e3 l i=i:=by unfold e3;rw [if_neg (by rw [hb];exact hs)]
      rw [h3,digitAt_byt,hb];cases hg:dig c.toNat
      · have hst:step 6 (sgn c.toNat)=9:=by
          have h7:=sgn_lt c.toNat;have h1:=sgn_nodig hg;have h2:¬ (sgn c.toNat=0∨sgn c.toNat=1):=fun h=>hs (sgn_sign.1 h);generalize sgn c.toNat=g at *;have:∀ g,g<7->(g≠2/\g≠3)->¬ (g=0∨g=1)->step 6 g=9:=by decide
          exact this g h7 h1 h2
        rw [if_pos hst,if_neg (by decide)]
      · rw [(stepd (sgn_dig hg)).2.2.1,if_neg (by decide),if_pos rfl,rrun_step l i (by rw [digitAt_byt,hb,hg])];exact g8' l (i+1)
  · obtain ⟨hd,hb⟩:=at_nil l i hi;have h3:e3 l i=i:=by unfold e3;rw [hb,if_neg (by omega)]
    rw [hd,from_nil,h3,digitAt_byt,hb];rfl
theorem gmark (l:List UInt8) (i st:Nat) (hst:step st 5=6) (hb:byt l i=101∨byt l i=69):from_ st i i (l.drop i)=e4 l i:=by
  have hi:i<l.length:=by
    rcases Nat.lt_or_ge i l.length with h | h
    · exact h
    · rw [byt_ge l i h] at hb;omega
  obtain ⟨c,hd,hb'⟩:=at_cons l i hi;rw [hb'] at hb;rw [hd,from_cons,sgn_mark.2 hb,hst,if_neg (by decide)];show from_ 6 (i+1) i _=_;rw [g6];unfold e4;rw [hb'];by_cases h:digitAt l (e3 l (i+1))=true
  · rw [if_pos h,if_pos ⟨hb,h⟩]
  · rw [if_neg h,if_neg (fun e=>h e.2)]
theorem gnone (l:List UInt8) (i:Nat) (hb:¬ (byt l i=101∨byt l i=69)):e4 l i=i:=by
  unfold e4;rw [if_neg (fun e=>hb e.1)]
theorem g5 (l:List UInt8):∀ (n i:Nat),l.length-i<=n->from_ 5 i i (l.drop i)=e4 l (rrun l i)
  | n,i,hn=>by
    rcases Nat.lt_or_ge i l.length with hi | hi
    · obtain ⟨c,hd,hb⟩:=at_cons l i hi;cases hg:dig c.toNat
      · rw [rrun_stop l i (by rw [digitAt_byt,hb,hg])];by_cases hm:byt l i=101∨byt l i=69
        · exact gmark l i 5 rfl hm
        · rw [gnone l i hm,hd,from_cons,if_pos];have h7:=sgn_lt c.toNat;have h1:=sgn_nodig hg;have h2:¬ sgn c.toNat=5:=fun h=>hm (by rw [hb];exact sgn_mark.1 h);generalize sgn c.toNat=g at *;have:∀ g,g<7->(g≠2/\g≠3)->¬ g=5->step 5 g=9:=by decide
          exact this g h7 h1 h2
      · rw [hd,from_cons,(stepd (sgn_dig hg)).2.2.2.1,if_neg (by decide),rrun_step l i (by rw [digitAt_byt,hb,hg])]
        cases n with
        | zero=>omega
        | succ n=>exact g5 l n (i+1) (by omega)
    · obtain ⟨hd,hb⟩:=at_nil l i hi;rw [hd,from_nil,rrun_stop l i (by rw [digitAt_byt,hb];rfl),gnone l i (by rw [hb];omega)]
theorem g4 (l:List UInt8) (i k:Nat):from_ 4 i k (l.drop i)=if digitAt l i=true then e4 l (rrun l i) else k:=by
  rcases Nat.lt_or_ge i l.length with hi | hi
  · obtain ⟨c,hd,hb⟩:=at_cons l i hi;rw [hd,from_cons,digitAt_byt,hb];cases hg:dig c.toNat
    · rw [if_pos (step8 (sgn_lt _) (sgn_nodig hg)).2.2,if_neg (by decide)]
    · rw [(stepd (sgn_dig hg)).2.2.2.2.1,if_neg (by decide),if_pos rfl,rrun_step l i (by rw [digitAt_byt,hb,hg])];exact g5 l _ (i+1) (Nat.le_refl _)
  · obtain ⟨hd,hb⟩:=at_nil l i hi;rw [hd,from_nil,digitAt_byt,hb];rfl
theorem grest (l:List UInt8) (i st:Nat) (h4:step st 4=4) (h5:step st 5=6) (hx:∀ g,g<7->(g≠2/\g≠3)->g≠4->g≠5->step st g=9) (hn:digitAt l i=false∨(step st 2=9/\step st 3=9)):from_ st i i (l.drop i)=e4 l (e2 l i):=by
  rcases Nat.lt_or_ge i l.length with hi | hi
  · obtain ⟨c,hd,hb⟩:=at_cons l i hi;by_cases hdot:byt l i=46
    · have hne:¬ (byt l i=101∨byt l i=69):=by omega
      rw [hd,from_cons,sgn_dot.2 (by rw [<-hb];exact hdot),h4,if_neg (by decide)];show from_ 4 (i+1) i _=_;rw [g4];unfold e2;by_cases hg:digitAt l (i+1)=true
      · rw [if_pos hg,if_pos ⟨hdot,hg⟩]
      · rw [if_neg hg,if_neg (fun e=>hg e.2),gnone l i hne]
    · have h2:e2 l i=i:=by unfold e2;rw [if_neg (fun e=>hdot e.1)]
      rw [h2];by_cases hm:byt l i=101∨byt l i=69
      · exact gmark l i st h5 hm
      · rw [gnone l i hm,hd,from_cons,if_pos];rw [hb] at hdot hm;cases hg:dig c.toNat
        · exact hx _ (sgn_lt _) (sgn_nodig hg) (fun e=>hdot (sgn_dot.1 e)) (fun e=>hm (sgn_mark.1 e))
        · rcases hn with hn | hn
          · rw [digitAt_byt,hb,hg] at hn;cases hn
          · rcases sgn_dig hg with e | e <;> rw [e]
            · exact hn.1
            · exact hn.2
  · obtain ⟨hd,hb⟩:=at_nil l i hi;have h2:e2 l i=i:=by unfold e2;rw [hb,if_neg (fun e=>by omega)]
    rw [hd,from_nil,h2,gnone l i (by rw [hb];omega)]
theorem g3 (l:List UInt8):∀ (n i:Nat),l.length-i<=n->from_ 3 i i (l.drop i)=e4 l (e2 l (rrun l i))
  | n,i,hn=>by
    cases hg:digitAt l i
    · rw [rrun_stop l i hg];exact grest l i 3 rfl rfl (by decide) (.inl hg)
    · have hi:i<l.length:=by
        rcases Nat.lt_or_ge i l.length with h | h
        · exact h
        · rw [digitAt_byt,byt_ge l i h] at hg;cases hg
      obtain ⟨c,hd,hb⟩:=at_cons l i hi;have hg':=hg;rw [digitAt_byt,hb] at hg';rw [hd,from_cons,(stepd (sgn_dig hg')).2.2.2.2.2,if_neg (by decide),rrun_step l i hg]
      cases n with
      | zero=>omega
      | succ n=>exact g3 l n (i+1) (by omega)
theorem gfirst (l:List UInt8) (i st:Nat) (h2:step st 2=2) (h3:step st 3=3) (hx:∀ g,g<7->(g≠2/\g≠3)->(st=0->g≠0)->step st g=9) (hm:st=0->byt l i≠45):from_ st i 0 (l.drop i)=if digitAt l i=true then e4 l (e2 l (e1 l i)) else 0:=by
  rcases Nat.lt_or_ge i l.length with hi | hi
  · obtain ⟨c,hd,hb⟩:=at_cons l i hi;rw [hd,from_cons,digitAt_byt,hb];cases hg:dig c.toNat
    · rw [if_pos,if_neg (by decide)];exact hx _ (sgn_lt _) (sgn_nodig hg) (fun h e=>hm h (by rw [hb];exact sgn_minus.1 e))
    · rw [if_pos rfl];by_cases hz:c.toNat=48
      · have he:e1 l i=i+1:=by unfold e1;rw [if_pos (by rw [hb];exact hz)]
        rw [sgn_zero.2 hz,h2,if_neg (by decide),he];exact grest l (i+1) 2 rfl rfl (by decide) (.inr ⟨rfl,rfl⟩)
      · have he:e1 l i=rrun l i:=by unfold e1;rw [if_neg (by rw [hb];exact hz)]
        have h3':sgn c.toNat=3:=by
          rcases sgn_dig hg with e | e
          · exact absurd (sgn_zero.1 e) hz
          · exact e
        rw [h3',h3,if_neg (by decide),he,rrun_step l i (by rw [digitAt_byt,hb,hg])];exact g3 l _ (i+1) (Nat.le_refl _)
  · obtain ⟨hd,hb⟩:=at_nil l i hi;rw [hd,from_nil,digitAt_byt,hb];rfl
theorem rscan_eq (l:List UInt8):rscan l=scan l:=by
  unfold rscan scan e0;by_cases hm:byt l 0=45
  · rw [if_pos hm];have hi:0<l.length:=by
      rcases Nat.lt_or_ge 0 l.length with h | h
      · exact h
      · rw [byt_ge l 0 h] at hm;omega
    obtain ⟨c,hd,hb⟩:=at_cons l 0 hi;rw [List.drop_zero] at hd;conv=>rhs;rw [hd,from_cons,sgn_minus.2 (by rw [<-hb];exact hm)]
    show _=from_ 1 1 0 (l.drop 1);rw [gfirst l 1 1 rfl rfl (by decide) (fun h=>by omega)]
  · rw [if_neg hm];have:=gfirst l 0 0 rfl rfl (by decide) (fun _=>hm);rw [List.drop_zero] at this;exact this.symm
theorem nodot:∀ (q:List UInt8) (st:Nat),4<=st->st<9->run st q≠9->∀ c∈q,c.toNat≠46
  | [],_,_,_,_,c,hc=>by cases hc
  | d::q,st,h4,h9,h,c,hc=>by
    rw [run_cons] at h;by_cases he:step st (sgn d.toNat)=9
    · rw [if_pos he] at h;exact absurd rfl h
    · rw [if_neg he] at h;have hs1:∀ st,st<9->∀ g,g<7->4<=st->step st g≠9->g≠4:=by decide
      have hs2:∀ st,st<9->∀ g,g<7->4<=st->step st g≠9->4<=step st g:=by decide
      have h1:=hs1 st h9 _ (sgn_lt _) h4 he;have h2:=hs2 st h9 _ (sgn_lt _) h4 he;have h3:=step_ne st h9 _ (sgn_lt _) he;rcases List.mem_cons.1 hc with rfl | hc
      · exact fun e=>h1 (sgn_dot.2 e)
      · exact nodot q _ h2 h3 h c hc
theorem expdig:∀ (q:List UInt8) (st:Nat),st=7∨st=8->run st q≠9->∀ c∈q,dig c.toNat=true
  | [],_,_,_,c,hc=>by cases hc
  | d::q,st,h78,h,c,hc=>by
    rw [run_cons] at h;by_cases he:step st (sgn d.toNat)=9
    · rw [if_pos he] at h;exact absurd rfl h
    · rw [if_neg he] at h;have hd:dig d.toNat=true:=by
        cases hg:dig d.toNat
        · exfalso
          have:=step8 (sgn_lt _) (sgn_nodig hg);rcases h78 with e | e <;> subst e
          · exact he this.2.1
          · exact he this.1
        · rfl
      have h8:step st (sgn d.toNat)=8:=by
        have:=stepd (sgn_dig hd);rcases h78 with e | e <;> subst e
        · exact this.2.1
        · exact this.1
      rcases List.mem_cons.1 hc with rfl | hc
      · exact hd
      · rw [h8] at h;exact expdig q 8 (.inr rfl) h c hc
def exact_ (n:Nat) (l:List UInt8):Nat:=l.foldl (fun n c=>n*10+(c.toNat-48)) n
theorem exact_cons (n:Nat) (c:UInt8) (l:List UInt8):exact_ n (c::l)=exact_ (n*10+(c.toNat-48)) l:=by unfold exact_;rw [List.foldl_cons]
theorem exact_ge (l:List UInt8):∀ n:Nat,n<=exact_ n l:=by
  induction l with
  | nil=>intro n;exact Nat.le_refl _
  | cons c l ih=>
    intro n
    have:=ih (n*10+(c.toNat-48));rw [exact_cons];omega
theorem pstep_min (n:Nat) (c:UInt8) (M:Nat) (hM:M=1099511627776) (h:dig c.toNat=true):pstep n c=min (n*10+(c.toNat-48)) M:=by
  have hc:=dig_ne h;have e:(c.toNat+208) % 256=c.toNat-48:=by omega
  subst hM;show min (n*10+(c.toNat+208) % 256) _=_;rw [e]
theorem pd_exact (M:Nat) (hM:M=1099511627776) (l:List UInt8):∀ n:Nat,(∀ c∈l,dig c.toNat=true)->(exact_ n l<=M->l.foldl pstep n=exact_ n l)/\(n<=M->M<exact_ n l->l.foldl pstep n=M):=by
  induction l with
  | nil=>exact fun n _=>⟨fun _=>rfl,fun h1 h2=>absurd h2 (Nat.not_lt.2 h1)⟩
  | cons c l ih=>
    intro n h
    have hd:=h c (by simp);have hl:=fun d hd=>h d (List.mem_cons_of_mem _ hd);rw [exact_cons,List.foldl_cons,pstep_min n c M hM hd];by_cases hb:n*10+(c.toNat-48)<=M
    · rw [Nat.min_eq_left hb];have:=ih (n*10+(c.toNat-48)) hl;exact ⟨this.1,fun _ h2=>this.2 hb h2⟩
    · have hge:=exact_ge l (n*10+(c.toNat-48));refine ⟨fun h1=>by omega,fun _ _=>?_⟩;rw [Nat.min_eq_right (by omega)];have h2:=ih M hl;have hge2:=exact_ge l M;by_cases he:exact_ M l<=M
      · rw [h2.1 he];omega
      · exact h2.2 (Nat.le_refl _) (by omega)
theorem pl_exact:∀ (l:List UInt8) (n:Nat) (b:Bool),(∀ c∈l,dig c.toNat=true)->(l.foldl ploop (n,b)).2=b/\(exact_ n l<1000000000->(l.foldl ploop (n,b)).1=exact_ n l)/\(1000000000<=exact_ n l->1000000000<=(l.foldl ploop (n,b)).1)
  | [],n,b,_=>⟨rfl,fun _=>rfl,fun h=>h⟩
  | c::l,n,b,h=>by
    have hd:=h c (by simp);have hc:=dig_ne hd;have hl:=fun d hd=>h d (List.mem_cons_of_mem _ hd);have hs:ploop (n,b) c=(if n<1000000000 then n*10+(c.toNat-48) else n,b):=by
      unfold ploop;have h45:(c.toNat == 45)=false:=by rw [beq_eq_false_iff_ne];omega
      rw [hd,h45];by_cases hn:n<1000000000 <;> simp [hn]
    rw [exact_cons];show (l.foldl ploop (ploop (n,b) c)).2=b/\(_->(l.foldl ploop (ploop (n,b) c)).1=_)/\(_->_<=(l.foldl ploop (ploop (n,b) c)).1);rw [hs];by_cases hn:n<1000000000
    · rw [if_pos hn];exact pl_exact l _ b hl
    · rw [if_neg hn];have hge:=exact_ge l (n*10+(c.toNat-48));have:=pl_exact l n b hl;refine ⟨this.1,fun h1=>by omega,fun _=>this.2.2 ?_⟩;exact Nat.le_trans (by omega) (exact_ge l n)
theorem powers (t:List UInt8) (ht:run 6 t≠9):power t=pow (t.foldl ploop (0,false))∨(1000000000<=power t/\1000000000<=pow (t.foldl ploop (0,false)))∨(power t<=-1000000000/\pow (t.foldl ploop (0,false))<=-1000000000):=by
  cases t with
  | nil=>left;rfl
  | cons c t=>
    rw [run_cons] at ht;by_cases he:step 6 (sgn c.toNat)=9
    · rw [if_pos he] at ht;exact absurd rfl ht
    rw [if_neg he] at ht;have key:∀ (l:List UInt8) (b:Bool),(∀ c∈l,dig c.toNat=true)->pdigits l=(l.foldl ploop (0,b)).1/\(l.foldl ploop (0,b)).2=b∨(1000000000<=pdigits l/\1000000000<=(l.foldl ploop (0,b)).1/\(l.foldl ploop (0,b)).2=b):=by
      intro l b hl
      have h1:=pd_exact 1099511627776 rfl l 0 hl;have h2:=pl_exact l 0 b hl;unfold pdigits;by_cases hlt:exact_ 0 l<1000000000
      · left;exact ⟨by rw [h1.1 (by omega),h2.2.1 hlt],h2.1⟩
      · right
        refine ⟨?_,h2.2.2 (by omega),h2.1⟩;by_cases hb:exact_ 0 l<=1099511627776
        · rw [h1.1 hb];omega
        · rw [h1.2 (by omega) (by omega)];omega
    by_cases hm:c.toNat=45
    · have h7:step 6 (sgn c.toNat)=7:=by rw [sgn_minus.2 hm];rfl
      rw [h7] at ht;have hd:=expdig t 7 (.inl rfl) ht;have hp:power (c::t)=-(pdigits t:Int):=by unfold power;simp only [hm,if_true]
      have hl:(c::t).foldl ploop (0,false)=t.foldl ploop (0,true):=by
        show t.foldl ploop (ploop (0,false) c)=_;unfold ploop;rw [hm];rfl
      rw [hp,hl];rcases key t true hd with ⟨k1,k2⟩ | ⟨k1,k2,k3⟩
      · left;unfold pow;rw [k2,if_pos rfl,k1]
      · right;right;unfold pow;rw [k3,if_pos rfl];omega
    by_cases hq:c.toNat=43
    · have h7:step 6 (sgn c.toNat)=7:=by
        have:sgn c.toNat=1:=by rw [hq];rfl
        rw [this];rfl
      rw [h7] at ht;have hd:=expdig t 7 (.inl rfl) ht;have hp:power (c::t)=(pdigits t:Int):=by unfold power;simp only [hq];rfl
      have hl:(c::t).foldl ploop (0,false)=t.foldl ploop (0,false):=by
        show t.foldl ploop (ploop (0,false) c)=_;unfold ploop;rw [hq];rfl
      rw [hp,hl];rcases key t false hd with ⟨k1,k2⟩ | ⟨k1,k2,k3⟩
      · left;unfold pow;rw [k2,if_neg (by decide),k1]
      · right;left;unfold pow;rw [k3,if_neg (by decide)];omega
    · have hdc:dig c.toNat=true:=by
        cases hg:dig c.toNat
        · exfalso;apply he
          have h7:=sgn_lt c.toNat;have h1:=sgn_nodig hg;have h2:¬ (sgn c.toNat=0∨sgn c.toNat=1):=fun h=>by rcases sgn_sign.1 h with h | h <;> omega
          generalize sgn c.toNat=g at *;have:∀ g,g<7->(g≠2/\g≠3)->¬ (g=0∨g=1)->step 6 g=9:=by decide
          exact this g h7 h1 h2
        · rfl
      rw [(stepd (sgn_dig hdc)).2.2.1] at ht;have hd:∀ d∈c::t,dig d.toNat=true:=by
        intro d hd
        rcases List.mem_cons.1 hd with rfl | hd
        · exact hdc
        · exact expdig t 8 (.inr rfl) ht d hd
      have hp:power (c::t)=(pdigits (c::t):Int):=by unfold power;simp only [hm,hq,if_false]
      rw [hp];rcases key (c::t) false hd with ⟨k1,k2⟩ | ⟨k1,k2,k3⟩
      · left;unfold pow;rw [k2,if_neg (by decide),k1]
      · right;left;unfold pow;rw [k3,if_neg (by decide)];omega
theorem mfold (m:List UInt8) (hm:∀ c∈m,c.toNat≠46):∀ (x:Int) (d:List UInt8) (pt:Bool),m.foldl mstep (x,d,pt)=(if pt then x-(m.length:Int) else x,if d=[] then m.dropWhile (· == 48) else d++m,pt):=by
  induction m with
  | nil=>intro x d pt;cases pt <;> by_cases hd:d=[] <;> simp [hd]
  | cons c m ih=>
    intro x d pt
    have hc:=hm c (by simp);have ih:=ih (fun d hd=>hm d (List.mem_cons_of_mem _ hd));show m.foldl mstep (mstep (x,d,pt) c)=_;have hs:mstep (x,d,pt) c=(if pt then x-1 else x,if d=[]/\c.toNat=48 then d else d++[c],pt):=by unfold mstep;rw [if_neg hc]
    rw [hs,ih];refine Prod.ext ?_ (Prod.ext ?_ rfl)
    · cases pt
      · rfl
      · simp;omega
    · by_cases hd:d=[]
      · subst hd;by_cases h48:c.toNat=48
        · have hcc:c=48:=UInt8.toNat_inj.1 h48;subst hcc;simp
        · have hcc:(c == 48)=false:=by rw [beq_eq_false_iff_ne];exact fun e=>h48 (by rw [e];rfl)
          simp [h48,List.dropWhile_cons,hcc]
      · simp [hd]
theorem fin_rfin (neg:Bool) (d:List UInt8) (x:Int):fin neg d x=rfin neg (d.dropWhile (· == 48)) x:=rfl
theorem dropWhile_append48 (a b:List UInt8):(a++b).dropWhile (· == 48)=if a.dropWhile (· == 48)=[] then b.dropWhile (· == 48) else a.dropWhile (· == 48)++b:=by
  induction a with
  | nil=>rfl
  | cons c a ih=>
    rw [List.cons_append,List.dropWhile_cons,List.dropWhile_cons];by_cases h:(c == 48)=true
    · rw [if_pos h,if_pos h];exact ih
    · rw [if_neg h,if_neg h,if_neg (by simp)];rfl
theorem point_eq (neg:Bool) (m:List UInt8) (y:Int) (hm:∀ a q,m=a++46::q->∀ c∈q,c.toNat≠46):point neg m y=rfin neg (m.foldl mstep (0,[],false)).2.1 ((m.foldl mstep (0,[],false)).1+y):=by
  unfold point
  cases hf:m.findIdx? (· == 46) with
  | none=>
    have hno:∀ c∈m,c.toNat≠46:=by
      intro c hc e
      have:=List.findIdx?_eq_none_iff.1 hf c hc;rw [beq_eq_false_iff_ne] at this;exact this (UInt8.toNat_inj.1 e)
    simp only []
    rw [mfold m hno,fin_rfin];simp
  | some j=>
    obtain ⟨hj,hp,hbef⟩:=List.findIdx?_eq_some_iff_getElem.1 hf;have h46:m[j]=46:=by simpa using hp
    have hsp:m=m.take j++46::m.drop (j+1):=by
      rw [<-h46,<-List.drop_eq_getElem_cons hj,List.take_append_drop]
    have hno1:∀ c∈m.take j,c.toNat≠46:=by
      intro c hc e
      obtain ⟨i,hi,rfl⟩:=List.getElem_of_mem hc;rw [List.length_take] at hi;have:=hbef i (by omega);rw [List.getElem_take] at e;apply this
      simp
      exact UInt8.toNat_inj.1 e
    have hno2:=hm _ _ hsp;have hfold:m.foldl mstep (0,[],false)=(-((m.drop (j+1)).length:Int),(m.take j++m.drop (j+1)).dropWhile (· == 48),true):=by
      conv=>lhs;rw [hsp]
      rw [List.foldl_append,mfold _ hno1,List.foldl_cons];have h0:mstep (if false=true then (0:Int)-((m.take j).length:Int) else 0,if ([]:List UInt8)=[] then (m.take j).dropWhile (· == 48) else []++m.take j,false) 46=(0,(m.take j).dropWhile (· == 48),true):=by
        unfold mstep;simp
      rw [h0,mfold _ hno2,dropWhile_append48];simp
    simp only []
    rw [hfold,fin_rfin];have hl:(m.drop (j+1)).length=m.length-(j+1):=by simp
    simp only []
    congr 1
    rw [hl];omega
theorem trim0_le (d:List UInt8):(trim0 d).length<=d.length:=by
  unfold trim0;rw [List.length_reverse];have:=dropWhile_le (p:=(· == 48)) d.reverse
  simpa using this
theorem rfin_far (neg:Bool) (d:List UInt8) (x y:Int) (hd:d.length<=2000000) (h:(900000000<=x/\900000000<=y)∨(x<=-900000000/\y<=-900000000)):rfin neg d x=rfin neg d y:=by
  unfold rfin;by_cases hz:trim0 d=[]
  · rw [if_pos hz,if_pos hz]
  · rw [if_neg hz,if_neg hz];have hl:=trim0_le d;have no:∀ z:Int,(900000000<=z∨z<=-900000000)->right neg (trim0 d) (z+((d.length:Int)-(trim0 d).length))=false:=by
      intro z hz'
      unfold right;rw [if_neg hz,if_pos (by omega)]
    rw [no x (by omega),no y (by omega)]
    rfl
theorem mfold_bd (m:List UInt8):∀ (x:Int) (d:List UInt8) (pt:Bool),x-(m.length:Int)<=(m.foldl mstep (x,d,pt)).1/\(m.foldl mstep (x,d,pt)).1<=x/\(m.foldl mstep (x,d,pt)).2.1.length<=d.length+m.length:=by
  induction m with
  | nil=>intro x d pt;simp
  | cons c m ih=>
    intro x d pt
    obtain ⟨⟨x1,d1,p1⟩,hs⟩:∃ m,mstep (x,d,pt) c=m:=⟨_,rfl⟩;have hb:x-1<=x1/\x1<=x/\d1.length<=d.length+1:=by
      unfold mstep at hs;simp only [] at hs
      split at hs
      · injection hs with h1 h2;injection h2 with h2 h3;subst h1 h2;omega
      · injection hs with h1 h2;injection h2 with h2 h3;subst h1 h2
        refine ⟨?_,?_,?_⟩
        · split <;> omega
        · split <;> omega
        · split <;> simp
    have:=ih x1 d1 p1;show _<=(m.foldl mstep (mstep (x,d,pt) c)).1/\(m.foldl mstep (mstep (x,d,pt) c)).1<=_/\(m.foldl mstep (mstep (x,d,pt) c)).2.1.length<=_;rw [hs];simp only [List.length_cons]
    omega
theorem isMark_contains (c:UInt8):([101,69]:List UInt8).contains c=isMark c:=by
  unfold isMark;rw [Bool.eq_iff_iff];simp
  constructor
  · rintro (h | h) <;> subst h <;> simp
  · rintro (h | h)
    · left;exact UInt8.toNat_inj.1 h
    · right;exact UInt8.toNat_inj.1 h
theorem mark_split (d:List UInt8):(∀ c∈d.takeWhile (!isMark ·),isMark c=false)/\((d.dropWhile (!isMark ·)=[]/\d.findIdx? ([101,69].contains ·)=none/\d.takeWhile (!isMark ·)=d) ∨
    (∃ i c t,d.findIdx? ([101,69].contains ·)=some i/\d.take i=d.takeWhile (!isMark ·)/\d.dropWhile (!isMark ·)=c::t/\isMark c=true/\d.drop (i+1)=t)):=by
  induction d with
  | nil=>exact ⟨fun c hc=>(by cases hc),.inl ⟨rfl,rfl,rfl⟩⟩
  | cons a d ih=>
    rw [List.takeWhile_cons,List.dropWhile_cons,List.findIdx?_cons];cases ha:isMark a
    · have hc:([101,69]:List UInt8).contains a=false:=by rw [isMark_contains,ha]
      rw [hc];simp only [Bool.not_false,if_true,Bool.false_eq_true,if_false]
      refine ⟨?_,?_⟩
      · intro c hcc
        rcases List.mem_cons.1 hcc with rfl | hcc
        · exact ha
        · exact ih.1 c hcc
      · rcases ih.2 with ⟨h1,h2,h3⟩ | ⟨i,c,t,h1,h2,h3,h4,h5⟩
        · left;exact ⟨h1,by rw [h2];rfl,by rw [h3]⟩
        · right;exact ⟨i+1,c,t,by rw [h1];rfl,by rw [List.take_succ_cons,h2],h3,h4,by rw [List.drop_succ_cons];exact h5⟩
    · have hc:([101,69]:List UInt8).contains a=true:=by rw [isMark_contains,ha]
      rw [hc];simp only [Bool.not_true,Bool.false_eq_true,if_false,if_true]
      refine ⟨fun c hcc=>(by cases hcc),.inr ⟨0,a,d,rfl,rfl,rfl,ha,rfl⟩⟩
theorem mant_eq (neg:Bool) (a d:List UInt8) (hlen:d.length<=2000000) (h9:run 0 (a++d)≠9):rmant neg d=mant neg d:=by
  obtain ⟨hno,hs⟩:=mark_split d;have hdot:∀ p q,d.takeWhile (!isMark ·)=p++46::q->∀ c∈q,c.toNat≠46:=by
    intro p q hpq
    have hd:a++d=(a++p)++46::(q++d.dropWhile (!isMark ·)):=by
      conv=>lhs;rw [<-List.takeWhile_append_dropWhile (p:=(!isMark ·)) (l:=d),hpq]
      simp
    rw [hd,run_append] at h9;by_cases h1:run 0 (a++p)=9
    · rw [if_pos h1] at h9;exact absurd rfl h9
    rw [if_neg h1,run_cons] at h9;by_cases h2:step (run 0 (a++p)) (sgn (46:UInt8).toNat)=9
    · rw [if_pos h2] at h9;exact absurd rfl h9
    rw [if_neg h2] at h9;have hlt:=run_lt _ 0 (by omega) h1;have h4:∀ st,st<9->step st 4≠9->step st 4=4:=by decide
    have h5:step (run 0 (a++p)) (sgn (46:UInt8).toNat)=4:=h4 _ hlt h2;rw [h5] at h9;intro c hc
    exact nodot _ 4 (by omega) (by omega) h9 c (List.mem_append_left _ hc)
  have hb:=mfold_bd (d.takeWhile (!isMark ·)) 0 [] false;have htl:(d.takeWhile (!isMark ·)).length<=d.length:=(List.takeWhile_prefix _).length_le;unfold rmant mant;rcases hs with ⟨h1,h2,h3⟩ | ⟨i,c,t,h1,h2,h3,h4,h5⟩
  · rw [h2];simp only []
    rw [h1,h3,point_eq neg d 0 (by rw [<-h3];exact hdot)]
    rfl
  · rw [h1];simp only []
    rw [h3,h2,h5,point_eq neg _ _ hdot,List.drop_one,List.tail_cons];have h6:run 6 t≠9:=by
      have hd:a++d=(a++d.takeWhile (!isMark ·))++c::t:=by
        conv=>lhs;rw [<-List.takeWhile_append_dropWhile (p:=(!isMark ·)) (l:=d),h3]
        simp
      rw [hd,run_append] at h9;by_cases g1:run 0 (a++d.takeWhile (!isMark ·))=9
      · rw [if_pos g1] at h9;exact absurd rfl h9
      rw [if_neg g1,run_cons] at h9;by_cases g2:step (run 0 (a++d.takeWhile (!isMark ·))) (sgn c.toNat)=9
      · rw [if_pos g2] at h9;exact absurd rfl h9
      rw [if_neg g2] at h9;have hlt:=run_lt _ 0 (by omega) g1;have hc5:sgn c.toNat=5:=by
        unfold isMark at h4;rw [Bool.or_eq_true,beq_iff_eq,beq_iff_eq] at h4;exact sgn_mark.2 h4
      rw [hc5] at g2 h9;have g3:∀ st,st<9->step st 5≠9->step st 5=6:=by decide
      rw [g3 _ hlt g2] at h9;exact h9
    rcases powers t h6 with hp | hp | hp
    · rw [hp]
    · exact rfin_far _ _ _ _ (by simp at hb;omega) (.inl (by simp at hb;omega))
    · exact rfin_far _ _ _ _ (by simp at hb;omega) (.inr (by simp at hb;omega))
theorem rparse_eq (l:List UInt8) (hlen:l.length<=2000000):rparse l=parse l:=by
  unfold rparse parse;rw [rscan_eq];by_cases h:l=[]∨scan l≠l.length
  · rw [if_pos h,if_pos h]
  · rw [if_neg h,if_neg h];have hne:l≠[]:=fun e=>h (.inl e);have hsc:scan l=l.length:=by
      by_cases e:scan l=l.length
      · exact e
      · exact absurd (.inr e) h
    have hr:=((scan_full l hne).1 hsc).1;obtain ⟨c,t,rfl⟩:=List.exists_cons_of_ne_nil hne;have hb:byt (c::t) 0=c.toNat:=rfl;have hh:((c::t).head? == some 45)=(c.toNat == 45):=by
      show (some c == some 45)=_;rw [Bool.eq_iff_iff];simp;exact ⟨fun e=>by rw [e];rfl,fun e=>UInt8.toNat_inj.1 e⟩
    rw [hh,hb];by_cases h45:c.toNat=45
    · rw [if_pos h45,if_pos (by simpa using h45)];exact mant_eq _ [c] _ (by simp at hlen ⊢;omega) hr
    · rw [if_neg h45,if_neg (by simpa using h45)];exact mant_eq _ [] _ hlen hr
end Go.Proofs.YtliekocamnklfaaGreatDoor.Num
