/- tabulariumref12.alone, Alone, tabulariumref17.Name: the same. -/
import Derived.Test.YtancjnedgddobaaGreatDoorHAdA
import Derived.Test.YtancjnedgddobaaGreatDoorHLawA
import Derived.Test.YtancjnedgddobaaGreatDoorHNumW
import Derived.Test.YtancjnedgddobaaGreatDoorHUtfW
import Derived.Deep.RegionHeld3
import Derived.Maps.AppendAt
import Derived.WalkKit
set_option linter.unusedVariables false
set_option linter.unusedSimpArgs false
set_option maxRecDepth 100000
set_option maxHeartbeats 4000000
namespace Go.Proofs.YtancjnedgddobaaGreatDoor.Addr
open Go.RowKit Go.Shelf Utf Strs Lex
theorem first_len (l:List UInt8):∀ (n p:Nat),l.length-p<=n->p<=l.length->∀ x t,(toksAt l p).1=x::t->x.2.1.length+p<=l.length:=by
  intro n
  induction n with
  | zero=>
    intro p h1 h2 x t h
    obtain rfl:p=l.length:=by omega
    rw [toksAt_end] at h;cases h
  | succ n ih=>
    intro p h1 h2 x t h
    by_cases hp:p=l.length
    · subst hp;rw [toksAt_end] at h;cases h
    have hlt:p<l.length:=by omega
    cases hb:Lex.blank l[p] with
    | true=>
      rw [toksAt_blank l p hlt hb] at h;have:=ih (p+1) (by omega) (by omega) x t h;omega
    | false=>
      by_cases he:(next (l.drop p)).2.2.2=0
      · rw [toksAt_tok l p hlt hb he] at h;injection h with h _
        subst h;simp only [List.length_take,List.length_drop]
        omega
      · rw [toksAt_bad l p hlt hb he] at h;cases h
theorem ident_toks (l:List UInt8) (h:identB l=true):toksAt l 0=([(1,l,0)],0,0):=by
  unfold identB at h;by_cases h0:l.length=0
  · have:=toksAt_end l;rw [h0] at this;rw [this] at h;cases h
  have hlt:0<l.length:=by omega
  cases hb:Lex.blank l[0] with
  | true=>
    rw [toksAt_blank l 0 hlt hb] at h
    cases hx:(toksAt l (0+1)).1 with
    | nil=>rw [hx] at h;cases h
    | cons x t=>
      have:=first_len l (l.length) (0+1) (by omega) (by omega) x t hx;rw [hx] at h;simp only [oneTok,Bool.and_eq_true,beq_iff_eq] at h
      omega
  | false=>
    by_cases he:(next (l.drop 0)).2.2.2=0
    · have ht:=toksAt_tok l 0 hlt hb he;have hf:=(next_fits (l.drop 0) (List.ne_nil_of_length_pos (by rw [List.length_drop];omega))).size he;rw [ht] at h ⊢;simp only [oneTok,Bool.and_eq_true,beq_iff_eq,List.drop_zero,List.length_take] at h hf ⊢
      have hs:(next l).2.1=l.length:=by omega
      rw [hs,h.1,Nat.zero_add,toksAt_end,List.take_length]
    · rw [toksAt_bad l 0 hlt hb he] at h;cases h
theorem ident_not {l:List UInt8} (h:identB l=false) (he:(toksAt l 0).2.2=0) (x:Tok) (hx:(toksAt l 0).1=[x]) (h1:x.1=1):x.2.1≠l:=by
  intro e
  unfold identB at h;rw [hx] at h;simp [oneTok,h1,e] at h
theorem RParse.to {l:List UInt8} {w w':World} {e:Ending} (h:RParse l w e w'):∃ v,e=.returned (.agg #[v,.int .i64 (whereAt (toksAt l 0)),.int .i64 (toksAt l 0).2.2])/\Hid (Row w' w.heap.size v (toksAt l 0).1)/\Hid (Below w.heap.size w w'):=h
theorem told_put (w:World) (a b c:Value):∃ w1,w.alloc (.cells #[a,b,c] 258)=w1/\Hid (w1.heap[w.heap.size]?=some (.cells #[a,b,c] 258 (0,0)))/\Hid (Below w.heap.size w w1):=
  ⟨_,rfl,heap_alloc_new _ _,(Below.refl _ _).alloc (Nat.le_refl _) _⟩
theorem row_one {w:World} {B c:Nat} {a:Option Addr} {x:Tok} (h:Row w B (.slice a 1 c) [x]):∃ g,a=some ⟨g,0,none⟩/\w.cell? ⟨g,0,none⟩=some (.int .i64 x.1)/\w.cell? ⟨g,1,none⟩=some (.string ⟨x.2.1.toArray⟩):=by
  have h':w.ownsRow B 188 3 (.slice a 1 c) 1 (toksCells [x]):=h;rcases h'.2 with ⟨_,h0⟩ | ⟨g,cap,cur,hv,_⟩
  · omega
  · injection hv with e1 _ _
    subst e1;have h2:=h'.cellAt 0 (by omega);have h3:=h'.cellAt 1 (by omega);exact ⟨g,rfl,h2,h3⟩
theorem alone_any (s:ByteArray) (w:World) (hs:s.size<=1000000):Calls Tryz.prog 243 #[.string s,.int .i64 1] w fun e w'=>e=.returned (.bool (identB s.data.toList))/\Below w.heap.size w w':=by
  have hp:=rparse_any s w (by omega);have HP:=Hid.out (p:=Hid _) hp;have q0:decide ((1048576:Int)<(s.size:Int))=false:=by rw [decide_eq_false_iff_not];omega
  have q00:decide (1048576<s.size)=false:=by rw [decide_eq_false_iff_not];omega
  clear hp;go_enter Tryz.func243,Tryz.ntmps243
  go_wp2_with fail
  refine (Calls.mono HP.out ?_);rintro z w2 hz;obtain ⟨v,rfl,hr,B2⟩:=RParse.to hz;obtain ⟨va,vc,rfl⟩:=hr.out.form;obtain ⟨L,hL⟩:∃ L,(toksAt s.data.toList 0).1=L:=⟨_,rfl⟩;obtain ⟨er,her⟩:∃ er,(toksAt s.data.toList 0).2.2=er:=⟨_,rfl⟩;obtain ⟨at_,hat⟩:∃ x,whereAt (toksAt s.data.toList 0)=x:=⟨_,rfl⟩;rw [hL] at hr ⊢;obtain ⟨n,hn⟩:∃ n,L.length=n:=⟨_,rfl⟩;rw [her,hat,hn];have hr:Hid (Row w2 w.heap.size (.slice va n vc) L):=by have:=hr.out;rw [hn] at this;exact this
  have HNOT:Hid (∀ x,identB s.data.toList=false->er=0->L=[x]->x.1=1->x.2.1≠s.data.toList):=fun x h1 h2 h3 h4=>ident_not h1 (by rw [her];exact h2) x (by rw [hL];exact h3) h4;have HYES:Hid (identB s.data.toList=true->er=0/\L=[(1,s.data.toList,0)]):=fun h=>by
    have:=ident_toks _ h;rw [this] at hL her;exact ⟨her.symm,hL.symm⟩
  obtain ⟨w3,hw3,X3,B3⟩:=told_put w2 (.slice va n vc) (.int .i64 at_) (.int .i64 er);have HR3:Hid (Row w3 w.heap.size (.slice va n vc) L):=hr.out.stays B3.out;have B13:Hid (Below w.heap.size w w3):=B2.out.trans (B3.out.mono B2.out.size);have c0:=cell_of X3.out 0;have c1:=cell_of X3.out 1;have c2:=cell_of X3.out 2;clear hz hr hL her hat B2 B3;by_cases he:er=0
  · have q1:((er:Int) == 0)=true:=by rw [beq_iff_eq];omega
    by_cases hl:n=1
    · subst hl;obtain ⟨x,rfl⟩:=List.length_eq_one_iff.1 hn;clear hn;obtain ⟨g,rfl,d0,d1⟩:=row_one HR3.out;by_cases hk:x.1=1
      · have q3:((x.1:Int) == 1)=true:=by rw [beq_iff_eq];omega
        by_cases ht:x.2.1=s.data.toList
        · have HF:Hid (identB s.data.toList=true):=by
            cases hi:identB s.data.toList with
            | true=>rfl
            | false=>exact absurd ht (HNOT.out x hi he rfl hk)
          have hxs:(⟨x.2.1.toArray⟩:ByteArray)=s:=by rw [ht] <;> simp
          rw [hxs] at d1;clear he hk ht HNOT HYES hxs;go_wp2_with fail
          go_ret
          exact ⟨by rw [HF.out] <;> rfl,B13.out⟩
        · have HF:Hid (identB s.data.toList=false):=by
            cases hi:identB s.data.toList with
            | false=>rfl
            | true=>exact absurd (by have:=(HYES.out hi).2;injection this with this _;rw [this]) ht
          have q4:(x.2.1 == s.toList)=false:=by
            rw [beq_eq_false_iff_ne,ByteArray.toList_eq];exact ht
          clear he hk ht HNOT HYES;go_wp2_with fail
          go_ret
          exact ⟨by rw [HF.out] <;> rfl,B13.out⟩
      · have q3:((x.1:Int) == 1)=false:=by rw [beq_eq_false_iff_ne];omega
        have HF:Hid (identB s.data.toList=false):=by
          cases hi:identB s.data.toList with
          | false=>rfl
          | true=>exact absurd (by have:=(HYES.out hi).2;injection this with this _;rw [this]) hk
        clear he hk HNOT HYES;go_wp2_with fail
        go_ret
        exact ⟨by rw [HF.out] <;> rfl,B13.out⟩
    · have q2:((n:Int) == 1)=false:=by rw [beq_eq_false_iff_ne];omega
      have HF:Hid (identB s.data.toList=false):=by
        cases hi:identB s.data.toList with
        | false=>rfl
        | true=>exact absurd (by rw [<-hn,(HYES.out hi).2];rfl) hl
      clear he hl hn HNOT HYES;go_wp2_with fail
      go_ret
      exact ⟨by rw [HF.out] <;> rfl,B13.out⟩
  · have q1:((er:Int) == 0)=false:=by rw [beq_eq_false_iff_ne];omega
    have HF:Hid (identB s.data.toList=false):=by
      cases hi:identB s.data.toList with
      | false=>rfl
      | true=>exact absurd (HYES.out hi).1 he
    clear he hn HNOT HYES;go_wp2_with fail
    go_ret
    exact ⟨by rw [HF.out] <;> rfl,B13.out⟩
theorem alone_list (s:ByteArray) (g c:Nat) (w:World) (hs:s.size<=1000000) (h0:w.cell? ⟨g,0,none⟩=some (.int .i64 1)) (h1:w.cell? ⟨g,1,none⟩=some (.string s)):Calls Tryz.prog 196 #[.slice (some ⟨g,0,none⟩) 1 c] w fun e w'=>e=.returned (.bool (identB s.data.toList))/\Below w.heap.size w w':=by
  have HA:Hid (∀ w,Calls Tryz.prog 243 #[.string s,.int .i64 1] w fun e w'=>e=.returned (.bool (identB s.data.toList))/\Below w.heap.size w w'):=fun w=>alone_any s w hs;obtain ⟨r,hr⟩:∃ r,identB s.data.toList=r:=⟨_,rfl⟩;rw [hr] at HA ⊢;clear hr;go_enter Tryz.func196,Tryz.ntmps196
  go_wp2_with fail
  go_loopw [3] (fun p wr=>(p=.int .i64 0/\w=wr)∨(p=.int .i64 1/\r=true/\Hid (Below w.heap.size w wr))) (fun p _=>1-(intOf p).toNat)
  case atStart=>exact .inl ⟨rfl,rfl⟩
  case round=>
    rcases hrel with ⟨rfl,rfl⟩ | ⟨rfl,rfl,hB⟩
    · go_wp2_with fail
      have HK:∀ w2,Below w.drew.heap.size w.drew w2->w2.cell? ⟨g,0,none⟩=some (.int .i64 1)/\w2.cell? ⟨g,1,none⟩=some (.string s):=fun w2 hb2=>⟨(World.cell?_of_block (w:=w.drew) (hb2.block g (World.block_lt_of_cell? w _ h0))).trans h0,(World.cell?_of_block (w:=w.drew) (hb2.block g (World.block_lt_of_cell? w _ h1))).trans h1⟩;have HK2:=Hid.out (p:=Hid _) HK;clear HK
      go_region_held3 (fun w'=>w'.cell? ⟨g,0,none⟩=some (.int .i64 1)/\w'.cell? ⟨g,1,none⟩=some (.string s)) (go_keep)
        (first
          | (go_at_call 243;refine (HA.out w.drew).mono ?_;rintro z w2 ⟨rfl,hb2⟩;obtain ⟨k0,k1⟩:=HK2.out w2 hb2;have HB2:=Hid.out (p:=Hid _) hb2;clear hb2))
      have HB:Hid (Below w.heap.size w w2):=⟨HB2.out.os,HB2.out.tape,HB2.out.output,HB2.out.size,HB2.out.block⟩;clear k0 k1;cases r
      · go_wp2_with fail
        go_ret
        exact ⟨rfl,HB.out⟩
      · go_wp2_with fail
        go_roundw
        case rel=>exact .inr ⟨by go_num,trivial,HB.out⟩
        case measure=>simp [intOf]
    · go_wp2_with fail
      go_ret
      exact ⟨rfl,hB.out⟩
theorem name_any (s:ByteArray) (w:World) (hs:s.size<=1000000):Calls Tryz.prog 154 #[.string s] w fun e w'=>e=.returned (.bool (identB s.data.toList))/\Below w.heap.size w w':=by
  obtain ⟨w1,hw1,X1,B1⟩:∃ w1,w.alloc (.cells #[.int .i64 1,.string s,.int .i64 0] 188)=w1/\Hid (w1.heap[w.heap.size]?=some (.cells #[.int .i64 1,.string s,.int .i64 0] 188 (0,0)))/\Hid (Below w.heap.size w w1):=⟨_,rfl,heap_alloc_new _ _,(Below.refl _ _).alloc (Nat.le_refl _) _⟩;have hc:=alone_list s w.heap.size 1 w1 hs (cell_of X1.out 0) (cell_of X1.out 1);have HC:=Hid.out (p:=Hid _) hc;clear hc;go_enter Tryz.func154,Tryz.ntmps154
  go_wp2_with fail
  refine (Calls.mono HC.out ?_);rintro z w2 ⟨rfl,hb2⟩;have B2:Hid (Below w.heap.size w w2):=B1.out.trans (hb2.mono B1.out.size);clear hb2;go_wp2_with fail
  go_ret
  exact ⟨rfl,B2.out⟩
end Go.Proofs.YtancjnedgddobaaGreatDoor.Addr
namespace Go.Proofs.YtancjnedgddobaaGreatDoor.Jdec
inductive JV where
  | mk (kind:Int) (is neg:Bool) (dig:ByteArray) (exp:Int) (str:ByteArray) (keys:List ByteArray) (kids:List JV)
def JV.zero:JV:=.mk 0 false false ⟨#[]⟩ 0 ⟨#[]⟩ [] []
def listOf (vs:List JV):JV:=.mk 5 false false ⟨#[]⟩ 0 ⟨#[]⟩ [] vs
def objectOf (ks:List ByteArray) (vs:List JV):JV:=.mk 6 false false ⟨#[]⟩ 0 ⟨#[]⟩ ks vs
open Go.RowKit
structure Raw where
  kind:Int
  is:Bool
  neg:Bool
  dig:ByteArray
  exp:Int
  str:ByteArray
  ka:Option Addr
  kn:Nat
  kc:Nat
  va:Option Addr
  vn:Nat
  vc:Nat
def Raw.val (r:Raw):Value:=.agg #[.int .i64 r.kind,.bool r.is,.bool r.neg,.string r.dig,.int .i64 r.exp,.string r.str,.slice r.ka r.kn r.kc,.slice r.va r.vn r.vc]
def Raw.cells (r:Raw):List Value:=[.int .i64 r.kind,.bool r.is,.bool r.neg,.string r.dig,.int .i64 r.exp,.string r.str,.slice r.ka r.kn r.kc,.slice r.va r.vn r.vc]
def Raw.zero:Raw:=⟨0,false,false,⟨#[]⟩,0,⟨#[]⟩,none,0,0,none,0,0⟩
def IsTexts (w:World) (A:Nat->Prop) (a:Option Addr) (l:List ByteArray):Prop:=
  l=[]∨∃ b o,a=some ⟨b,o,none⟩/\A b/\b<w.heap.size/\∀ i (h:i<l.length),w.cell? ⟨b,o+i,none⟩=some (.string l[i])
def CellsAt (w:World) (b o:Nat) (r:Raw):Prop:=∀ j u,r.cells[j]?=some u->w.cell? ⟨b,o+j,none⟩=some u
inductive IsV (w:World) (A:Nat->Prop):Raw->JV->Prop where
  | mk (r:Raw) (keys:List ByteArray) (kids:List JV) (f:Nat->Raw):r.kn=keys.length->r.vn=kids.length->IsTexts w A r.ka keys →
      (kids=[]∨∃ b o,r.va=some ⟨b,o,none⟩/\A b/\b<w.heap.size/\∀ i,i<kids.length->CellsAt w b (o+i*8) (f i)) →
      (∀ i (h:i<kids.length),IsV w A (f i) kids[i])->IsV w A r (.mk r.kind r.is r.neg r.dig r.exp r.str keys kids)
structure Turn (w w':World) (A A':Nat->Prop):Prop where
  size:w.heap.size<=w'.heap.size
  block:∀ b,A b->b<w.heap.size->w'.heap[b]?=w.heap[b]?/\A' b
theorem IsTexts.turn {w w':World} {A A':Nat->Prop} {a:Option Addr} {l:List ByteArray} (h:IsTexts w A a l) (t:Turn w w' A A'):IsTexts w' A' a l:=by
  rcases h with h | ⟨b,o,ha,hA,hb,hc⟩
  · exact .inl h
  · obtain ⟨h1,h2⟩:=t.block b hA hb;exact .inr ⟨b,o,ha,h2,Nat.lt_of_lt_of_le hb t.size,fun i hi=>(World.cell?_of_block h1).trans (hc i hi)⟩
theorem IsV.turn {w w':World} {A A':Nat->Prop} {r:Raw} {v:JV} (h:IsV w A r v) (t:Turn w w' A A'):IsV w' A' r v:=by
  induction h with
  | mk r keys kids f h1 h2 h3 h4 h5 ih=>
    refine .mk r keys kids f h1 h2 (h3.turn t) ?_ ih;rcases h4 with h4 | ⟨b,o,ha,hA,hb,hc⟩
    · exact .inl h4
    · obtain ⟨g1,g2⟩:=t.block b hA hb;exact .inr ⟨b,o,ha,g2,Nat.lt_of_lt_of_le hb t.size,fun i hi j u hu=>(World.cell?_of_block g1).trans (hc i hi j u hu)⟩
theorem Turn.mono (w:World) {A A':Nat->Prop} (h:∀ b,A b->b<w.heap.size->A' b):Turn w w A A':=⟨Nat.le_refl _,fun b hA hb=>⟨rfl,h b hA hb⟩⟩
theorem Turn.below {w w':World} {A:Nat->Prop} (h:Below w.heap.size w w'):Turn w w' A A:=⟨h.size,fun b hb hl=>⟨h.block b hl,hb⟩⟩
theorem IsV.bare (w:World) (A:Nat->Prop) (kind:Int) (is neg:Bool) (dig:ByteArray) (exp:Int) (str:ByteArray) (ka va:Option Addr) (kc vc:Nat):IsV w A ⟨kind,is,neg,dig,exp,str,ka,0,kc,va,0,vc⟩ (.mk kind is neg dig exp str [] []):=
  .mk ⟨kind,is,neg,dig,exp,str,ka,0,kc,va,0,vc⟩ [] [] (fun _=>Raw.zero) rfl rfl (.inl rfl) (.inl rfl) (fun i h=>absurd h (Nat.not_lt_zero _))
theorem flat_cells_at:∀ (rs:List Raw) (i:Nat) (h:i<rs.length) (j:Nat) (u:Value),rs[i].cells[j]?=some u->(rs.flatMap Raw.cells)[i*8+j]?=some u
  | r::rs,0,h,j,u,hu=>by
    have hu:r.cells[j]?=some u:=hu;have hj:=(List.getElem?_eq_some_iff.1 hu).1;rw [List.flatMap_cons,Nat.zero_mul,Nat.zero_add,List.getElem?_append_left hj];exact hu
  | r::rs,i+1,h,j,u,hu=>by
    have:=flat_cells_at rs i (by simpa using h) j u hu;have h8:r.cells.length=8:=rfl;rw [List.flatMap_cons,List.getElem?_append_right (by omega),h8,show (i+1)*8+j-8=i*8+j by omega];exact this
end Go.Proofs.YtancjnedgddobaaGreatDoor.Jdec
namespace Go.Proofs.YtancjnedgddobaaGreatDoor.Addr
open Go.RowKit Go.Shelf Utf Strs Lex
open Jdec (IsTexts)
def identsB (ks:List ByteArray):Bool:=ks.all fun k=>identB k.data.toList
theorem idents_take {ks:List ByteArray} {i:Nat} (h:i<ks.length):identsB (ks.take (i+1))=(identsB (ks.take i) && identB ks[i].data.toList):=by
  unfold identsB;rw [List.take_add_one,List.getElem?_eq_getElem h,List.all_append];simp
theorem idents_any (ks:List ByteArray) (ka:Option Addr) (kc:Nat) (A:Nat->Prop) (w:World) (ht:IsTexts w A ka ks) (hl:ks.length<=3000) (hs:∀ x∈ks,x.size<=1048576) (T:Tabs w):Calls Tryz.prog 186 #[.slice ka ks.length kc] w fun e w'=>e=.returned (.bool (identsB ks))/\Below w.heap.size w w':=by
  have HI:Hid (∀ i (h:i<ks.length) w',Below w.heap.size w w'->Calls Tryz.prog 235 #[.string ks[i]] w' fun e w''=>e=.returned (.bool (identB ks[i].data.toList))/\Below w'.heap.size w' w''):=fun i h w' hb=>ident_any ks[i] w' (hs _ (List.getElem_mem h)) (T.stays hb);have HTX:=Hid.out (p:=Hid _) ht;clear ht T hs;go_enter Tryz.func186,Tryz.ntmps186
  go_wp2_with fail
  go_loopw [7] (fun p wr=>∃ i:Nat,p=.int .i64 i/\i<=ks.length/\Hid (identsB (ks.take i)=true)/\Hid (Below w.heap.size w wr)) (fun p _=>ks.length-(intOf p).toNat)
  case atStart=>exact ⟨0,rfl,Nat.zero_le _,rfl,Below.refl _ _⟩
  case round=>
    obtain ⟨i,rfl,hi,hT,hB⟩:=hrel;by_cases hlt:i<ks.length
    · obtain ⟨b,o,rfl,_,hb,hc⟩:=HTX.out.resolve_left (by intro e;rw [e] at hlt;simp at hlt);have k0:wr.cell? ⟨b,o+i,none⟩=some (.string ks[i]):=(World.cell?_of_block (w:=w) (hB.out.block b hb)).trans (hc i hlt);have hcall:=HI.out i hlt wr hB.out;have HCL:=Hid.out (p:=Hid _) hcall;have HTK:=Hid.out (p:=Hid _) (idents_take hlt);have HSZ:=hB.out.size;obtain ⟨r,hr⟩:∃ r,identB ks[i].data.toList=r:=⟨_,rfl⟩;have HRR:=Hid.out (p:=Hid _) hr;rw [hr] at HCL;obtain ⟨x,hx⟩:∃ x,ks[i]=x:=⟨_,rfl⟩;rw [hx] at HCL k0;clear hcall hc hr hx;go_wp2_with fail
      refine (Calls.mono HCL.out ?_);rintro z w2 ⟨rfl,hb2⟩;have B2:Hid (Below w.heap.size w w2):=hB.out.trans (hb2.mono HSZ);clear hb2 k0 HCL;cases r
      · have HF:Hid (identsB ks=false):=by
          rw [Hid,identsB,List.all_eq_false];exact ⟨_,List.getElem_mem hlt,by rw [HRR.out];simp⟩
        go_wp2_with fail
        go_ret
        exact ⟨by rw [HF.out] <;> rfl,B2.out⟩
      · have HN:Hid (identsB (ks.take (i+1))=true):=by rw [Hid,HTK.out,hT.out,HRR.out];rfl
        go_wp2_with fail
        go_roundw
        case rel=>exact ⟨i+1,by go_num,by omega,HN.out,B2.out⟩
        case measure=>simp [intOf];omega
    · obtain rfl:i=ks.length:=by omega
      have HF:Hid (identsB ks=true):=by
        have:=hT.out;rw [List.take_length] at this;exact this
      go_wp2_with fail
      go_ret
      exact ⟨by rw [HF.out] <;> rfl,hB.out⟩
end Go.Proofs.YtancjnedgddobaaGreatDoor.Addr
namespace Go.Proofs.YtancjnedgddobaaGreatDoor.Quote
open Go.RowKit Utf Strs
theorem valid_any (s:ByteArray) (w:World) (hs:s.size<=4611686018427387904) (T:Sizes w):Calls Tryz.prog 157 #[.string s] w fun e w'=>e=.returned (.bool (decide (badZ s.data.toList<0)))/\w=w':=by
  have hc:=bad_any s w hs T;obtain ⟨z,hz⟩:∃ z,badZ s.data.toList=z:=⟨_,rfl⟩;rw [hz] at hc ⊢;clear hz;go_enter Tryz.func157,Tryz.ntmps157
  go_wp2_with fail
  refine hc.mono ?_;rintro e w' ⟨rfl,rfl⟩;go_wp2_with fail
  go_ret
  exact ⟨rfl,rfl⟩
end Go.Proofs.YtancjnedgddobaaGreatDoor.Quote
