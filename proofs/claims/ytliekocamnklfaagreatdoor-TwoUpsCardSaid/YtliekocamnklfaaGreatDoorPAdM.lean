/- Addresses in plain Lean: prints, what is read of a text; a print is read as what it was. -/
import Derived.Test.YtliekocamnklfaaGreatDoorPAdF
import Derived.Test.YtliekocamnklfaaGreatDoorPRtC
import Derived.Test.YtliekocamnklfaaGreatDoorPJdecEq
import Derived.Lib.ParseIntB
import Derived.Lib.IndexBytes
import Derived.Lib.IndexMore
import Derived.Lib.Split
set_option linter.unusedVariables false
set_option linter.unusedSimpArgs false
namespace Go.Proofs.YtliekocamnklfaaGreatDoor.Addr
open Go.RowKit Utf Lex
/-! ## Numbers -/
def numR:Nat->List UInt8->Option Nat
  | n,[]=>some n
  | n,c::r=>if 48<=c.toNat/\c.toNat<=57 then (if 18446744073709551615<n*10+(c.toNat-48) then none else numR (n*10+(c.toNat-48)) r) else none
def noughts (l:List UInt8):Bool:=l.isEmpty || (l.head? == some 48 && decide (1<l.length))
def numB (l:List UInt8):Option Nat:=if noughts l then none else numR 0 l
theorem dig_nat (d:Nat) (h:d<10):(UInt8.ofNat (48+d)).toNat=48+d:=by
  rw [UInt8.toNat_ofNat'];omega
theorem dec_head:∀ u,1<=u->∃ c r,Lib.decDigits u=c::r/\c≠48:=by
  intro u
  induction u using Nat.strongRecOn with
  | ind u ih=>
    intro h
    by_cases hu:u<10
    · refine ⟨UInt8.ofNat (48+u),[],by rw [Lib.decDigits,dif_pos hu],fun e=>?_⟩;have:=dig_nat u hu;rw [e] at this;have h48:(48:UInt8).toNat=48:=rfl;omega
    · obtain ⟨c,r,h1,h2⟩:=ih (u / 10) (by omega) (by omega);exact ⟨c,r++[UInt8.ofNat (48+u % 10)],by rw [Lib.decDigits,dif_neg hu,h1];rfl,h2⟩
theorem numR_le:∀ (l:List UInt8) (n u:Nat),numR n l=some u->n*10 ^ l.length<=u/\(n<=18446744073709551615->u<=18446744073709551615):=by
  intro l
  induction l with
  | nil=>intro n u h;injection h with h;subst h;simp
  | cons c l ih=>
    intro n u h
    rw [numR] at h;split at h
    · split at h
      · cases h
      · have:=ih _ _ h;refine ⟨Nat.le_trans ?_ this.1,fun _=>this.2 (by omega)⟩;rw [List.length_cons,Nat.pow_succ,Nat.mul_comm (10 ^ l.length) 10,<-Nat.mul_assoc];exact Nat.mul_le_mul_right _ (Nat.le_add_right _ _)
    · cases h
theorem numB_le {l:List UInt8} {u:Nat} (h:numB l=some u):u<=18446744073709551615:=by
  rw [numB] at h;split at h
  · cases h
  · exact (numR_le _ _ _ h).2 (by omega)
theorem numB_long {l:List UInt8} (h:20<l.length):numB l=none:=by
  cases hn:numB l with
  | none=>rfl
  | some u=>
    exfalso
    have hu:=numB_le hn;rw [numB] at hn;split at hn
    · cases hn
    · rename_i h0
      cases l with
      | nil=>cases h
      | cons c r=>
        rw [numR] at hn;split at hn
        · rename_i hc
          split at hn
          · cases hn
          · have h1:=(numR_le _ _ _ hn).1;have hc0:c≠48:=by
              intro e
              apply h0
              simp only [List.length_cons] at h
              simp [noughts,e]
              omega
            have hc1:49<=c.toNat:=by
              rcases Nat.lt_or_ge c.toNat 49 with h2 | h2
              · exact absurd (UInt8.toNat_inj.1 (show c.toNat=(48:UInt8).toNat from by have:(48:UInt8).toNat=48:=rfl;omega)) hc0
              · exact h2
            have h2:10 ^ 20<=10 ^ r.length:=Nat.pow_le_pow_right (by omega) (by simp only [List.length_cons] at h;omega);have h3:1*10 ^ r.length<=(0*10+(c.toNat-48))*10 ^ r.length:=Nat.mul_le_mul_right _ (by omega);have h4:(10:Nat) ^ 20=100000000000000000000:=by decide
            omega
        · cases hn
def digitsP (l:List UInt8):Option Nat:=
  if noughts l then none
  else if l.all Num.isDigit then (match Lib.parseUintB 64 l with | .ok u=>some u | _=>none) else none
theorem isDigit_iff (c:UInt8):Num.isDigit c=true↔48<=c.toNat/\c.toNat<=57:=by simp [Num.isDigit]
theorem numR_bad:∀ (l:List UInt8) (n:Nat),l.all Num.isDigit=false->numR n l=none:=by
  intro l
  induction l with
  | nil=>intro n h;cases h
  | cons c l ih=>
    intro n h
    rw [numR];rw [List.all_cons] at h
    cases hc:Num.isDigit c with
    | false=>rw [if_neg (by rw [<-isDigit_iff,hc];simp)]
    | true=>
      rw [hc] at h;split
      · split
        · rfl
        · exact ih _ (by simpa using h)
      · rfl
theorem numR_uint:∀ (l:List UInt8) (n:Nat),l.all Num.isDigit=true->numR n l=(match Lib.parseUintM (2 ^ 64-1) n l with | .ok u=>some u | _=>none):=by
  intro l
  induction l with
  | nil=>intro n h;rfl
  | cons c l ih=>
    intro n h
    rw [List.all_cons,Bool.and_eq_true] at h;have hc:=(isDigit_iff c).1 h.1;rw [numR,Lib.parseUintM,if_pos hc,if_pos hc];have e64:(2:Nat) ^ 64-1=18446744073709551615:=by decide
    rw [e64];by_cases h1:18446744073709551615<n*10+(c.toNat-48)
    · rw [if_pos h1,if_pos h1];split <;> simp_all
    · rw [if_neg h1,if_neg h1,if_neg (by omega),ih _ h.2,e64]
theorem digits_eq (l:List UInt8):digitsP l=numB l:=by
  unfold digitsP numB
  cases hn:noughts l with
  | true=>rfl
  | false=>
    simp only [Bool.false_eq_true,if_false]
    cases ha:l.all Num.isDigit with
    | false=>
      simp only [Bool.false_eq_true,if_false]
      exact (numR_bad l 0 ha).symm
    | true=>
      have h0:l≠[]:=by rintro rfl;cases hn
      simp only [if_true]
      rw [Lib.parseUintB,if_neg h0,numR_uint l 0 ha]
/-! ## Names -/
theorem comment_kind (k:Nat) (l:List UInt8):(comment k l).1=0∨(comment k l).1=k:=by unfold comment;split <;> simp
theorem next_one {l:List UInt8} (h:(next l).1=1):letterB (byt l 0)=true:=by
  cases hb:letterB (byt l 0) with
  | true=>rfl
  | false=>
    exfalso
    unfold next at h;rw [hb] at h;simp only [Bool.false_eq_true,if_false] at h
    split at h
    · unfold decimal at h;split at h <;> simp at h
    split at h
    · split at h <;> simp at h
    split at h
    · simp at h
    split at h
    · unfold remark at h;rcases comment_kind 6 ((line l).reverse.dropWhile ([32,9,13].contains ·)).reverse with e | e <;> rw [e] at h <;> omega
    split at h
    · unfold aside at h;split at h
      · simp at h
      · split at h
        · simp at h
        · rcases comment_kind 7 (l.take ((Lib.index (l.drop 2) [42,47]).toNat+4)) with e | e <;> rw [e] at h <;> omega
    split at h <;> simp at h
theorem ident_in {l:List UInt8} (h:identB l=true):∀ c∈l,inId c=true:=by
  have ht:=ident_toks l h;by_cases h0:l.length=0
  · intro c hc;rw [List.length_eq_zero_iff.1 h0] at hc;cases hc
  have hlt:0<l.length:=by omega
  cases hb:Lex.blank l[0] with
  | true=>
    rw [toksAt_blank l 0 hlt hb] at ht;have h1:=first_len l l.length (0+1) (by omega) (by omega) (1,l,0) [] (by rw [ht]);simp only [] at h1
    omega
  | false=>
    by_cases he:(next (l.drop 0)).2.2.2=0
    · have hk:=toksAt_tok l 0 hlt hb he;rw [hk] at ht;simp only [List.drop_zero,Prod.mk.injEq,List.cons.injEq] at ht
      have hl:=next_one ht.1.1.1;have hn:next l=(1,ident l,0,0):=by unfold next;rw [if_pos hl]
      have h2:=congrArg List.length ht.1.1.2.1;rw [hn] at h2;simp only [List.length_take] at h2
      obtain ⟨c0,t,rfl⟩:∃ c t,l=c::t:=by
        cases l with
        | nil=>simp at hlt
        | cons c t=>exact ⟨c,t,rfl⟩
      have h3:ident (c0::t)=1+(t.takeWhile inId).length:=rfl;rw [h3,List.length_cons] at h2;have hp:=List.takeWhile_prefix (l:=t) inId;have h4:(t.takeWhile inId).length=t.length:=by have:=hp.length_le;omega
      have h5:=hp.eq_of_length h4;intro c hc
      rcases List.mem_cons.1 hc with rfl | hc
      · have:letterB c.toNat=true:=hl;rw [inId,this];rfl
      · have:=List.all_takeWhile (p:=inId) (l:=t);rw [h5] at this;exact List.all_eq_true.1 this c hc
    · rw [toksAt_bad l 0 hlt hb he] at ht;simp at ht
/-! ## Prints -/
/-! ## Cuts -/
def cutB (c:UInt8):List UInt8->Option (List UInt8 × List UInt8)
  | []=>none
  | x::t=>if x=c then some ([],t) else match cutB c t with
    | none=>none
    | some (a,b)=>some (x::a,b)
theorem cutB_none {c:UInt8}:∀ {l:List UInt8},cutB c l=none↔∀ x∈l,x≠c:=by
  intro l
  induction l with
  | nil=>simp [cutB]
  | cons x t ih=>
    rw [cutB];by_cases hx:x=c
    · rw [if_pos hx];simp [hx]
    · rw [if_neg hx]
      cases h:cutB c t with
      | none=>
        have h2:=ih.1 h;simp only [true_iff]
        intro y hy
        rcases List.mem_cons.1 hy with rfl | hy
        · exact hx
        · exact h2 y hy
      | some y=>
        have:¬ ∀ x∈t,x≠c:=fun h2=>by rw [ih.2 h2] at h;cases h
        constructor
        · intro e;cases e
        · intro h2;exact absurd (fun y hy=>h2 y (List.mem_cons_of_mem _ hy)) this
theorem cutB_some {c:UInt8}:∀ {l a b:List UInt8},cutB c l=some (a,b)->l=a++c::b/\∀ x∈a,x≠c:=by
  intro l
  induction l with
  | nil=>intro a b h;cases h
  | cons x t ih=>
    intro a b h
    rw [cutB] at h;by_cases hx:x=c
    · rw [if_pos hx] at h;injection h with h;injection h with h1 h2
      subst h1 h2 hx;exact ⟨rfl,by simp⟩
    · rw [if_neg hx] at h
      cases hc:cutB c t with
      | none=>rw [hc] at h;cases h
      | some y=>
        obtain ⟨a',b'⟩:=y;rw [hc] at h;injection h with h;injection h with h1 h2
        subst h1 h2;obtain ⟨e1,e2⟩:=ih hc;exact ⟨by rw [e1];rfl,fun y hy=>by rcases List.mem_cons.1 hy with rfl | hy;exact hx;exact e2 y hy⟩
theorem indexByte_cut (c:UInt8):∀ l:List UInt8,Lib.indexByte l c=match cutB c l with | none=>-1 | some (a,_)=>(a.length:Int):=by
  intro l
  induction l with
  | nil=>rfl
  | cons x t ih=>
    rw [Lib.indexByte,cutB,ih];by_cases hx:x=c
    · simp [hx]
    · rw [if_neg hx]
      cases hc:cutB c t with
      | none=>simp [hx]
      | some y=>
        obtain ⟨a,b⟩:=y;have:¬ ((a.length:Int)=-1):=by omega
        simp [hx,this]
def splitC:Nat->List UInt8->List (List UInt8)
  | 0,l=>[l]
  | k+1,l=>match cutB 46 l with
    | none=>[l]
    | some (a,b)=>a::splitC k b
theorem split_eq:∀ (k:Nat) (l:List UInt8),Lib.splitK [46] 0 k l=splitC k l:=by
  intro k
  induction k with
  | zero=>intro l;rfl
  | succ k ih=>
    intro l
    rw [Lib.splitK,splitC,Lib.index_one,indexByte_cut]
    cases hc:cutB 46 l with
    | none=>simp
    | some y=>
      obtain ⟨a,b⟩:=y;obtain ⟨e,_⟩:=cutB_some hc;have:¬ ((a.length:Int)=-1):=by omega
      simp only [beq_iff_eq,this,if_false]
      rw [ih,e];simp
def partsB:List UInt8->List (List UInt8)
  | []=>[[]]
  | c::t=>if c=46 then []::partsB t else match partsB t with
    | []=>[[c]]
    | p::ps=>(c::p)::ps
theorem partsB_ne:∀ l,partsB l≠[]:=by
  intro l
  cases l with
  | nil=>simp [partsB]
  | cons c t=>
    rw [partsB];split
    · simp
    · split <;> simp
theorem partsB_at:∀ (a b:List UInt8),(∀ x∈a,x≠46)->partsB (a++46::b)=a::partsB b:=by
  intro a
  induction a with
  | nil=>intro b _;rw [List.nil_append,partsB,if_pos rfl]
  | cons x a ih=>
    intro b h
    rw [List.cons_append,partsB,if_neg (h x (by simp)),ih b (fun y hy=>h y (by simp [hy]))]
theorem partsB_end:∀ a:List UInt8,(∀ x∈a,x≠46)->partsB a=[a]:=by
  intro a
  induction a with
  | nil=>intro _;rfl
  | cons x a ih=>
    intro h
    rw [partsB,if_neg (h x (by simp)),ih (fun y hy=>h y (by simp [hy]))]
theorem partsB_cut (l:List UInt8):partsB l=match cutB 46 l with | none=>[l] | some (a,b)=>a::partsB b:=by
  cases hc:cutB 46 l with
  | none=>exact partsB_end l (cutB_none.1 hc)
  | some y=>
    obtain ⟨a,b⟩:=y;obtain ⟨e,h⟩:=cutB_some hc;rw [e,partsB_at a b h]
/-! ## Keys -/
def keyR:List UInt8->Option (Int × Nat × ByteArray)
  | []=>some (0,0,⟨#[]⟩)
  | _::m=>if m.getLast?=some 93 then (match numB m.dropLast with
      | some n=>some (1,n,⟨#[]⟩)
      | none=>match Quote.scan m.dropLast with
        | .ok (s,k)=>if k=m.dropLast.length then some (2,0,⟨s.toArray⟩) else none
        | .error _=>none)
    else none
theorem toNat_ne {a b:UInt8} (h:a≠b):a.toNat≠b.toNat:=fun e=>h (UInt8.toNat_inj.1 e)
def upTo91 (l:List UInt8):List UInt8:=l.takeWhile (· != 91)
def from91 (l:List UInt8):List UInt8:=l.dropWhile (· != 91)
def adrOf (ks:List ByteArray) (ty nm:List UInt8) (k:Int × Nat × ByteArray):Adr:=⟨ks,⟨ty.toArray⟩,⟨nm.toArray⟩,k.1,k.2.1,k.2.2⟩
def rightO (a:Adr):Option Adr:=if rightA a then some a else none
theorem rightO_some {a b:Adr} (h:rightO a=some b):a=b/\rightA a=true:=by
  unfold rightO at h;split at h
  · injection h with h;exact ⟨h,by assumption⟩
  · cases h
/-! ## The program's way -/
/-! ## The document's way -/
def modsR:List (List UInt8)->List ByteArray × List (List UInt8)
  | m::x::y::t=>if m=moduleL then (⟨x.toArray⟩::(modsR (y::t)).1,(modsR (y::t)).2) else ([],m::x::y::t)
  | l=>([],l)
def parseR (l:List UInt8):Option Adr:=match keyR (from91 l) with
  | none=>none
  | some k=>match modsR (partsB (upTo91 l)) with
    | (ks,[ty,nm])=>rightO (adrOf ks ty nm k)
    | _=>none
structure Parts (a:Adr):Prop where
  len:a.path.length<=20
  path:∀ k∈a.path,identB k.data.toList=true
  type:identB a.type.data.toList=true
  name:identB a.name.data.toList=true
  mod:a.type.data.toList≠moduleL
  key:keyA a=true
theorem right_parts {a:Adr} (h:rightA a=true):Parts a:=by
  unfold rightA at h;simp only [Bool.and_eq_true,Bool.not_eq_true',decide_eq_true_eq,beq_eq_false_iff_ne] at h
  obtain ⟨⟨⟨⟨h1,h2⟩,h3⟩,h4⟩,h5⟩:=h;unfold identsB at h3 h4;simp only [List.all_cons,List.all_nil,Bool.and_true,Bool.and_eq_true] at h3
  exact ⟨h2,fun k hk=>List.all_eq_true.1 h4 k hk,h3.1,h3.2,fun e=>h1 (by rw [ByteArray.toList_eq];exact e),h5⟩
/-! ## Older texts -/
def dataL:List UInt8:=[100,97,116,97]
def undata (p:List (List UInt8)):List (List UInt8):=if p.head?=some dataL/\3<=p.length then p.drop 1 else p
def oldOf (num:List UInt8->Option Nat) (p:List (List UInt8)):Option Adr:=match p with
  | [ty,nm]=>rightO (adrOf [] ty nm (0,0,⟨#[]⟩))
  | [ty,nm,d]=>match num d with
    | none=>none
    | some n=>rightO (adrOf [] ty nm (1,n,⟨#[]⟩))
  | _=>none
def oldP (l:List UInt8):Option Adr:=oldOf digitsP (undata (splitC 4 l))
def oldR (l:List UInt8):Option Adr:=oldOf numB (undata (partsB l))
theorem split_parts:∀ (k:Nat) (l:List UInt8),if (partsB l).length<=k+1 then splitC k l=partsB l else (splitC k l).length=k+1:=by
  intro k
  induction k with
  | zero=>
    intro l
    split
    · rename_i h
      rw [splitC];rw [partsB_cut] at h ⊢
      cases hc:cutB 46 l with
      | none=>rfl
      | some y=>
        obtain ⟨a,b⟩:=y;rw [hc] at h;simp only [List.length_cons] at h
        exact absurd (List.length_eq_zero_iff.1 (show (partsB b).length=0 by omega)) (partsB_ne b)
    · rfl
  | succ k ih=>
    intro l
    rw [splitC];rw [partsB_cut]
    cases hc:cutB 46 l with
    | none=>simp
    | some y=>
      obtain ⟨a,b⟩:=y;have:=ih b;simp only [List.length_cons]
      split
      · rename_i h
        rw [if_pos (by omega)] at this;rw [this]
      · rename_i h
        rw [if_neg (by omega)] at this;rw [this]
theorem undata_len (p:List (List UInt8)):p.length<=(undata p).length+1:=by
  unfold undata;split
  · rw [List.length_drop];omega
  · omega
theorem oldOf_long (num:List UInt8->Option Nat) (p:List (List UInt8)) (h:4<=p.length):oldOf num p=none:=by
  unfold oldOf;split
  · simp at h
  · simp at h
  · rfl
theorem old_eq (l:List UInt8):oldP l=oldR l:=by
  unfold oldP oldR;have hd:digitsP=numB:=funext digits_eq;rw [hd];have:=split_parts 4 l;split at this
  · rw [this]
  · rename_i h
    rw [oldOf_long _ _ (by have:=undata_len (splitC 4 l);omega),oldOf_long _ _ (by have:=undata_len (partsB l);omega)]
theorem old_key {l:List UInt8} {a:Adr} (h:oldR l=some a):a.path=[]/\a.key≠2/\a.place<=18446744073709551615/\rightA a=true:=by
  unfold oldR oldOf at h;split at h
  · obtain ⟨rfl,h2⟩:=rightO_some h;exact ⟨rfl,by simp [adrOf],by simp [adrOf],h2⟩
  · split at h
    · cases h
    · rename_i n hn
      obtain ⟨rfl,h2⟩:=rightO_some h;exact ⟨rfl,by simp [adrOf],numB_le hn,h2⟩
  · cases h
/-! ## Compared -/
open Go.RowKit Go.Shelf Utf Strs Lex
set_option maxRecDepth 100000
set_option maxHeartbeats 4000000
def ErrT (w:World):Prop:=∃ ev,w.cell? ⟨4,0,none⟩=some ev/\(ev=.nilIface∨∃ te pe,ev=.iface te pe)
theorem ErrT.stays {w w':World} (T:ErrT w) (h:Below w.heap.size w w'):ErrT w':=by
  obtain ⟨ev,h1,h2⟩:=T;exact ⟨ev,(World.cell?_of_block (w:=w) (h.block _ (World.block_lt_of_cell? w _ h1))).trans h1,h2⟩
theorem uint_runs (M:Nat):∀ (l:List UInt8) (n:Nat),l.all Num.isDigit=true->(∃ u,Lib.parseUintM M n l=.ok u)∨Lib.parseUintM M n l=.range:=by
  intro l
  induction l with
  | nil=>intro n _;exact .inl ⟨n,rfl⟩
  | cons c l ih=>
    intro n h
    rw [List.all_cons,Bool.and_eq_true] at h;rw [Lib.parseUintM,if_pos ((isDigit_iff c).1 h.1)];split
    · exact .inr rfl
    · split
      · exact .inr rfl
      · exact ih _ h.2
def DPost (l:List UInt8) (w:World) (e:Ending) (w':World):Prop:=
  ∃ n:Nat,e=.returned (.tuple #[.int .u64 n,.bool (digitsP l).isSome])/\(∀ m,digitsP l=some m->n=m)/\Below w.heap.size w w'
theorem below_drewN {B:Nat} {w w':World} (h:Below B w w') (n:Nat):Below B w (w'.drewN n):=⟨h.os,h.tape,h.output,h.size,h.block⟩
theorem take_all {l:List UInt8} {i:Nat} (h:i<l.length):(l.take (i+1)).all Num.isDigit=((l.take i).all Num.isDigit && Num.isDigit l[i]):=by
  rw [List.take_add_one,List.getElem?_eq_getElem h,List.all_append];simp
theorem all_bad {l:List UInt8} {i:Nat} (h:i<l.length) (hb:Num.isDigit l[i]=false):l.all Num.isDigit=false:=by
  rw [List.all_eq_false];exact ⟨_,List.getElem_mem h,by rw [hb];simp⟩
theorem digits_loop (s:ByteArray) (w:World) (hs:s.size<=1048576) (h0:0<s.size) (hno:noughts s.data.toList=false) (T:ErrT w) (b1 b2:Bool) (hb1:((s[0].toNat:Int) == 48)=b1) (hb2:decide ((1:Int)<(s.size:Int))=b2) (hb2':decide (1<s.size)=b2) (hbb:(b1 && b2)=false):Calls Tryz.prog 106 #[.string s] w (DPost s.data.toList w):=by
  have hl:s.data.toList.length=s.size:=by simp
  have HL:=Hid.out (p:=Hid _) hl;have HNO:=Hid.out (p:=Hid _) hno;have HT:Hid (ErrT w):=T;have hne:s.data.toList≠[]:=fun e=>by rw [e] at hl;simp at hl;omega
  have qe:s.toList.isEmpty=false:=by
    rw [ByteArray.toList_eq]
    cases h:s.data.toList with
    | nil=>exact absurd h hne
    | cons c r=>rfl
  have qn:s≠ByteArray.empty:=fun e=>by rw [e] at h0;exact absurd h0 (by decide)
  have HDG:Hid (digitsP s.data.toList=if s.data.toList.all Num.isDigit then (match Lib.parseUintM (2 ^ 64-1) 0 s.data.toList with | .ok u=>some u | _=>none) else none):=by
    rw [Hid,digitsP,hno,Lib.parseUintB,if_neg hne];simp only [Bool.false_eq_true,if_false] <;> rfl
  have HPU:Hid (Lib.parseUintB 64 s.data.toList=Lib.parseUintM (2 ^ 64-1) 0 s.data.toList):=by rw [Hid,Lib.parseUintB,if_neg hne]
  clear hl hne hno T;cases b1 <;> cases b2
  case true.true=>cases hbb
  all_goals
    clear hbb;go_enter Tryz.func106,Tryz.ntmps106
    go_wp2_with fail
    go_loopw [21] (fun p wr=>w=wr/\∃ i:Nat,p=.int .i64 i/\i<=s.size/\Hid ((s.data.toList.take i).all Num.isDigit=true)) (fun p _=>s.size-(intOf p).toNat)
    case atStart=>exact ⟨rfl,0,rfl,Nat.zero_le _,rfl⟩
    case round=>
      obtain ⟨rfl,i,rfl,hi,hT⟩:=hrel;by_cases hlt:i<s.size
      · have hlen:i<s.data.toList.length:=by rw [HL.out];exact hlt
        have hqi:(s.data.toList[i]'hlen)=s[i]:=rfl;have hta:=take_all hlen;have hba:=all_bad hlen;rw [hqi] at hta hba;have HTA:=Hid.out (p:=Hid _) hta;have HBA:=Hid.out (p:=Hid _) hba;have hdi:=isDigit_iff s[i];have HDI:=Hid.out (p:=Hid _) hdi;clear hta hba hdi hqi;by_cases c1:s[i].toNat<48
        · have d1:decide ((s[i].toNat:Int)<48)=true:=by rw [decide_eq_true_eq];omega
          have d1':decide (s[i].toNat<48)=true:=by rw [decide_eq_true_eq];omega
          have HF:Hid (digitsP s.data.toList=none):=by
            have hx:Num.isDigit s[i]=false:=by
              cases h:Num.isDigit s[i] with
              | false=>rfl
              | true=>have:=HDI.out.1 h;omega
            rw [Hid,HDG.out,HBA.out hx];rfl
          clear c1 HTA HBA HDI HDG;go_wp2_with fail
          go_ret2
          exact ⟨0,by rw [HF.out] <;> rfl,(fun m h=>by rw [HF.out] at h;cases h),Below.refl _ _⟩
        · have d1:decide ((s[i].toNat:Int)<48)=false:=by rw [decide_eq_false_iff_not];omega
          have d1':decide (s[i].toNat<48)=false:=by rw [decide_eq_false_iff_not];omega
          by_cases c2:57<s[i].toNat
          · have d2:decide ((57:Int)<(s[i].toNat:Int))=true:=by rw [decide_eq_true_eq];omega
            have d2':decide (57<s[i].toNat)=true:=by rw [decide_eq_true_eq];omega
            have HF:Hid (digitsP s.data.toList=none):=by
              have hx:Num.isDigit s[i]=false:=by
                cases h:Num.isDigit s[i] with
                | false=>rfl
                | true=>have:=HDI.out.1 h;omega
              rw [Hid,HDG.out,HBA.out hx];rfl
            clear c1 c2 HTA HBA HDI HDG;go_wp2_with fail
            go_ret2
            exact ⟨0,by rw [HF.out] <;> rfl,(fun m h=>by rw [HF.out] at h;cases h),Below.refl _ _⟩
          · have d2:decide ((57:Int)<(s[i].toNat:Int))=false:=by rw [decide_eq_false_iff_not];omega
            have d2':decide (57<s[i].toNat)=false:=by rw [decide_eq_false_iff_not];omega
            have HN:Hid ((s.data.toList.take (i+1)).all Num.isDigit=true):=by
              rw [Hid,HTA.out,hT.out,HDI.out.2 ⟨by omega,by omega⟩];rfl
            clear c1 c2 HTA HBA HDI;go_wp2_with fail
            go_roundw
            case rel=>exact ⟨trivial,i+1,by go_num,by omega,HN.out⟩
            case measure=>simp [intOf];omega
      · obtain rfl:i=s.size:=by omega
        have hall:s.data.toList.all Num.isDigit=true:=by
          have:=hT.out;rw [List.take_of_length_le (by rw [HL.out];exact Nat.le_refl _)] at this;exact this
        have hsn:=uint_runs (2 ^ 64-1) s.data.toList 0 hall;have HD2:Hid (digitsP s.data.toList=(match Lib.parseUintM (2 ^ 64-1) 0 s.data.toList with | .ok u=>some u | _=>none)):=by rw [Hid,HDG.out,hall];rfl
        rcases hsn with ⟨u,hp⟩ | hp
        case inl=>
          have HF:Hid (digitsP s.data.toList=some u):=by rw [Hid,HD2.out,hp]
          have hc:=Tryz.strconv_ParseUint_10_at64_ok s (by omega) u (by rw [HPU.out,hp]) w;have HC:=Hid.out (p:=Hid _) hc;clear hc hp HD2 HDG HPU hall;go_wp2_with fail
          refine (Calls.mono HC.out ?_);rintro z w2 ⟨rfl,hw2⟩;have HB:Hid (Below w.heap.size w w2):=by
            rcases hw2 with rfl | rfl
            · exact Below.refl _ _
            · exact Lib.bytesWorld_below _ _ _
          clear hw2;go_wp2_with fail
          go_quiet (fail)
          go_wp2_with fail
          go_ret2
          exact ⟨u,by rw [HF.out] <;> rfl,(fun m h=>by rw [HF.out] at h;injection h),below_drewN HB.out _⟩
        case inr=>
          have HF:Hid (digitsP s.data.toList=none):=by rw [Hid,HD2.out,hp]
          obtain ⟨ev,hev1,hev2⟩:=HT.out;have hc:=Tryz.strconv_ParseUint_10_at64_range s (by omega) (by rw [HPU.out,hp]) ev w hev1 hev2;have HC:=Hid.out (p:=Hid _) hc;clear hc hp HD2 HDG HPU hall hev1 hev2;go_wp2_with fail
          refine (Calls.mono HC.out ?_);rintro z w2 ⟨N,rfl,_,_,hB⟩;have HB:=Hid.out (p:=Hid _) hB;clear hB;go_wp2_with fail
          go_quiet (fail)
          go_wp2_with fail
          go_ret2
          exact ⟨18446744073709551615,by rw [HF.out] <;> rfl,(fun m h=>by rw [HF.out] at h;cases h),below_drewN HB.out _⟩
theorem noughts_at {s:ByteArray} (h:0<s.size):noughts s.data.toList=(((s[0].toNat:Int) == 48) && decide (1<s.size)):=by
  have hl:s.data.toList.length=s.size:=by simp
  have h1:s.data.toList[0]'(by omega)=s[0]:=rfl
  cases hc:s.data.toList with
  | nil=>rw [hc] at hl;simp at hl;omega
  | cons c r=>
    have h2:c=s[0]:=by rw [<-h1];simp [hc]
    rw [hc] at hl;rw [noughts,hl,<-h2];have h3:(c == 48)=((c.toNat:Int) == 48):=by
      by_cases e:c=48
      · subst e;rfl
      · have:(c == 48)=false:=by simpa using e
        have h48:(48:UInt8).toNat=48:=rfl;have:=toNat_ne e;rw [‹(c == 48)=false›,eq_comm,beq_eq_false_iff_ne];omega
    rw [<-h3];simp
theorem digits_any (s:ByteArray) (w:World) (hs:s.size<=1048576) (T:ErrT w):Calls Tryz.prog 106 #[.string s] w (DPost s.data.toList w):=by
  by_cases h0:s.size=0
  · have he:s=⟨#[]⟩:=by
      have:=Jdec.str_back s;have hl:s.data.toList.length=s.size:=by simp
      have e0:=List.length_eq_zero_iff.1 (hl.trans h0);rw [e0] at this;exact this.symm
    subst he;clear h0 T hs;go_enter Tryz.func106,Tryz.ntmps106
    go_wp2_with fail
    go_ret2
    exact ⟨0,rfl,(fun m h=>by cases h),Below.refl _ _⟩
  have h0':0<s.size:=by omega
  have hna:=noughts_at h0'
  cases hno:noughts s.data.toList with
  | false=>exact digits_loop s w hs h0' hno T _ _ rfl (by rw [decide_eq_decide];omega) rfl (by rw [<-hna,hno])
  | true=>
    rw [hno] at hna;have h1:=hna.symm;rw [Bool.and_eq_true,decide_eq_true_eq] at h1;have t1:((s[0].toNat:Int) == 48)=true:=h1.1;have t2:decide ((1:Int)<(s.size:Int))=true:=by rw [decide_eq_true_eq];omega
    have t3:decide (1<s.size)=true:=by rw [decide_eq_true_eq];omega
    have qn:s≠ByteArray.empty:=fun e=>by rw [e] at h0';exact absurd h0' (by decide)
    have qe:s.toList.isEmpty=false:=by
      rw [ByteArray.toList_eq]
      cases h:s.data.toList with
      | nil => have hl:s.data.toList.length=s.size:=by simp
               rw [h] at hl;simp at hl;omega
      | cons c r=>rfl
    have HF:Hid (digitsP s.data.toList=none):=by rw [Hid,digitsP,hno];rfl
    clear hna hno h1 T;go_enter Tryz.func106,Tryz.ntmps106
    go_wp2_with fail
    go_ret2
    exact ⟨0,by rw [HF.out] <;> rfl,(fun m h=>by rw [HF.out] at h;cases h),Below.refl _ _⟩
end Go.Proofs.YtliekocamnklfaaGreatDoor.Addr
