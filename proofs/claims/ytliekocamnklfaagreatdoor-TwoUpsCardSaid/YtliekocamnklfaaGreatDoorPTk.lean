/- What package save makes of a state, in plain Lean: the tree; two states with one tree are one. -/
import Derived.Test.YtliekocamnklfaaGreatDoorPAdT
import Derived.Test.YtliekocamnklfaaGreatDoorPJenK
import Derived.Test.YtliekocamnklfaaGreatDoorPOnA
import Derived.Lib.Join
import Derived.Lib.TrimByte
import Derived.Laws.OwnMore
import Derived.OwnWalk
import Derived.Deep.RegionHeld3
import Derived.Laws.StructEq
set_option linter.unusedVariables false
set_option linter.unusedSimpArgs false
set_option maxRecDepth 100000
namespace Go.Proofs.YtliekocamnklfaaGreatDoor.Save
open Go.Proofs.YtliekocamnklfaaGreatDoor.Addr Jdec
/-! ## Groups of records -/
/-! ## Joined names -/
/-! ## Whole numbers -/
def ofD (n:Nat):List UInt8:=Lib.trimRightB (Lib.decDigits n) 48
def ofN (n:Nat):List UInt8 × Nat:=if ofD n=[] then ([],0) else (ofD n,(Lib.decDigits n).length-(ofD n).length)
theorem trim_split (l:List UInt8) (c:UInt8):l=Lib.trimRightB l c++List.replicate (l.length-(Lib.trimRightB l c).length) c:=by
  have h1:l.reverse=l.reverse.takeWhile (· == c)++l.reverse.dropWhile (· == c):=List.takeWhile_append_dropWhile.symm;have h2:l.reverse.takeWhile (· == c)=List.replicate (l.reverse.takeWhile (· == c)).length c:=by
    rw [List.eq_replicate_iff];refine ⟨rfl,fun b hb=>?_⟩;have:=List.all_eq_true.1 (List.all_takeWhile (p:=(· == c)) (l:=l.reverse)) b hb;exact beq_iff_eq.1 this
  have h3:=congrArg List.length h1;rw [List.length_append,List.length_reverse] at h3;unfold Lib.trimRightB;rw [List.length_reverse,show l.length-(l.reverse.dropWhile (· == c)).length=(l.reverse.takeWhile (· == c)).length by omega];conv=>lhs;rw [<-List.reverse_reverse l,h1,List.reverse_append,h2]
  simp
theorem drop_head (p:UInt8->Bool):∀ (l:List UInt8) (c:UInt8) (t:List UInt8),l.dropWhile p=c::t->p c=false
  | [],c,t,h=>by simp at h
  | x::l,c,t,h=>by
    rw [List.dropWhile_cons] at h;split at h
    · exact drop_head p l c t h
    · injection h with h1 _
      rw [<-h1]
      simpa using ‹¬ p x=true›
theorem ofD_nil {n:Nat} (h:ofD n=[]):n=0:=by
  by_cases h0:n=0
  · exact h0
  obtain ⟨c,r,h1,h2⟩:=dec_head n (by omega);have h3:=trim_split (Lib.decDigits n) 48;rw [show Lib.trimRightB (Lib.decDigits n) 48=[] from h,List.nil_append,h1] at h3;have:c∈List.replicate ((c::r).length-([]:List UInt8).length) 48:=by rw [<-h3];simp
  exact absurd (List.mem_replicate.1 this).2 h2
theorem digits_le:∀ (k u:Nat),u<10 ^ (k+1)->(Lib.decDigits u).length<=k+1
  | 0,u,h=>by rw [Lib.decDigits_one (by omega)];simp
  | k+1,u,h=>by
    by_cases h1:u<10
    · rw [Lib.decDigits_one h1];simp
    · rw [Lib.decDigits,dif_neg h1,List.length_append,List.length_singleton];have:=digits_le k (u / 10) (by rw [Nat.div_lt_iff_lt_mul (by omega)];rw [Nat.pow_succ] at h;exact h);omega
theorem ofN_right {n:Nat} (hn:n<=18446744073709551615):Num.right false (ofN n).1 (ofN n).2=true:=by
  unfold ofN;by_cases h1:ofD n=[]
  · rw [if_pos h1];rfl
  rw [if_neg h1];have hl:=digits_le 19 n (by omega);have hs:=trim_split (Lib.decDigits n) 48;have hle:(ofD n).length<=(Lib.decDigits n).length:=by
    have:=congrArg List.length hs;rw [List.length_append] at this;unfold ofD;omega
  have hdig:∀ c∈ofD n,Num.isDigit c=true:=fun c hc=>by
    refine (Num.dec_digit n).1 c ?_;rw [hs];exact List.mem_append.2 (.inl hc)
  unfold Num.right;rw [if_neg h1,if_neg (by rintro (h | h | h) <;> simp only [] at h <;> omega)];rw [Bool.and_eq_true,Bool.and_eq_true];refine ⟨⟨List.all_eq_true.2 hdig,?_⟩,?_⟩
  · have h0:n≠0:=fun e=>h1 (by rw [e,ofD,Lib.decDigits_one (by omega)];rfl);obtain ⟨c,r,e1,e2⟩:=dec_head n (by omega);rw [e1] at hs
    cases hd:ofD n with
    | nil=>exact absurd hd h1
    | cons x t=>
      have:Lib.trimRightB (c::r) 48=x::t:=by rw [<-e1];exact hd
      rw [this,List.cons_append] at hs;injection hs with h3 _
      show (x != 48)=true;rw [bne_iff_ne,<-h3];exact e2
  · unfold ofD Lib.trimRightB
    cases hd:(Lib.decDigits n).reverse.dropWhile (· == 48) with
    | nil=>exact absurd (by unfold ofD Lib.trimRightB;rw [hd];rfl) h1
    | cons x t=>
      have:=drop_head (· == 48) _ x t hd;rw [List.reverse_cons,List.getLastD_concat]
      simpa [bne] using this
/-! ## The tree -/
def strV (s:ByteArray):JV:=.mk 4 false false ⟨#[]⟩ 0 s [] []
def numV (n:Nat):JV:=.mk 3 false false ⟨(ofN n).1.toArray⟩ (ofN n).2 ⟨#[]⟩ [] []
/-! ## Two states with one tree -/
theorem right_parts {a:Adr} (h:rightA a=true):identsB a.path=true/\keyA a=true/\identB a.type.data.toList=true/\identB a.name.data.toList=true/\a.path.length<=20:=by
  unfold rightA at h;simp only [Bool.and_eq_true,identsB,List.all_cons,List.all_nil,decide_eq_true_eq] at h
  exact ⟨h.1.2,h.2,h.1.1.2.1,h.1.1.2.2.1,h.1.1.1.2⟩
/-! ## The tree is right -/
theorem strV_good {s:ByteArray} (h:Utf.validB s.data.toList=true):GoodQ (strV s):=by
  refine .mk 4 false false ⟨#[]⟩ 0 s [] [] ⟨by decide,by decide,fun _=>rfl,fun _=>⟨rfl,rfl,rfl⟩,fun h=>absurd rfl h,fun _=>rfl,fun _=>rfl,rfl,h,fun h=>absurd h (by decide),fun x hx=>(by cases hx),List.nodup_nil⟩ (fun j h=>absurd h (Nat.not_lt_zero _))
theorem numV_good {n:Nat} (hn:n<=18446744073709551615):GoodQ (numV n):=by
  refine .mk 3 false false ⟨(ofN n).1.toArray⟩ (ofN n).2 ⟨#[]⟩ [] [] ⟨by decide,by decide,fun _=>rfl,fun h=>absurd rfl h,fun _=>rfl,fun _=>rfl,fun _=>rfl,?_,rfl,fun h=>absurd h (by decide),fun x hx=>(by cases hx),List.nodup_nil⟩ (fun j h=>absurd h (Nat.not_lt_zero _));exact ofN_right hn
theorem listOf_good {vs:List JV} (h:∀ v∈vs,GoodQ v):GoodQ (listOf vs):=
  .mk 5 false false ⟨#[]⟩ 0 ⟨#[]⟩ [] vs ⟨by decide,by decide,fun _=>rfl,fun _=>⟨rfl,rfl,rfl⟩,fun _=>rfl,fun h=>absurd h (by decide),fun _=>rfl,rfl,rfl,fun h=>absurd h (by decide),fun x hx=>(by cases hx),List.nodup_nil⟩ (fun j hj=>h _ (List.getElem_mem hj))
theorem objectOf_good {ks:List ByteArray} {vs:List JV} (hl:ks.length=vs.length) (hw:∀ x∈ks,Utf.validB x.data.toList=true) (hn:ks.Nodup) (h:∀ v∈vs,GoodQ v):GoodQ (objectOf ks vs):=
  .mk 6 false false ⟨#[]⟩ 0 ⟨#[]⟩ ks vs ⟨by decide,by decide,fun _=>rfl,fun _=>⟨rfl,rfl,rfl⟩,fun _=>rfl,fun h=>absurd h (by decide),fun h=>absurd rfl h,rfl,rfl,fun _=>hl,hw,hn⟩ (fun j hj=>h _ (List.getElem_mem hj))
theorem txt_low:∀ l:List UInt8,(∀ c∈l,c.toNat<128)->Utf.Txt l
  | [],_=>.nil
  | c::l,h=>by
    have hc:=h c (by simp);have hp:=Quote.put_small c.toNat hc;have:=Utf.Txt.scal c.toNat l (by unfold Utf.scalarB;simp;omega) (txt_low l fun x hx=>h x (by simp [hx]));rw [hp,List.singleton_append] at this
    rwa [show UInt8.ofNat c.toNat=c by simp] at this
theorem id_low:∀ n:Fin 256,Lex.inId (UInt8.ofNat n.val)=true->n.val<128:=by decide
theorem strV_mass (s:ByteArray):(strV s).mass=1:=by rw [strV,mass_mk,masses_nil];rfl
theorem numV_mass (n:Nat):(numV n).mass=1:=by rw [numV,mass_mk,masses_nil];rfl
theorem deeps_le (d:Nat):∀ l:List JV,(∀ v∈l,v.deepN<=d)->deepNs l<=d
  | [],_=>by rw [deepNs_nil];omega
  | v::t,h=>by
    rw [deepNs_cons];have:=deeps_le d t fun u hu=>h u (by simp [hu]);have:=h v (by simp);omega
theorem strV_deep (s:ByteArray):(strV s).deepN=1:=by rw [strV,deepN_mk,if_neg (by decide)]
theorem strV_fine {s:ByteArray} (h:s.size<=6000):Fine (strV s):=.mk _ _ _ _ _ _ _ _ (by decide) h (fun x hx=>by cases hx) (fun j h=>absurd h (Nat.not_lt_zero _))
theorem ofD_len {n:Nat} (hn:n<=18446744073709551615):(ofN n).1.length<=20:=by
  unfold ofN;split
  · simp
  · have hl:=digits_le 19 n (by omega);have:=congrArg List.length (trim_split (Lib.decDigits n) 48);rw [List.length_append] at this;simp only []
    unfold ofD;omega
theorem numV_fine {n:Nat} (hn:n<=18446744073709551615):Fine (numV n):=.mk _ _ _ _ _ _ _ _ (by have:=ofD_len hn;rw [Lib.size_mk];omega) (by decide) (fun x hx=>by cases hx) (fun j h=>absurd h (Nat.not_lt_zero _))
theorem listOf_fine {vs:List JV} (h:∀ v∈vs,Fine v):Fine (listOf vs):=.mk _ _ _ _ _ _ _ _ (by decide) (by decide) (fun x hx=>by cases hx) (fun j hj=>h _ (List.getElem_mem hj))
theorem objectOf_fine {ks:List ByteArray} {vs:List JV} (hk:∀ x∈ks,x.size<=6000) (h:∀ v∈vs,Fine v):Fine (objectOf ks vs):=.mk _ _ _ _ _ _ _ _ (by decide) (by decide) hk (fun j hj=>h _ (List.getElem_mem hj))
end Go.Proofs.YtliekocamnklfaaGreatDoor.Save
namespace Go.Proofs.YtliekocamnklfaaGreatDoor.One
open Go.Proofs.YtliekocamnklfaaGreatDoor.Addr Jdec Save
def keysJ:JV->List ByteArray | .mk _ _ _ _ _ _ ks _=>ks
def kidsJ:JV->List JV | .mk _ _ _ _ _ _ _ vs=>vs
def lookL:List ByteArray->List JV->ByteArray->Option JV
  | k::ks,v::vs,x=>if k=x then some v else lookL ks vs x
  | [],_,_=>none
  | _::_,[],_=>none
def look (t:JV) (x:ByteArray):Option JV:=if kindOf t=6 then lookL (keysJ t) (kidsJ t) x else none
def got (t:JV) (x:ByteArray):JV:=(look t x).getD .zero
theorem lookL_at:∀ (ks:List ByteArray) (vs:List JV) (x:ByteArray) (i:Nat) (h:i<ks.length) (h':i<vs.length),ks[i]=x->(∀ j (hj:j<ks.length),j<i->ks[j]≠x)->lookL ks vs x=some vs[i]
  | k::ks,v::vs,x,0,h,h',e,_=>by
    have e:k=x:=e;rw [lookL,if_pos e];rfl
  | k::ks,v::vs,x,i+1,h,h',e,hn=>by
    have h0:k≠x:=hn 0 (by simp) (by omega);rw [lookL,if_neg h0,lookL_at ks vs x i (by simpa using h) (by simpa using h') e fun j hj hji=>hn (j+1) (by simpa using hj) (by omega)]
    rfl
theorem lookL_no:∀ (ks:List ByteArray) (vs:List JV) (x:ByteArray),(∀ j (hj:j<ks.length),j<vs.length->ks[j]≠x)->lookL ks vs x=none
  | [],vs,x,h=>by rw [lookL]
  | k::ks,[],x,h=>by rw [lookL]
  | k::ks,v::vs,x,h=>by
    have h0:k≠x:=h 0 (by simp) (by simp);rw [lookL,if_neg h0];exact lookL_no ks vs x fun j hj hj'=>h (j+1) (by simpa using hj) (by simpa using hj')
theorem lookL_mem:∀ (ks:List ByteArray) (vs:List JV) (x:ByteArray) (v:JV),lookL ks vs x=some v->∃ i,∃ h:i<ks.length,∃ h':i<vs.length,ks[i]=x/\vs[i]=v
  | [],vs,x,v,h=>by rw [lookL] at h;cases h
  | k::ks,[],x,v,h=>by rw [lookL] at h;cases h
  | k::ks,u::vs,x,v,h=>by
    rw [lookL] at h;split at h
    · next e=>injection h with h;exact ⟨0,by simp,by simp,e,h⟩
    · obtain ⟨i,h1,h2,h3,h4⟩:=lookL_mem ks vs x v h;exact ⟨i+1,by simpa using h1,by simpa using h2,h3,h4⟩
theorem look_mk {is ng:Bool} {d:ByteArray} {e:Int} {s:ByteArray} {ks:List ByteArray} {vs:List JV} {x:ByteArray}:look (.mk 6 is ng d e s ks vs) x=lookL ks vs x:=by
  unfold look;exact if_pos rfl
theorem look_ne {k:Int} {is ng:Bool} {d:ByteArray} {e:Int} {s:ByteArray} {ks:List ByteArray} {vs:List JV} {x:ByteArray} (h:k≠6):look (.mk k is ng d e s ks vs) x=none:=by
  unfold look;exact if_neg h
theorem look_mem {t:JV} {x:ByteArray} {v:JV} (h:look t x=some v):∃ i,∃ h':i<(kidsJ t).length,(kidsJ t)[i]=v/\∃ h'':i<(keysJ t).length,(keysJ t)[i]=x:=by
  unfold look at h;split at h
  · obtain ⟨i,h1,h2,h3,h4⟩:=lookL_mem _ _ _ _ h;exact ⟨i,h2,h4,h1,h3⟩
  · cases h
theorem got_of {t:JV} {x:ByteArray} {v:JV} (h:look t x=some v):got t x=v:=by rw [got,h];rfl
theorem got_some {t:JV} {x:ByteArray} (h:(look t x).isSome=true):look t x=some (got t x):=by
  cases hl:look t x with
  | none=>rw [hl] at h;cases h
  | some v=>rw [got,hl];rfl
/-! ## Whole numbers -/
def wholeN (n:Bool) (d:List UInt8) (e:Int):Option Nat:=if Num.right n d e=true/\n=false/\0<=e/\e+(d.length:Int)<=20 then numR 0 (d++List.replicate e.toNat 48) else none
def wholeJ:JV->Option Nat | .mk k _ n d e _ _ _=>if k=3 then wholeN n d.data.toList e else none
theorem wholeJ_mk (k:Int) (is n:Bool) (d:ByteArray) (e:Int) (s:ByteArray) (ks:List ByteArray) (vs:List JV):wholeJ (.mk k is n d e s ks vs)=if k=3 then wholeN n d.data.toList e else none:=rfl
theorem ofN_dec {n:Nat} (hn:n<=18446744073709551615):(ofN n).1++List.replicate (ofN n).2 48=if n=0 then [] else Lib.decDigits n:=by
  unfold ofN;by_cases h1:ofD n=[]
  · have h0:=ofD_nil h1;rw [if_pos h1,if_pos h0];rfl
  · have h0:n≠0:=fun e=>h1 (by rw [e,ofD,Lib.decDigits_one (by omega)];rfl);rw [if_neg h1,if_neg h0];exact (trim_split (Lib.decDigits n) 48).symm
theorem ofN_len {n:Nat} (hn:n<=18446744073709551615):(ofN n).2+(ofN n).1.length<=20:=by
  have h:=congrArg List.length (ofN_dec hn);rw [List.length_append,List.length_replicate] at h;have hl:=digits_le 19 n (by omega);split at h
  · rw [List.length_nil] at h;omega
  · omega
/-! ## Right states -/
def kVer:ByteArray:=⟨#[118,101,114,115,105,111,110]⟩
def kSer:ByteArray:=⟨#[115,101,114,105,97,108]⟩
def kRes:ByteArray:=⟨#[114,101,115,111,117,114,99,101,115]⟩
def kLin:ByteArray:=⟨#[108,105,110,101,97,103,101]⟩
def kMod:ByteArray:=⟨#[109,111,100,117,108,101,115]⟩
def kPath:ByteArray:=⟨#[112,97,116,104]⟩
def kRoot:ByteArray:=⟨#[114,111,111,116]⟩
def kId:ByteArray:=⟨#[105,100]⟩
def kAtt:ByteArray:=⟨#[97,116,116,114,105,98,117,116,101,115]⟩
def kProv:ByteArray:=⟨#[112,114,111,118,105,100,101,114]⟩
def ofB (t:JV) (ks:List ByteArray):Bool:=decide (kindOf t=6) && (decide ((keysJ t).length=ks.length) && ks.all fun k=>(look t k).isSome)
def textB (t:JV):Bool:=decide (kindOf t=4)
def eachB (f:JV->Bool) (t:JV):Bool:=decide (kindOf t=6) && (kidsJ t).all f
def resB (ks:List ByteArray) (r:JV):Bool:=ofB r ks && (eachB textB (got r kAtt) && ks.all fun k=>decide (k=kAtt) || textB (got r k))
def ressB (ks:List ByteArray) (t:JV):Bool:=decide (kindOf t=6) && ((keysJ t).all (fun k=>(oldP k.data.toList).isSome) && (kidsJ t).all (resB ks))
def TR (t:JV):Prop:=GoodQ t/\t.deepN<=64
theorem keys_apart4:[kVer,kSer,kLin,kMod].Nodup:=by decide
theorem keys_apart2:[kPath,kRes].Nodup:=by decide
theorem keys_valid:∀ x∈[kVer,kSer,kRes,kLin,kMod,kPath,kRoot,kId,kAtt,kProv],Utf.validB x.data.toList=true:=by
  intro x hx
  simp only [List.mem_cons,List.mem_nil_iff,or_false] at hx
  rcases hx with rfl | rfl | rfl | rfl | rfl | rfl | rfl | rfl | rfl | rfl <;> kernel_rfl
theorem GoodQ.kids {t:JV} (h:GoodQ t):∀ v∈kidsJ t,GoodQ v:=by
  cases h with
  | mk k i n d e s ks vs o f=>
    intro v hv
    obtain ⟨j,hj,rfl⟩:=List.getElem_of_mem hv;exact f j hj
theorem got_kid {t:JV} {x:ByteArray} (h:(look t x).isSome=true):got t x∈kidsJ t:=by
  obtain ⟨i,h1,h2,_⟩:=look_mem (got_some h);rw [<-h2];exact List.getElem_mem h1
theorem of_look {t:JV} {ks:List ByteArray} (h:ofB t ks=true):∀ x∈ks,(look t x).isSome=true:=by
  unfold ofB at h;simp only [Bool.and_eq_true,List.all_eq_true] at h
  exact h.2.2
theorem mass_kid {t:JV} {v:JV} (h:v∈kidsJ t):v.mass<=t.mass:=by
  cases t with
  | mk k i n d e s ks vs=>
    obtain ⟨j,hj,rfl⟩:=List.getElem_of_mem h;have:=masses_mem vs j hj;rw [mass_mk];show vs[j].mass<=_;omega
theorem fine_kid {t:JV} {v:JV} (hf:Fine t) (h:v∈kidsJ t):Fine v:=by
  cases hf with
  | mk k i n d e s ks vs f1 f2 f3 f4=>
    obtain ⟨j,hj,rfl⟩:=List.getElem_of_mem h;exact f4 j hj
theorem zero_mass:JV.zero.mass=1:=by rw [JV.zero,mass_mk,masses_nil];rfl
theorem zero_fine:Fine .zero:=.mk _ _ _ _ _ _ _ _ (by decide) (by decide) (fun x hx=>by cases hx) (fun j h=>absurd h (Nat.not_lt_zero _))
theorem got_mass (t:JV) (x:ByteArray):(got t x).mass<=t.mass:=by
  cases h:look t x with
  | none=>
    rw [got,h];show JV.zero.mass<=_;rw [zero_mass]
    cases t with
    | mk k i n d e s ks vs=>rw [mass_mk];omega
  | some v=>exact mass_kid (got_kid (by rw [h];rfl))
theorem got_fine {t:JV} (hf:Fine t) (x:ByteArray):Fine (got t x):=by
  cases h:look t x with
  | none=>rw [got,h];exact zero_fine
  | some v=>exact fine_kid hf (got_kid (by rw [h];rfl))
theorem got_good {t:JV} (hg:GoodQ t) {x:ByteArray} (h:(look t x).isSome=true):GoodQ (got t x):=GoodQ.kids hg _ (got_kid h)
/-! ## How deep resources are -/
theorem deep_flat {t:JV} (hg:GoodQ t) (h:kindOf t<5):t.deepN=1:=by
  cases t with
  | mk k i n d e s ks vs=>
    have h:k<5:=h;rw [deepN_mk,if_neg (by omega)]
theorem deep_6 {t:JV} {m:Nat} (h:∀ v∈kidsJ t,v.deepN<=m):t.deepN<=m+1:=by
  cases t with
  | mk k i n d e s ks vs=>
    have:=deeps_le m vs h;rw [deepN_mk];split <;> omega
theorem text_deep {t:JV} (hg:GoodQ t) (h:textB t=true):t.deepN<=1:=by
  have:=of_decide_eq_true h;rw [deep_flat hg (by omega)];omega
theorem whole_kind {t:JV} (h:(wholeJ t).isSome=true):kindOf t=3:=by
  cases t with
  | mk k i n d e s ks vs=>
    have h:(if k=3 then wholeN n d.data.toList e else none).isSome=true:=h;by_cases h3:k=3
    · exact h3
    · rw [if_neg h3] at h;cases h
theorem numV_deep (n:Nat):(numV n).deepN=1:=by rw [numV,deepN_mk,if_neg (by decide)]
/-! ## The empty state -/
end Go.Proofs.YtliekocamnklfaaGreatDoor.One
namespace Go.Proofs.YtliekocamnklfaaGreatDoor
open Go Go.RowKit
theorem hd {p:Prop} (h:p):Hid p:=h
theorem nz:(∀ (a:Act) (d:Tmp) (v:Value),a.put (some d) v={ a with tmps:=a.tmps.setIfInBounds d v })/\(∀ (a:Act) (v:Value),a.put none v=a) ∧
    (∀ (l:List Value) (i:Nat) (v:Value),l.toArray.setIfInBounds i v=(l.set i v).toArray)/\(∀ (x:Value) (l:List Value) (v:Value),(x::l).set 0 v=v::l)/\(∀ (x:Value) (l:List Value) (n:Nat) (v:Value),(x::l).set (n+1) v=x::l.set n v) ∧
    (∀ (l:List Bool) (i:Nat) (v:Bool),l.toArray.setIfInBounds i v=(l.set i v).toArray)/\(∀ (x:Bool) (l:List Bool) (v:Bool),(x::l).set 0 v=v::l)/\(∀ (x:Bool) (l:List Bool) (n:Nat) (v:Bool),(x::l).set (n+1) v=x::l.set n v) ∧
    (∀ (l:List Oper) (i:Nat) (h:i<l.toArray.size),l.toArray[i]=l[i]'(by simpa using h))/\(∀ (x:Oper) (l:List Oper) (i:Nat) (h:i+1<(x::l).length),(x::l)[i+1]=l[i]'(by simpa using h))/\(∀ (x:Oper) (l:List Oper) (h:0<(x::l).length),(x::l)[0]=x):=
  ⟨fun _ _ _=>rfl,fun _ _=>rfl,fun _ _ _=>by simp,fun _ _ _=>rfl,fun _ _ _ _=>rfl,fun _ _ _=>by simp,fun _ _ _=>rfl,fun _ _ _ _=>rfl,fun _ _ _=>by simp,fun _ _ _ _=>rfl,fun _ _ _=>rfl⟩
section
variable {P:Program} {ops:Array Oper} {Q:Exit->Act->World->Prop} {md:Region.Mode} {S:World->Prop}
def mayTake (md:Region.Mode) (ops:Array Oper) (listed:Array Bool) (i:Nat):Bool:=Region.noSelect ops && (Region.free md ops listed i && (Region.ready md ops listed).contains i)
theorem tv (i:Nat) (v:Value) {oi:Oper} {fuel:Nat} {listed:Array Bool} {a:Act} {w:World}
    (hy:∀ w,S w->(execOp a.eval oi).run P w=.ok (.value v) w) (h:wpAnyH P md ops Q S fuel (listed.setIfInBounds i true) (a.put oi.dst v) w)
    (hi:ops[i]?=some oi:=by rfl) (hc:mayTake md ops listed i=true:=by kernel_rfl) (hQ:∀ c a w,Q (.panic c) (a.put oi.dst v) w->Q (.panic c) a w:=by exact fun _ _ _ h=>h)
    (hw:Region.wanted oi (yielded ops a.tmps)=true:=by rfl) (hS:S w:=by assumption):wpAnyH P md ops Q S (fuel+1) listed a w:=by
  unfold mayTake at hc;rw [Bool.and_eq_true,Bool.and_eq_true] at hc;exact wpAnyH_take hi hc.1 hc.2.1 hc.2.2 hQ (.inl ⟨hw,hy⟩) hS h
theorem tk (i:Nat) {v:Value} {oi:Oper} {fuel:Nat} {listed:Array Bool} {a:Act} {w:World}
    (h:wpAnyH P md ops Q S fuel (listed.setIfInBounds i true) (a.put oi.dst v) w)
    (hi:ops[i]?=some oi:=by rfl) (hc:mayTake md ops listed i=true:=by kernel_rfl)
    (hw:Region.wanted oi (yielded ops a.tmps)=true:=by rfl) (hS:S w:=by assumption)
    (hy:∀ w,S w->(execOp a.eval oi).run P w=.ok (.value v) w:=by intro w hs;clear hs;go_simp <;> with_reducible rfl)
    (hQ:∀ c a w,Q (.panic c) (a.put oi.dst v) w->Q (.panic c) a w:=by exact fun _ _ _ h=>h):wpAnyH P md ops Q S (fuel+1) listed a w:=
  tv i v hy h hi hc hQ hw hS
theorem tn (i:Nat) {oi:Oper} {fuel:Nat} {listed:Array Bool} {a:Act} {w:World}
    (h:wpAnyH P md ops Q S fuel (listed.setIfInBounds i true) (a.put oi.dst undef) w)
    (hi:ops[i]?=some oi:=by rfl) (hc:mayTake md ops listed i=true:=by kernel_rfl) (hQ:∀ c a w,Q (.panic c) (a.put oi.dst undef) w->Q (.panic c) a w:=by exact fun _ _ _ h=>h)
    (hw:Region.wanted oi (yielded ops a.tmps)=false:=by rfl) (hS:S w:=by assumption):wpAnyH P md ops Q S (fuel+1) listed a w:=by
  unfold mayTake at hc;rw [Bool.and_eq_true,Bool.and_eq_true] at hc;exact wpAnyH_take hi hc.1 hc.2.1 hc.2.2 hQ (.inr ⟨hw,rfl⟩) hS h
theorem rd (i:Nat) {o:Oper} {fuel:Nat} {listed:Array Bool} {a:Act} {w:World}
    (h:∀ K':Act->World->Prop,Shut (∀ a w,S w->(S w->wpAnyH P md ops Q S fuel (listed.setIfInBounds i true) a w)->K' a w)->if Region.wanted o (yielded ops a.tmps)=true then Oper.wp P o a w K' Q else K' (a.put o.dst undef) w)
    (hr:Region.ready md ops listed=[i]:=by kernel_rfl) (ho:ops[i]?=some o:=by rfl):wpAnyH P md ops Q S (fuel+1) listed a w:=
  wpAnyH_ready hr (by simp) (AllReadyH.cons ho h AllReadyH.nil)
end
end Go.Proofs.YtliekocamnklfaaGreatDoor
