/- A world whose listed variables hold what the row lists. -/
import Derived.Test.YtliekocamnklfaaGreatDoorRows
import Derived.Test.YtliekocamnklfaaGreatDoorKJenK
import Derived.Test.YtliekocamnklfaaGreatDoorKAdF
import Derived.Test.YtliekocamnklfaaGreatDoorKAdU
import Derived.WalkKit
import Derived.Deep.DeepHandedRow
import Derived.ProofKit
import Derived.OpenShut
import Derived.ShutString
import Derived.ChangeOld
import Derived.Below
import Derived.Carry
import Derived.Deep.Slices
import Derived.Laws.StructEq
import Derived.Laws.OwnMore
import Derived.OwnWalk
import Derived.Deep.RegionHeld3
import Derived.Lib.Join
import Derived.Lib.TrimByte
namespace Go.Proofs.YtliekocamnklfaaGreatDoor
def flatD:Nat->DataW Unit->List Value
  | 0,_=>[]
  | n+1,.agg l=>l.flatMap (flatD n)
  | _,.lit (.int k z)=>[.int k z]
  | _,.lit (.string b)=>[.string ⟨b.toArray⟩]
  | _,.lit (.bool b)=>[.bool b]
  | _,_=>[]
def fill (d:DataW Unit):Obj->Obj
  | .cells _ t fr=>.cells (flatD 8 d).toArray t fr
  | o=>o
open Go.ChangeShapes Go.WideShapes Go.ChangeAt Go.RowKit
theorem ownKnobs:ownKnob Tryz.prog.godebug=none:=by kernel_rfl
theorem laidOut:laidOutB Tryz.prog=true:=by kernel_rfl
theorem trodAll_stays {H:Type} {enc:TypeId × Value->H} {W W':World} (hb:Below W.heap.size W W'):∀ {ts:List TypeId} {vs:List Value} {ds:List (DataW H)} {ps:List MemPlace},
    (∀ t∈ts,Tryz.prog.readableRec t=true)->(∀ t∈ts,t<Tryz.prog.types.size) →
    DataW.TrodAll enc Tryz.prog W 0 (fun _=>true) true ts vs ds ps->DataW.TrodAll enc Tryz.prog W' 0 (fun b=>decide (b<W.heap.size)) true ts vs ds ps
  | [],[],[],_,_,_,h=>h
  | t::ts,v::vs,d::ds,ps,hr,hz,⟨p,q,h,hs,e⟩=>
    ⟨p,q,Below.trod laidOut (hr t (by simp)) (hz t (by simp)) h hb (by obtain ⟨m,hm⟩:=h;exact DataW.trod_lt m _ _ _ hm),trodAll_stays hb (fun t' h'=>hr t' (by simp [h'])) (fun t' h'=>hz t' (by simp [h'])) hs,e⟩
  | [],_::_,_,_,_,_,h=>h.elim
  | [],[],_::_,_,_,_,h=>h.elim
  | _::_,[],_,_,_,_,h=>h.elim
  | _::_,_::_,[],_,_,_,h=>h.elim
theorem readable_of {ts:List TypeId} (h:ts.all (fun t=>Tryz.prog.readableRec t && decide (t<Tryz.prog.types.size))=true) (t:TypeId) (ht:t∈ts):Tryz.prog.readableRec t=true/\t<Tryz.prog.types.size:=by
  have:=List.all_eq_true.1 h t ht
  simpa using this
end Go.Proofs.YtliekocamnklfaaGreatDoor
set_option linter.unusedVariables false
set_option linter.unusedSimpArgs false
set_option maxRecDepth 100000
namespace Go.Proofs.YtliekocamnklfaaGreatDoor.Addr
open Go.RowKit Go.Shelf Utf Strs
open Jdec (IsTexts)
theorem APost.to {r:Option Adr} {w w':World} {e:Ending} (h:APost r w e w') (x:Adr) (hx:r.getD zeroA=x) (er:Int) (he:(if r.isSome then (0:Int) else 3)=er):∃ pa pc,e=.returned (.tuple #[.agg #[.slice pa x.path.length pc,.string x.type,.string x.name,.int .i64 x.key,.int .u64 x.place,.string x.word],.int .i64 er])/\Hid (IsTexts w' (fun _=>True) pa x.path)/\Hid (Below w.heap.size w w'):=by
  subst hx he;obtain ⟨pa,pc,rfl,ht,hb⟩:=h;exact ⟨pa,pc,rfl,ht.turn (Jdec.Turn.mono _ (fun _ _ _=>trivial)),hb⟩
theorem RPost.to {r:Option Adr} {w w':World} {e:Ending} (h:RPost r w e w') (x:Adr) (hx:r.getD zeroA=x) (ok:Bool) (he:r.isSome=ok):∃ pa pc,e=.returned (.tuple #[.agg #[.slice pa x.path.length pc,.string x.type,.string x.name,.int .i64 x.key,.int .u64 x.place,.string x.word],.bool ok])/\Hid (IsTexts w' (fun _=>True) pa x.path)/\Hid (Below w.heap.size w w'):=by
  subst hx he;obtain ⟨pa,pc,rfl,ht,hb⟩:=h;exact ⟨pa,pc,rfl,ht.turn (Jdec.Turn.mono _ (fun _ _ _=>trivial)),hb⟩
end Go.Proofs.YtliekocamnklfaaGreatDoor.Addr
namespace Go.Proofs.YtliekocamnklfaaGreatDoor.State
open Go.RowKit Go.Shelf Utf Strs Go.Proofs.YtliekocamnklfaaGreatDoor.Addr
open Jdec (IsTexts Turn infoStr gb_set gb_below gb_drew)
def PartT (T:TypeId) (B:Nat) (w:World) (b:Nat):Prop:=B<=b/\∃ cs,w.heap[b]?=some (.cells cs T (0,0))
theorem texts_and {w:World} {A P:Nat->Prop} {a:Option Addr} {l:List ByteArray} (h:IsTexts w A a l) (hP:∀ b o,a=some ⟨b,o,none⟩->l≠[]->A b->P b):IsTexts w P a l:=by
  rcases h with h | ⟨b,o,ha,hA,hb,hc⟩
  · exact .inl h
  · by_cases h0:l=[]
    · exact .inl h0
    · exact .inr ⟨b,o,ha,hP b o ha h0 hA,hb,hc⟩
theorem app_texts (w:World) (A:Nat->Prop) (ks:List ByteArray) (ka:Option Addr) (kc:Nat) (ht:IsTexts w A ka ks) (hl:ks.length<=3000):∃ ka' kc' w',(Builtin.append_ #[26,26] 26 #[.slice none 0 0,.slice ka ks.length kc]).run Tryz.prog w=.ok (.slice ka' ks.length kc') w'/\Hid (IsTexts w' (PartT 9 w.heap.size w') ka' ks)/\Hid (Below w.heap.size w w'):=by
  obtain ⟨i0,hi,hz0,hz1,hz2⟩:=info_parts infoStr;by_cases h0:ks=[]
  · subst h0;refine ⟨none,0,w,?_,.inl rfl,Below.refl _ _⟩
    cases ka with
    | none=>simp [Builtin.append_,run_underlying Tryz.underlying26,sizeOf,typeInfo,hi,Builtin.lenOf,Builtin.firstCells]
    | some a=>simp [Builtin.append_,run_underlying Tryz.underlying26,sizeOf,typeInfo,hi,Builtin.lenOf,Builtin.firstCells,loadCells,loadCellsFrom]
  · obtain ⟨b,o,rfl,_,hb,hc⟩:=ht.resolve_left h0;have hnews:∀ j u,(ks.map Value.string)[j]?=some u->w.cell? ((⟨b,o,none⟩:Addr).add j)=some u:=fun j u hu=>by
      obtain ⟨hj,rfl⟩:=List.getElem?_eq_some_iff.1 hu;have hj':j<ks.length:=by simpa using hj
      have e:(⟨b,o,none⟩:Addr).add j=⟨b,o+j,none⟩:=by unfold Addr.add;split <;> simp_all
      rw [e,hc j hj',List.getElem_map]
    obtain ⟨v',w',hr,ho,hg,_⟩:=run_append_own (P:=Tryz.prog) w w.heap.size 26 26 9 i0 (.string ⟨#[]⟩) 1 16 Tryz.underlying26 hi hz0 hz1 hz2 rfl (by decide) (.slice none 0 0) 0 [] (World.ownsRow_nil _ _ _ _) ⟨b,o,none⟩ ks.length kc (ks.map Value.string) (by simp) hnews (fun u hu=>by obtain ⟨x,_,rfl⟩:=List.mem_map.1 hu;rfl) (by unfold maxLen;omega) (by omega) (Nat.le_refl _);rw [Nat.zero_add,List.nil_append] at ho;have hrow:RowT w' w.heap.size v' ks:=ho;obtain ⟨a,c,rfl⟩:=hrow.form;refine ⟨a,c,w',hr,texts_and hrow.texts (fun b o e h0 hA=>⟨hA,?_⟩),hg.os,hg.tape,hg.output,hg.size,fun k hk=>hg.block k hk (by simp [Value.ownBlock])⟩;rcases hrow.2 with ⟨hv,_⟩ | ⟨g,cap,cur,hv,_,hgb,_⟩
    · injection hv with hv
      rw [hv] at e;cases e
    · injection hv with hv
      rw [hv] at e;injection e with e
      injection e with e
      subst e;exact ⟨cur,hgb⟩
end Go.Proofs.YtliekocamnklfaaGreatDoor.State
namespace Go.Proofs.YtliekocamnklfaaGreatDoor.Save
open Go.Proofs.YtliekocamnklfaaGreatDoor.Addr Go.Proofs.YtliekocamnklfaaGreatDoor.State Jdec
/-! ## Groups of records -/
/-! ## Joined names -/
/-! ## Whole numbers -/
def ofD (n:Nat):List UInt8:=Lib.trimRightB (Lib.decDigits n) 48
def ofN (n:Nat):List UInt8 × Nat:=if ofD n=[] then ([],0) else (ofD n,(Lib.decDigits n).length-(ofD n).length)
theorem trim_split (l:List UInt8) (c:UInt8):l=Lib.trimRightB l c++List.replicate (l.length-(Lib.trimRightB l c).length) c:=by
  have h1:l.reverse=l.reverse.takeWhile (· == c)++l.reverse.dropWhile (· == c):=List.takeWhile_append_dropWhile.symm;have h2:l.reverse.takeWhile (· == c)=List.replicate (l.reverse.takeWhile (· == c)).length c:=by
    rw [List.eq_replicate_iff];refine ⟨rfl,fun b hb=>?_⟩;have:=List.all_eq_true.1 (List.all_takeWhile (p:=(· == c)) (l:=l.reverse)) b hb;exact beq_iff_eq.1 this
  have h3:=congrArg List.length h1;rw [List.length_append,List.length_reverse] at h3;unfold Lib.trimRightB;rw [List.length_reverse,show l.length-(l.reverse.dropWhile (· == c)).length=(l.reverse.takeWhile (· == c)).length by omega];conv=>lhs;rw [<-List.reverse_reverse l,h1,List.reverse_append,h2]
  simp
theorem drop_head (p:UInt8->Bool):∀ (l:List UInt8) (c:UInt8) (t:List UInt8),l.dropWhile p=c::t->p c=false
  | [],c,t,h=>by simp at h
  | x::l,c,t,h=>by
    rw [List.dropWhile_cons] at h;split at h
    · exact drop_head p l c t h
    · injection h with h1 _
      rw [<-h1]
      simpa using ‹¬ p x=true›
theorem ofD_nil {n:Nat} (h:ofD n=[]):n=0:=by
  by_cases h0:n=0
  · exact h0
  obtain ⟨c,r,h1,h2⟩:=dec_head n (by omega);have h3:=trim_split (Lib.decDigits n) 48;rw [show Lib.trimRightB (Lib.decDigits n) 48=[] from h,List.nil_append,h1] at h3;have:c∈List.replicate ((c::r).length-([]:List UInt8).length) 48:=by rw [<-h3];simp
  exact absurd (List.mem_replicate.1 this).2 h2
theorem digits_le:∀ (k u:Nat),u<10 ^ (k+1)->(Lib.decDigits u).length<=k+1
  | 0,u,h=>by rw [Lib.decDigits_one (by omega)];simp
  | k+1,u,h=>by
    by_cases h1:u<10
    · rw [Lib.decDigits_one h1];simp
    · rw [Lib.decDigits,dif_neg h1,List.length_append,List.length_singleton];have:=digits_le k (u / 10) (by rw [Nat.div_lt_iff_lt_mul (by omega)];rw [Nat.pow_succ] at h;exact h);omega
theorem ofN_right {n:Nat} (hn:n<=18446744073709551615):Num.right false (ofN n).1 (ofN n).2=true:=by
  unfold ofN;by_cases h1:ofD n=[]
  · rw [if_pos h1];rfl
  rw [if_neg h1];have hl:=digits_le 19 n (by omega);have hs:=trim_split (Lib.decDigits n) 48;have hle:(ofD n).length<=(Lib.decDigits n).length:=by
    have:=congrArg List.length hs;rw [List.length_append] at this;unfold ofD;omega
  have hdig:∀ c∈ofD n,Num.isDigit c=true:=fun c hc=>by
    refine (Num.dec_digit n).1 c ?_;rw [hs];exact List.mem_append.2 (.inl hc)
  unfold Num.right;rw [if_neg h1,if_neg (by rintro (h | h | h) <;> simp only [] at h <;> omega)];rw [Bool.and_eq_true,Bool.and_eq_true];refine ⟨⟨List.all_eq_true.2 hdig,?_⟩,?_⟩
  · have h0:n≠0:=fun e=>h1 (by rw [e,ofD,Lib.decDigits_one (by omega)];rfl);obtain ⟨c,r,e1,e2⟩:=dec_head n (by omega);rw [e1] at hs
    cases hd:ofD n with
    | nil=>exact absurd hd h1
    | cons x t=>
      have:Lib.trimRightB (c::r) 48=x::t:=by rw [<-e1];exact hd
      rw [this,List.cons_append] at hs;injection hs with h3 _
      show (x != 48)=true;rw [bne_iff_ne,<-h3];exact e2
  · unfold ofD Lib.trimRightB
    cases hd:(Lib.decDigits n).reverse.dropWhile (· == 48) with
    | nil=>exact absurd (by unfold ofD Lib.trimRightB;rw [hd];rfl) h1
    | cons x t=>
      have:=drop_head (· == 48) _ x t hd;rw [List.reverse_cons,List.getLastD_concat]
      simpa [bne] using this
/-! ## The tree -/
def strV (s:ByteArray):JV:=.mk 4 false false ⟨#[]⟩ 0 s [] []
def numV (n:Nat):JV:=.mk 3 false false ⟨(ofN n).1.toArray⟩ (ofN n).2 ⟨#[]⟩ [] []
/-! ## Two states with one tree -/
/-! ## The tree is right -/
theorem numV_good {n:Nat} (hn:n<=18446744073709551615):GoodQ (numV n):=by
  refine .mk 3 false false ⟨(ofN n).1.toArray⟩ (ofN n).2 ⟨#[]⟩ [] [] ⟨by decide,by decide,fun _=>rfl,fun h=>absurd rfl h,fun _=>rfl,fun _=>rfl,fun _=>rfl,?_,rfl,fun h=>absurd h (by decide),fun x hx=>(by cases hx),List.nodup_nil⟩ (fun j h=>absurd h (Nat.not_lt_zero _));exact ofN_right hn
theorem objectOf_good {ks:List ByteArray} {vs:List JV} (hl:ks.length=vs.length) (hw:∀ x∈ks,Utf.validB x.data.toList=true) (hn:ks.Nodup) (h:∀ v∈vs,GoodQ v):GoodQ (objectOf ks vs):=
  .mk 6 false false ⟨#[]⟩ 0 ⟨#[]⟩ ks vs ⟨by decide,by decide,fun _=>rfl,fun _=>⟨rfl,rfl,rfl⟩,fun _=>rfl,fun h=>absurd h (by decide),fun h=>absurd rfl h,rfl,rfl,fun _=>hl,hw,hn⟩ (fun j hj=>h _ (List.getElem_mem hj))
theorem strV_mass (s:ByteArray):(strV s).mass=1:=by rw [strV,mass_mk,masses_nil];rfl
theorem numV_mass (n:Nat):(numV n).mass=1:=by rw [numV,mass_mk,masses_nil];rfl
theorem deeps_le (d:Nat):∀ l:List JV,(∀ v∈l,v.deepN<=d)->deepNs l<=d
  | [],_=>by rw [deepNs_nil];omega
  | v::t,h=>by
    rw [deepNs_cons];have:=deeps_le d t fun u hu=>h u (by simp [hu]);have:=h v (by simp);omega
theorem strV_fine {s:ByteArray} (h:s.size<=6000):Fine (strV s):=.mk _ _ _ _ _ _ _ _ (by decide) h (fun x hx=>by cases hx) (fun j h=>absurd h (Nat.not_lt_zero _))
theorem ofD_len {n:Nat} (hn:n<=18446744073709551615):(ofN n).1.length<=20:=by
  unfold ofN;split
  · simp
  · have hl:=digits_le 19 n (by omega);have:=congrArg List.length (trim_split (Lib.decDigits n) 48);rw [List.length_append] at this;simp only []
    unfold ofD;omega
theorem numV_fine {n:Nat} (hn:n<=18446744073709551615):Fine (numV n):=.mk _ _ _ _ _ _ _ _ (by have:=ofD_len hn;rw [Lib.size_mk];omega) (by decide) (fun x hx=>by cases hx) (fun j h=>absurd h (Nat.not_lt_zero _))
theorem listOf_fine {vs:List JV} (h:∀ v∈vs,Fine v):Fine (listOf vs):=.mk _ _ _ _ _ _ _ _ (by decide) (by decide) (fun x hx=>by cases hx) (fun j hj=>h _ (List.getElem_mem hj))
theorem objectOf_fine {ks:List ByteArray} {vs:List JV} (hk:∀ x∈ks,x.size<=6000) (h:∀ v∈vs,Fine v):Fine (objectOf ks vs):=.mk _ _ _ _ _ _ _ _ (by decide) (by decide) hk (fun j hj=>h _ (List.getElem_mem hj))
end Go.Proofs.YtliekocamnklfaaGreatDoor.Save
