/- What package one makes of a value, in plain Lean. -/
import Derived.Test.YtliekocamnklfaaGreatDoorKSvB
import Derived.Test.YtliekocamnklfaaGreatDoorKJenK
import Derived.Deep.RegionHeld
set_option linter.unusedVariables false
set_option linter.unusedSimpArgs false
namespace Go.Proofs.YtliekocamnklfaaGreatDoor.One
open Go.Proofs.YtliekocamnklfaaGreatDoor.Addr Jdec Save
def keysJ:JV->List ByteArray | .mk _ _ _ _ _ _ ks _=>ks
def kidsJ:JV->List JV | .mk _ _ _ _ _ _ _ vs=>vs
def lookL:List ByteArray->List JV->ByteArray->Option JV
  | k::ks,v::vs,x=>if k=x then some v else lookL ks vs x
  | [],_,_=>none
  | _::_,[],_=>none
def look (t:JV) (x:ByteArray):Option JV:=if kindOf t=6 then lookL (keysJ t) (kidsJ t) x else none
def got (t:JV) (x:ByteArray):JV:=(look t x).getD .zero
theorem lookL_at:∀ (ks:List ByteArray) (vs:List JV) (x:ByteArray) (i:Nat) (h:i<ks.length) (h':i<vs.length),ks[i]=x->(∀ j (hj:j<ks.length),j<i->ks[j]≠x)->lookL ks vs x=some vs[i]
  | k::ks,v::vs,x,0,h,h',e,_=>by
    have e:k=x:=e;rw [lookL,if_pos e];rfl
  | k::ks,v::vs,x,i+1,h,h',e,hn=>by
    have h0:k≠x:=hn 0 (by simp) (by omega);rw [lookL,if_neg h0,lookL_at ks vs x i (by simpa using h) (by simpa using h') e fun j hj hji=>hn (j+1) (by simpa using hj) (by omega)]
    rfl
theorem lookL_no:∀ (ks:List ByteArray) (vs:List JV) (x:ByteArray),(∀ j (hj:j<ks.length),j<vs.length->ks[j]≠x)->lookL ks vs x=none
  | [],vs,x,h=>by rw [lookL]
  | k::ks,[],x,h=>by rw [lookL]
  | k::ks,v::vs,x,h=>by
    have h0:k≠x:=h 0 (by simp) (by simp);rw [lookL,if_neg h0];exact lookL_no ks vs x fun j hj hj'=>h (j+1) (by simpa using hj) (by simpa using hj')
theorem lookL_mem:∀ (ks:List ByteArray) (vs:List JV) (x:ByteArray) (v:JV),lookL ks vs x=some v->∃ i,∃ h:i<ks.length,∃ h':i<vs.length,ks[i]=x/\vs[i]=v
  | [],vs,x,v,h=>by rw [lookL] at h;cases h
  | k::ks,[],x,v,h=>by rw [lookL] at h;cases h
  | k::ks,u::vs,x,v,h=>by
    rw [lookL] at h;split at h
    · next e=>injection h with h;exact ⟨0,by simp,by simp,e,h⟩
    · obtain ⟨i,h1,h2,h3,h4⟩:=lookL_mem ks vs x v h;exact ⟨i+1,by simpa using h1,by simpa using h2,h3,h4⟩
theorem lookL_nodup {ks:List ByteArray} {vs:List JV} {x:ByteArray} {i:Nat} (hn:ks.Nodup) (h:i<ks.length) (h':i<vs.length) (e:ks[i]=x):lookL ks vs x=some vs[i]:=
  lookL_at ks vs x i h h' e fun j hj hji he=>by
    have:=(List.getElem_inj hn).1 (he.trans e.symm);omega
theorem look_mk {is ng:Bool} {d:ByteArray} {e:Int} {s:ByteArray} {ks:List ByteArray} {vs:List JV} {x:ByteArray}:look (.mk 6 is ng d e s ks vs) x=lookL ks vs x:=by
  unfold look;exact if_pos rfl
theorem look_ne {k:Int} {is ng:Bool} {d:ByteArray} {e:Int} {s:ByteArray} {ks:List ByteArray} {vs:List JV} {x:ByteArray} (h:k≠6):look (.mk k is ng d e s ks vs) x=none:=by
  unfold look;exact if_neg h
theorem look_mem {t:JV} {x:ByteArray} {v:JV} (h:look t x=some v):∃ i,∃ h':i<(kidsJ t).length,(kidsJ t)[i]=v/\∃ h'':i<(keysJ t).length,(keysJ t)[i]=x:=by
  unfold look at h;split at h
  · obtain ⟨i,h1,h2,h3,h4⟩:=lookL_mem _ _ _ _ h;exact ⟨i,h2,h4,h1,h3⟩
  · cases h
theorem got_of {t:JV} {x:ByteArray} {v:JV} (h:look t x=some v):got t x=v:=by rw [got,h];rfl
theorem got_some {t:JV} {x:ByteArray} (h:(look t x).isSome=true):look t x=some (got t x):=by
  cases hl:look t x with
  | none=>rw [hl] at h;cases h
  | some v=>rw [got,hl];rfl
/-! ## Whole numbers -/
def wholeN (n:Bool) (d:List UInt8) (e:Int):Option Nat:=if Num.right n d e=true/\n=false/\0<=e/\e+(d.length:Int)<=20 then numR 0 (d++List.replicate e.toNat 48) else none
def wholeJ:JV->Option Nat | .mk k _ n d e _ _ _=>if k=3 then wholeN n d.data.toList e else none
theorem wholeJ_mk (k:Int) (is n:Bool) (d:ByteArray) (e:Int) (s:ByteArray) (ks:List ByteArray) (vs:List JV):wholeJ (.mk k is n d e s ks vs)=if k=3 then wholeN n d.data.toList e else none:=rfl
theorem ofN_dec {n:Nat} (hn:n<=18446744073709551615):(ofN n).1++List.replicate (ofN n).2 48=if n=0 then [] else Lib.decDigits n:=by
  unfold ofN;by_cases h1:ofD n=[]
  · have h0:=ofD_nil h1;rw [if_pos h1,if_pos h0];rfl
  · have h0:n≠0:=fun e=>h1 (by rw [e,ofD,Lib.decDigits_one (by omega)];rfl);rw [if_neg h1,if_neg h0];exact (trim_split (Lib.decDigits n) 48).symm
theorem numR_ofN {n:Nat} (hn:n<=18446744073709551615):numR 0 ((ofN n).1++List.replicate (ofN n).2 48)=some n:=by
  rw [ofN_dec hn];split
  · next h=>rw [h];rfl
  · exact numR_dec n hn
theorem ofN_len {n:Nat} (hn:n<=18446744073709551615):(ofN n).2+(ofN n).1.length<=20:=by
  have h:=congrArg List.length (ofN_dec hn);rw [List.length_append,List.length_replicate] at h;have hl:=digits_le 19 n (by omega);split at h
  · rw [List.length_nil] at h;omega
  · omega
theorem wholeJ_num {n:Nat} (hn:n<=18446744073709551615):wholeJ (numV n)=some n:=by
  show wholeN false (ofN n).1 ((ofN n).2:Nat)=some n;unfold wholeN;have h:=ofN_len hn;rw [if_pos ⟨ofN_right hn,rfl,by omega,by omega⟩,Int.toNat_natCast];exact numR_ofN hn
/-! ## Right states -/
def kVer:ByteArray:=⟨#[118,101,114,115,105,111,110]⟩
def kSer:ByteArray:=⟨#[115,101,114,105,97,108]⟩
def kRes:ByteArray:=⟨#[114,101,115,111,117,114,99,101,115]⟩
def kLin:ByteArray:=⟨#[108,105,110,101,97,103,101]⟩
def kMod:ByteArray:=⟨#[109,111,100,117,108,101,115]⟩
def kPath:ByteArray:=⟨#[112,97,116,104]⟩
def kRoot:ByteArray:=⟨#[114,111,111,116]⟩
def kId:ByteArray:=⟨#[105,100]⟩
def kAtt:ByteArray:=⟨#[97,116,116,114,105,98,117,116,101,115]⟩
def kProv:ByteArray:=⟨#[112,114,111,118,105,100,101,114]⟩
def ofB (t:JV) (ks:List ByteArray):Bool:=decide (kindOf t=6) && (decide ((keysJ t).length=ks.length) && ks.all fun k=>(look t k).isSome)
def textB (t:JV):Bool:=decide (kindOf t=4)
def eachB (f:JV->Bool) (t:JV):Bool:=decide (kindOf t=6) && (kidsJ t).all f
def resB (ks:List ByteArray) (r:JV):Bool:=ofB r ks && (eachB textB (got r kAtt) && ks.all fun k=>decide (k=kAtt) || textB (got r k))
def ressB (ks:List ByteArray) (t:JV):Bool:=decide (kindOf t=6) && ((keysJ t).all (fun k=>(oldP k.data.toList).isSome) && (kidsJ t).all (resB ks))
def oneB (t:JV):Bool:=ofB t [kVer,kSer,kRes] && (decide (wholeJ (got t kVer)=some 1) && ((wholeJ (got t kSer)).isSome && ressB [kId,kAtt] (got t kRes)))
def TR (t:JV):Prop:=GoodQ t/\t.deepN<=64
def OneQ (t:JV):Prop:=TR t/\oneB t=true
def rootV (r:JV):JV:=objectOf [kPath,kRes] [listOf [strV kRoot],r]
def upJ (t:JV):JV:=objectOf [kVer,kSer,kLin,kMod] [numV 2,got t kSer,strV ⟨#[]⟩,listOf [rootV (got t kRes)]]
def emptyJ (n:Nat):JV:=objectOf [kVer,kSer,kRes] [numV 1,numV n,objectOf [] []]
theorem keys_apart3:[kVer,kSer,kRes].Nodup:=by decide
theorem keys_valid:∀ x∈[kVer,kSer,kRes,kLin,kMod,kPath,kRoot,kId,kAtt,kProv],Utf.validB x.data.toList=true:=by
  intro x hx
  simp only [List.mem_cons,List.mem_nil_iff,or_false] at hx
  rcases hx with rfl | rfl | rfl | rfl | rfl | rfl | rfl | rfl | rfl | rfl <;> kernel_rfl
theorem GoodQ.kids {t:JV} (h:GoodQ t):∀ v∈kidsJ t,GoodQ v:=by
  cases h with
  | mk k i n d e s ks vs o f=>
    intro v hv
    obtain ⟨j,hj,rfl⟩:=List.getElem_of_mem hv;exact f j hj
theorem got_kid {t:JV} {x:ByteArray} (h:(look t x).isSome=true):got t x∈kidsJ t:=by
  obtain ⟨i,h1,h2,_⟩:=look_mem (got_some h);rw [<-h2];exact List.getElem_mem h1
theorem of_look {t:JV} {ks:List ByteArray} (h:ofB t ks=true):∀ x∈ks,(look t x).isSome=true:=by
  unfold ofB at h;simp only [Bool.and_eq_true,List.all_eq_true] at h
  exact h.2.2
theorem mass_kid {t:JV} {v:JV} (h:v∈kidsJ t):v.mass<=t.mass:=by
  cases t with
  | mk k i n d e s ks vs=>
    obtain ⟨j,hj,rfl⟩:=List.getElem_of_mem h;have:=masses_mem vs j hj;rw [mass_mk];show vs[j].mass<=_;omega
theorem fine_kid {t:JV} {v:JV} (hf:Fine t) (h:v∈kidsJ t):Fine v:=by
  cases hf with
  | mk k i n d e s ks vs f1 f2 f3 f4=>
    obtain ⟨j,hj,rfl⟩:=List.getElem_of_mem h;exact f4 j hj
theorem zero_mass:JV.zero.mass=1:=by rw [JV.zero,mass_mk,masses_nil];rfl
theorem zero_fine:Fine .zero:=.mk _ _ _ _ _ _ _ _ (by decide) (by decide) (fun x hx=>by cases hx) (fun j h=>absurd h (Nat.not_lt_zero _))
theorem got_mass (t:JV) (x:ByteArray):(got t x).mass<=t.mass:=by
  cases h:look t x with
  | none=>
    rw [got,h];show JV.zero.mass<=_;rw [zero_mass]
    cases t with
    | mk k i n d e s ks vs=>rw [mass_mk];omega
  | some v=>exact mass_kid (got_kid (by rw [h];rfl))
theorem got_fine {t:JV} (hf:Fine t) (x:ByteArray):Fine (got t x):=by
  cases h:look t x with
  | none=>rw [got,h];exact zero_fine
  | some v=>exact fine_kid hf (got_kid (by rw [h];rfl))
theorem got_good {t:JV} (hg:GoodQ t) {x:ByteArray} (h:(look t x).isSome=true):GoodQ (got t x):=GoodQ.kids hg _ (got_kid h)
/-! ## How deep resources are -/
theorem deep_6 {t:JV} {m:Nat} (h:∀ v∈kidsJ t,v.deepN<=m):t.deepN<=m+1:=by
  cases t with
  | mk k i n d e s ks vs=>
    have:=deeps_le m vs h;rw [deepN_mk];split <;> omega
theorem one_parts {t:JV} (h:oneB t=true):(∀ x∈[kVer,kSer,kRes],(look t x).isSome=true)/\wholeJ (got t kVer)=some 1/\(wholeJ (got t kSer)).isSome=true/\ressB [kId,kAtt] (got t kRes)=true:=by
  unfold oneB at h;simp only [Bool.and_eq_true,decide_eq_true_eq] at h
  exact ⟨of_look h.1,h.2.1,h.2.2.1,h.2.2.2⟩
theorem numV_deep (n:Nat):(numV n).deepN=1:=by rw [numV,deepN_mk,if_neg (by decide)]
theorem up_fine {t:JV} (hf:Fine t):Fine (upJ t):=by
  refine objectOf_fine (by decide) fun v hv=>?_;simp only [List.mem_cons,List.mem_nil_iff,or_false] at hv
  rcases hv with rfl | rfl | rfl | rfl
  · exact numV_fine (by decide)
  · exact got_fine hf _
  · exact strV_fine (by decide)
  · refine listOf_fine fun v hv=>?_;rw [List.mem_singleton.1 hv];refine objectOf_fine (by decide) fun v hv=>?_;simp only [List.mem_cons,List.mem_nil_iff,or_false] at hv
    rcases hv with rfl | rfl
    · refine listOf_fine fun v hv=>?_;rw [List.mem_singleton.1 hv];exact strV_fine (by decide)
    · exact got_fine hf _
theorem up_mass (t:JV):(upJ t).mass<=2*t.mass+40:=by
  have h1:=got_mass t kSer;have h2:=got_mass t kRes;rw [upJ,rootV,objectOf,objectOf,listOf,listOf,mass_mk,masses_cons,masses_cons,masses_cons,masses_cons,masses_nil,mass_mk,masses_cons,masses_nil,mass_mk,masses_cons,masses_cons,masses_nil,mass_mk,masses_cons,masses_nil,strV_mass,strV_mass,numV_mass];simp only [List.length_cons,List.length_nil]
  omega
theorem look_obj {ks:List ByteArray} {vs:List JV} {x:ByteArray}:look (objectOf ks vs) x=lookL ks vs x:=look_mk
theorem got_at {ks:List ByteArray} {vs:List JV} {x:ByteArray} (hn:ks.Nodup) (i:Nat) (h:i<ks.length) (h':i<vs.length) (e:ks[i]=x):look (objectOf ks vs) x=some vs[i]:=by
  rw [look_obj];exact lookL_nodup hn h h' e
/-! ## The empty state -/
theorem empty_good {n:Nat} (hn:n<=18446744073709551615):OneQ (emptyJ n):=by
  refine ⟨⟨?_,?_⟩,?_⟩
  · refine objectOf_good rfl (fun x hx=>keys_valid x ?_) keys_apart3 fun v hv=>?_
    · simp only [List.mem_cons,List.mem_nil_iff,or_false] at hx ⊢
      rcases hx with rfl | rfl | rfl <;> simp
    · simp only [List.mem_cons,List.mem_nil_iff,or_false] at hv
      rcases hv with rfl | rfl | rfl
      · exact numV_good (by decide)
      · exact numV_good hn
      · exact objectOf_good rfl (fun x hx=>by cases hx) List.nodup_nil fun v hv=>by cases hv
  · have:(emptyJ n).deepN<=2+1:=deep_6 fun v hv=>by
      have hv:v∈[numV 1,numV n,objectOf [] []]:=hv;simp only [List.mem_cons,List.mem_nil_iff,or_false] at hv
      rcases hv with rfl | rfl | rfl
      · rw [numV_deep];omega
      · rw [numV_deep];omega
      · exact deep_6 (m:=1) fun v hv=>by cases hv
    omega
  · have l1:look (emptyJ n) kVer=some (numV 1):=got_at keys_apart3 0 (by decide) (by simp) rfl;have l2:look (emptyJ n) kSer=some (numV n):=got_at keys_apart3 1 (by decide) (by simp) rfl;have l3:look (emptyJ n) kRes=some (objectOf [] []):=got_at keys_apart3 2 (by decide) (by simp) rfl;unfold oneB;rw [got_of l1,got_of l2,got_of l3,wholeJ_num (by decide),wholeJ_num hn];unfold ofB;simp only [List.all_cons,List.all_nil,l1,l2,l3]
    rfl
theorem empty_fine {n:Nat} (hn:n<=18446744073709551615):Fine (emptyJ n):=by
  refine objectOf_fine (by decide) fun v hv=>?_;simp only [List.mem_cons,List.mem_nil_iff,or_false] at hv
  rcases hv with rfl | rfl | rfl
  · exact numV_fine (by decide)
  · exact numV_fine hn
  · exact objectOf_fine (fun x hx=>by cases hx) fun v hv=>by cases hv
theorem empty_mass (n:Nat):(emptyJ n).mass<=10:=by
  rw [emptyJ,objectOf,objectOf,mass_mk,masses_cons,masses_cons,masses_cons,masses_nil,numV_mass,numV_mass,mass_mk,masses_nil];simp only [List.length_cons,List.length_nil]
  omega
end Go.Proofs.YtliekocamnklfaaGreatDoor.One
namespace Go.Proofs.YtliekocamnklfaaGreatDoor.Jdec
open Go
section
variable {P:Program} {ops:Array Oper} {Q:Exit->Act->World->Prop} {md:Region.Mode} {S:World->Prop} {late:List Nat}
def early (late:List Nat) (listed:Array Bool):Bool:=late.all fun k=>!listed.getD k true
def wpAnyG (P:Program) (md:Region.Mode) (ops:Array Oper) (Q:Exit->Act->World->Prop) (S:World->Prop) (late:List Nat):Nat->Array Bool->Act->World->Prop
  | 0,listed,a,w=>Region.ready md ops listed=[]/\Q .normal a w
  | fuel+1,listed,a,w=>(Region.ready md ops listed=[]->Q .normal a w) ∧
    ∀ i∈Region.ready md ops listed,wpOp P ops Q i (fun a' w'=>(early late (listed.setIfInBounds i true)=true->S w')/\wpAnyG P md ops Q S late fuel (listed.setIfInBounds i true) a' w') a w
theorem wpAny_of_g:∀ (fuel:Nat) (listed:Array Bool) (a:Act) (w:World),wpAnyG P md ops Q S late fuel listed a w->wpAny P md ops Q fuel listed a w
  | 0,_,_,_,h=>h
  | fuel+1,_,_,_,h=>⟨h.1,fun i hi=>wpOp_mono (fun a' w' h'=>wpAny_of_g fuel _ a' w' h'.2) (h.2 i hi)⟩
def waits (md:Region.Mode) (ops:Array Oper) (late C:List Nat) (listed:Array Bool) (i:Nat):Bool:=
  (late.all fun k=>C.contains k) && C.all fun j=>!listed.getD j true && match ops[j]? with
    | some o=>o.after.any fun e=>Region.binds md e && (e.on == i || C.contains e.on)
    | none=>false
theorem waits_not {C:List Nat} {listed:Array Bool} {i:Nat} (h:waits md ops late C listed i=true) (hi:listed.getD i true=false) (j:Nat) (hj:j∈C):j ∉ Region.ready md ops listed:=by
  intro hr
  obtain ⟨_,oj,hoj,hall⟩:=mem_ready.1 hr;unfold waits at h;rw [Bool.and_eq_true,List.all_eq_true,List.all_eq_true] at h;have h1:=h.2 j hj;rw [hoj,Bool.and_eq_true] at h1;obtain ⟨e,he,hb⟩:=Array.any_eq_true'.1 h1.2;rw [Bool.and_eq_true] at hb;have h2:=hall e he hb.1;have key:∀ k,listed.getD k true=false->listed.getD k false=true->False:=fun k g1 g2=>by
    rcases Nat.lt_or_ge k listed.size with h' | h'
    · simp [h'] at g1 g2;rw [g1] at g2;cases g2
    · simp [Array.getElem?_eq_none h'] at g2
  rcases Bool.or_eq_true _ _ ▸ hb.2 with h3 | h3
  · rw [beq_iff_eq.1 h3] at h2;exact key i hi h2
  · have h4:=h.2 e.on (List.contains_iff_mem.1 h3);rw [Bool.and_eq_true,Bool.not_eq_true'] at h4;exact key e.on h4.1 h2
theorem waits_set {C:List Nat} {listed:Array Bool} {i j:Nat} (h:waits md ops late C listed i=true) (hj:j ∉ C):waits md ops late C (listed.setIfInBounds j true) i=true:=by
  unfold waits at h ⊢;rw [Bool.and_eq_true,List.all_eq_true,List.all_eq_true] at h ⊢;refine ⟨h.1,fun k hk=>?_⟩;have h1:=h.2 k hk;have hne:j≠k:=fun e=>hj (by rw [e];exact hk);rw [getD_set_ne true hne];exact h1
theorem waits_early {C:List Nat} {listed:Array Bool} {i:Nat} (h:waits md ops late C listed i=true):∀ k∈late,k∈C/\listed.getD k true=false:=fun k hk=>by
  unfold waits at h;rw [Bool.and_eq_true,List.all_eq_true,List.all_eq_true] at h;have h1:=List.contains_iff_mem.1 (h.1 k hk);have h2:=h.2 k h1;rw [Bool.and_eq_true,Bool.not_eq_true'] at h2;exact ⟨h1,h2.1⟩
theorem wpAnyG_first {C:List Nat} {i:Nat} {oi:Oper} {v:Value} (hi:ops[i]?=some oi) (hsel:∀ (j:Nat) (o:Oper) cs b,ops[j]?=some o->o.op≠.select cs b)
    (hQ:∀ c a w,Q (.panic c) (a.put oi.dst v) w->Q (.panic c) a w) :
    ∀ (fuel:Nat) (listed:Array Bool) (a:Act) (w:World),
      (∀ j oj,ops[j]?=some oj->j≠i->listed.getD j true=false->(∀ e∈oj.after,Region.binds md e=true->e.on≠i)->oi.apart ops oj=true) →
      i∈Region.ready md ops listed->waits md ops late C listed i=true->YieldsIf P ops S oi v a->S w →
      wpAnyG P md ops Q S late fuel (listed.setIfInBounds i true) (a.put oi.dst v) w->wpAnyG P md ops Q S late (fuel+1) listed a w:=by
  intro fuel
  induction fuel with
  | zero=>
    intro listed a w _ hr _ hy hS H
    refine ⟨fun h=>(by rw [h] at hr;cases hr),fun j hj=>?_⟩;by_cases hji:j=i
    · subst hji;exact hy.wpOp hi hS ⟨fun _=>hS,H⟩
    · have:=ready_mono hj hji;rw [H.1] at this;cases this
  | succ fuel ih=>
    intro listed a w hfree hr hw hy hS H
    have hiu:listed.getD i true=false:=(mem_ready.1 hr).1;refine ⟨fun h=>(by rw [h] at hr;cases hr),fun j hj=>?_⟩;by_cases hji:j=i
    · subst hji;exact hy.wpOp hi hS ⟨fun _=>hS,H⟩
    · have h1:=H.2 j (ready_mono hj hji);obtain ⟨hjun,oj,hoj,hall⟩:=mem_ready.1 hj;have hjC:j ∉ C:=fun hc=>waits_not hw hiu j hc hj;have hiC:i ∉ C:=fun hc=>waits_not hw hiu i hc hr;have hnot:∀ e∈oj.after,Region.binds md e=true->e.on≠i:=fun e he hb heq=>by
        have h1:=hall e he hb;have h0:=(mem_ready.1 hr).1;rw [heq] at h1;rcases Nat.lt_or_ge i listed.size with h' | h'
        · simp [h'] at h0 h1;rw [h0] at h1;cases h1
        · simp [Array.getElem?_eq_none h'] at h1
      have hearly:early late ((listed.setIfInBounds i true).setIfInBounds j true)=true:=by
        unfold early;rw [List.all_eq_true];intro k hk
        obtain ⟨g1,g2⟩:=waits_early hw k hk;have n1:j≠k:=fun e=>hjC (by rw [e];exact g1);have n2:i≠k:=fun e=>hiC (by rw [e];exact g1);rw [getD_set_ne true n1,getD_set_ne true n2,g2]
        rfl
      have h2:=wpOp_putIf hoj (hfree j oj hoj hji hjun hnot) (fun cs b=>hsel i oi cs b hi) (fun cs b=>hsel j oj cs b hoj) hQ hy h1
      have hfree':∀ k ok,ops[k]?=some ok->k≠i->(listed.setIfInBounds j true).getD k true=false →
          (∀ e∈ok.after,Region.binds md e=true->e.on≠i)->oi.apart ops ok=true:=fun k ok hk hki hun hno=>by
        refine hfree k ok hk hki ?_ hno;by_cases hjk:j=k
        · subst hjk;exact hjun
        · rw [getD_set_ne true hjk] at hun;exact hun
      refine wpOp_mono (fun a' w' h3=>⟨fun _=>h3.2.1 hearly,ih (listed.setIfInBounds j true) a' w' hfree' (ready_mono hr (Ne.symm hji)) (waits_set hw hjC) h3.1 (h3.2.1 hearly) ?_⟩) h2;rw [Array.setIfInBounds_comm _ _ hji];exact h3.2.2
theorem wpAnyG_take (C:List Nat) {i:Nat} {oi:Oper} {v:Value} {fuel:Nat} {listed:Array Bool} {a:Act} {w:World} (hi:ops[i]?=some oi)
    (hs:Region.noSelect ops=true) (hf:Region.free md ops listed i=true) (hr:(Region.ready md ops listed).contains i=true) (hw:waits md ops late C listed i=true)
    (hQ:∀ c a w,Q (.panic c) (a.put oi.dst v) w->Q (.panic c) a w) (hy:YieldsIf P ops S oi v a) (hS:S w)
    (h:wpAnyG P md ops Q S late fuel (listed.setIfInBounds i true) (a.put oi.dst v) w):wpAnyG P md ops Q S late (fuel+1) listed a w:=
  wpAnyG_first hi (Region.noSelect_spec hs) hQ fuel listed a w (Region.free_spec hi hf) (by simpa using hr) hw hy hS h
def AllReadyG (P:Program) (md:Region.Mode) (ops:Array Oper) (Q:Exit->Act->World->Prop) (S:World->Prop) (late:List Nat) (fuel:Nat) (listed:Array Bool) (a:Act) (w:World) (rs:List Nat):Prop:=
  ∀ i∈rs,wpOp P ops Q i (fun a' w'=>(early late (listed.setIfInBounds i true)=true->S w')/\wpAnyG P md ops Q S late fuel (listed.setIfInBounds i true) a' w') a w
theorem AllReadyG.nil {fuel:Nat} {listed:Array Bool} {a:Act} {w:World}:AllReadyG P md ops Q S late fuel listed a w []:=fun _ h=>by cases h
theorem AllReadyG.cons {fuel:Nat} {listed:Array Bool} {a:Act} {w:World} {i:Nat} {o:Oper} {rs:List Nat} (ho:ops[i]?=some o)
    (h:∀ K':Act->World->Prop,Shut (∀ a w,(early late (listed.setIfInBounds i true)=true->S w)->wpAnyG P md ops Q S late fuel (listed.setIfInBounds i true) a w->K' a w)->if Region.wanted o (yielded ops a.tmps)=true then Oper.wp P o a w K' Q else K' (a.put o.dst undef) w)
    (hs:AllReadyG P md ops Q S late fuel listed a w rs):AllReadyG P md ops Q S late fuel listed a w (i::rs):=fun j hj=>by
  rcases List.mem_cons.1 hj with rfl | hj
  · exact wpOp_step ho (fun K' hK=>h K' (fun a w hS hW=>hK a w ⟨hS,hW⟩))
  · exact hs j hj
theorem wpAnyG_ready {rs:List Nat} {fuel:Nat} {listed:Array Bool} {a:Act} {w:World} (hr:Region.ready md ops listed=rs) (hne:rs≠[])
    (h:AllReadyG P md ops Q S late fuel listed a w rs):wpAnyG P md ops Q S late (fuel+1) listed a w:=
  ⟨fun h0=>absurd (hr ▸ h0) hne,hr ▸ h⟩
theorem wpAnyG_done {listed:Array Bool} {a:Act} {w:World} (hr:Region.ready md ops listed=[]) (h:Q .normal a w):∀ fuel,wpAnyG P md ops Q S late fuel listed a w
  | 0=>⟨hr,h⟩
  | _+1=>⟨fun _=>h,by rw [hr];simp⟩
theorem wp_region_g (S:World->Prop) (late:List Nat) {id:Nat} {a:Act} {w:World} (hm:P.follows .mixedOrders=true)
    (h:wpAnyG P .any ops Q S late ops.size (Array.replicate ops.size false) a w.drew):(Code.region id ops true).wp P Q a w:=
  wp_region_any hm (wpAny_of_g _ _ _ _ h)
end
end Go.Proofs.YtliekocamnklfaaGreatDoor.Jdec
