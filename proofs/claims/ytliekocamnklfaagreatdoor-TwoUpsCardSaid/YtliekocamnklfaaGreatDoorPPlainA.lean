/- What package utf computes, in plain Lean, over lists of bytes. No program in sight. -/
namespace Go.Proofs.YtliekocamnklfaaGreatDoor.Utf
def byt (l:List UInt8) (i:Nat):Nat:=(l.getD i 0).toNat
theorem byt_lt (l:List UInt8) (i:Nat):byt l i<256:=by unfold byt;exact UInt8.toNat_lt _
def cont (n:Nat):Bool:=decide (128<=n) && decide (n<192)
def scalarB (c:Nat):Bool:=decide (c<=1114111) && (decide (c<55296) || decide (57343<c))
def width (c:Nat):Nat:=if c<128 then 1 else if c<2048 then 2 else if c<65536 then 3 else 4
def sizeAt (n:Nat):Nat:=if n<128 then 1 else if n<192 then 0 else if n<224 then 2 else if n<240 then 3 else if n<248 then 4 else 0
def conts (l:List UInt8) (k:Nat):Bool:=
  if k<=1 then true else if k=2 then cont (byt l 1) else if k=3 then cont (byt l 1) && cont (byt l 2) else cont (byt l 1) && cont (byt l 2) && cont (byt l 3)
def val (l:List UInt8) (k:Nat):Nat:=
  if k<=1 then byt l 0
  else if k=2 then (byt l 0-192)*64+(byt l 1-128)
  else if k=3 then ((byt l 0-224)*64+(byt l 1-128))*64+(byt l 2-128)
  else (((byt l 0-240)*64+(byt l 1-128))*64+(byt l 2-128))*64+(byt l 3-128)
def stands (l:List UInt8) (k:Nat):Bool:=
  decide (1<=k) && decide (k<=l.length) && decide (sizeAt (byt l 0)=k) && conts l k && scalarB (val l k) && decide (width (val l k)=k)
def one (l:List UInt8):Nat × Nat:=
  if stands l (sizeAt (byt l 0)) then (val l (sizeAt (byt l 0)),sizeAt (byt l 0)) else (0,0)
theorem sizeAt_le (n:Nat):sizeAt n<=4:=by unfold sizeAt;(repeat' split) <;> omega
theorem one_size_le (l:List UInt8):(one l).2<=l.length/\(one l).2<=4:=by
  unfold one;split
  · rename_i h
    simp only [stands,Bool.and_eq_true,decide_eq_true_eq] at h
    exact ⟨h.1.1.1.1.2,sizeAt_le _⟩
  · simp
def bad:(fuel:Nat)->List UInt8->Nat->Option Nat
  | 0,_,_=>none
  | n+1,l,p=>if l=[] then none else if (one l).2=0 then some p else bad n (l.drop (one l).2) (p+(one l).2)
end Go.Proofs.YtliekocamnklfaaGreatDoor.Utf
namespace Go.Proofs.YtliekocamnklfaaGreatDoor.Num
def sgn (c:Nat):Nat:=
  if c=45 then 0 else if c=43 then 1 else if c=48 then 2 else if 49<=c/\c<=57 then 3 else if c=46 then 4 else if c=101∨c=69 then 5 else 6
theorem sgn_lt (c:Nat):sgn c<7:=by unfold sgn;(repeat' split) <;> omega
def step (st sg:Nat):Nat:=
  ([1,9,2,3,9,9,9,
    9,9,2,3,9,9,9,
    9,9,9,9,4,6,9,
    9,9,3,3,4,6,9,
    9,9,5,5,9,9,9,
    9,9,5,5,9,6,9,
    7,7,8,8,9,9,9,
    9,9,8,8,9,9,9,
    9,9,8,8,9,9,9]:List Nat).getD (st*7+sg) 9
theorem step_le:∀ st,st<9->∀ sg,sg<7->step st sg<=9:=by decide
def whole (st:Nat):Bool:=st == 2 || st == 3 || st == 5 || st == 8
def from_:Nat->Nat->Nat->List UInt8->Nat
  | _,_,k,[]=>k
  | st,i,k,c::l=>if step st (sgn c.toNat)=9 then k else from_ (step st (sgn c.toNat)) (i+1) (if whole (step st (sgn c.toNat)) then i+1 else k) l
def scan (l:List UInt8):Nat:=from_ 0 0 0 l
def pstep (n:Nat) (c:UInt8):Nat:=min (n*10+(c.toNat+208) % 256) 1099511627776
def pdigits (l:List UInt8):Nat:=l.foldl pstep 0
theorem pstep_le (n:Nat) (c:UInt8):pstep n c<=1099511627776:=Nat.min_le_right _ _
def power (l:List UInt8):Int:=
  match l with
  | []=>0
  | c::t=>if c.toNat=45 then -(pdigits t:Int) else if c.toNat=43 then pdigits t else pdigits (c::t)
def isDigit (c:UInt8):Bool:=decide (48<=c.toNat) && decide (c.toNat<=57)
def right (neg:Bool) (l:List UInt8) (exp:Int):Bool:=
  if l=[] then !neg && exp == 0
  else if 1000<l.length∨exp < -10000∨10000<exp then false
  else l.all isDigit && (l.headD 48 != 48) && (l.getLastD 48 != 48)
end Go.Proofs.YtliekocamnklfaaGreatDoor.Num
namespace Go.Proofs.YtliekocamnklfaaGreatDoor.Quote
open Utf
def hexv (n:Nat):Option Nat:=
  if 48<=n/\n<=57 then some (n-48) else if 97<=n/\n<=102 then some (n-87) else if 65<=n/\n<=70 then some (n-55) else none
theorem hexv_lt {n d:Nat} (h:hexv n=some d):d<16:=by
  unfold hexv at h
  repeat' split at h
  all_goals simp at h
  all_goals omega
def four:Nat->Nat->List UInt8->Except Nat Nat
  | 0,n,_=>.ok n
  | _+1,_,[]=>.error 2
  | k+1,n,c::l=>match hexv c.toNat with
    | none=>.error 3
    | some d=>four k (n*16+d) l
def put (c:Nat):List UInt8:=
  if scalarB c then
    if width c=1 then [UInt8.ofNat c]
    else if width c=2 then [UInt8.ofNat (192+c / 64),UInt8.ofNat (128+c % 64)]
    else if width c=3 then [UInt8.ofNat (224+c / 4096),UInt8.ofNat (128+c / 64 % 64),UInt8.ofNat (128+c % 64)]
    else [UInt8.ofNat (240+c / 262144),UInt8.ofNat (128+c / 4096 % 64),UInt8.ofNat (128+c / 64 % 64),UInt8.ofNat (128+c % 64)]
  else []
def number (l:List UInt8):Except Nat (List UInt8 × Nat):=
  match four 4 0 l with
  | .error e=>.error e
  | .ok c=>
    if 56320<=c/\c<=57343 then .error 3
    else if 55296<=c/\c<=56319 then
      if l.length<=4 then .error 2
      else if byt l 4≠92 then .error 3
      else if l.length<=5 then .error 2
      else if byt l 5≠117 then .error 3
      else match four 4 0 (l.drop 6) with
        | .error e=>.error e
        | .ok d=>if d<56320∨57343<d then .error 3 else .ok (put (65536+1024*(c-55296)+(d-56320)),10)
    else .ok (put c,4)
def escape (l:List UInt8):Except Nat (List UInt8 × Nat):=
  if l.length=0 then .error 2
  else if byt l 0=34∨byt l 0=92∨byt l 0=47 then .ok ([UInt8.ofNat (byt l 0)],1)
  else if byt l 0=98 then .ok ([8],1)
  else if byt l 0=102 then .ok ([12],1)
  else if byt l 0=110 then .ok ([10],1)
  else if byt l 0=114 then .ok ([13],1)
  else if byt l 0=116 then .ok ([9],1)
  else if byt l 0=117 then match number (l.drop 1) with
    | .error e=>.error e
    | .ok (o,n)=>.ok (o,n+1)
  else .error 3
def part (l:List UInt8):Except Nat (List UInt8 × Nat × Bool):=
  if l.length=0 then .error 2
  else if byt l 0=34 then .ok ([],1,false)
  else if byt l 0=92 then match escape (l.drop 1) with
    | .error e=>.error e
    | .ok (o,n)=>.ok (o,n+1,true)
  else if byt l 0<32 then .error 3
  else if byt l 0<128 then .ok ([UInt8.ofNat (byt l 0)],1,true)
  else if (one l).2=0 then .error 7
  else .ok (put (one l).1,(put (one l).1).length,true)
def parts:Nat->List UInt8->Nat->List UInt8->Except Nat (List UInt8 × Nat)
  | 0,_,_,_=>.error 2
  | n+1,l,p,out=>match part l with
    | .error e=>.error e
    | .ok (o,k,true)=>parts n (l.drop k) (p+k) (out++o)
    | .ok (o,k,false)=>.ok (out++o,p+k)
def scan (l:List UInt8):Except Nat (List UInt8 × Nat):=
  if l.length=0 then .error 2 else if byt l 0≠34 then .error 3 else parts (l.length+1) (l.drop 1) 1 []
theorem put_length (c:Nat):(put c).length<=4:=by
  unfold put;(repeat' split) <;> simp
theorem put_length_width (c:Nat) (h:scalarB c=true):(put c).length=width c:=by
  unfold put;rw [if_pos h];unfold width
  (repeat' split) <;> simp_all <;> omega
theorem four_lt:∀ (k n:Nat) (l:List UInt8) (r:Nat),four k n l=.ok r->r<(n+1)*16 ^ k
  | 0,n,l,r,h=>by simp [four] at h;omega
  | k+1,n,[],r,h=>by simp [four] at h
  | k+1,n,c::l,r,h=>by
    unfold four at h;split at h
    · cases h
    · rename_i d hd
      have h1:=hexv_lt hd;have:=four_lt k (n*16+d) l r h;have e:16 ^ (k+1)=16*16 ^ k:=by rw [Nat.pow_succ];omega
      rw [e]
      calc r<(n*16+d+1)*16 ^ k:=this
        _<=((n+1)*16)*16 ^ k:=Nat.mul_le_mul_right _ (by omega)
        _=(n+1)*(16*16 ^ k):=by rw [Nat.mul_assoc]
theorem four_len:∀ (k n:Nat) (l:List UInt8) (r:Nat),four k n l=.ok r->k<=l.length
  | 0,_,_,_,_=>Nat.zero_le _
  | k+1,n,[],r,h=>by simp [four] at h
  | k+1,n,c::l,r,h=>by
    unfold four at h;split at h
    · cases h
    · have:=four_len k _ l r h;simp;omega
end Go.Proofs.YtliekocamnklfaaGreatDoor.Quote
namespace Go.Proofs.YtliekocamnklfaaGreatDoor.Num
def run:Nat->List UInt8->Nat
  | st,[]=>st
  | st,c::l=>if step st (sgn c.toNat)=9 then 9 else run (step st (sgn c.toNat)) l
theorem from_le:∀ (l:List UInt8) (st i k:Nat),k<=i->from_ st i k l<=i+l.length
  | [],st,i,k,h=>by simp [from_];omega
  | c::l,st,i,k,h=>by
    unfold from_;split
    · simp;omega
    · have:=from_le l (step st (sgn c.toNat)) (i+1) (if whole (step st (sgn c.toNat)) then i+1 else k) (by split <;> omega);simp;omega
theorem full_run:∀ (l:List UInt8) (st i k:Nat),k<=i->l≠[]->(from_ st i k l=i+l.length↔run st l≠9/\whole (run st l)=true)
  | [],st,i,k,h,hn=>absurd rfl hn
  | c::l,st,i,k,h,_=>by
    unfold from_ run;by_cases h9:step st (sgn c.toNat)=9
    · rw [if_pos h9,if_pos h9];simp;omega
    · rw [if_neg h9,if_neg h9];by_cases hl:l=[]
      · subst hl;simp only [from_,run,List.length_cons,List.length_nil]
        cases hw:whole (step st (sgn c.toNat))
        · simp;omega
        · simp [h9]
      · have:=full_run l (step st (sgn c.toNat)) (i+1) (if whole (step st (sgn c.toNat)) then i+1 else k) (by split <;> omega) hl;rw [<-this];simp only [List.length_cons]
        omega
theorem scan_full (l:List UInt8) (h:l≠[]):scan l=l.length↔run 0 l≠9/\whole (run 0 l)=true:=by
  have:=full_run l 0 0 0 (Nat.le_refl _) h;rw [Nat.zero_add] at this;exact this
theorem scan_le (l:List UInt8):scan l<=l.length:=by have:=from_le l 0 0 0 (Nat.le_refl _);rwa [Nat.zero_add] at this
theorem step_6:∀ st,st<9->step st 6=9:=by decide
theorem step_ne:∀ st,st<9->∀ sg,sg<7->step st sg≠9->step st sg<9:=by decide
theorem run_signs:∀ (l:List UInt8) (st:Nat),st<9->run st l≠9->∀ c∈l,sgn c.toNat≠6
  | [],_,_,_,c,hc=>by cases hc
  | d::l,st,hst,h,c,hc=>by
    unfold run at h;by_cases h9:step st (sgn d.toNat)=9
    · rw [if_pos h9] at h;exact absurd rfl h
    · rw [if_neg h9] at h;rcases List.mem_cons.1 hc with rfl | hc
      · intro e;rw [e] at h9;exact h9 (step_6 st hst)
      · exact run_signs l _ (step_ne st hst _ (sgn_lt _) h9) h c hc
theorem sgn_ascii (c:Nat) (h:sgn c≠6):c<128:=by
  unfold sgn at h
  (repeat' split at h) <;> omega
theorem run_cons (st:Nat) (c:UInt8) (l:List UInt8):run st (c::l)=if step st (sgn c.toNat)=9 then 9 else run (step st (sgn c.toNat)) l:=rfl
theorem run_append:∀ (a b:List UInt8) (st:Nat),run st (a++b)=if run st a=9 then 9 else run (run st a) b
  | [],b,st=>by
    by_cases h:st=9
    · subst h;have:∀ l:List UInt8,run 9 l=9:=by
        intro l
        cases l with
        | nil=>rfl
        | cons c l=>
          have h7:=sgn_lt c.toNat;have:∀ sg,sg<7->step 9 sg=9:=by decide
          simp [run,this _ h7]
      simp [run,this]
    · simp [run,h]
  | c::a,b,st=>by
    show run st (c::(a++b))=_;rw [run_cons,run_cons st c a];by_cases h9:step st (sgn c.toNat)=9
    · simp [h9]
    · rw [if_neg h9,if_neg h9];exact run_append a b _
theorem run_lt:∀ (l:List UInt8) (st:Nat),st<9->run st l≠9->run st l<9
  | [],_,h,_=>h
  | c::l,st,hst,h=>by
    unfold run at h ⊢;by_cases h9:step st (sgn c.toNat)=9
    · rw [if_pos h9] at h;exact absurd rfl h
    · rw [if_neg h9] at h ⊢;exact run_lt l _ (step_ne st hst _ (sgn_lt _) h9) h
theorem mark_more (a t:List UInt8) (c:UInt8) (hc:sgn c.toNat=5) (h9:run 0 (a++c::t)≠9) (h:whole (run 0 (a++c::t))=true):t≠[]:=by
  intro e
  subst e;rw [run_append] at h h9;by_cases ha:run 0 a=9
  · rw [if_pos ha] at h9;exact h9 rfl
  · rw [if_neg ha] at h h9;have h1:=run_lt a 0 (by omega) ha;have:∀ st,st<9->step st 5=9∨step st 5=6:=by decide
    rcases this _ h1 with h2 | h2
    · simp [run,hc,h2] at h9
    · simp [run,hc,h2,whole] at h
end Go.Proofs.YtliekocamnklfaaGreatDoor.Num
namespace Go.Proofs.YtliekocamnklfaaGreatDoor.Quote
open Utf
theorem one_put (l:List UInt8) (h:(one l).2≠0):(put (one l).1).length=(one l).2/\scalarB (one l).1=true:=by
  unfold one at h ⊢;split
  · rename_i hs
    simp only [stands,Bool.and_eq_true,decide_eq_true_eq] at hs
    exact ⟨(put_length_width _ hs.1.2).trans hs.2,hs.1.2⟩
  · rename_i hs
    rw [if_neg hs] at h;exact absurd rfl h
theorem number_size {l o:List UInt8} {n:Nat} (h:number l=.ok (o,n)):1<=n/\n<=l.length/\o.length<=n:=by
  unfold number at h
  cases h4:four 4 0 l with
  | error e=>rw [h4] at h;cases h
  | ok c=>
    have hl:=four_len _ _ _ _ h4;rw [h4] at h;simp only [] at h
    by_cases c1:56320<=c/\c<=57343
    · rw [if_pos c1] at h;cases h
    rw [if_neg c1] at h;by_cases c2:55296<=c/\c<=56319
    · rw [if_pos c2] at h;split at h
      · cases h
      split at h
      · cases h
      split at h
      · cases h
      split at h
      · cases h
      cases h6:four 4 0 (l.drop 6) with
      | error e=>rw [h6] at h;cases h
      | ok d=>
        have hl6:=four_len _ _ _ _ h6;rw [List.length_drop] at hl6;rw [h6] at h;simp only [] at h
        split at h
        · cases h
        · injection h with h;injection h with h1 h2
          subst h1;subst h2;have:=put_length (65536+1024*(c-55296)+(d-56320));omega
    · rw [if_neg c2] at h;injection h with h;injection h with h1 h2
      subst h1;subst h2;have:=put_length c;omega
theorem escape_size {l o:List UInt8} {n:Nat} (h:escape l=.ok (o,n)):1<=n/\n<=l.length/\o.length<=n:=by
  unfold escape at h;by_cases h0:l.length=0
  · rw [if_pos h0] at h;cases h
  rw [if_neg h0] at h;by_cases hu:byt l 0=117
  · simp only [hu] at h
    simp [-List.drop_one] at h
    cases hn:number (l.drop 1) with
    | error e=>rw [hn] at h;cases h
    | ok x=>
      obtain ⟨o',n'⟩:=x;rw [hn] at h;simp only [] at h
      injection h with h;injection h with h1 h2
      have:=number_size hn;rw [List.length_drop] at this;subst h1;subst h2;omega
  · rw [if_neg hu] at h
    repeat' split at h
    all_goals first
      | cases h;done
      | (injection h with h;injection h with h1 h2;subst h1;subst h2;simp;omega)
theorem part_size {l o:List UInt8} {n:Nat} {g:Bool} (h:part l=.ok (o,n,g)):1<=n/\n<=l.length/\o.length<=n:=by
  unfold part at h;by_cases h0:l.length=0
  · rw [if_pos h0] at h;cases h
  rw [if_neg h0] at h;by_cases hu:byt l 0=92
  · simp only [hu] at h
    simp [-List.drop_one] at h
    cases hn:escape (l.drop 1) with
    | error e=>rw [hn] at h;cases h
    | ok x=>
      obtain ⟨o',n'⟩:=x;rw [hn] at h;simp only [] at h
      injection h with h;injection h with h1 h2;injection h2 with h2 h3
      have:=escape_size hn;rw [List.length_drop] at this;subst h1;subst h2;omega
  · rw [if_neg hu] at h;by_cases hz:(one l).2=0
    · repeat' split at h
      all_goals first
        | cases h;done
        | (injection h with h;injection h with h1 h2;injection h2 with h2 h3;subst h1;subst h2;simp;omega)
        | exact absurd hz (by assumption)
    · have hp:=(one_put l hz).1;have hle:=(one_size_le l).1
      repeat' split at h
      all_goals first
        | cases h;done
        | (injection h with h;injection h with h1 h2;injection h2 with h2 h3;subst h1;subst h2;simp;omega)
        | (injection h with h;injection h with h1 h2;injection h2 with h2 h3;subst h1;subst h2;omega)
theorem parts_mono:∀ (n m:Nat) (l:List UInt8) (p:Nat) (out:List UInt8),l.length<n->l.length<m->parts n l p out=parts m l p out
  | 0,_,_,_,_,h,_=>by omega
  | _+1,0,_,_,_,_,h=>by omega
  | n+1,m+1,l,p,out,h,h'=>by
    unfold parts
    cases hp:part l with
    | error e=>rfl
    | ok x=>
      obtain ⟨o,k,g⟩:=x;have:=part_size hp;cases g
      · rfl
      · exact parts_mono n m _ _ _ (by rw [List.length_drop];omega) (by rw [List.length_drop];omega)
def partsAt (l:List UInt8) (p:Nat) (out:List UInt8):Except Nat (List UInt8 × Nat):=parts (l.length-p+1) (l.drop p) p out
theorem partsAt_step (l:List UInt8) (p:Nat) (out:List UInt8) (hp:p<=l.length) :
    partsAt l p out=match part (l.drop p) with
      | .error e=>.error e
      | .ok (o,k,true)=>partsAt l (p+k) (out++o)
      | .ok (o,k,false)=>.ok (out++o,p+k):=by
  unfold partsAt;conv=>lhs;unfold parts
  cases h:part (l.drop p) with
  | error e=>rfl
  | ok x=>
    obtain ⟨o,k,g⟩:=x;have:=part_size h;rw [List.length_drop] at this;cases g
    · rfl
    · simp only [List.drop_drop]
      exact parts_mono _ _ _ _ _ (by rw [List.length_drop];omega) (by rw [List.length_drop];omega)
theorem scan_at (l:List UInt8) (h:l.length≠0) (hb:byt l 0=34):scan l=partsAt l 1 []:=by
  unfold scan;rw [if_neg h,if_neg (by omega)];exact parts_mono _ _ _ _ _ (by rw [List.length_drop];omega) (by rw [List.length_drop];omega)
theorem parts_size:∀ (n:Nat) (l:List UInt8) (p:Nat) (out o:List UInt8) (k:Nat),parts n l p out=.ok (o,k)->p<k/\k<=p+l.length/\o.length<=out.length+(k-p)
  | 0,_,_,_,_,_,h=>by simp [parts] at h
  | n+1,l,p,out,o,k,h=>by
    unfold parts at h
    cases hp:part l with
    | error e=>rw [hp] at h;cases h
    | ok x=>
      obtain ⟨o',k',g⟩:=x;have h1:=part_size hp;rw [hp] at h;cases g
      · simp only [] at h
        injection h with h;injection h with h2 h3
        subst h2;subst h3;simp;omega
      · have:=parts_size n _ _ _ _ _ h;rw [List.length_drop,List.length_append] at this;omega
end Go.Proofs.YtliekocamnklfaaGreatDoor.Quote
