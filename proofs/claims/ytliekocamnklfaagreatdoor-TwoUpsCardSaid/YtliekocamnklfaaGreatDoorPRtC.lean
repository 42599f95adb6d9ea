/- tabulariumref08.own of any value. (Written by gen/jenb.py.) -/
import Derived.Test.YtliekocamnklfaaGreatDoorPJenA
import Derived.Test.YtliekocamnklfaaGreatDoorPJenE
import Derived.Laws.StructEq
import Derived.Lib.LaidTab
import Derived.Lib.ItoaLen
import Derived.Lib.Repeat
import Derived.Shelf.Unicode.PredsPay
import Derived.Lib.Bytealg
set_option linter.unusedVariables false
set_option linter.unusedSimpArgs false
set_option maxRecDepth 100000
namespace Go.Proofs.YtliekocamnklfaaGreatDoor.Jdec
open Go.RowKit Strs
structure OwnQ (k:Int) (is neg:Bool) (dig:ByteArray) (exp:Int) (str:ByteArray) (keys:List ByteArray) (n:Nat):Prop where
  k1:1<=k
  k6:k<=6
  is:k≠2->is=false
  num:k≠3->neg=false/\dig=⟨#[]⟩/\exp=0
  text:k≠4->str=⟨#[]⟩
  kids:k<5->n=0
  noKeys:k≠6->keys=[]
  right:Num.right neg dig.data.toList exp=true
  valid:Utf.validB str.data.toList=true
  both:k=6->keys.length=n
  words:∀ x∈keys,Utf.validB x.data.toList=true
  apart:keys.Nodup
theorem toList_nil {s:ByteArray} (h:s≠⟨#[]⟩):s.toList.isEmpty=false:=by
  rw [ByteArray.toList_eq]
  cases s with
  | mk a=>
    rw [List.isEmpty_eq_false_iff];intro e
    exact h (by rw [ByteArray.mk.injEq];exact Array.toList_inj.1 e)
theorem take_nodup {ks:List ByteArray} {i:Nat} (h:i<ks.length) (hn:(ks.take i).Nodup) (hx:∀ j (hj:j<i),ks[j]'(by omega)≠ks[i]):(ks.take (i+1)).Nodup:=by
  rw [List.take_add_one,List.getElem?_eq_getElem h];show (ks.take i++[ks[i]]).Nodup;rw [List.nodup_append];refine ⟨hn,by simp,fun a ha b hb e=>?_⟩;rw [List.mem_singleton.1 hb] at e;obtain ⟨j,hj,rfl⟩:=List.getElem_of_mem ha;rw [List.length_take] at hj;exact hx j (by omega) (by rw [<-e,List.getElem_take])
inductive GoodQ:JV->Prop where
  | mk (k:Int) (i n:Bool) (d:ByteArray) (e:Int) (s:ByteArray) (ks:List ByteArray) (vs:List JV):OwnQ k i n d e s ks vs.length->(∀ j (h:j<vs.length),GoodQ vs[j])->GoodQ (.mk k i n d e s ks vs)
theorem held_small {N:Nat} {t:JV} (h:Held N t):Small N t:=by
  induction h with
  | mk k i n d e s ks vs h1 h2 h3 h4 h5 h6 ih=>exact .mk k i n d e s ks vs h3 h4 ih
theorem makeMap_hint (n:Int):∀ w,Sem.run Tryz.prog (Instr.makeMap 202 (some (.int .i64 n))) w=.ok (.map (some w.heap.size)) (w.alloc (.map #[] 0)):=fun w=>by
  simp [Instr.makeMap,run_underlying Tryz.underlying202,asInt,asIntOf,Result.andThen]
theorem holds_5 (w:World):Calls Tryz.prog 179 #[.int .i64 5] w fun e w'=>e=.returned (.bool true)/\w=w':=by
  go_enter Tryz.func179,Tryz.ntmps179
  go_wp2_with fail
  go_ret
  exact ⟨rfl,rfl⟩
theorem holds_6 (w:World):Calls Tryz.prog 179 #[.int .i64 6] w fun e w'=>e=.returned (.bool true)/\w=w':=by
  go_enter Tryz.func179,Tryz.ntmps179
  go_wp2_with fail
  go_ret
  exact ⟨rfl,rfl⟩
theorem pright_call (n:Bool) (d:ByteArray) (x:Int) (h:Num.right n d.data.toList x=true) (w:World):Calls Tryz.prog 139 #[.agg #[.bool n,.string d,.int .i64 x]] w fun e w'=>e=.returned (.bool true)/\Below w.heap.size w w':=by
  have hd:d.size<=1000:=by have:=right_size h;simpa using this
  have:=Num.right_any n d x w (by omega);rw [h] at this;exact this
def Pow10 (w:World):Prop:=Lib.TabIs Tryz.prog w "internal/strconv.uint64pow10" .u64 Lib.pow10Tab
theorem Pow10.stays {w w':World} (T:Pow10 w) (h:Below w.heap.size w w'):Pow10 w':=TabIs_below (g:=1) (by kernel_rfl) T h
def nfront (neg:Bool):List UInt8:=if neg then [45] else []
def nprint (neg:Bool) (d:List UInt8) (x:Int):List UInt8:=
  if d=[] then [48]
  else if 0<=x/\x<=20 then nfront neg++d++List.replicate x.toNat 48
  else if x < -20∨20<x then nfront neg++d++101::Lib.itoa x
  else if -x<(d.length:Int) then nfront neg++d.take ((d.length:Int)+x).toNat++46::d.drop ((d.length:Int)+x).toNat
  else nfront neg++[48,46]++List.replicate (-x-(d.length:Int)).toNat 48++d
theorem repeat0:∀ c,Lib.repeatL [48] c=List.replicate c 48
  | 0=>rfl
  | c+1=>by rw [Lib.repeatL,repeat0 c];rfl
theorem right_bounds {n:Bool} {d:List UInt8} {x:Int} (h:Num.right n d x=true):d.length<=1000/\-10000<=x/\x<=10000/\(d=[]->n=false/\x=0):=by
  unfold Num.right at h;split at h
  · rename_i h0;subst h0;simp at h;obtain ⟨h1,h2⟩:=h;simp [h1,h2]
  · split at h
    · cases h
    · rename_i h0 h1
      exact ⟨by omega,by omega,by omega,fun e=>absurd e h0⟩
def RepP (c:Nat) (w:World) (e:Ending) (w':World):Prop:=∃ r:ByteArray,e=.returned (.string r)/\r.data.toList=List.replicate c 48/\Below w.heap.size w w'
theorem RepP.to {c:Nat} {w w':World} {e:Ending} (h:RepP c w e w'):∃ r:ByteArray,e=.returned (.string r)/\Hid (r.data.toList=List.replicate c 48)/\r.size=c/\Below w.heap.size w w':=by
  obtain ⟨r,h1,h2,h3⟩:=h;exact ⟨r,h1,h2,by have:=congrArg List.length h2;simpa using this,h3⟩
theorem rep0_any (c:Nat) (hc:c<=2000) (w:World):Calls Tryz.prog 141 #[.string ⟨#[48]⟩,.int .i64 c] w (RepP c w):=
  (Tryz.strings_Repeat ⟨#[48]⟩ c w (by omega) (by simp [ByteArray.size];omega)).mono fun e w' ⟨h1,h2⟩=>⟨_,h1,by simp [repeat0],h2⟩
inductive Fine:JV->Prop where
  | mk (k:Int) (i n:Bool) (d:ByteArray) (e:Int) (s:ByteArray) (ks:List ByteArray) (vs:List JV):d.size<=1200->s.size<=6000->(∀ x∈ks,x.size<=6000)->(∀ j (h:j<vs.length),Fine vs[j])->Fine (.mk k i n d e s ks vs)
mutual
def JV.mass:JV->Nat
  | .mk _ _ _ _ _ _ ks vs=>1+ks.length+masses vs
def masses:List JV->Nat
  | []=>0
  | v::t=>v.mass+masses t
end
theorem masses_nil:masses []=0:=by rw [masses]
theorem masses_cons (v:JV) (t:List JV):masses (v::t)=v.mass+masses t:=by rw [masses]
theorem mass_mk (k:Int) (i n:Bool) (d:ByteArray) (e:Int) (s:ByteArray) (ks:List ByteArray) (vs:List JV):(JV.mk k i n d e s ks vs).mass=1+ks.length+masses vs:=by rw [JV.mass]
theorem deepN_mk (k:Int) (i n:Bool) (d:ByteArray) (e:Int) (s:ByteArray) (ks:List ByteArray) (vs:List JV):(JV.mk k i n d e s ks vs).deepN=(if k=5∨k=6 then deepNs vs else 0)+1:=by rw [JV.deepN]
theorem keysRoom_fine:∀ (ks:List ByteArray) (l r:Int),keysRoom ks l=some r->0<=r->∀ x∈ks,x.size<=6000
  | [],l,r,h,hr,x,hx=>by cases hx
  | k::t,l,r,h,hr,x,hx=>by
    unfold keysRoom at h;split at h
    · injection h with h;omega
    · split at h
      · cases h
      · rcases List.mem_cons.1 hx with rfl | hx
        · omega
        · exact keysRoom_fine t _ r h hr x hx
mutual
theorem room_fine (v:JV) (dp l:Int) (hl:0<=l) (h:0<=v.room dp l):Fine v/\(v.mass:Int)+v.room dp l<=l/\dp<=70/\(v.deepN:Int)+dp<=71:=by
  cases v with
  | mk k is ng d e s ks vs=>
    rw [JV.room] at h ⊢;by_cases hc:70<dp∨2000<s.size∨1200<d.size
    · rw [if_pos hc] at h;omega
    · rw [if_neg hc] at h ⊢
      cases hk:keysRoom ks (l-1-(ks.length:Int)-(((s.size+d.size) / 50:Nat):Int)) with
      | none=>rw [hk] at h;simp only at h;omega
      | some r=>
        rw [hk] at h;simp only at h ⊢
        have h1:=keysRoom_le _ _ _ hk;have hr0:0<=r:=by
          by_cases hr:r<0
          · rw [roomsL_neg _ _ _ hr] at h;exact h
          · omega
        have hkf:=keysRoom_fine _ _ _ hk hr0;obtain ⟨f1,f2,f3⟩:=rooms_fine vs (dp+1) r hr0 h;refine ⟨.mk k is ng d e s ks vs (by omega) (by omega) hkf f1,?_,by omega,?_⟩
        · rw [mass_mk];omega
        · rw [deepN_mk];split
          · rcases f3 with f3 | f3
            · rw [f3,deepNs_nil];omega
            · omega
          · omega
theorem rooms_fine (vs:List JV) (dp l:Int) (hl:0<=l) (h:0<=roomsL vs dp l):(∀ j (hj:j<vs.length),Fine vs[j])/\(masses vs:Int)+roomsL vs dp l<=l/\(vs=[]∨(deepNs vs:Int)+dp<=71):=by
  cases vs with
  | nil=>rw [roomsL_nil];exact ⟨fun j hj=>absurd hj (Nat.not_lt_zero _),by rw [masses_nil];omega,.inl rfl⟩
  | cons v t=>
    rw [roomsL_next _ _ _ _ hl] at h ⊢;have hv0:0<=v.room dp l:=by
      by_cases hr:v.room dp l<0
      · rw [roomsL_neg _ _ _ hr] at h;exact h
      · omega
    obtain ⟨a1,a2,a3,a4⟩:=room_fine v dp l hl hv0;obtain ⟨b1,b2,b3⟩:=rooms_fine t dp _ hv0 h;refine ⟨fun j hj=>?_,by rw [masses_cons];omega,.inr ?_⟩
    · cases j with
      | zero=>exact a1
      | succ j=>exact b1 j (by simpa using hj)
    · rw [deepNs_cons];rcases b3 with b3 | b3
      · rw [b3,deepNs_nil];omega
      · omega
end
theorem great_no (t:JV) (h:¬ t.room 1 400<0):Fine t/\t.mass<=400/\t.deepN<=70:=by
  obtain ⟨h1,h2,_,h4⟩:=room_fine t 1 400 (by omega) (by omega);exact ⟨h1,by omega,by omega⟩
end Go.Proofs.YtliekocamnklfaaGreatDoor.Jdec
namespace Go.Proofs.YtliekocamnklfaaGreatDoor.Quote
open Utf
theorem put_small (c:Nat) (h:c<128):put c=[UInt8.ofNat c]:=by
  have hs:scalarB c=true:=by simp [scalarB];omega
  unfold put;rw [if_pos hs];unfold width;rw [if_pos h];rfl
end Go.Proofs.YtliekocamnklfaaGreatDoor.Quote
namespace Go.Proofs.YtliekocamnklfaaGreatDoor.Num
open Jdec (nprint nfront)
open Go.Lib (decDigits)
def Stops (post:List UInt8):Prop:=∀ c t,post=c::t->sgn c.toNat=6
theorem stops_nil:Stops []:=fun c t h=>by cases h
theorem from_stop (post:List UInt8) (hp:Stops post):∀ (l:List UInt8) (st i k:Nat),l≠[]->run st l≠9->st<9->whole (run st l)=true->from_ st i k (l++post)=i+l.length
  | [],_,_,_,h,_,_,_=>absurd rfl h
  | c::l,st,i,k,_,h9,hst,hw=>by
    rw [run_cons] at h9 hw;by_cases hs:step st (sgn c.toNat)=9
    · rw [if_pos hs] at h9;exact absurd rfl h9
    · rw [if_neg hs] at h9 hw;have hlt:=step_ne st hst _ (sgn_lt c.toNat) hs;rw [List.cons_append,from_,if_neg hs];by_cases h0:l=[]
      · subst h0;rw [run] at hw;rw [if_pos hw,List.nil_append]
        cases post with
        | nil=>rfl
        | cons d t=>
          rw [from_,hp d t rfl,if_pos (step_6 _ hlt)];rfl
      · rw [from_stop post hp l _ _ _ h0 h9 hlt hw,List.length_cons];omega
theorem scan_stop {l post:List UInt8} (hp:Stops post) (h0:l≠[]) (h9:run 0 l≠9) (hw:whole (run 0 l)=true):scan (l++post)=l.length:=by
  unfold scan;rw [from_stop post hp l 0 0 0 h0 h9 (by omega) hw,Nat.zero_add]
theorem sgn_digit {c:UInt8} (h:isDigit c=true):sgn c.toNat=2∨sgn c.toNat=3:=by
  unfold isDigit at h;simp only [Bool.and_eq_true,decide_eq_true_eq] at h
  unfold sgn;by_cases h1:c.toNat=48
  · left;rw [if_neg (by omega),if_neg (by omega),if_pos h1]
  · right;rw [if_neg (by omega),if_neg (by omega),if_neg h1,if_pos (by omega)]
theorem run_all (st:Nat) (h2:step st 2=st) (h3:step st 3=st) (hst:st≠9):∀ l:List UInt8,(∀ c∈l,isDigit c=true)->run st l=st
  | [],_=>rfl
  | c::l,h=>by
    have hs:step st (sgn c.toNat)=st:=by rcases sgn_digit (h c (List.mem_cons_self ..)) with e | e <;> rw [e] <;> assumption
    rw [run_cons,hs,if_neg hst];exact run_all st h2 h3 hst l fun x hx=>h x (List.mem_cons_of_mem _ hx)
theorem run_some (st st':Nat) (a2:step st 2=st') (a3:step st 3=st') (h2:step st' 2=st') (h3:step st' 3=st') (hst:st'≠9) (l:List UInt8) (h0:l≠[]) (h:∀ c∈l,isDigit c=true):run st l=st':=by
  cases l with
  | nil=>exact absurd rfl h0
  | cons c l=>
    have hs:step st (sgn c.toNat)=st':=by rcases sgn_digit (h c (List.mem_cons_self ..)) with e | e <;> rw [e] <;> assumption
    rw [run_cons,hs,if_neg hst];exact run_all st' h2 h3 hst l fun x hx=>h x (List.mem_cons_of_mem _ hx)
theorem run_front (neg:Bool):run 0 (nfront neg)=if neg then 1 else 0:=by cases neg <;> rfl
structure Digs (d:List UInt8):Prop where
  all:∀ c∈d,isDigit c=true
  ne:d≠[]
  head:d.headD 48≠48
theorem run_digs (neg:Bool) {d:List UInt8} (h:Digs d) (r:List UInt8):run 0 (nfront neg++d++r)=run 3 r:=by
  have e:run (if neg then 1 else 0) d=3:=by
    obtain ⟨h1,h2,h3⟩:=h
    cases d with
    | nil=>exact absurd rfl h2
    | cons c t=>
      have hc:=h1 c (List.mem_cons_self ..);have hs:sgn c.toNat=3:=by
        unfold isDigit at hc;simp only [Bool.and_eq_true,decide_eq_true_eq] at hc
        have hn:c.toNat≠48:=fun e=>h3 (by rw [List.headD_cons];exact UInt8.toNat_inj.1 e);unfold sgn;rw [if_neg (by omega),if_neg (by omega),if_neg hn,if_pos (by omega)]
      have hst:step (if neg then 1 else 0) 3=3:=by cases neg <;> rfl
      rw [run_cons,hs,hst,if_neg (by omega)];exact run_all 3 rfl rfl (by omega) t fun x hx=>h1 x (List.mem_cons_of_mem _ hx)
  have hf:(if neg then 1 else 0)≠9:=by cases neg <;> decide
  rw [run_append,run_append,run_front,if_neg hf,e,if_neg (by omega)]
theorem dec_digit:∀ u,(∀ c∈decDigits u,isDigit c=true)/\decDigits u≠[]:=by
  intro u
  induction u using Nat.strongRecOn with
  | _ u ih=>
    have one:∀ n,n<10->isDigit (UInt8.ofNat (48+n))=true:=by decide
    by_cases h:u<10
    · rw [decDigits,dif_pos h];exact ⟨fun c hc=>by rw [List.mem_singleton.1 hc];exact one u h,by simp⟩
    · rw [decDigits,dif_neg h];obtain ⟨h1,h2⟩:=ih (u / 10) (by omega);refine ⟨fun c hc=>?_,by simp⟩;rcases List.mem_append.1 hc with hc | hc
      · exact h1 c hc
      · rw [List.mem_singleton.1 hc];exact one _ (by omega)
theorem pdigits_dec:∀ u,u<=1000000->pdigits (decDigits u)=u:=by
  intro u
  induction u using Nat.strongRecOn with
  | _ u ih=>
    intro hu
    have one:∀ n,n<10->((UInt8.ofNat (48+n)).toNat+208) % 256=n:=by decide
    by_cases h:u<10
    · rw [decDigits,dif_pos h];show pstep 0 _=u;unfold pstep;rw [one u h];omega
    · rw [decDigits,dif_neg h];have:=ih (u / 10) (by omega) (by omega);unfold pdigits at this ⊢;rw [List.foldl_append,this];show pstep (u / 10) _=u;unfold pstep;rw [one _ (by omega)];omega
theorem power_itoa (x:Int) (h1:-1000000<=x) (h2:x<=1000000):power (Lib.itoa x)=x:=by
  unfold Lib.itoa;by_cases h:x<0
  · rw [if_pos h];unfold power;simp only
    rw [if_pos (by decide),pdigits_dec _ (by omega)];omega
  · rw [if_neg h];obtain ⟨hd,hn⟩:=dec_digit x.toNat;have hp:=pdigits_dec x.toNat (by omega)
    cases hc:decDigits x.toNat with
    | nil=>exact absurd hc hn
    | cons c t=>
      rw [hc] at hd hp;have:=hd c (List.mem_cons_self ..);unfold isDigit at this;simp only [Bool.and_eq_true,decide_eq_true_eq] at this
      unfold power;simp only
      rw [if_neg (by omega),if_neg (by omega),hp];omega
def nbody (d:List UInt8) (x:Int):List UInt8:=
  if 0<=x/\x<=20 then d++List.replicate x.toNat 48
  else if x < -20∨20<x then d++101::Lib.itoa x
  else if -x<(d.length:Int) then d.take ((d.length:Int)+x).toNat++46::d.drop ((d.length:Int)+x).toNat
  else [48,46]++List.replicate (-x-(d.length:Int)).toNat 48++d
theorem nprint_body (neg:Bool) (d:List UInt8) (x:Int) (h:d≠[]):nprint neg d x=nfront neg++nbody d x:=by
  unfold nprint nbody;rw [if_neg h]
  repeat' split
  all_goals simp [List.append_assoc]
structure Fine (d:List UInt8) (x:Int):Prop extends Digs d where
  last:d.getLastD 48≠48
  lo:-10000<=x
  hi:x<=10000
theorem fine_of {n:Bool} {d:List UInt8} {x:Int} (h:right n d x=true) (h0:d≠[]):Fine d x:=by
  unfold right at h;rw [if_neg h0] at h;split at h
  · cases h
  · simp only [Bool.and_eq_true,List.all_eq_true,bne_iff_ne] at h
    exact ⟨⟨h.1.1,h0,h.1.2⟩,h.2,by omega,by omega⟩
theorem rep_digit (m:Nat):∀ c∈List.replicate m (48:UInt8),isDigit c=true:=fun c hc=>by rw [(List.mem_replicate.1 hc).2];rfl
theorem Fine.run {d:List UInt8} {x:Int} (h:Fine d x) (n:Bool):Num.run 0 (nfront n++nbody d x)≠9/\whole (Num.run 0 (nfront n++nbody d x))=true:=by
  unfold nbody;split
  · rw [<-List.append_assoc,run_digs n h.toDigs,run_all 3 rfl rfl (by omega) _ (rep_digit _)];decide
  split
  · rw [<-List.append_assoc,run_digs n h.toDigs];have hs:Num.run 3 (101::Lib.itoa x)=Num.run 6 (Lib.itoa x):=rfl;have h8:Num.run 6 (Lib.itoa x)=8:=by
      unfold Lib.itoa;split
      · show Num.run 7 _=8;exact run_some 7 8 rfl rfl rfl rfl (by omega) _ (dec_digit _).2 (dec_digit _).1
      · exact run_some 6 8 rfl rfl rfl rfl (by omega) _ (dec_digit _).2 (dec_digit _).1
    rw [hs,h8];decide
  split
  · rename_i h1 h2 h3
    obtain ⟨k,hk⟩:∃ k:Nat,((d.length:Int)+x).toNat=k/\1<=k/\k<d.length:=⟨_,rfl,by omega,by omega⟩;rw [hk.1];have ht:Digs (d.take k):=⟨fun c hc=>h.all c (List.mem_of_mem_take hc),fun e=>by have:=congrArg List.length e;rw [List.length_take,List.length_nil] at this;omega,by
      have:=h.head
      cases d with
      | nil=>exact absurd rfl h.ne
      | cons c t=>
        obtain ⟨j,rfl⟩:∃ j,k=j+1:=⟨k-1,by omega⟩;exact this⟩
    rw [<-List.append_assoc,run_digs n ht];have hs:Num.run 3 (46::d.drop k)=Num.run 4 (d.drop k):=rfl;rw [hs,run_some 4 5 rfl rfl rfl rfl (by omega) _ (fun e=>by have:=congrArg List.length e;rw [List.length_drop,List.length_nil] at this;omega) fun c hc=>h.all c (List.mem_of_mem_drop hc)]
    decide
  · have hr:Num.run (if n then 1 else 0) ([48,46]++List.replicate (-x-(d.length:Int)).toNat 48++d)=Num.run 4 (List.replicate (-x-(d.length:Int)).toNat 48++d):=by cases n <;> rfl
    have hf:(if n then 1 else 0)≠9:=by cases n <;> decide
    rw [run_append,run_front,if_neg hf,hr,run_some 4 5 rfl rfl rfl rfl (by omega) _ (by simp [h.ne]) fun c hc=>by
      rcases List.mem_append.1 hc with hc | hc
      · exact rep_digit _ c hc
      · exact h.all c hc]
    decide
theorem run_nprint {n:Bool} {d:List UInt8} {x:Int} (h:right n d x=true):nprint n d x≠[]/\run 0 (nprint n d x)≠9/\whole (run 0 (nprint n d x))=true:=by
  by_cases h0:d=[]
  · subst h0;have e:nprint n [] x=[48]:=rfl;rw [e];exact ⟨by decide,by decide,by decide⟩
  · rw [nprint_body n d x h0];refine ⟨?_,(fine_of h h0).run n⟩;unfold nbody
    repeat' split
    all_goals simp [h0]
theorem scan_nprint {n:Bool} {d:List UInt8} {x:Int} (h:right n d x=true) (post:List UInt8) (hp:Stops post):scan (nprint n d x++post)=(nprint n d x).length:=by
  obtain ⟨h1,h2,h3⟩:=run_nprint h;exact scan_stop hp h1 h2 h3
theorem drop_noughts (e:List UInt8) (he:e.headD 48≠48):∀ a:Nat,(List.replicate a (48:UInt8)++e).dropWhile (· == 48)=e
  | 0=>by
    cases e with
    | nil=>rfl
    | cons c t=>
      have:(c == 48)=false:=by rw [beq_eq_false_iff_ne];exact he
      rw [List.replicate_zero,List.nil_append,List.dropWhile_cons,this];rfl
  | a+1=>by
    rw [List.replicate_succ,List.cons_append,List.dropWhile_cons];exact drop_noughts e he a
theorem last_head (d:List UInt8):d.reverse.headD 48=d.getLastD 48:=by
  rw [List.headD_eq_head?_getD,List.head?_reverse,List.getLastD_eq_getLast?]
theorem fin_digits {n:Bool} {d:List UInt8} {x:Int} (h:right n d x=true) (h0:d≠[]) (a z:Nat) (y:Int) (hy:y+z=x):fin n (List.replicate a 48++(d++List.replicate z 48)) y=.ok (n,d,x):=by
  have hf:=fine_of h h0;have e1:(List.replicate a (48:UInt8)++(d++List.replicate z 48)).dropWhile (· == 48)=d++List.replicate z 48:=drop_noughts _ (by
    cases d with
    | nil=>exact absurd rfl h0
    | cons c t=>exact hf.head) a
  have e2:((d++List.replicate z (48:UInt8)).reverse.dropWhile (· == 48)).reverse=d:=by
    rw [List.reverse_append,List.reverse_replicate,drop_noughts _ (by rw [last_head];exact hf.last),List.reverse_reverse]
  unfold fin;simp only []
  rw [e1,e2,if_neg h0];have e3:y+(((d++List.replicate z (48:UInt8)).length:Int)-(d.length:Int))=x:=by
    rw [List.length_append,List.length_replicate];omega
  rw [e3,if_pos h]
theorem find_none {p:UInt8->Bool}:∀ l:List UInt8,(∀ c∈l,p c=false)->l.findIdx? p=none:=fun l h=>by
  rw [List.findIdx?_eq_none_iff];exact h
theorem find_at {p:UInt8->Bool} (m:UInt8) (hm:p m=true) (b:List UInt8):∀ a:List UInt8,(∀ c∈a,p c=false)->(a++m::b).findIdx? p=some a.length
  | [],_=>by rw [List.nil_append,List.findIdx?_cons,hm];rfl
  | c::a,h=>by
    rw [List.cons_append,List.findIdx?_cons,h c (List.mem_cons_self ..),find_at m hm b a fun x hx=>h x (List.mem_cons_of_mem _ hx)];simp
theorem dig_noE {c:UInt8} (h:isDigit c=true):([101,69]:List UInt8).contains c=false:=by
  unfold isDigit at h;simp only [Bool.and_eq_true,decide_eq_true_eq] at h
  have h1:c≠101:=fun e=>by subst e;exact absurd h.2 (by decide)
  have h2:c≠69:=fun e=>by subst e;exact absurd h.2 (by decide)
  simp [h1,h2]
theorem dig_noP {c:UInt8} (h:isDigit c=true):(c == 46)=false:=by
  unfold isDigit at h;simp only [Bool.and_eq_true,decide_eq_true_eq] at h
  rw [beq_eq_false_iff_ne];intro e;subst e;exact absurd h.1 (by decide)
theorem point_none {n:Bool} {d:List UInt8} (h:∀ c∈d,isDigit c=true) (x:Int):point n d x=fin n d x:=by
  unfold point;rw [find_none d fun c hc=>dig_noP (h c hc)]
theorem mant_none {n:Bool} {d:List UInt8} (h:∀ c∈d,([101,69]:List UInt8).contains c=false):mant n d=point n d 0:=by
  unfold mant;rw [find_none d h]
theorem mant_body {n:Bool} {d:List UInt8} {x:Int} (h:right n d x=true) (h0:d≠[]):mant n (nbody d x)=.ok (n,d,x):=by
  have hf:=fine_of h h0;unfold nbody;split
  · rename_i h1
    have hall:∀ c∈d++List.replicate x.toNat (48:UInt8),isDigit c=true:=fun c hc=>by
      rcases List.mem_append.1 hc with hc | hc
      · exact hf.all c hc
      · exact rep_digit _ c hc
    rw [mant_none fun c hc=>dig_noE (hall c hc),point_none hall];have:=fin_digits h h0 0 x.toNat 0 (by omega);rw [List.replicate_zero,List.nil_append] at this;exact this
  split
  · unfold mant;rw [find_at 101 (by decide) _ d fun c hc=>dig_noE (hf.all c hc)];simp only
    rw [List.take_left,show (d++101::Lib.itoa x).drop (d.length+1)=Lib.itoa x by rw [show d++101::Lib.itoa x=(d++[101])++Lib.itoa x by simp,List.drop_left' (by simp)],power_itoa x (by have:=hf.lo;omega) (by have:=hf.hi;omega),point_none hf.all];have:=fin_digits h h0 0 0 x (by omega);rw [List.replicate_zero,List.nil_append,List.append_nil] at this;exact this
  split
  · rename_i h1 h2 h3
    obtain ⟨k,hk⟩:∃ k:Nat,((d.length:Int)+x).toNat=k/\1<=k/\k<d.length/\(d.length:Int)+x=k:=⟨_,rfl,by omega,by omega,by omega⟩;rw [hk.1];have ht:∀ c∈d.take k,isDigit c=true:=fun c hc=>hf.all c (List.mem_of_mem_take hc);have hd:∀ c∈d.drop k,isDigit c=true:=fun c hc=>hf.all c (List.mem_of_mem_drop hc);have hlk:(d.take k).length=k:=by rw [List.length_take];omega
    rw [mant_none fun c hc=>by
      rcases List.mem_append.1 hc with hc | hc
      · exact dig_noE (ht c hc)
      · rcases List.mem_cons.1 hc with rfl | hc
        · decide
        · exact dig_noE (hd c hc)]
    unfold point;rw [find_at 46 (by decide) _ _ fun c hc=>dig_noP (ht c hc)];simp only
    rw [List.take_left,show (d.take k++46::d.drop k).drop ((d.take k).length+1)=d.drop k by rw [show d.take k++46::d.drop k=(d.take k++[46])++d.drop k by simp,List.drop_left' (by simp)],List.take_append_drop];have:=fin_digits h h0 0 0 (0-(((d.take k++46::d.drop k).length:Int)-((d.take k).length:Int)-1)) (by
      rw [List.length_append,List.length_cons,List.length_drop,hlk];omega)
    rw [List.replicate_zero,List.nil_append,List.append_nil] at this;exact this
  · rename_i h1 h2 h3
    obtain ⟨m,hm⟩:∃ m:Nat,(-x-(d.length:Int)).toNat=m/\(m:Int)=-x-(d.length:Int):=⟨_,rfl,by omega⟩;rw [hm.1];have hall:∀ c∈List.replicate m (48:UInt8)++d,isDigit c=true:=fun c hc=>by
      rcases List.mem_append.1 hc with hc | hc
      · exact rep_digit _ c hc
      · exact hf.all c hc
    have e:[48,46]++List.replicate m (48:UInt8)++d=[48]++46::(List.replicate m (48:UInt8)++d):=by simp
    rw [e,mant_none fun c hc=>by
      rcases List.mem_append.1 hc with hc | hc
      · rw [List.mem_singleton.1 hc];decide
      · rcases List.mem_cons.1 hc with rfl | hc
        · decide
        · exact dig_noE (hall c hc)]
    unfold point;rw [find_at 46 (by decide) _ [48] fun c hc=>by rw [List.mem_singleton.1 hc];decide];simp only
    have e2:([48]++46::(List.replicate m (48:UInt8)++d)).take ([48]:List UInt8).length++([48]++46::(List.replicate m (48:UInt8)++d)).drop (([48]:List UInt8).length+1)=List.replicate (m+1) 48++(d++List.replicate 0 48):=by
      simp [List.replicate_succ]
    rw [e2];refine fin_digits h h0 (m+1) 0 _ ?_;simp only [List.length_append,List.length_cons,List.length_nil,List.length_replicate]
    omega
theorem body_head {d:List UInt8} {x:Int} (h:Fine d x):∃ c t,nbody d x=c::t/\isDigit c=true:=by
  obtain ⟨c,t,hd⟩:∃ c t,d=c::t:=by
    cases hd:d with
    | nil=>exact absurd hd h.ne
    | cons c t=>exact ⟨c,t,rfl⟩
  have hc:=h.all c (by rw [hd];exact List.mem_cons_self ..);unfold nbody;split
  · exact ⟨c,_,by rw [hd];rfl,hc⟩
  split
  · exact ⟨c,_,by rw [hd];rfl,hc⟩
  split
  · rename_i h1 h2 h3
    obtain ⟨k,hk⟩:∃ k:Nat,((d.length:Int)+x).toNat=k+1:=⟨((d.length:Int)+x).toNat-1,by omega⟩;rw [hk,hd];exact ⟨c,_,rfl,hc⟩
  · exact ⟨48,_,rfl,by decide⟩
theorem parse_nprint {n:Bool} {d:List UInt8} {x:Int} (h:right n d x=true):parse (nprint n d x)=.ok (n,d,x):=by
  have hs:=scan_nprint h [] stops_nil;rw [List.append_nil] at hs;by_cases h0:d=[]
  · subst h0;unfold right at h;simp at h
    obtain ⟨rfl,rfl⟩:=h
    rfl
  · have hf:=fine_of h h0;obtain ⟨c,t,hb,hc⟩:=body_head hf;unfold parse;rw [if_neg (by
      rintro (e | e)
      · exact (run_nprint h).1 e
      · exact e hs),nprint_body n d x h0,<-mant_body h h0]
    have h45:((c::t).head? == some 45)=false:=by
      rw [List.head?_cons,beq_eq_false_iff_ne];intro e
      injection e with e
      subst e;exact absurd hc (by decide)
    cases n with
    | false=>
      show mant ((nbody d x).head? == some 45) _=_;have e:nfront false++nbody d x=nbody d x:=rfl;rw [e,hb,h45];rfl
    | true=>rfl
end Go.Proofs.YtliekocamnklfaaGreatDoor.Num
namespace Go.Proofs.YtliekocamnklfaaGreatDoor.Jdec
theorem str_back (d:ByteArray):(⟨d.data.toList.toArray⟩:ByteArray)=d:=by simp
end Go.Proofs.YtliekocamnklfaaGreatDoor.Jdec
namespace Go.Proofs.YtliekocamnklfaaGreatDoor.Num
end Go.Proofs.YtliekocamnklfaaGreatDoor.Num
namespace Go.Proofs.YtliekocamnklfaaGreatDoor.Jdec
theorem txt_valid2 {l:List UInt8} (h:Utf.Txt l):Utf.validB l=true:=by
  unfold Utf.validB;rw [h.good];rfl
/-! Sorted, it stays as it is. -/
end Go.Proofs.YtliekocamnklfaaGreatDoor.Jdec
