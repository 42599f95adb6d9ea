/- tabulariumref08.own of any value. (Written by gen/jenb.py.) -/
import Derived.Test.YtancjnedgddobaaGreatDoorHJenA
import Derived.Test.YtancjnedgddobaaGreatDoorHJenE
import Derived.Laws.StructEq
import Derived.Lib.LaidTab
import Derived.Lib.ItoaLen
import Derived.Lib.Repeat
import Derived.Shelf.Unicode.PredsPay
set_option linter.unusedVariables false
set_option linter.unusedSimpArgs false
set_option maxRecDepth 100000
namespace Go.Proofs.YtancjnedgddobaaGreatDoor.Jdec
open Go.RowKit Strs
structure OwnQ (k:Int) (is neg:Bool) (dig:ByteArray) (exp:Int) (str:ByteArray) (keys:List ByteArray) (n:Nat):Prop where
  k1:1<=k
  k6:k<=6
  is:k≠2->is=false
  num:k≠3->neg=false/\dig=⟨#[]⟩/\exp=0
  text:k≠4->str=⟨#[]⟩
  kids:k<5->n=0
  noKeys:k≠6->keys=[]
  right:Num.right neg dig.data.toList exp=true
  valid:Utf.validB str.data.toList=true
  both:k=6->keys.length=n
  words:∀ x∈keys,Utf.validB x.data.toList=true
  apart:keys.Nodup
theorem toList_nil {s:ByteArray} (h:s≠⟨#[]⟩):s.toList.isEmpty=false:=by
  rw [ByteArray.toList_eq]
  cases s with
  | mk a=>
    rw [List.isEmpty_eq_false_iff];intro e
    exact h (by rw [ByteArray.mk.injEq];exact Array.toList_inj.1 e)
theorem take_nodup {ks:List ByteArray} {i:Nat} (h:i<ks.length) (hn:(ks.take i).Nodup) (hx:∀ j (hj:j<i),ks[j]'(by omega)≠ks[i]):(ks.take (i+1)).Nodup:=by
  rw [List.take_add_one,List.getElem?_eq_getElem h];show (ks.take i++[ks[i]]).Nodup;rw [List.nodup_append];refine ⟨hn,by simp,fun a ha b hb e=>?_⟩;rw [List.mem_singleton.1 hb] at e;obtain ⟨j,hj,rfl⟩:=List.getElem_of_mem ha;rw [List.length_take] at hj;exact hx j (by omega) (by rw [<-e,List.getElem_take])
inductive GoodQ:JV->Prop where
  | mk (k:Int) (i n:Bool) (d:ByteArray) (e:Int) (s:ByteArray) (ks:List ByteArray) (vs:List JV):OwnQ k i n d e s ks vs.length->(∀ j (h:j<vs.length),GoodQ vs[j])->GoodQ (.mk k i n d e s ks vs)
theorem held_small {N:Nat} {t:JV} (h:Held N t):Small N t:=by
  induction h with
  | mk k i n d e s ks vs h1 h2 h3 h4 h5 h6 ih=>exact .mk k i n d e s ks vs h3 h4 ih
theorem makeMap_hint (n:Int):∀ w,Sem.run Tryz.prog (Instr.makeMap 238 (some (.int .i64 n))) w=.ok (.map (some w.heap.size)) (w.alloc (.map #[] 0)):=fun w=>by
  simp [Instr.makeMap,run_underlying Tryz.underlying238,asInt,asIntOf,Result.andThen]
theorem holds_5 (w:World):Calls Tryz.prog 223 #[.int .i64 5] w fun e w'=>e=.returned (.bool true)/\w=w':=by
  go_enter Tryz.func223,Tryz.ntmps223
  go_wp2_with fail
  go_ret
  exact ⟨rfl,rfl⟩
theorem holds_6 (w:World):Calls Tryz.prog 223 #[.int .i64 6] w fun e w'=>e=.returned (.bool true)/\w=w':=by
  go_enter Tryz.func223,Tryz.ntmps223
  go_wp2_with fail
  go_ret
  exact ⟨rfl,rfl⟩
theorem pright_call (n:Bool) (d:ByteArray) (x:Int) (h:Num.right n d.data.toList x=true) (w:World):Calls Tryz.prog 177 #[.agg #[.bool n,.string d,.int .i64 x]] w fun e w'=>e=.returned (.bool true)/\Below w.heap.size w w':=by
  have hd:d.size<=1000:=by have:=right_size h;simpa using this
  have:=Num.right_any n d x w (by omega);rw [h] at this;exact this
def Pow10 (w:World):Prop:=Lib.TabIs Tryz.prog w "internal/strconv.uint64pow10" .u64 Lib.pow10Tab
theorem Pow10.stays {w w':World} (T:Pow10 w) (h:Below w.heap.size w w'):Pow10 w':=TabIs_below (g:=1) (by kernel_rfl) T h
def nfront (neg:Bool):List UInt8:=if neg then [45] else []
def nprint (neg:Bool) (d:List UInt8) (x:Int):List UInt8:=
  if d=[] then [48]
  else if 0<=x/\x<=20 then nfront neg++d++List.replicate x.toNat 48
  else if x < -20∨20<x then nfront neg++d++101::Lib.itoa x
  else if -x<(d.length:Int) then nfront neg++d.take ((d.length:Int)+x).toNat++46::d.drop ((d.length:Int)+x).toNat
  else nfront neg++[48,46]++List.replicate (-x-(d.length:Int)).toNat 48++d
theorem repeat0:∀ c,Lib.repeatL [48] c=List.replicate c 48
  | 0=>rfl
  | c+1=>by rw [Lib.repeatL,repeat0 c];rfl
theorem right_bounds {n:Bool} {d:List UInt8} {x:Int} (h:Num.right n d x=true):d.length<=1000/\-10000<=x/\x<=10000/\(d=[]->n=false/\x=0):=by
  unfold Num.right at h;split at h
  · rename_i h0;subst h0;simp at h;obtain ⟨h1,h2⟩:=h;simp [h1,h2]
  · split at h
    · cases h
    · rename_i h0 h1
      exact ⟨by omega,by omega,by omega,fun e=>absurd e h0⟩
def RepP (c:Nat) (w:World) (e:Ending) (w':World):Prop:=∃ r:ByteArray,e=.returned (.string r)/\r.data.toList=List.replicate c 48/\Below w.heap.size w w'
theorem RepP.to {c:Nat} {w w':World} {e:Ending} (h:RepP c w e w'):∃ r:ByteArray,e=.returned (.string r)/\Hid (r.data.toList=List.replicate c 48)/\r.size=c/\Below w.heap.size w w':=by
  obtain ⟨r,h1,h2,h3⟩:=h;exact ⟨r,h1,h2,by have:=congrArg List.length h2;simpa using this,h3⟩
theorem rep0_any (c:Nat) (hc:c<=2000) (w:World):Calls Tryz.prog 179 #[.string ⟨#[48]⟩,.int .i64 c] w (RepP c w):=
  (Tryz.strings_Repeat ⟨#[48]⟩ c w (by omega) (by simp [ByteArray.size];omega)).mono fun e w' ⟨h1,h2⟩=>⟨_,h1,by simp [repeat0],h2⟩
inductive Fine:JV->Prop where
  | mk (k:Int) (i n:Bool) (d:ByteArray) (e:Int) (s:ByteArray) (ks:List ByteArray) (vs:List JV):d.size<=1200->s.size<=6000->(∀ x∈ks,x.size<=6000)->(∀ j (h:j<vs.length),Fine vs[j])->Fine (.mk k i n d e s ks vs)
mutual
def JV.mass:JV->Nat
  | .mk _ _ _ _ _ _ ks vs=>1+ks.length+masses vs
def masses:List JV->Nat
  | []=>0
  | v::t=>v.mass+masses t
end
theorem masses_nil:masses []=0:=by rw [masses]
theorem masses_cons (v:JV) (t:List JV):masses (v::t)=v.mass+masses t:=by rw [masses]
theorem mass_mk (k:Int) (i n:Bool) (d:ByteArray) (e:Int) (s:ByteArray) (ks:List ByteArray) (vs:List JV):(JV.mk k i n d e s ks vs).mass=1+ks.length+masses vs:=by rw [JV.mass]
theorem deepN_mk (k:Int) (i n:Bool) (d:ByteArray) (e:Int) (s:ByteArray) (ks:List ByteArray) (vs:List JV):(JV.mk k i n d e s ks vs).deepN=(if k=5∨k=6 then deepNs vs else 0)+1:=by rw [JV.deepN]
theorem keysRoom_fine:∀ (ks:List ByteArray) (l r:Int),keysRoom ks l=some r->0<=r->∀ x∈ks,x.size<=6000
  | [],l,r,h,hr,x,hx=>by cases hx
  | k::t,l,r,h,hr,x,hx=>by
    unfold keysRoom at h;split at h
    · injection h with h;omega
    · split at h
      · cases h
      · rcases List.mem_cons.1 hx with rfl | hx
        · omega
        · exact keysRoom_fine t _ r h hr x hx
mutual
theorem room_fine (v:JV) (dp l:Int) (hl:0<=l) (h:0<=v.room dp l):Fine v/\(v.mass:Int)+v.room dp l<=l/\dp<=70/\(v.deepN:Int)+dp<=71:=by
  cases v with
  | mk k is ng d e s ks vs=>
    rw [JV.room] at h ⊢;by_cases hc:70<dp∨2000<s.size∨1200<d.size
    · rw [if_pos hc] at h;omega
    · rw [if_neg hc] at h ⊢
      cases hk:keysRoom ks (l-1-(ks.length:Int)-(((s.size+d.size) / 50:Nat):Int)) with
      | none=>rw [hk] at h;simp only at h;omega
      | some r=>
        rw [hk] at h;simp only at h ⊢
        have h1:=keysRoom_le _ _ _ hk;have hr0:0<=r:=by
          by_cases hr:r<0
          · rw [roomsL_neg _ _ _ hr] at h;exact h
          · omega
        have hkf:=keysRoom_fine _ _ _ hk hr0;obtain ⟨f1,f2,f3⟩:=rooms_fine vs (dp+1) r hr0 h;refine ⟨.mk k is ng d e s ks vs (by omega) (by omega) hkf f1,?_,by omega,?_⟩
        · rw [mass_mk];omega
        · rw [deepN_mk];split
          · rcases f3 with f3 | f3
            · rw [f3,deepNs_nil];omega
            · omega
          · omega
theorem rooms_fine (vs:List JV) (dp l:Int) (hl:0<=l) (h:0<=roomsL vs dp l):(∀ j (hj:j<vs.length),Fine vs[j])/\(masses vs:Int)+roomsL vs dp l<=l/\(vs=[]∨(deepNs vs:Int)+dp<=71):=by
  cases vs with
  | nil=>rw [roomsL_nil];exact ⟨fun j hj=>absurd hj (Nat.not_lt_zero _),by rw [masses_nil];omega,.inl rfl⟩
  | cons v t=>
    rw [roomsL_next _ _ _ _ hl] at h ⊢;have hv0:0<=v.room dp l:=by
      by_cases hr:v.room dp l<0
      · rw [roomsL_neg _ _ _ hr] at h;exact h
      · omega
    obtain ⟨a1,a2,a3,a4⟩:=room_fine v dp l hl hv0;obtain ⟨b1,b2,b3⟩:=rooms_fine t dp _ hv0 h;refine ⟨fun j hj=>?_,by rw [masses_cons];omega,.inr ?_⟩
    · cases j with
      | zero=>exact a1
      | succ j=>exact b1 j (by simpa using hj)
    · rw [deepNs_cons];rcases b3 with b3 | b3
      · rw [b3,deepNs_nil];omega
      · omega
end
theorem great_no (t:JV) (h:¬ t.room 1 400<0):Fine t/\t.mass<=400/\t.deepN<=70:=by
  obtain ⟨h1,h2,_,h4⟩:=room_fine t 1 400 (by omega) (by omega);exact ⟨h1,by omega,by omega⟩
end Go.Proofs.YtancjnedgddobaaGreatDoor.Jdec
