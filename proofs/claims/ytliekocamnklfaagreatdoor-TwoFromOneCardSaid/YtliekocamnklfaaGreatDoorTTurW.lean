/- one.of, one.holds, one.each, and what they ask. -/
import Derived.Test.YtliekocamnklfaaGreatDoorTOnW
import Derived.Test.YtliekocamnklfaaGreatDoorTJenM
import Derived.Shelf.Abstract
import Derived.Deep.RegionHeld
set_option linter.unusedVariables false
set_option linter.unusedSimpArgs false
set_option maxRecDepth 100000
set_option maxHeartbeats 4000000
namespace Go.Proofs.YtliekocamnklfaaGreatDoor.One
open Go.RowKit Strs Jdec Save Go.Proofs.YtliekocamnklfaaGreatDoor.Addr
def BoolP (b:Bool) (w:World) (e:Ending) (w':World):Prop:=e=.returned (.bool b)/\Below w.heap.size w w'
theorem BoolP.to {b:Bool} {w w':World} {e:Ending} (h:BoolP b w e w'):e=.returned (.bool b)/\Hid (Below w.heap.size w w'):=h
theorem own8 (w:World) (r:Raw):∃ w1,w.alloc (.cells #[.int .i64 r.kind,.bool r.is,.bool r.neg,.string r.dig,.int .i64 r.exp,.string r.str,.slice r.ka r.kn r.kc,.slice r.va r.vn r.vc] 29)=w1/\Hid (w1.heap[w.heap.size]?=some (.cells r.arr 29 (0,0)))/\Hid (Below w.heap.size w w1):=own_new w r
theorem of_any (t:JV) (hg:GoodQ t) (hm:t.mass<=3000) (ra:Raw) (A B:Nat->Prop) (w:World) (hi:IsV w A ra t) (js:List ByteArray) (hj:js.length<=10) (ja:Option Addr) (jc:Nat) (ht:IsTexts w B ja js):Calls Tryz.prog 51 #[ra.val,.slice ja js.length jc] w (BoolP (ofB t js) w):=by
  have HG:Hid (∀ (w':World) (x:ByteArray),Below w.heap.size w w'->Calls Tryz.prog 43 #[ra.val,.string x] w' (GetP t x (fun b=>w'.heap.size<=b) w')):=fun w' x hb=>tget_is t hg hm ra A w' (hi.behind hb) x;have HTX:Hid (∀ w',Below w.heap.size w w'->IsTexts w' B ja js):=fun w' h=>ht.turn (Turn.below h);obtain ⟨ok,hok⟩:∃ b,ofB t js=b:=⟨_,rfl⟩;rw [hok];have HOK:=Hid.out (p:=Hid _) hok
  cases t with
  | mk k is ng d e s ks vs=>
  obtain ⟨ka,kc,va,vc,rfl,_,f,_,_⟩:=hi.parts;rw [mass_mk] at hm;obtain ⟨w2,hw2,V2,B2⟩:=own8 w (Raw.mk k is ng d e s ka ks.length kc va vs.length vc);have HKL:Hid (ks.length<=3000):=by rw [Hid];omega
  clear hi ht hok hm hg;unfold Raw.val at HG ⊢;obtain ⟨⟨x0,x1,x2,x3,x4,x5,x6,x7⟩,_⟩:=val_cells V2.out;by_cases h6:k=6
  case neg=>
    have nk:(k != 6)=true:=by rw [bne_iff_ne];exact h6
    obtain rfl:false=ok:=by rw [<-HOK.out,ofB,show kindOf (.mk k is ng d e s ks vs)=k from rfl,decide_eq_false h6];rfl
    clear h6;go_enter Tryz.func51,Tryz.ntmps51
    go_wp2_with fail
    go_ret
    exact ⟨rfl,B2.out⟩
  case pos=>
  subst h6;have nk:((6:Int) != 6)=false:=by decide
  by_cases hn:ks.length=js.length
  case neg=>
    have nn:((ks.length:Int) != (js.length:Int))=true:=by rw [bne_iff_ne];omega
    obtain rfl:false=ok:=by rw [<-HOK.out,ofB,show (keysJ (.mk 6 is ng d e s ks vs))=ks from rfl,decide_eq_false hn];simp
    clear hn;go_enter Tryz.func51,Tryz.ntmps51
    go_wp2_with fail
    go_ret
    exact ⟨rfl,B2.out⟩
  case pos=>
  have nn:((ks.length:Int) != (js.length:Int))=false:=by rw [hn];simp
  have HOK2:Hid (js.all (fun x=>(look (.mk 6 is ng d e s ks vs) x).isSome)=ok):=by
    rw [<-HOK.out,ofB,show (keysJ (.mk 6 is ng d e s ks vs))=ks from rfl,decide_eq_true hn];rfl
  have HN:=Hid.out (p:=Hid _) hn;clear hn HOK;go_enter Tryz.func51,Tryz.ntmps51
  go_wp2_with fail
  clear x0 x1 x2 x3 x4 x5 x6 x7
  go_loopw [22] (fun p wr=>∃ i:Nat,p=.int .i64 i/\i<=js.length/\Hid ((js.take i).all (fun x=>(look (.mk 6 is ng d e s ks vs) x).isSome)=true)/\Hid (Below w2.heap.size w2 wr)) (fun p _=>js.length-(intOf p).toNat)
  case atStart=>exact ⟨0,rfl,Nat.zero_le _,rfl,Below.refl _ _⟩
  case round=>
    obtain ⟨i,rfl,hi,hA,hB⟩:=hrel;have V3:=hst V2 hB;have B3:=bel B2 hB;obtain ⟨⟨x0,x1,x2,x3,x4,x5,x6,x7⟩,_⟩:=val_cells V3.out;by_cases hlt:i<js.length
    · have hne:js≠[]:=fun e=>by rw [e] at hlt;simp at hlt
      obtain ⟨jb,jo,rfl,_,hjb,hjc⟩:=(HTX.out wr B3.out).resolve_left hne;have c1:=hjc i hlt;obtain ⟨x,hx⟩:∃ x,js[i]=x:=⟨_,rfl⟩;rw [hx] at c1;have htk:js.take (i+1)=js.take i++[x]:=by rw [List.take_add_one,List.getElem?_eq_getElem hlt,hx];rfl
      obtain ⟨b,hb⟩:∃ b,(look (.mk 6 is ng d e s ks vs) x).isSome=b:=⟨_,rfl⟩;have HM:Hid (b=true->(js.take (i+1)).all (fun x=>(look (.mk 6 is ng d e s ks vs) x).isSome)=true):=fun h=>by rw [htk,List.all_append,hA.out,List.all_cons,List.all_nil,hb,h];rfl
      have HF:Hid (b=false->ok=false):=fun h=>by
        rw [<-HOK2.out,List.all_eq_false];exact ⟨x,by rw [<-hx];exact List.getElem_mem hlt,by rw [hb,h];simp⟩
      have HGX:=Hid.out (p:=Hid _) (HG.out wr x B3.out);have HBB:=Hid.out (p:=Hid _) hb;clear hjc hx htk hb;go_wp2_with fail
      refine (Calls.mono HGX.out ?_);rintro z w4 hz;obtain ⟨rr,rfl,hr,B4⟩:=hz.to;rw [HBB.out];obtain ⟨w5,hw5,V5,B5⟩:=own8 w4 rr;have B25:=bel (bel hB B4) B5;clear hz x0 x1 x2 x3 x4 x5 x6 x7;unfold Raw.val;cases b
      case false=>
        obtain rfl:=HF.out rfl;go_wp2_with fail
        go_ret
        exact ⟨rfl,(bel B2 B25).out⟩
      case true=>
        have M:=Hid.out (p:=Hid _) (HM.out rfl);clear HM HF;go_wp2_with fail
        go_roundw
        case rel=>exact ⟨i+1,by go_num,by omega,M.out,B25.out⟩
        case measure=>simp [intOf];omega
    · obtain rfl:true=ok:=by rw [<-HOK2.out,<-hA.out,List.take_of_length_le (by omega)]
      go_wp2_with fail
      go_ret
      exact ⟨rfl,B3.out⟩
theorem holds_any (K:Nat) (hE:Go.Proofs.Enters Tryz.prog K) (t:JV) (hg:GoodQ t) (hm:t.mass<=3000) (ra:Raw) (A:Nat->Prop) (w:World) (hi:IsV w A ra t) (x:ByteArray) (ok:Bool)
    (hK:∀ (rr:Raw) (w':World),Below w.heap.size w w'->IsV w' (fun _=>True) rr (got t x)->(look t x).isSome=true->Calls Tryz.prog K #[rr.val] w' (BoolP ok w')) :
    Calls Tryz.prog 52 #[ra.val,.string x,.func (.func K) #[] #[]] w (BoolP ((look t x).isSome && ok) w):=by
  have HG:Hid (∀ (w':World),Below w.heap.size w w'->Calls Tryz.prog 43 #[ra.val,.string x] w' (GetP t x (fun b=>w'.heap.size<=b) w')):=fun w' hb=>tget_is t hg hm ra A w' (hi.behind hb) x;have HK:=Hid.out (p:=Hid _) hK;obtain ⟨w2,hw2,V2,B2⟩:=own8 w ra;have HGX:=Hid.out (p:=Hid _) (HG.out w2 B2.out);clear hi hm hg hK;unfold Raw.val at HGX ⊢;obtain ⟨⟨x0,x1,x2,x3,x4,x5,x6,x7⟩,_⟩:=val_cells V2.out;go_enter Tryz.func52,Tryz.ntmps52
  go_wp2_with fail
  refine (Calls.mono HGX.out ?_);rintro z w4 hz;obtain ⟨rr,rfl,hr,B4⟩:=hz.to;obtain ⟨b,hb⟩:∃ b,(look t x).isSome=b:=⟨_,rfl⟩;rw [hb];have HBB:=Hid.out (p:=Hid _) hb;obtain ⟨w5,hw5,V5,B5⟩:=own8 w4 rr;have B45:=bel (bel B2 B4) B5;have hr5:=Hid.out (p:=Hid _) ((hr.out.behind B5.out).turn (Turn.mono _ fun _ _ _=>trivial));clear hz x0 x1 x2 x3 x4 x5 x6 x7 hb hw2;unfold Raw.val;cases b
  case false=>
    go_wp2_with fail
    go_ret
    exact ⟨by rw [HBB.out];rfl,B45.out⟩
  case true=>
    have HC:=Hid.out (p:=Hid _) (HK.out rr w5 B45.out hr5.out HBB.out);unfold Raw.val at HC;obtain ⟨⟨x0,x1,x2,x3,x4,x5,x6,x7⟩,_⟩:=val_cells V5.out;have hEE:=hE;unfold Go.Proofs.Enters at hEE;go_wp2_with (go_at_fn K;refine (Calls.mono HC.out ?_);rintro z w6 hz;obtain ⟨rfl,B6⟩:=hz.to)
    go_wp2
    go_ret
    exact ⟨by rw [HBB.out];simp,(bel B45 B6).out⟩
theorem each_any (K:Nat) (hE:Go.Proofs.Enters Tryz.prog K) (f:JV->Bool) (t:JV) (hm:t.mass<=3000) (ra:Raw) (A:Nat->Prop) (w:World) (hi:IsV w A ra t)
    (hK:∀ v∈kidsJ t,∀ (rr:Raw) (w':World),Below w.heap.size w w'->IsV w' (fun _=>True) rr v->Calls Tryz.prog K #[rr.val] w' (BoolP (f v) w')) :
    Calls Tryz.prog 102 #[ra.val,.func (.func K) #[] #[]] w (BoolP (eachB f t) w):=by
  have HK:=Hid.out (p:=Hid _) hK
  cases t with
  | mk k is ng d e s ks vs=>
  obtain ⟨ka,kc,va,vc,rfl,_,F,hc,hv⟩:=hi.parts;rw [mass_mk] at hm;have hvl:=masses_len vs;obtain ⟨ok,hok⟩:∃ b,eachB f (.mk k is ng d e s ks vs)=b:=⟨_,rfl⟩;rw [hok];have HOK:=Hid.out (p:=Hid _) hok;obtain ⟨w2,hw2,V2,B2⟩:=own8 w (Raw.mk k is ng d e s ka ks.length kc va vs.length vc);have HC:=Hid.out (p:=Hid _) hc;have HV:Hid (∀ i (h:i<vs.length),IsV w (fun _=>True) (F i) vs[i]):=fun i h=>(hv i h).turn (Turn.mono _ fun _ _ _=>trivial);have HVL:Hid (vs.length<=3000):=by rw [Hid];omega
  clear hi hok hm hK hc hv hvl;unfold Raw.val;obtain ⟨⟨x0,x1,x2,x3,x4,x5,x6,x7⟩,_⟩:=val_cells V2.out;by_cases h6:k=6
  case neg=>
    have nk:(k != 6)=true:=by rw [bne_iff_ne];exact h6
    obtain rfl:false=ok:=by rw [<-HOK.out,eachB,show kindOf (.mk k is ng d e s ks vs)=k from rfl,decide_eq_false h6];rfl
    clear h6;go_enter Tryz.func102,Tryz.ntmps102
    go_wp2_with fail
    go_ret
    exact ⟨rfl,B2.out⟩
  case pos=>
  subst h6;have nk:((6:Int) != 6)=false:=by decide
  have HOK2:Hid (vs.all f=ok):=by rw [<-HOK.out];rfl
  clear HOK;go_enter Tryz.func102,Tryz.ntmps102
  go_wp2_with fail
  clear x0 x1 x2 x3 x4 x5 x6 x7
  go_loopw [13] (fun p wr=>∃ i:Nat,p=.int .i64 i/\i<=vs.length/\Hid ((vs.take i).all f=true)/\Hid (Below w2.heap.size w2 wr)) (fun p _=>vs.length-(intOf p).toNat)
  case atStart=>exact ⟨0,rfl,Nat.zero_le _,rfl,Below.refl _ _⟩
  case round=>
    obtain ⟨i,rfl,hi,hA,hB⟩:=hrel;have hvl:=HVL.out;have B3:=bel B2 hB;by_cases hlt:i<vs.length
    · have hne:vs≠[]:=fun e=>by rw [e] at hlt;simp at hlt
      obtain ⟨g,o,rfl,hgb,hcs⟩:=HC.out.resolve_left hne;have K1:CellsAt wr g (o+i*8) (F i):=(hcs i hlt).below hgb B3.out;obtain ⟨w4,hw4,V4,B4⟩:=own8 wr (F i);have I1:=Hid.out (p:=Hid _) (((HV.out i hlt).behind B3.out).behind B4.out);obtain ⟨b,hb⟩:∃ b,f vs[i]=b:=⟨_,rfl⟩;have htk:vs.take (i+1)=vs.take i++[vs[i]]:=by rw [List.take_add_one,List.getElem?_eq_getElem hlt];rfl
      have HM:Hid (b=true->(vs.take (i+1)).all f=true):=fun h=>by rw [htk,List.all_append,hA.out,List.all_cons,List.all_nil,hb,h];rfl
      have HF:Hid (b=false->ok=false):=fun h=>by
        rw [<-HOK2.out,List.all_eq_false];exact ⟨vs[i],List.getElem_mem hlt,by rw [hb,h];simp⟩
      have hcall:=HK.out vs[i] (List.getElem_mem hlt) (F i) w4 (bel B3 B4).out I1.out;rw [hb] at hcall;have HCL:=Hid.out (p:=Hid _) hcall;have B24:=bel hB B4;clear hcs htk hb hcall I1;generalize F i=z at *;unfold Raw.val at HCL;obtain ⟨u0,u1,u2,u3,u4,u5,u6,u7⟩:=K1.eight;obtain ⟨⟨x0,x1,x2,x3,x4,x5,x6,x7⟩,_⟩:=val_cells V4.out;clear K1;have hEE:=hE;unfold Go.Proofs.Enters at hEE;cases b
      case false=>
        obtain rfl:=HF.out rfl;go_wp2_with (go_at_fn K;refine (Calls.mono HCL.out ?_);rintro z w6 hz;obtain ⟨rfl,B6⟩:=hz.to)
        go_ret
        exact ⟨rfl,(bel B2 (bel B24 B6)).out⟩
      case true=>
        have M:=Hid.out (p:=Hid _) (HM.out rfl);clear HM HF;go_wp2_with (go_at_fn K;refine (Calls.mono HCL.out ?_);rintro z w6 hz;obtain ⟨rfl,B6⟩:=hz.to)
        go_roundw
        case rel=>exact ⟨i+1,by go_num,by omega,M.out,(bel B24 B6).out⟩
        case measure=>simp [intOf];omega
    · obtain rfl:true=ok:=by rw [<-HOK2.out,<-hA.out,List.take_of_length_le (by omega)]
      go_wp2_with fail
      go_ret
      exact ⟨rfl,B3.out⟩
end Go.Proofs.YtliekocamnklfaaGreatDoor.One
namespace Go.Proofs.YtliekocamnklfaaGreatDoor.Jdec
open Go.RowKit Strs
theorem cellsIn {w:World} {b:Nat} {r:Raw} {T:TypeId} (h:w.heap[b]?=some (.cells r.arr T (0,0))):CellsAt w b 0 r:=fun j u hu=>by
  rw [Nat.zero_add,cell_of h j];rw [<-hu];simp [Raw.arr,Raw.cells]
theorem rows_apart {w:World} {B B':Nat} {e e':TypeId} {m m' n n':Nat} {v v':Value} {xs xs':List Value} (h:w.ownsRow B e m v n xs) (h':w.ownsRow B' e' m' v' n' xs') (hne:e≠e') (hv:v.ownBlock≠none):v'.ownBlock≠v.ownBlock:=by
  intro he
  rcases h.2 with ⟨rfl,_⟩ | ⟨g,cap,cur,rfl,_,hg,_⟩
  · exact hv rfl
  rcases h'.2 with ⟨rfl,_⟩ | ⟨g',cap',cur',rfl,_,hg',_⟩
  · cases he
  simp [Value.ownBlock] at he
  subst he;rw [hg] at hg';simp at hg'
  exact hne hg'.2
theorem row_stray {w:World} {B:Nat} {e e':TypeId} {m n p:Nat} {v:Value} {xs:List Value} {c:Array Value} {r:Nat × Nat} (h:w.ownsRow B e m v n xs) (hp:w.heap[p]?=some (.cells c e' r)) (hne:e≠e'):some p≠v.ownBlock:=by
  intro he
  rcases h.2 with ⟨rfl,_⟩ | ⟨g,cap,cur,rfl,_,hg,_⟩
  · cases he
  simp [Value.ownBlock] at he
  subst he;rw [hg] at hp;simp at hp
  exact hne hp.2.1
structure Mid (w0:World) (bw:Nat) (blk:Obj) (key:ByteArray) (x:Raw) (TA TB:Option Nat) (vk:Value) (lk:List ByteArray) (vv:Value) (lv:List Raw) (w:World):Prop where
  keys:w.ownsRow (bw+1) 9 1 vk lk.length (lk.map Value.string)
  kids:w.ownsRow (bw+1) 29 8 vv lv.length (lv.flatMap Raw.cells)
  own:w.heap[bw]?=some blk
  below:Below bw w0 w
  ta:∀ p,TA=some p->w.heap[p]?=some (.cells #[.string key] 9 (0,0))
  tb:∀ p,TB=some p->w.heap[p]?=some (.cells x.arr 29 (0,0))/\some p≠vv.ownBlock
variable {w0:World} {bw:Nat} {blk:Obj} {key:ByteArray} {x:Raw} {TA TB:Option Nat} {vk:Value} {lk:List ByteArray} {vv:Value} {lv:List Raw} {w:World}
theorem Mid.lt (h:Mid w0 bw blk key x TA TB vk lk vv lv w):bw<w.heap.size:=heap_lt h.own
theorem Mid.again (h:Mid w0 bw blk key x TA TB vk lk vv lv w) (key':ByteArray) (x':Raw):Mid w0 bw blk key' x' none none vk lk vv lv w:=⟨h.keys,h.kids,h.own,h.below,fun p hp=>(by cases hp),fun p hp=>(by cases hp)⟩
theorem Mid.allocA (h:Mid w0 bw blk key x none TB vk lk vv lv w):Mid w0 bw blk key x (some w.heap.size) TB vk lk vv lv (w.alloc (.cells #[.string key] 9)):=
  ⟨h.keys.alloc _,h.kids.alloc _,(Below.heap_alloc _ _ _ h.lt).trans h.own,h.below.alloc (Nat.le_of_lt h.lt) _,fun p hp=>by injection hp with hp;subst hp;exact heap_alloc_new _ _,fun p hp=>⟨(Below.heap_alloc _ _ _ (heap_lt (h.tb p hp).1)).trans (h.tb p hp).1,(h.tb p hp).2⟩⟩
theorem Mid.allocB (h:Mid w0 bw blk key x TA none vk lk vv lv w):Mid w0 bw blk key x TA (some w.heap.size) vk lk vv lv (w.alloc (.cells x.arr 29)):=
  ⟨h.keys.alloc _,h.kids.alloc _,(Below.heap_alloc _ _ _ h.lt).trans h.own,h.below.alloc (Nat.le_of_lt h.lt) _,fun p hp=>(Below.heap_alloc _ _ _ (heap_lt (h.ta p hp))).trans (h.ta p hp),fun p hp=>by
    injection hp with hp;subst hp
    exact ⟨heap_alloc_new _ _,fun e=>by have:=h.kids.lt _ e.symm;omega⟩⟩
theorem ownSlice {w:World} {B:Nat} {T:TypeId} {m n:Nat} {v:Value} {xs:List Value} (h:w.ownsRow B T m v n xs):∃ a c,v=.slice a n c:=by
  rcases h.2 with ⟨rfl,rfl⟩ | ⟨g,cap,cur,rfl,_⟩
  · exact ⟨_,_,rfl⟩
  · exact ⟨_,_,rfl⟩
theorem Mid.appA {p:Nat} {c0:Array Value} (h:Mid w0 bw blk key x (some p) TB vk lk vv lv w) (hb:blk=.cells c0 29 (0,0)) (hl:lk.length<=3000):∃ ka kc w',(Builtin.append_ #[26,26] 26 #[vk,.slice (some ⟨p,0,none⟩) 1 1]).run Tryz.prog w=.ok (.slice ka (lk++[key]).length kc) w'/\Mid w0 bw blk key x none TB (.slice ka (lk++[key]).length kc) (lk++[key]) vv lv w':=by
  subst hb;obtain ⟨i0,hi,hz0,hz1,hz2⟩:=info_parts infoStr;have hp:=h.ta p rfl
  obtain ⟨v',w',hr,ho,hg,_⟩:=run_append_own (P:=Tryz.prog) w (bw+1) 26 26 9 i0 (.string ⟨#[]⟩) 1 16 Tryz.underlying26 hi hz0 hz1 hz2 rfl (by decide) vk lk.length (lk.map Value.string) h.keys ⟨p,0,none⟩ 1 1 [.string key] rfl (fun j u hu=>by
      match j,hu with
      | 0,hu=>injection hu with hu;subst hu;simp [Addr.add,World.cell?,hp]) (fun u hu=>by rw [List.mem_singleton.1 hu];rfl) (by unfold maxLen;omega) (by omega) h.lt
  have hlen:lk.length+1=(lk++[key]).length:=by simp
  have hmap:lk.map Value.string++[.string key]=(lk++[key]).map Value.string:=by simp
  rw [hlen,hmap] at ho;obtain ⟨a,c,rfl⟩:=ownSlice ho;have far:∀ k,k<w.heap.size->some k≠vk.ownBlock->w'.heap[k]?=w.heap[k]?:=hg.block;refine ⟨a,c,w',hr,ho,h.kids.kept hg ?_,(far _ h.lt (row_stray h.keys h.own (by decide))).trans h.own,h.below.grown hg (Nat.le_of_lt h.lt) (fun k hk=>by have:=(h.keys.lt k hk).1;omega),fun q hq=>(by cases hq),fun q hq=>⟨(far q (heap_lt (h.tb q hq).1) (row_stray h.keys (h.tb q hq).1 (by decide))).trans (h.tb q hq).1,(h.tb q hq).2⟩⟩;by_cases hn:vv.ownBlock=none
  · exact .inl hn
  · exact .inr (fun e=>(rows_apart h.kids h.keys (by decide) hn) e.symm)
theorem Mid.appB {p:Nat} (h:Mid w0 bw blk key x none (some p) vk lk vv lv w) (hl:lv.length<=3000):∃ va vc w',(Builtin.append_ #[27,27] 27 #[vv,.slice (some ⟨p,0,none⟩) 1 1]).run Tryz.prog w=.ok (.slice va (lv++[x]).length vc) w'/\Mid w0 bw blk key x none none vk lk (.slice va (lv++[x]).length vc) (lv++[x]) w':=by
  obtain ⟨i0,hi,hz0,hz1,hz2⟩:=info_parts infoKid;obtain ⟨hp,hpn⟩:=h.tb p rfl
  obtain ⟨v',w',hr,ho,hg,_⟩:=run_append_own (P:=Tryz.prog) w (bw+1) 27 27 29 i0 _ 8 112 Tryz.underlying27 hi hz0 hz1 hz2 rfl (by decide) vv lv.length (lv.flatMap Raw.cells) h.kids ⟨p,0,none⟩ 1 1 x.cells rfl (fun j u hu=>by
      have e:(⟨p,0,none⟩:Addr).add j=⟨p,0+j,none⟩:=by unfold Addr.add;split <;> simp_all
      rw [e];exact cellsIn hp j u hu) (fun u hu=>by
      simp only [Raw.cells,List.mem_cons,List.mem_nil_iff,or_false] at hu
      rcases hu with rfl | rfl | rfl | rfl | rfl | rfl | rfl | rfl <;> rfl) (by unfold maxLen;omega) (by omega) h.lt
  have hlen:lv.length+1=(lv++[x]).length:=by simp
  have hmap:lv.flatMap Raw.cells++x.cells=(lv++[x]).flatMap Raw.cells:=by simp
  rw [hlen,hmap] at ho;obtain ⟨a,c,rfl⟩:=ownSlice ho;have far:∀ k,k<w.heap.size->some k≠vv.ownBlock->w'.heap[k]?=w.heap[k]?:=hg.block;have hbw:some bw≠vv.ownBlock:=fun e=>by have:=(h.kids.lt bw e.symm).1;omega
  refine ⟨a,c,w',hr,h.keys.kept hg ?_,ho,(far _ h.lt hbw).trans h.own,h.below.grown hg (Nat.le_of_lt h.lt) (fun k hk=>by have:=(h.kids.lt k hk).1;omega),fun q hq=>(by cases hq),fun q hq=>(by cases hq)⟩;by_cases hn:vk.ownBlock=none
  · exact .inl hn
  · exact .inr (fun e=>(rows_apart h.keys h.kids (by decide) hn) e.symm)
end Go.Proofs.YtliekocamnklfaaGreatDoor.Jdec
