/- Two lists that are turned: what is appended to both, while a statement draws its order. -/
import Derived.Test.YtliekocamnklfaaGreatDoorKJenM
import Derived.Test.YtliekocamnklfaaGreatDoorKRegG
set_option linter.unusedVariables false
set_option linter.unusedSimpArgs false
set_option maxRecDepth 100000
namespace Go.Proofs.YtliekocamnklfaaGreatDoor.Jdec
open Go.RowKit Strs
def turn {α:Type} (l:List α) (d:α) (b i:Nat):List α:=(List.range i).map fun j=>l.getD ((j+b) % l.length) d
theorem turn_len {α:Type} (l:List α) (d:α) (b i:Nat):(turn l d b i).length=i:=by simp [turn]
theorem turn_succ {α:Type} (l:List α) (d:α) (b i:Nat):turn l d b (i+1)=turn l d b i++[l.getD ((i+b) % l.length) d]:=by
  simp [turn,List.range_succ]
theorem turn_get {α:Type} (l:List α) (d:α) (b i j:Nat) (h:j<(turn l d b i).length) (hj:(j+b) % l.length<l.length):(turn l d b i)[j]=l[(j+b) % l.length]:=by
  simp [turn,List.getD,hj]
theorem turn_all {α:Type} (l:List α) (d:α) (b:Nat) (h0:0<l.length):turn l d b l.length=l.drop (b % l.length)++l.take (b % l.length):=by
  have hr:b % l.length<l.length:=Nat.mod_lt _ h0;have hadd:∀ j,(j+b) % l.length=(j+b % l.length) % l.length:=fun j=>by rw [Nat.add_mod,Nat.add_mod j (b % l.length),Nat.mod_mod]
  apply List.ext_getElem
  · rw [turn_len,List.length_append,List.length_drop,List.length_take];omega
  · intro j h1 h2
    rw [turn_len] at h1;have hm:(j+b) % l.length<l.length:=Nat.mod_lt _ h0;rw [turn_get l d b _ j (by rw [turn_len];exact h1) hm,List.getElem_append];generalize hrr:b % l.length=r at *;by_cases hc:j<(l.drop r).length
    · rw [dif_pos hc];rw [List.length_drop] at hc;rw [List.getElem_drop]
      congr 1
      rw [hadd j,Nat.mod_eq_of_lt (by omega)];omega
    · rw [dif_neg hc,List.getElem_take]
      congr 1
      rw [List.length_drop] at hc ⊢;rw [hadd j,Nat.mod_eq_sub_mod (by omega),Nat.mod_eq_of_lt (by omega)];omega
theorem turn_perm {α:Type} (l:List α) (d:α) (b:Nat) (h0:0<l.length):(turn l d b l.length).Perm l:=by
  rw [turn_all l d b h0];exact List.perm_append_comm.trans (by rw [List.take_append_drop])
theorem turn_zip {α β:Type} (k:List α) (v:List β) (d:α) (e:β) (b:Nat) (h:k.length=v.length) (h0:0<k.length):((turn k d b k.length).zip (turn v e b v.length)).Perm (k.zip v):=by
  have hz:(turn k d b k.length).zip (turn v e b v.length)=turn (k.zip v) (d,e) b (k.zip v).length:=by
    have hl:(k.zip v).length=k.length:=by rw [List.length_zip];omega
    apply List.ext_getElem
    · simp [turn_len,h]
    · intro j h1 h2
      have hj:j<k.length:=by rw [turn_len,hl] at h2;exact h2
      have hm:(j+b) % k.length<k.length:=Nat.mod_lt _ h0;rw [List.getElem_zip,turn_get k d b _ j (by rw [turn_len];exact hj) hm,turn_get v e b _ j (by rw [turn_len];omega) (by rw [<-h];exact hm),turn_get (k.zip v) (d,e) b _ j (by rw [turn_len,hl];exact hj) (by rw [hl];exact hm),List.getElem_zip];simp only [hl,h]
  rw [hz];exact turn_perm _ _ _ (by rw [List.length_zip];omega)
theorem cellsIn {w:World} {b:Nat} {r:Raw} {T:TypeId} (h:w.heap[b]?=some (.cells r.arr T (0,0))):CellsAt w b 0 r:=fun j u hu=>by
  rw [Nat.zero_add,cell_of h j];rw [<-hu];simp [Raw.arr,Raw.cells]
theorem rows_apart {w:World} {B B':Nat} {e e':TypeId} {m m' n n':Nat} {v v':Value} {xs xs':List Value} (h:w.ownsRow B e m v n xs) (h':w.ownsRow B' e' m' v' n' xs') (hne:e≠e') (hv:v.ownBlock≠none):v'.ownBlock≠v.ownBlock:=by
  intro he
  rcases h.2 with ⟨rfl,_⟩ | ⟨g,cap,cur,rfl,_,hg,_⟩
  · exact hv rfl
  rcases h'.2 with ⟨rfl,_⟩ | ⟨g',cap',cur',rfl,_,hg',_⟩
  · cases he
  simp [Value.ownBlock] at he
  subst he;rw [hg] at hg';simp at hg'
  exact hne hg'.2
theorem row_stray {w:World} {B:Nat} {e e':TypeId} {m n p:Nat} {v:Value} {xs:List Value} {c:Array Value} {r:Nat × Nat} (h:w.ownsRow B e m v n xs) (hp:w.heap[p]?=some (.cells c e' r)) (hne:e≠e'):some p≠v.ownBlock:=by
  intro he
  rcases h.2 with ⟨rfl,_⟩ | ⟨g,cap,cur,rfl,_,hg,_⟩
  · cases he
  simp [Value.ownBlock] at he
  subst he;rw [hg] at hp;simp at hp
  exact hne hp.2.1
structure Mid (w0:World) (bw:Nat) (blk:Obj) (key:ByteArray) (x:Raw) (TA TB:Option Nat) (vk:Value) (lk:List ByteArray) (vv:Value) (lv:List Raw) (w:World):Prop where
  keys:w.ownsRow (bw+1) 9 1 vk lk.length (lk.map Value.string)
  kids:w.ownsRow (bw+1) 29 8 vv lv.length (lv.flatMap Raw.cells)
  own:w.heap[bw]?=some blk
  below:Below bw w0 w
  ta:∀ p,TA=some p->w.heap[p]?=some (.cells #[.string key] 9 (0,0))
  tb:∀ p,TB=some p->w.heap[p]?=some (.cells x.arr 29 (0,0))/\some p≠vv.ownBlock
variable {w0:World} {bw:Nat} {blk:Obj} {key:ByteArray} {x:Raw} {TA TB:Option Nat} {vk:Value} {lk:List ByteArray} {vv:Value} {lv:List Raw} {w:World}
theorem Mid.drew (h:Mid w0 bw blk key x TA TB vk lk vv lv w):Mid w0 bw blk key x TA TB vk lk vv lv w.drew:=⟨h.keys,h.kids,h.own,h.below.drew,h.ta,h.tb⟩
theorem Mid.lt (h:Mid w0 bw blk key x TA TB vk lk vv lv w):bw<w.heap.size:=heap_lt h.own
theorem Mid.again (h:Mid w0 bw blk key x TA TB vk lk vv lv w) (key':ByteArray) (x':Raw):Mid w0 bw blk key' x' none none vk lk vv lv w:=⟨h.keys,h.kids,h.own,h.below,fun p hp=>(by cases hp),fun p hp=>(by cases hp)⟩
theorem Mid.allocA (h:Mid w0 bw blk key x none TB vk lk vv lv w):Mid w0 bw blk key x (some w.heap.size) TB vk lk vv lv (w.alloc (.cells #[.string key] 9)):=
  ⟨h.keys.alloc _,h.kids.alloc _,(Below.heap_alloc _ _ _ h.lt).trans h.own,h.below.alloc (Nat.le_of_lt h.lt) _,fun p hp=>by injection hp with hp;subst hp;exact heap_alloc_new _ _,fun p hp=>⟨(Below.heap_alloc _ _ _ (heap_lt (h.tb p hp).1)).trans (h.tb p hp).1,(h.tb p hp).2⟩⟩
theorem Mid.allocB (h:Mid w0 bw blk key x TA none vk lk vv lv w):Mid w0 bw blk key x TA (some w.heap.size) vk lk vv lv (w.alloc (.cells x.arr 29)):=
  ⟨h.keys.alloc _,h.kids.alloc _,(Below.heap_alloc _ _ _ h.lt).trans h.own,h.below.alloc (Nat.le_of_lt h.lt) _,fun p hp=>(Below.heap_alloc _ _ _ (heap_lt (h.ta p hp))).trans (h.ta p hp),fun p hp=>by
    injection hp with hp;subst hp
    exact ⟨heap_alloc_new _ _,fun e=>by have:=h.kids.lt _ e.symm;omega⟩⟩
theorem ownSlice {w:World} {B:Nat} {T:TypeId} {m n:Nat} {v:Value} {xs:List Value} (h:w.ownsRow B T m v n xs):∃ a c,v=.slice a n c:=by
  rcases h.2 with ⟨rfl,rfl⟩ | ⟨g,cap,cur,rfl,_⟩
  · exact ⟨_,_,rfl⟩
  · exact ⟨_,_,rfl⟩
theorem Mid.appA {p:Nat} {c0:Array Value} (h:Mid w0 bw blk key x (some p) TB vk lk vv lv w) (hb:blk=.cells c0 29 (0,0)) (hl:lk.length<=3000):∃ ka kc w',(Builtin.append_ #[26,26] 26 #[vk,.slice (some ⟨p,0,none⟩) 1 1]).run Tryz.prog w=.ok (.slice ka (lk++[key]).length kc) w'/\Mid w0 bw blk key x none TB (.slice ka (lk++[key]).length kc) (lk++[key]) vv lv w':=by
  subst hb;obtain ⟨i0,hi,hz0,hz1,hz2⟩:=info_parts infoStr;have hp:=h.ta p rfl
  obtain ⟨v',w',hr,ho,hg,_⟩:=run_append_own (P:=Tryz.prog) w (bw+1) 26 26 9 i0 (.string ⟨#[]⟩) 1 16 Tryz.underlying26 hi hz0 hz1 hz2 rfl (by decide) vk lk.length (lk.map Value.string) h.keys ⟨p,0,none⟩ 1 1 [.string key] rfl (fun j u hu=>by
      match j,hu with
      | 0,hu=>injection hu with hu;subst hu;simp [Addr.add,World.cell?,hp]) (fun u hu=>by rw [List.mem_singleton.1 hu];rfl) (by unfold maxLen;omega) (by omega) h.lt
  have hlen:lk.length+1=(lk++[key]).length:=by simp
  have hmap:lk.map Value.string++[.string key]=(lk++[key]).map Value.string:=by simp
  rw [hlen,hmap] at ho;obtain ⟨a,c,rfl⟩:=ownSlice ho;have far:∀ k,k<w.heap.size->some k≠vk.ownBlock->w'.heap[k]?=w.heap[k]?:=hg.block;refine ⟨a,c,w',hr,ho,h.kids.kept hg ?_,(far _ h.lt (row_stray h.keys h.own (by decide))).trans h.own,h.below.grown hg (Nat.le_of_lt h.lt) (fun k hk=>by have:=(h.keys.lt k hk).1;omega),fun q hq=>(by cases hq),fun q hq=>⟨(far q (heap_lt (h.tb q hq).1) (row_stray h.keys (h.tb q hq).1 (by decide))).trans (h.tb q hq).1,(h.tb q hq).2⟩⟩;by_cases hn:vv.ownBlock=none
  · exact .inl hn
  · exact .inr (fun e=>(rows_apart h.kids h.keys (by decide) hn) e.symm)
theorem Mid.appB {p:Nat} (h:Mid w0 bw blk key x none (some p) vk lk vv lv w) (hl:lv.length<=3000):∃ va vc w',(Builtin.append_ #[27,27] 27 #[vv,.slice (some ⟨p,0,none⟩) 1 1]).run Tryz.prog w=.ok (.slice va (lv++[x]).length vc) w'/\Mid w0 bw blk key x none none vk lk (.slice va (lv++[x]).length vc) (lv++[x]) w':=by
  obtain ⟨i0,hi,hz0,hz1,hz2⟩:=info_parts infoKid;obtain ⟨hp,hpn⟩:=h.tb p rfl
  obtain ⟨v',w',hr,ho,hg,_⟩:=run_append_own (P:=Tryz.prog) w (bw+1) 27 27 29 i0 _ 8 112 Tryz.underlying27 hi hz0 hz1 hz2 rfl (by decide) vv lv.length (lv.flatMap Raw.cells) h.kids ⟨p,0,none⟩ 1 1 x.cells rfl (fun j u hu=>by
      have e:(⟨p,0,none⟩:Addr).add j=⟨p,0+j,none⟩:=by unfold Addr.add;split <;> simp_all
      rw [e];exact cellsIn hp j u hu) (fun u hu=>by
      simp only [Raw.cells,List.mem_cons,List.mem_nil_iff,or_false] at hu
      rcases hu with rfl | rfl | rfl | rfl | rfl | rfl | rfl | rfl <;> rfl) (by unfold maxLen;omega) (by omega) h.lt
  have hlen:lv.length+1=(lv++[x]).length:=by simp
  have hmap:lv.flatMap Raw.cells++x.cells=(lv++[x]).flatMap Raw.cells:=by simp
  rw [hlen,hmap] at ho;obtain ⟨a,c,rfl⟩:=ownSlice ho;have far:∀ k,k<w.heap.size->some k≠vv.ownBlock->w'.heap[k]?=w.heap[k]?:=hg.block;have hbw:some bw≠vv.ownBlock:=fun e=>by have:=(h.kids.lt bw e.symm).1;omega
  refine ⟨a,c,w',hr,h.keys.kept hg ?_,ho,(far _ h.lt hbw).trans h.own,h.below.grown hg (Nat.le_of_lt h.lt) (fun k hk=>by have:=(h.kids.lt k hk).1;omega),fun q hq=>(by cases hq),fun q hq=>(by cases hq)⟩;by_cases hn:vk.ownBlock=none
  · exact .inl hn
  · exact .inr (fun e=>(rows_apart h.keys h.kids (by decide) hn) e.symm)
theorem step_append_run {P:Program} {o:Oper} {a:Act} {w w':World} {K:Act->World->Prop} {Q:Exit->Act->World->Prop} {E:Prop} {yl:Nat->Option Bool} {inst:Decidable (Region.wanted o yl=true)} {v':Value} (v1 v2:Value) (t:TypeId) (hr:(Builtin.append_ #[t,t] o.type #[v1,v2]).run P w=.ok v' w') (hgd:o.guard=none) (s x:Operand)
    (ho:o.op=.call { callee:=.builtin .append,args:=#[s,x],argTypes:=#[t,t] }) (hs:a.eval s=v1) (hx:a.eval x=v2) (h:K (a.put o.dst v') w'):@ite _ (Region.wanted o yl=true) inst (Oper.wp P o a w K Q) E:=by
  have hw:Region.wanted o yl=true:=by simp [Region.wanted,hgd]
  rw [if_pos hw];unfold Oper.wp;simp [execOp,ho,resolve,invoke,builtin,hs,hx,hr,Result.andThen]
  exact h
theorem step_build_one {P:Program} {o:Oper} {a:Act} {w:World} {K:Act->World->Prop} {Q:Exit->Act->World->Prop} {E:Prop} {yl:Nat->Option Bool} {inst:Decidable (Region.wanted o yl=true)} (t e:TypeId) (cs:Array Value) (v:Value) (hrun:(Instr.buildSlice t 1 #[(0,v)]).run P w=.ok (.slice (some ⟨w.heap.size,0,none⟩) 1 1) (w.alloc (.cells cs e))) (hgd:o.guard=none) (s:Operand)
    (ho:o.op=.buildSlice t 1 #[(0,s)]) (hs:a.eval s=v) (h:K (a.put o.dst (.slice (some ⟨w.heap.size,0,none⟩) 1 1)) (w.alloc (.cells cs e))):@ite _ (Region.wanted o yl=true) inst (Oper.wp P o a w K Q) E:=by
  have hw:Region.wanted o yl=true:=by simp [Region.wanted,hgd]
  rw [if_pos hw];unfold Oper.wp;simp [execOp,ho,hs,hrun,Result.andThen]
  exact h
end Go.Proofs.YtliekocamnklfaaGreatDoor.Jdec
namespace Go.Proofs.YtliekocamnklfaaGreatDoor.One
open Go.Proofs.YtliekocamnklfaaGreatDoor.Addr Jdec Save
theorem lookL_zip {ks:List ByteArray} {vs:List JV} {x:ByteArray} {v:JV} (hn:ks.Nodup):lookL ks vs x=some v↔(x,v)∈ks.zip vs:=by
  constructor
  · intro h
    obtain ⟨i,h1,h2,h3,h4⟩:=lookL_mem ks vs x v h;refine List.mem_iff_getElem.2 ⟨i,by simp [List.length_zip];omega,?_⟩;rw [List.getElem_zip,h3,h4]
  · intro h
    obtain ⟨i,hi,he⟩:=List.mem_iff_getElem.1 h;rw [List.length_zip] at hi;rw [List.getElem_zip] at he;injection he with h1 h2
    rw [<-h2];exact lookL_nodup hn (by omega) (by omega) h1
theorem lookL_turn {ks:List ByteArray} {vs:List JV} (b:Nat) (hn:ks.Nodup) (hl:ks.length=vs.length) (h0:0<ks.length) (x:ByteArray):lookL (turn ks ⟨#[]⟩ b ks.length) (turn vs JV.zero b vs.length) x=lookL ks vs x:=by
  have pk:=turn_perm ks ⟨#[]⟩ b h0;have pz:=turn_zip ks vs ⟨#[]⟩ JV.zero b hl h0;refine Option.ext fun v=>?_;rw [lookL_zip (pk.nodup_iff.2 hn),lookL_zip hn];exact ⟨fun h=>pz.subset h,fun h=>pz.symm.subset h⟩
def turnJ (b:Nat):JV->JV | .mk _ _ _ _ _ _ ks vs=>.mk 6 false false ⟨#[]⟩ 0 ⟨#[]⟩ (turn ks ⟨#[]⟩ b ks.length) (turn vs JV.zero b vs.length)
theorem one_turn {t:JV} (b:Nat) (hq:OneQ t) (hf:Fine t) (hm:t.mass<=400):OneQ (turnJ b t)/\Fine (turnJ b t)/\(turnJ b t).mass<=400/\upJ (turnJ b t)=upJ t/\(keysJ t).length=3/\(kidsJ t).length=3/\kindOf t=6:=by
  obtain ⟨⟨hg,hd⟩,h⟩:=hq
  cases t with
  | mk k is ng d e s ks vs=>
  have hkl:k=6/\ks.length=3:=by
    unfold oneB ofB at h;simp only [Bool.and_eq_true,decide_eq_true_eq] at h
    exact ⟨h.1.1,h.1.2.1⟩
  obtain ⟨rfl,hk3⟩:=hkl
  cases hg with
  | mk _ _ _ _ _ _ _ _ O hv=>
  have hl:=O.both rfl;have h0:0<ks.length:=by omega
  have i1:=O.is (by omega);obtain ⟨i2,i3,i4⟩:=O.num (by omega);have i5:=O.text (by omega);subst i1 i2 i3 i4 i5;have pk:=turn_perm ks ⟨#[]⟩ b h0;have pv:=turn_perm vs JV.zero b (by omega);have hlook:∀ x,look (turnJ b (.mk 6 false false ⟨#[]⟩ 0 ⟨#[]⟩ ks vs)) x=look (.mk 6 false false ⟨#[]⟩ 0 ⟨#[]⟩ ks vs) x:=fun x=>by
    rw [turnJ,look_mk,look_mk];exact lookL_turn b O.apart hl h0 x
  have hgot:∀ x,got (turnJ b (.mk 6 false false ⟨#[]⟩ 0 ⟨#[]⟩ ks vs)) x=got (.mk 6 false false ⟨#[]⟩ 0 ⟨#[]⟩ ks vs) x:=fun x=>by rw [got,got,hlook]
  have hone:oneB (turnJ b (.mk 6 false false ⟨#[]⟩ 0 ⟨#[]⟩ ks vs))=oneB (.mk 6 false false ⟨#[]⟩ 0 ⟨#[]⟩ ks vs):=by
    have hof:ofB (turnJ b (.mk 6 false false ⟨#[]⟩ 0 ⟨#[]⟩ ks vs)) [kVer,kSer,kRes]=ofB (.mk 6 false false ⟨#[]⟩ 0 ⟨#[]⟩ ks vs) [kVer,kSer,kRes]:=by
      unfold ofB;simp only [hlook]
      rw [show (keysJ (turnJ b (.mk 6 false false ⟨#[]⟩ 0 ⟨#[]⟩ ks vs))).length=ks.length from turn_len _ _ _ _]
      rfl
    unfold oneB;rw [hof,hgot,hgot,hgot]
  refine ⟨⟨⟨.mk _ _ _ _ _ _ _ _ ⟨by omega,by omega,fun _=>rfl,fun _=>⟨rfl,rfl,rfl⟩,fun _=>rfl,fun h=>by omega,fun h=>absurd rfl h,O.right,O.valid,fun _=>by rw [turn_len,turn_len];exact hl,fun x hx=>O.words x (pk.subset hx),pk.nodup_iff.2 O.apart⟩ (goodq_mem.2 fun v h=>goodq_mem.1 hv v (pv.subset h)),?_⟩,by rw [hone];exact h⟩,?_,?_,?_,hk3,by rw [<-hk3];exact hl.symm,rfl⟩
  · rw [deepN_mk] at hd;rw [turnJ,deepN_mk,deepNs_perm pv];exact hd
  · cases hf with
    | mk _ _ _ _ _ _ _ _ f1 f2 f3 f4=>exact .mk _ _ _ _ _ _ _ _ f1 f2 (fun x hx=>f3 x (pk.subset hx)) (fine_mem.2 fun v h=>fine_mem.1 f4 v (pv.subset h))
  · rw [turnJ,mass_mk,masses_perm pv,turn_len];rw [mass_mk] at hm;exact hm
  · rw [upJ,upJ,hgot,hgot]
def kMore:ByteArray:=⟨#[109,111,114,101]⟩
theorem masses_app (a b:List JV):masses (a++b)=masses a+masses b:=by
  induction a with
  | nil=>rw [List.nil_append,masses_nil];omega
  | cons x a ih=>rw [List.cons_append,masses_cons,masses_cons,ih];omega
theorem one_more {t:JV} (hq:(keysJ t).length=3) (hf:Fine t) (hm:t.mass<=400):¬ OneQ (objectOf (keysJ t++[kMore]) (kidsJ t++[numV 1]))/\Fine (objectOf (keysJ t++[kMore]) (kidsJ t++[numV 1]))/\(objectOf (keysJ t++[kMore]) (kidsJ t++[numV 1])).mass<=3000:=by
  refine ⟨fun h=>?_,?_,?_⟩
  · have h:=h.2;unfold oneB ofB at h;simp only [Bool.and_eq_true,decide_eq_true_eq] at h
    have h1:(keysJ t++[kMore]).length=3:=h.1.2.1;rw [List.length_append,hq] at h1;simp at h1
  · cases hf with
    | mk k i n d e s ks vs f1 f2 f3 f4=>
      refine .mk _ _ _ _ _ _ _ _ (by decide) (by decide) (fun x hx=>?_) (fine_mem.2 fun v h=>?_)
      · rcases List.mem_append.1 hx with h | h
        · exact f3 x h
        · rw [List.mem_singleton.1 h];decide
      · rcases List.mem_append.1 h with h | h
        · exact fine_mem.1 f4 v h
        · rw [List.mem_singleton.1 h];exact numV_fine (by decide)
  · cases t with
    | mk k i n d e s ks vs=>
      rw [mass_mk] at hm;have h1:(numV 1).mass=1:=by rw [numV,mass_mk,masses_nil];rfl
      rw [objectOf,mass_mk,masses_app,masses_cons,masses_nil,List.length_append,h1];show 1+(ks.length+1)+(masses vs+(1+0))<=3000;omega
theorem one_less {t:JV} (hq:(keysJ t).length=3) (hf:Fine t) (hm:t.mass<=400):¬ OneQ (objectOf (keysJ t).tail (kidsJ t).tail)/\Fine (objectOf (keysJ t).tail (kidsJ t).tail)/\(objectOf (keysJ t).tail (kidsJ t).tail).mass<=3000:=by
  refine ⟨fun h=>?_,?_,?_⟩
  · have h:=h.2;unfold oneB ofB at h;simp only [Bool.and_eq_true,decide_eq_true_eq] at h
    have h1:(keysJ t).tail.length=3:=h.1.2.1;rw [List.length_tail,hq] at h1;omega
  · cases hf with
    | mk k i n d e s ks vs f1 f2 f3 f4=>
      exact .mk _ _ _ _ _ _ _ _ (by decide) (by decide) (fun x hx=>f3 x (List.mem_of_mem_tail hx)) (fine_mem.2 fun v h=>fine_mem.1 f4 v (List.mem_of_mem_tail h))
  · cases t with
    | mk k i n d e s ks vs=>
      rw [mass_mk] at hm;have h2:masses vs.tail<=masses vs:=by
        cases vs with
        | nil=>exact Nat.le_refl _
        | cons v vs=>rw [masses_cons];exact Nat.le_add_left _ _
      rw [objectOf,mass_mk];show 1+ks.tail.length+masses vs.tail<=3000;rw [List.length_tail];omega
end Go.Proofs.YtliekocamnklfaaGreatDoor.One
