/- jdec's table of ways; what all readers of values lean on; ends wherever the parser stands. -/
import Derived.Test.YtliekocamnklfaaGreatDoorTJdecE
import Derived.Test.YtliekocamnklfaaGreatDoorTRefD
import Derived.Deep.AppendLies
import Derived.Deep.RegionLaw
import Derived.Maps.OwnSet
import Derived.Maps.OwnOps
import Derived.Deep.CutRange
import Derived.WalkMore
import Derived.Laws.EntriesVeiled
import Derived.Laws.StructEq
set_option linter.unusedVariables false
set_option linter.unusedSimpArgs false
set_option maxRecDepth 100000
namespace Go.Proofs.YtliekocamnklfaaGreatDoor.Jdec
open Go.RowKit Strs
def wayS:Nat->ByteArray
  | 0=>⟨#[34]⟩
  | 1=>⟨#[45,48,49,50,51,52,53,54,55,56,57]⟩
  | 2=>⟨#[123]⟩
  | 3=>⟨#[91]⟩
  | 4=>⟨#[116]⟩
  | 5=>⟨#[102]⟩
  | _=>⟨#[110]⟩
def wayF:Nat->FuncId
  | 0=>163
  | 1=>164
  | 2=>165
  | 3=>166
  | 4=>167
  | 5=>168
  | _=>169
structure Ways (w:World) (V:Value) (P:Nat) (vb:Nat):Prop where
  form:V=.slice (some ⟨vb,0,none⟩) 7 7
  ne:vb≠P
  lt:vb<w.heap.size
  at_:∀ i,i<7->w.cell? ⟨vb,i*2,none⟩=some (.string (wayS i))/\w.cell? ⟨vb,i*2+1,none⟩=some (.func (.func (wayF i)) #[] #[])
structure Env (w:World) (P:Nat) (V:Value):Prop where
  z:Utf.Sizes w
  m:Num.Steps w
  nz:5≠P
  nm:2≠P
  v:∃ vb,Ways w V P vb
theorem infoKid:(Tryz.prog.info? 29).map (fun i=>(i.zero,i.size,i.bytes))=some (some (.agg #[.int .i64 0,.bool false,.bool false,.string ⟨#[]⟩,.int .i64 0,.string ⟨#[]⟩,.slice none 0 0,.slice none 0 0]),8,112):=by kernel_rfl
def ValC (P:Nat) (s:ByteArray) (V:Value) (dp:Int) (val:Val):Prop:=
  ∀ (k:Nat) (w:World),k<=s.size->Psr w P s k V 0 0->Env w P V->Calls Tryz.prog 126 #[.pointer (some ⟨P,0,none⟩),.int .i64 dp] w (VPost P s V (val k) w)
open Go.Maps
theorem zeroBool (w:World):(zeroValue 4).run Tryz.prog w=.ok (.bool false) w:=by kernel_rfl
theorem plainElem_bool_inv {H:Type} {P:Program} {e:TypeId} (he:P.underlying e=some .bool) {v:Value} {x:Bool} {ps:List MemPlace} (h:plainElem (H:=H) P e v=some (.lit (.bool x),ps)):v=.bool x:=by
  unfold plainElem at h;rw [he] at h;cases v <;> simp at h
  rw [h.1]
theorem keyLaw:Keyed Tryz.prog 9:=string_keyed Tryz.underlying9
def Seen (w:World) (M n:Nat) (ks:List ByteArray):Prop:=
  ∃ D:DataW Unit,w.ownsMap Tryz.prog 9 (plainElem Tryz.prog 4) M n D/\∀ d:ByteArray,D.atKey (.string d.data.toList) (.lit (.bool false))=.lit (.bool (ks.any (fun x=>decide (x=d))))
theorem Seen.made (w:World):Seen (w.alloc (.map #[] 0)) w.heap.size 0 []:=⟨.map [],World.ownsMap_made _ _ _ _,fun d=>rfl⟩
theorem key_of (d:ByteArray) (hd:d.size<=maxLen):keyOf Tryz.prog 9 (.string d)=some (.string d.data.toList):=Go.WideMaps.keyOf_string_mk Tryz.underlying9 hd
theorem Seen.look {w:World} {M n:Nat} {ks:List ByteArray} (h:Seen w M n ks) (d:ByteArray) (hd:d.size<=maxLen):(Instr.lookup 202 (.map (some M)) (.string d) false).run Tryz.prog w=.ok (.bool (ks.any (fun x=>decide (x=d)))) w:=by
  obtain ⟨D,h1,h2⟩:=h;obtain ⟨v,ps,hrun,hv⟩:=h1.lookup keyLaw Tryz.underlying202 (zeroBool w) (plainElem_bool Tryz.underlying4 false) (key_of d hd);rw [h2 d] at hv;rw [hrun,plainElem_bool_inv Tryz.underlying4 hv]
theorem Seen.put {w w':World} {M n:Nat} {ks:List ByteArray} {d:ByteArray} {D:DataW Unit} (h0:w.ownsMap Tryz.prog 9 (plainElem Tryz.prog 4) M n D) (h2:∀ d:ByteArray,D.atKey (.string d.data.toList) (.lit (.bool false))=.lit (.bool (ks.any (fun x=>decide (x=d)))))
    (h1:w'.ownsMap Tryz.prog 9 (plainElem Tryz.prog 4) M (n+1) (D.put (.string d.data.toList) (.lit (.bool true)))):Seen w' M (n+1) (ks++[d]):=by
  refine ⟨_,h1,fun d'=>?_⟩;by_cases e:d=d'
  · subst e;rw [atKey_put_same h0.isMap (by trivial)];simp
  · rw [atKey_put_other,h2 d']
    · simp [e]
    · intro h
      injection h with h
      apply e
      cases d;cases d';simp only [ByteArray.mk.injEq]
      exact (Array.toList_inj.1 h.symm)
def KidsA (w:World) (B:Nat) (A:Nat->Prop) (v:Value) (ts:List JV):Prop:=
  ∃ rs:List Raw,rs.length=ts.length/\w.ownsRow B 29 8 v ts.length (rs.flatMap Raw.cells) ∧
    ∀ i (h:i<rs.length) (h':i<ts.length),IsV w (fun b=>A b/\some b≠v.ownBlock) rs[i] ts[i]
theorem KidsA.turn {w w':World} {B:Nat} {A A':Nat->Prop} {v:Value} {ts:List JV} {row:Option Nat} (h:KidsA w B A v ts) (hg:w.grownBy w' row) (h1:v.ownBlock=none∨v.ownBlock≠row) (h2:∀ b,A b->b<w.heap.size->some b≠row/\A' b):KidsA w' B A' v ts:=by
  obtain ⟨rs,k1,k2,k3⟩:=h;refine ⟨rs,k1,k2.kept hg h1,fun i hi hi'=>(k3 i hi hi').turn ⟨hg.size,fun b hb hlt=>?_⟩⟩;obtain ⟨h3,h4⟩:=h2 b hb.1 hlt;exact ⟨hg.block b hlt h3,h4,hb.2⟩
theorem KidsA.snoc {w w':World} {B:Nat} {A:Nat->Prop} {v v':Value} {ts:List JV} {r:Raw} {t:JV} (rs:List Raw) (h1:rs.length=ts.length) (h2:w.ownsRow B 29 8 v ts.length (rs.flatMap Raw.cells))
    (h3:∀ i (h:i<rs.length) (h':i<ts.length),IsV w (fun b=>A b/\some b≠v.ownBlock) rs[i] ts[i]) (hr:IsV w (fun b=>A b/\some b≠v.ownBlock) r t)
    (hown:w'.ownsRow B 29 8 v' (ts.length+1) (rs.flatMap Raw.cells++r.cells)) (hg:w.grownBy w' v.ownBlock) (hl:v'.ownBlock=v.ownBlock∨v'.ownBlock=some w.heap.size):KidsA w' B A v' (ts++[t]):=by
  have T:Turn w w' (fun b=>A b/\some b≠v.ownBlock) (fun b=>A b/\some b≠v'.ownBlock):=⟨hg.size,fun b hb hlt=>⟨hg.block b hlt hb.2,hb.1,by
    rcases hl with e | e
    · rw [e];exact hb.2
    · rw [e];intro x;injection x with x;omega⟩⟩
  refine ⟨rs++[r],by simp [h1],by simpa using hown,fun i hi hi'=>?_⟩;by_cases hlt:i<rs.length
  · rw [List.getElem_append_left hlt,List.getElem_append_left (by omega)];exact (h3 i hlt (by omega)).turn T
  · have he:i=rs.length:=by simp at hi;omega
    subst he;have e1:(rs++[r])[rs.length]=r:=by simp
    have e2:(ts++[t])[rs.length]'(by simp [h1])=t:=by simp [<-h1]
    rw [e1,e2];exact hr.turn T
section
variable {w w' w7:World} {b M m:Nat} {ok:Prop} {ks:List ByteArray} {vs:List JV} {ka va:Option Addr} {kc vc:Nat}
end
open Go.RowKit Go.Maps Strs
theorem infoStr:(Tryz.prog.info? 9).map (fun i=>(i.zero,i.size,i.bytes))=some (some (.string ⟨#[]⟩),1,16):=by kernel_rfl
theorem res3 {F:Func} {p q r:Tmp} (hr:F.results=#[.cell p 29,.tmp q,.tmp r]) (tm:Array Value) {w':World} {b:Nat} {a:Raw}
    (hb:w'.heap[b]?=some (.cells a.arr 29 (0,0))) (hp:tm.getD p undef=.pointer (some ⟨b,0,none⟩)) :
    (results F tm).run Tryz.prog w'=.ok (.tuple #[a.val,tm.getD q undef,tm.getD r undef]) w':=by
  have hp':tm[p]?.getD undef=.pointer (some ⟨b,0,none⟩):=by simpa using hp
  have hl:=run_loadVar_row (P:=Tryz.prog) w' b _ 29 _ _ _ hb Tryz.underlying29 rfl infoVal;simp [results,hr,hp',asAddr,hl]
  rfl
def kindOf:JV->Int
  | .mk k _ _ _ _ _ _ _=>k
inductive Small (N:Nat):JV->Prop where
  | mk (k:Int) (i n:Bool) (d:ByteArray) (e:Int) (s:ByteArray) (ks:List ByteArray) (vs:List JV):ks.length<=N->vs.length<=N->(∀ j (h:j<vs.length),Small N vs[j])->Small N (.mk k i n d e s ks vs)
theorem CellsAt.below {w w':World} {b o:Nat} {r:Raw} (h:CellsAt w b o r) (hb:b<w.heap.size) (g:Below w.heap.size w w'):CellsAt w' b o r:=fun j u hu=>(World.cell?_of_block (g.block b hb)).trans (h j u hu)
theorem CellsAt.eight {w:World} {b o:Nat} {r:Raw} (h:CellsAt w b o r):w.cell? ⟨b,o,none⟩=some (.int .i64 r.kind)/\w.cell? ⟨b,o+1,none⟩=some (.bool r.is)/\w.cell? ⟨b,o+2,none⟩=some (.bool r.neg)/\w.cell? ⟨b,o+3,none⟩=some (.string r.dig)/\w.cell? ⟨b,o+4,none⟩=some (.int .i64 r.exp)/\w.cell? ⟨b,o+5,none⟩=some (.string r.str)/\w.cell? ⟨b,o+6,none⟩=some (.slice r.ka r.kn r.kc)/\w.cell? ⟨b,o+7,none⟩=some (.slice r.va r.vn r.vc):=
  ⟨h 0 _ rfl,h 1 _ rfl,h 2 _ rfl,h 3 _ rfl,h 4 _ rfl,h 5 _ rfl,h 6 _ rfl,h 7 _ rfl⟩
theorem IsV.parts {w:World} {A:Nat->Prop} {r:Raw} {k:Int} {i n:Bool} {d:ByteArray} {e:Int} {s:ByteArray} {ks:List ByteArray} {vs:List JV} (h:IsV w A r (.mk k i n d e s ks vs)):∃ ka kc va vc,r=Raw.mk k i n d e s ka ks.length kc va vs.length vc/\IsTexts w A ka ks/\∃ f:Nat->Raw,(vs=[]∨∃ b o,va=some ⟨b,o,none⟩/\b<w.heap.size/\∀ i,i<vs.length->CellsAt w b (o+i*8) (f i))/\∀ i (h:i<vs.length),IsV w A (f i) vs[i]:=by
  generalize hz:JV.mk k i n d e s ks vs=z at h
  cases h with
  | mk _ keys kids f h1 h2 h3 h4 h5=>
    injection hz with e1 e2 e3 e4 e5 e6 e7 e8
    subst e7 e8;obtain ⟨kd,is,ng,dg,ex,st,ka,kn,kc,va,vn,vc⟩:=r;simp only at h1 h2 e1 e2 e3 e4 e5 e6
    subst e1 e2 e3 e4 e5 e6 h1 h2;refine ⟨ka,kc,va,vc,rfl,h3,f,?_,h5⟩;rcases h4 with h4 | ⟨b,o,q1,_,q3,q4⟩
    · exact .inl h4
    · exact .inr ⟨b,o,q1,q3,q4⟩
theorem IsV.behind {w w':World} {A:Nat->Prop} {r:Raw} {t:JV} (h:IsV w A r t) (g:Below w.heap.size w w'):IsV w' A r t:=h.turn (Turn.below g)
set_option maxHeartbeats 4000000
theorem deepNs_snoc (v:JV):∀ l:List JV,deepNs (l++[v])=max (deepNs l) v.deepN
  | []=>by rw [List.nil_append,deepNs_cons,deepNs_nil];omega
  | u::l=>by rw [List.cons_append,deepNs_cons,deepNs_snoc v l,deepNs_cons];omega
theorem take_next {vs:List JV} {i:Nat} (h:i<vs.length):vs.take (i+1)=vs.take i++[vs[i]]:=by
  rw [List.take_add_one,List.getElem?_eq_getElem h];rfl
theorem deepNs_take (vs:List JV):∀ i,deepNs (vs.take i)<=deepNs vs:=by
  induction vs with
  | nil=>intro i;simp
  | cons v t ih=>
    intro i
    cases i with
    | zero=>rw [List.take_zero,deepNs_nil];omega
    | succ i=>rw [List.take_succ_cons,deepNs_cons,deepNs_cons];have:=ih i;omega
theorem deepNs_mem (vs:List JV) (j:Nat) (h:j<vs.length):vs[j].deepN<=deepNs vs:=by
  have:=deepNs_take vs (j+1);rw [take_next h,deepNs_snoc] at this;omega
theorem own_new (w:World) (r:Raw):∃ w1,w.alloc (.cells #[.int .i64 r.kind,.bool r.is,.bool r.neg,.string r.dig,.int .i64 r.exp,.string r.str,.slice r.ka r.kn r.kc,.slice r.va r.vn r.vc] 29)=w1 ∧
    Hid (w1.heap[w.heap.size]?=some (.cells #[.int .i64 r.kind,.bool r.is,.bool r.neg,.string r.dig,.int .i64 r.exp,.string r.str,.slice r.ka r.kn r.kc,.slice r.va r.vn r.vc] 29 (0,0)))/\Hid (Below w.heap.size w w1):=
  ⟨_,rfl,heap_alloc_new _ _,(Below.refl _ _).alloc (Nat.le_refl _) _⟩
def DeepC (t:JV):Prop:=∀ (ra:Raw) (A:Nat->Prop) (w:World),IsV w A ra t->Calls Tryz.prog 74 #[ra.val] w fun e w'=>e=.returned (.int .i64 (t.deepN:Nat))/\Below w.heap.size w w'
theorem deep_step (N:Nat) (hN:N<=4611686018427387904) (k:Int) (is ng:Bool) (d:ByteArray) (e:Int) (s:ByteArray) (ks:List ByteArray) (vs:List JV) (hv:vs.length<=N) (hd:(JV.mk k is ng d e s ks vs).deepN<=1000) (IH:∀ j (h:j<vs.length),vs[j].deepN<=1000->DeepC vs[j]):DeepC (.mk k is ng d e s ks vs):=by
  intro ra A w h
  obtain ⟨ka,kc,va,vc,rfl,ht,f,hc,hi⟩:=h.parts;have HIH:=Hid.out (p:=Hid _) IH;have HC:=Hid.out (p:=Hid _) hc;have HI:=Hid.out (p:=Hid _) hi;obtain ⟨T,hT⟩:∃ T,decide (k=5∨k=6)=T:=⟨_,rfl⟩;have HT:=Hid.out (p:=Hid _) hT;have HD:Hid ((JV.mk k is ng d e s ks vs).deepN=(if k=5∨k=6 then deepNs vs else 0)+1):=by rw [Hid,JV.deepN]
  rw [HD.out] at hd;have HDD:=Hid.out (p:=Hid _) hd;clear h ht hc hi IH hT hd;obtain ⟨w2,hw2,V2,B2⟩:=own_new w (Raw.mk k is ng d e s ka ks.length kc va vs.length vc)
  dsimp only at hw2 V2
  dsimp only [Raw.val]
  have c0:w2.cell? ⟨w.heap.size,0,none⟩=some (.int .i64 k):=cell_of V2.out 0;go_enter Tryz.func74,Tryz.ntmps74
  go_upto_region 2 with (fail)
  go_cut [13] from 6 (fun p13 wx=>w2=wx/\p13=.bool T)
  case first=>
    by_cases h5:k=5
    · obtain rfl:true=T:=by rw [<-HT.out,h5];rfl
      have e5:(k == 5)=true:=by rw [h5];rfl
      clear h5;go_wp2_with fail
      go_meet
      exact ⟨rfl,rfl⟩
    · have e5:(k == 5)=false:=by rw [beq_eq_false_iff_ne];exact h5
      by_cases h6:k=6
      · obtain rfl:true=T:=by rw [<-HT.out,h6];rfl
        have e6:(k == 6)=true:=by rw [h6];rfl
        clear h5 h6;go_wp2_with fail
        go_meet
        exact ⟨rfl,rfl⟩
      · obtain rfl:false=T:=by rw [<-HT.out];simp [h5,h6]
        have e6:(k == 6)=false:=by rw [beq_eq_false_iff_ne];exact h6
        clear h5 h6;go_wp2_with fail
        go_meet
        exact ⟨rfl,rfl⟩
  case rest=>
  obtain ⟨rfl,rfl⟩:=hcut;cases T
  case false=>
    have HF:Hid ((JV.mk k is ng d e s ks vs).deepN=1):=by rw [Hid,HD.out,if_neg (of_decide_eq_false HT.out)]
    go_wp2_with fail
    go_ret
    exact ⟨by rw [HF.out];rfl,B2.out⟩
  case true=>
    have hk:=of_decide_eq_true HT.out;have HF:Hid ((JV.mk k is ng d e s ks vs).deepN=deepNs vs+1):=by rw [Hid,HD.out,if_pos hk]
    have h64:deepNs vs+1<=1000:=by have:=HDD.out;rw [if_pos hk] at this;exact this
    have H64:=Hid.out (p:=Hid _) h64;clear hk hw2 c0;go_wp2_with fail
    go_loopw [3,4] (fun p3 p4 wr=>∃ i:Nat,p4=.int .i64 i/\i<=vs.length/\p3=.int .i64 (deepNs (vs.take i):Nat)/\Hid (Below w2.heap.size w2 wr)) (fun _ p4 _=>vs.length-(intOf p4).toNat)
    case atStart=>exact ⟨0,rfl,Nat.zero_le _,by rw [List.take_zero,deepNs_nil];rfl,Below.refl _ _⟩
    case round=>
      obtain ⟨i,rfl,hi,rfl,hB⟩:=hrel;have V4:=Hid.out (p:=Hid _) ((hB.out.block w.heap.size (heap_lt V2.out)).trans V2.out);have d7:wr.cell? ⟨w.heap.size,7,none⟩=some (.slice va vs.length vc):=cell_of V4.out 7;by_cases hlt:i<vs.length
      · have hne:vs≠[]:=fun e=>by rw [e] at hlt;simp at hlt
        obtain ⟨g,o,rfl,hg,hcs⟩:=HC.out.resolve_left hne;have Bw:Hid (Below w.heap.size w wr):=B2.out.trans (hB.out.mono B2.out.size);have K1:=Hid.out (p:=Hid _) ((hcs i hlt).below hg Bw.out);have I1:=Hid.out (p:=Hid _) ((HI.out i hlt).behind Bw.out);have hm:=deepNs_mem vs i hlt;have hcall:=HIH.out i hlt (by have:=H64.out;omega) (f i) A wr I1.out;have hnx:deepNs (vs.take (i+1))=max (deepNs (vs.take i)) vs[i].deepN:=by rw [take_next hlt,deepNs_snoc]
        have htk:=deepNs_take vs i;generalize vs[i].deepN=dv at *;obtain ⟨n,hn⟩:∃ n,deepNs (vs.take i)=n:=⟨_,rfl⟩;rw [hn] at hnx htk;rw [hn];have HNX:=Hid.out (p:=Hid _) hnx;have hn64:n<=1000:=by omega
        have hd64:dv<=1000:=by omega
        clear hcs hn hnx hm htk h64;generalize f i=x at *;have HCL:=Hid.out (p:=Hid _) hcall;have K1c:CellsAt wr g (o+i*8) x:=K1.out;obtain ⟨u0,u1,u2,u3,u4,u5,u6,u7⟩:=K1c.eight;clear K1 K1c hcall I1 V4;go_wp2_with fail
        refine (Calls.mono HCL.out ?_);rintro z w5 ⟨rfl,hb5⟩;have B5:Hid (Below w2.heap.size w2 w5):=hB.out.trans (hb5.mono hB.out.size);clear hb5;by_cases hgt:n<dv
        · have t1:decide ((n:Int)<(dv:Int))=true:=by rw [decide_eq_true_eq];omega
          have t2:decide (n<dv)=true:=by rw [decide_eq_true_eq];omega
          have HNN:Hid (deepNs (vs.take (i+1))=dv):=by rw [Hid,HNX.out];omega
          clear hgt;go_wp2_with fail
          go_roundw
          case rel=>exact ⟨i+1,by go_num,by omega,by rw [HNN.out],B5.out⟩
          case measure=>simp [intOf];omega
        · have t1:decide ((n:Int)<(dv:Int))=false:=by rw [decide_eq_false_iff_not];omega
          have t2:decide (n<dv)=false:=by rw [decide_eq_false_iff_not];omega
          have HNN:Hid (deepNs (vs.take (i+1))=n):=by rw [Hid,HNX.out];omega
          clear hgt;go_wp2_with fail
          go_roundw
          case rel=>exact ⟨i+1,by go_num,by omega,by rw [HNN.out],B5.out⟩
          case measure=>simp [intOf];omega
      · obtain rfl:i=vs.length:=by omega
        rw [List.take_length];have h64':=H64.out;obtain ⟨n,hn⟩:∃ n,deepNs vs=n:=⟨_,rfl⟩;rw [hn] at HF h64' ⊢;clear hn h64;go_wp2_with fail
        go_ret
        exact ⟨by rw [HF.out];go_num,B2.out.trans (hB.out.mono B2.out.size)⟩
theorem deep_any (N:Nat) (hN:N<=4611686018427387904) (t:JV) (h:Small N t):t.deepN<=1000->DeepC t:=by
  induction h with
  | mk k i n d e s ks vs h1 h2 h3 ih=>exact fun hd=>deep_step N hN k i n d e s ks vs h2 hd ih
theorem text_ne {x d:ByteArray} (h:x≠d):(x.toList == d.toList)=false:=by
  rw [beq_eq_false_iff_ne];intro e;apply h;rw [ByteArray.toList_eq,ByteArray.toList_eq] at e;cases x;cases d;simp only [ByteArray.mk.injEq]
  exact Array.toList_inj.1 e
theorem right_size {n:Bool} {l:List UInt8} {x:Int} (h:Num.right n l x=true):l.length<=1000:=by
  unfold Num.right at h;by_cases h0:l=[]
  · rw [h0];exact Nat.zero_le _
  · rw [if_neg h0] at h;by_cases h1:1000<l.length∨x < -10000∨10000<x
    · rw [if_pos h1] at h;cases h
    · omega
end Go.Proofs.YtliekocamnklfaaGreatDoor.Jdec
