/- An argument of type api.Value, opened. -/
import Derived.Test.YtliekocamnklfaaGreatDoorKJenS
import Derived.Test.YtliekocamnklfaaGreatDoorKSvB
import Derived.Test.YtliekocamnklfaaGreatDoorKRegV
import Derived.Test.YtliekocamnklfaaGreatDoorKOnS
import Derived.Deep.DeepHandedRow
set_option linter.unusedVariables false
set_option linter.unusedSimpArgs false
set_option maxRecDepth 100000
namespace Go.Proofs.YtliekocamnklfaaGreatDoor.Jdec
open Go.RowKit Strs Go.ChangeShapes Go.WideShapes Go.ChangeAt
abbrev rb:Nat:=140737488351232
theorem weights_all {H:Type} {P:Program} {e:TypeId}:∀ (l:List (DataW H)) (d:DataW H),d∈l->∀ n∈d.weights P e,n∈DataW.weightsAll P e l
  | x::t,d,hd,n,hn=>by
    rw [DataW.weightsAll];rcases List.mem_cons.1 hd with rfl | hd
    · exact List.mem_append_left _ hn
    · exact List.mem_append_right _ (weights_all t d hd n hn)
theorem fits_val:∀ cs:List Value,cs.length=8->∃ a b c d e f g h,cs=[a,b,c,d,e,f,g,h]
  | [a,b,c,d,e,f,g,h],_=>⟨a,b,c,d,e,f,g,h,rfl⟩
theorem bytesStr:Tryz.prog.bytesOf 9=16:=by kernel_rfl
theorem bytesVal:Tryz.prog.bytesOf 29=112:=by kernel_rfl
theorem cellsVal:Tryz.prog.cellsOf 29=8:=by kernel_rfl
theorem cellsNum:Tryz.prog.cellsOf 25=3:=by kernel_rfl
theorem cellsStr1:Tryz.prog.cellsOf 9=1:=by kernel_rfl
theorem cellsInt1:Tryz.prog.cellsOf 3=1:=by kernel_rfl
theorem cellsBool1:Tryz.prog.cellsOf 4=1:=by kernel_rfl
theorem cellsSS:Tryz.prog.cellsOf 26=1:=by kernel_rfl
theorem cellsSV:Tryz.prog.cellsOf 27=1:=by kernel_rfl
section
variable {H:Type} {enc:TypeId × Value->H} {W:World} {base:Nat} {spare:Nat->Bool} {held:Bool}
theorem open_texts {fuel:Nat} {c:Value} {x:DataW H × List MemPlace} (h:DataW.trod enc Tryz.prog W base spare held fuel 26 [c]=some x) (hw:∀ n∈x.1.weights Tryz.prog 26,n<=rb):∃ (ka:Option Addr) (kc:Nat) (ks:List ByteArray),c=.slice ka ks.length kc/\IsTexts W (fun _=>True) ka ks/\ks.length<=rb/\∀ s∈ks,s.size<=rb:=by
  rcases DataW.trod_slice Tryz.underlying26 h with ⟨hcs,hx⟩ | ⟨a,len,cap,elems,rest,n,_,hcs,hx,hb,hl,hm,hlen,hel,_⟩
  · injection hcs with hcs
    exact ⟨none,0,[],hcs,.inl rfl,Nat.zero_le _,fun s hs=>by cases hs⟩
  · injection hcs with hcs
    have hw1:DataW.weights Tryz.prog 26 x.1=(elems.length+rest.length)*16::(DataW.weightsAll Tryz.prog 9 (elems.map (·.1))++DataW.weightsAll Tryz.prog 9 (rest.map (·.1))):=by
      rw [hx];simp only [DataW.weights,Tryz.underlying26,List.length_map,bytesStr]
    rw [hw1] at hw;have hlb:=hw _ (List.mem_cons_self ..);have el:∀ i,∃ s:ByteArray,i<len->W.cell? (a.add i)=some (.string s)/\s.size<=rb:=by
      intro i
      by_cases him:i<len
      · have h1:=hel i him;rw [cellsStr1,Nat.mul_one] at h1;have hie:i<elems.length:=by omega
        rw [List.getElem?_eq_getElem hie] at h1;obtain ⟨cs',hc,ht'⟩:=Option.bind_eq_some_iff.1 h1;obtain ⟨s,hs,hx2,_⟩:=DataW.trod_string Tryz.underlying9 ht';obtain ⟨_,hcl,hat⟩:=World.cells?_some hc;have hwm:s.data.toList.length<=rb:=by
          refine hw _ (List.mem_cons_of_mem _ (List.mem_append_left _ (weights_all _ elems[i].1 (List.mem_map_of_mem (List.getElem_mem hie)) _ ?_)));rw [hx2,DataW.weights];exact List.mem_singleton.2 rfl
        refine ⟨s,fun _=>⟨?_,by simpa using hwm⟩⟩;have h0:=hat 0 (by omega);subst hs;rw [Go.Deep.add_add] at h0;exact h0
      · exact ⟨⟨#[]⟩,fun h=>absurd h him⟩
    let X:Nat->ByteArray:=fun i=>(el i).choose
    have hX:∀ i,i<len->W.cell? (a.add i)=some (.string (X i))/\(X i).size<=rb:=fun i h=>(el i).choose_spec h;refine ⟨some a,cap,(List.range len).map X,by simpa using hcs,?_,by simp;omega,fun s hs=>?_⟩
    · rcases Nat.eq_zero_or_pos len with h0 | h0
      · left;subst h0;rfl
      · right
        obtain ⟨ab,ao,spot⟩:=a;have hspot:spot=none:=by simpa [Addr.add] using World.cell?_spot (hX 0 h0).1
        subst hspot;refine ⟨ab,ao,rfl,trivial,World.block_lt_of_cell? W _ (hX 0 h0).1,fun i hi=>?_⟩;have hi':i<len:=by simpa using hi
        have:=(hX i hi').1;rw [List.getElem_map,List.getElem_range];have e:(⟨ab,ao,none⟩:Addr).add i=⟨ab,ao+i,none⟩:=by unfold Addr.add;split <;> simp_all
        rw [e] at this;exact this
    · obtain ⟨i,hi,rfl⟩:=List.mem_map.1 hs;exact (hX i (List.mem_range.1 hi)).2
theorem open_val:∀ (fuel:Nat) (cs:List Value) (x:DataW H × List MemPlace),DataW.trod enc Tryz.prog W base spare held fuel 29 cs=some x->(∀ n∈x.1.weights Tryz.prog 29,n<=rb) →
    ∃ (ra:Raw) (t:JV),cs=ra.cells/\IsV W (fun _=>True) ra t/\Held rb t:=by
  intro fuel
  induction fuel using Nat.strongRecOn with
  | _ fuel ih=>
  intro cs x h hw
  obtain ⟨ys,n1,hf1,hx,hlen,hyl,hg⟩:=DataW.trod_struct Tryz.underlying29 h;have hcl:cs.length=8:=by rw [hlen];exact cellsVal
  obtain ⟨c0,c1,c2,c3,c4,c5,c6,c7,rfl⟩:=fits_val cs hcl
  match ys,hyl with
  | [y0,y1,y2,y3,y4,y5],_=>
    have g0:=hg 0 _ rfl;have g1:=hg 1 _ rfl;have g2:=hg 2 _ rfl;have g3:=hg 3 _ rfl;have g4:=hg 4 _ rfl;have g5:=hg 5 _ rfl;simp [cellsInt1,cellsBool1,cellsNum,cellsStr1,cellsSS,cellsSV] at g0 g1 g2 g3 g4 g5
    have hwt:DataW.weights Tryz.prog 29 x.1=y0.1.weights Tryz.prog 3++(y1.1.weights Tryz.prog 4++(y2.1.weights Tryz.prog 25++(y3.1.weights Tryz.prog 9++(y4.1.weights Tryz.prog 26++(y5.1.weights Tryz.prog 27++[]))))):=by
      rw [hx];simp [DataW.weights,DataW.weightsEach,Tryz.underlying29]
    rw [hwt] at hw;obtain ⟨k,e0,_,_⟩:=DataW.trod_int Tryz.underlying3 g0;obtain ⟨is,e1,_⟩:=DataW.trod_bool Tryz.underlying4 g1;obtain ⟨zs,n2,hf2,hz,hzlen,hzl,hzg⟩:=DataW.trod_struct Tryz.underlying25 g2;obtain ⟨s,e3,hs3,_⟩:=DataW.trod_string Tryz.underlying9 g3;obtain ⟨ka,kc,ks,e4,hkt,hkl,hks⟩:=open_texts g4 (fun n hn=>hw n (by simp [hn]))
    match zs,hzl with
    | [z0,z1,z2],_=>
    have f0:=hzg 0 _ rfl;have f1:=hzg 1 _ rfl;have f2:=hzg 2 _ rfl;simp [cellsInt1,cellsBool1,cellsStr1] at f0 f1 f2
    obtain ⟨ng,e20,_⟩:=DataW.trod_bool Tryz.underlying4 f0;obtain ⟨dg,e21,hs21,_⟩:=DataW.trod_string Tryz.underlying9 f1;obtain ⟨ex,e22,_,_⟩:=DataW.trod_int Tryz.underlying3 f2;simp at e0 e1 e20 e21 e22 e3
    subst e0 e1 e20 e21 e22 e3 e4;have hss:s.size<=rb:=by
      have:=hw s.data.toList.length (by rw [hs3];simp [DataW.weights])
      simpa using this
    have hdd:dg.size<=rb:=by
      have:=hw dg.data.toList.length (by rw [hz,hs21];simp [DataW.weights,DataW.weightsEach,Tryz.underlying25])
      simpa using this
    rcases DataW.trod_slice Tryz.underlying27 g5 with ⟨hcs,hx5⟩ | ⟨a,len,cap,elems,rest,n3,hf3,hcs,hx5,hb,hl,hm,hlen5,hel,_⟩
    · injection hcs with hcs
      subst hcs;exact ⟨⟨k,is,ng,dg,ex,s,ka,ks.length,kc,none,0,0⟩,.mk k is ng dg ex s ks [],rfl,.mk ⟨k,is,ng,dg,ex,s,ka,ks.length,kc,none,0,0⟩ ks [] (fun _=>Raw.zero) rfl rfl hkt (.inl rfl) (fun i hi=>absurd hi (Nat.not_lt_zero _)),.mk k is ng dg ex s ks [] hdd hss hkl (Nat.zero_le _) hks (fun j hj=>absurd hj (Nat.not_lt_zero _))⟩
    · injection hcs with hcs
      subst hcs;have hw5:DataW.weights Tryz.prog 27 y5.1=(elems.length+rest.length)*112::(DataW.weightsAll Tryz.prog 29 (elems.map (·.1))++DataW.weightsAll Tryz.prog 29 (rest.map (·.1))):=by
        rw [hx5];simp only [DataW.weights,Tryz.underlying27,List.length_map,bytesVal]
      have hlb:=hw ((elems.length+rest.length)*112) (by rw [hw5];simp);have el:∀ i,∃ p:Raw × JV,i<len->(∀ j u,p.1.cells[j]?=some u->W.cell? (a.add (i*8+j))=some u)/\IsV W (fun _=>True) p.1 p.2/\Held rb p.2:=by
        intro i
        by_cases him:i<len
        · have h1:=hel i him;rw [cellsVal] at h1;have hie:i<elems.length:=by omega
          rw [List.getElem?_eq_getElem hie] at h1;obtain ⟨cs',hc,ht'⟩:=Option.bind_eq_some_iff.1 h1;obtain ⟨r,t,hr,hi1,hi2⟩:=ih n3 (by omega) cs' elems[i] ht' (fun n hn=>hw n (by
            rw [hw5];have:=weights_all (P:=Tryz.prog) (e:=29) (elems.map (·.1)) elems[i].1 (List.mem_map_of_mem (List.getElem_mem hie)) n hn;simp [this]))
          obtain ⟨_,hcl',hat⟩:=World.cells?_some hc;refine ⟨(r,t),fun _=>⟨fun j u hu=>?_,hi1,hi2⟩⟩;have hj:j<8:=(List.getElem?_eq_some_iff.1 hu).1;have h0:=hat j (by omega);rw [Go.Deep.add_add] at h0;rw [h0];subst hr;rw [<-hu]
        · exact ⟨(Raw.zero,JV.zero),fun h=>absurd h him⟩
      let X:Nat->Raw × JV:=fun i=>(el i).choose
      have hX:∀ i,i<len->(∀ j u,(X i).1.cells[j]?=some u->W.cell? (a.add (i*8+j))=some u)/\IsV W (fun _=>True) (X i).1 (X i).2/\Held rb (X i).2:=fun i h=>(el i).choose_spec h;refine ⟨⟨k,is,ng,dg,ex,s,ka,ks.length,kc,some a,len,cap⟩,.mk k is ng dg ex s ks ((List.range len).map fun i=>(X i).2),rfl,.mk ⟨k,is,ng,dg,ex,s,ka,ks.length,kc,some a,len,cap⟩ ks _ (fun i=>(X i).1) rfl (by simp) hkt ?_ (fun i hi=>?_),.mk k is ng dg ex s ks _ hdd hss hkl (by simp;omega) hks (fun j hj=>?_)⟩
      · rcases Nat.eq_zero_or_pos len with h0 | h0
        · left;subst h0;rfl
        · right
          obtain ⟨ab,ao,spot⟩:=a;have hc0:=(hX 0 h0).1 0 _ rfl;have hspot:spot=none:=by simpa [Addr.add] using World.cell?_spot hc0
          subst hspot;refine ⟨ab,ao,rfl,trivial,World.block_lt_of_cell? W _ hc0,fun i hi j u hu=>?_⟩;have hi':i<len:=by simpa using hi
          have:=(hX i hi').1 j u hu;have e:(⟨ab,ao,none⟩:Addr).add (i*8+j)=⟨ab,ao+i*8+j,none⟩:=by unfold Addr.add;split <;> simp_all;omega
          rw [e] at this;exact this
      · have hi':i<len:=by simpa using hi
        rw [List.getElem_map,List.getElem_range];exact (hX i hi').2.1
      · have hj':j<len:=by simpa using hj
        rw [List.getElem_map,List.getElem_range];exact (hX j hj').2.2
end
theorem open_arg {H:Type} {enc:TypeId × Value->H} {W:World} {base:Nat} {v:Value} {d:DataW H} {p:List MemPlace} (hval:Value.okWide Tryz.prog W .any base 29 v) (h:DataW.Trod enc Tryz.prog W 0 (fun _=>true) true 29 v d p) (hR:∀ n∈d.weights Tryz.prog 29,n<=rb):∃ x:JV,∃ ra:Raw,v=ra.val/\IsV W (fun _=>True) ra x/\Held rb x:=by
  obtain ⟨cs,rfl,_⟩:=okWide_struct Tryz.underlying29 hval;obtain ⟨fuel,hf⟩:=h;obtain ⟨ra,t,hcs,h1,h2⟩:=open_val fuel _ _ hf hR;have hcs2:cs.toList=ra.cells:=by simpa [Value.cells] using hcs
  have e:cs=ra.arr:=by
    apply Array.toList_inj.1
    rw [hcs2];rfl
  exact ⟨t,ra,by rw [e];rfl,h1,h2⟩
end Go.Proofs.YtliekocamnklfaaGreatDoor.Jdec
set_option maxHeartbeats 4000000
namespace Go.Proofs.YtliekocamnklfaaGreatDoor.One
open Go.RowKit Strs Jdec Save Go.Proofs.YtliekocamnklfaaGreatDoor.Addr
theorem isF {f:FuncId} {args:Array Value} {w:World} {Q:Prop} (h:Calls Tryz.prog f args w (IsPost Q w)) (hq:¬ Q):Calls Tryz.prog f args w (BoolP false w):=
  h.mono fun e w' k=>by
    obtain ⟨b,h1,h2,h3⟩:=k
    cases b with
    | false=>exact ⟨h1,h3⟩
    | true=>exact absurd (h2.1 rfl) hq
theorem same_val {t:JV} (hf:Fine t) (hm:t.mass<=6000) {a b:Raw} {A B:Nat->Prop} {w:World} (ha:Hid (IsV w A a t)) (hb:Hid (IsV w B b t)):Calls Tryz.prog 17 #[a.val,b.val] w (BoolP true w):=
  same_alike 6000 (by decide) t (held_small (held_of hf hm)) a b A B w ha.out hb.out
theorem up_any {t:JV} (hq:OneQ t) (hf:Fine t) (hm:t.mass<=3000) {ra:Raw} {A:Nat->Prop} {w:World} (hi:Hid (IsV w A ra t)) (T:TabsP w):Calls Tryz.prog 16 #[ra.val] w (UpP (upJ t) 0 w):=oup_yes t hq hf hm ra A w hi.out T
theorem kid_at {w:World} {A:Nat->Prop} {r:Raw} {ks:List ByteArray} {vs:List JV} (h:Hid (IsV w A r (objectOf ks vs))) (i:Nat) (hi:i<vs.length):∃ (g o:Nat) (z:Raw),r.va=some ⟨g,o,none⟩/\r.vn=vs.length/\Hid (CellsAt w g (o+i*8) z)/\Hid (IsV w A z vs[i]):=by
  obtain ⟨ka,kc,va,vc,rfl,_,f,hc,hv⟩:=h.out.parts;have hne:vs≠[]:=fun e=>by rw [e] at hi;simp at hi
  obtain ⟨g,o,rfl,_,hcs⟩:=hc.resolve_left hne;exact ⟨g,o,f i,rfl,rfl,hcs i hi,hv i hi⟩
theorem kid_list {w:World} {A:Nat->Prop} {r:Raw} {vs:List JV} (h:Hid (IsV w A r (listOf vs))) (i:Nat) (hi:i<vs.length):∃ (g o:Nat) (z:Raw),r.va=some ⟨g,o,none⟩/\r.vn=vs.length/\Hid (CellsAt w g (o+i*8) z)/\Hid (IsV w A z vs[i]):=by
  obtain ⟨ka,kc,va,vc,rfl,_,f,hc,hv⟩:=h.out.parts;have hne:vs≠[]:=fun e=>by rw [e] at hi;simp at hi
  obtain ⟨g,o,rfl,_,hcs⟩:=hc.resolve_left hne;exact ⟨g,o,f i,rfl,rfl,hcs i hi,hv i hi⟩
theorem wakes19 (w:World) (T:TabsP w):Calls Tryz.prog 12 #[] w (BoolP true w):=by
  have H1:=Hid.out (p:=Hid _) (oempty_any 7 (by decide) w T.p);have HU:Hid (∀ w' rr,Below w.heap.size w w'->Hid (IsV w' (fun _=>True) rr (emptyJ 7))->Calls Tryz.prog 16 #[rr.val] w' (UpP (upJ (emptyJ 7)) 0 w')):=fun w' rr h hr=>up_any (empty_good (by decide)) (empty_fine (by decide)) (by have:=empty_mass 7;omega) hr (T.stays h);clear T;go_enter Tryz.func12,Tryz.ntmps12
  go_wp2_with fail
  refine (Calls.mono H1.out ?_);rintro z w2 hz;obtain ⟨z1,rfl,I1,E2⟩:=hz.to;have H2:=Hid.out (p:=Hid _) (HU.out w2 z1 E2.out I1);clear hz H1;unfold Raw.val at H2 ⊢;go_wp2_with fail
  refine (Calls.mono H2.out ?_);rintro z w3 hz;obtain ⟨z2,rfl,I2,E3⟩:=hz.to;obtain ⟨w4,hw4,V4,E4⟩:=own8 w3 z2;have B4:=bel (bel E2 E3) E4;have I4:=kp I2 E4;unfold upJ at I4;obtain ⟨g,o,z3,hva,hvn,K3,I3⟩:=kid_at I4 3 (by simp);obtain ⟨g2,o2,z4,hva2,hvn2,_,_⟩:=kid_list I3 0 (by simp);simp only [List.length_cons,List.length_nil] at hvn hvn2
  obtain ⟨k2,i2,n2,d2,e2,s2,ka2,kn2,kc2,va2,vn2,vc2⟩:=z2;obtain ⟨k3,i3,n3,d3,e3,s3,ka3,kn3,kc3,va3,vn3,vc3⟩:=z3;simp only at hva hvn hva2 hvn2
  subst hva hvn hva2 hvn2;obtain ⟨⟨x0,x1,x2,x3,x4,x5,x6,x7⟩,_⟩:=val_cells V4.out;obtain ⟨u0,u1,u2,u3,u4,u5,u6,u7⟩:=K3.out.eight;clear hz H2 I4 I3 K3 I2;unfold Raw.val;go_wp2_with fail
  go_ret
  exact ⟨rfl,B4.out⟩
end Go.Proofs.YtliekocamnklfaaGreatDoor.One
