/- What a state of version 1 becomes is one of version 2; what one of version 2 becomes, in plain Lean. -/
import Derived.Test.YtliekocamnklfaaGreatDoorPTvB
import Derived.Test.YtliekocamnklfaaGreatDoorPTvH
set_option linter.unusedVariables false
set_option linter.unusedSimpArgs false
namespace Go.Proofs.YtliekocamnklfaaGreatDoor.One
open Go.Proofs.YtliekocamnklfaaGreatDoor.Addr Jdec Save
/-! ## Sums over an object's keys -/
def sumM (t:JV):List ByteArray->Nat
  | []=>0
  | x::xs=>(got t x).mass+sumM t xs
def sumL (ks:List ByteArray) (vs:List JV):List ByteArray->Nat
  | []=>0
  | x::xs=>((lookL ks vs x).getD .zero).mass+sumL ks vs xs
theorem sumL_cut (ks:List ByteArray) (vs:List JV) (k:ByteArray) (v:JV):∀ xs:List ByteArray,k ∉ xs->sumL (k::ks) (v::vs) xs=sumL ks vs xs
  | [],_=>rfl
  | x::xs,h=>by
    have h1:k≠x:=fun e=>h (by simp [e]);rw [sumL,sumL,lookL,if_neg h1,sumL_cut ks vs k v xs fun hm=>h (by simp [hm])]
theorem sumL_le:∀ (ks:List ByteArray) (vs:List JV) (xs:List ByteArray),xs.Nodup->(∀ x∈xs,(lookL ks vs x).isSome=true)->sumL ks vs xs<=masses vs
  | [],vs,xs,hn,h=>by
    cases xs with
    | nil=>exact Nat.zero_le _
    | cons x xs=>have:=h x (by simp);rw [lookL] at this;cases this
  | k::ks,[],xs,hn,h=>by
    cases xs with
    | nil=>exact Nat.zero_le _
    | cons x xs=>have:=h x (by simp);rw [lookL] at this;cases this
  | k::ks,v::vs,xs,hn,h=>by
    rw [masses_cons];by_cases hk:k∈xs
    · obtain ⟨a,b,rfl⟩:=List.append_of_mem hk;have hn':=List.nodup_append.1 hn;have hnb:=List.nodup_cons.1 hn'.2.1;have ha:k ∉ a:=fun hm=>hn'.2.2 k hm k (by simp) rfl;have hsum:∀ (c d:List ByteArray) (K:List ByteArray) (V:List JV),sumL K V (c++d)=sumL K V c+sumL K V d:=fun c d K V=>by
        induction c with
        | nil=>simp [sumL]
        | cons y c ih=>rw [List.cons_append,sumL,sumL,ih];omega
      rw [hsum,sumL,sumL_cut ks vs k v a ha,sumL_cut ks vs k v b hnb.1,lookL,if_pos rfl];have hab:(a++b).Nodup:=by
        rw [List.nodup_append];exact ⟨hn'.1,hnb.2,fun x hx y hy=>hn'.2.2 x hx y (by simp [hy])⟩
      have:=sumL_le ks vs (a++b) hab fun x hx=>by
        have hne:k≠x:=fun e=>by
          subst e;rcases List.mem_append.1 hx with hx | hx
          · exact ha hx
          · exact hnb.1 hx
        have:=h x (by rcases List.mem_append.1 hx with hx | hx <;> simp [hx])
        rwa [lookL,if_neg hne] at this
      rw [hsum] at this;show _+(v.mass+_)<=_;omega
    · rw [sumL_cut ks vs k v xs hk];have:=sumL_le ks vs xs hn fun x hx=>by
        have hne:k≠x:=fun e=>hk (e ▸ hx);have:=h x hx
        rwa [lookL,if_neg hne] at this
      omega
theorem sumM_look {is ng:Bool} {d:ByteArray} {e:Int} {s:ByteArray} {ks:List ByteArray} {vs:List JV}:∀ xs:List ByteArray,sumM (.mk 6 is ng d e s ks vs) xs=sumL ks vs xs
  | []=>rfl
  | x::xs=>by rw [sumM,sumL,sumM_look xs,got,look_mk]
theorem sum_mass {t:JV} {js:List ByteArray} (hn:js.Nodup) (h:ofB t js=true):1+js.length+sumM t js<=t.mass:=by
  have hl:=of_look h;unfold ofB at h;simp only [Bool.and_eq_true,decide_eq_true_eq] at h
  obtain ⟨h6,hk,_⟩:=h
  cases t with
  | mk k i n d e s ks vs=>
    have h6:k=6:=h6;subst h6;have hk:ks.length=js.length:=hk;have:=sumL_le ks vs js hn fun x hx=>by have:=hl x hx;rwa [look_mk] at this
    rw [mass_mk,sumM_look];omega
theorem res_of {js:List ByteArray} {r:JV} (h:resB js r=true):ofB r js=true:=by
  unfold resB at h;simp only [Bool.and_eq_true] at h
  exact h.1
theorem mod_of {js:List ByteArray} {m:JV} (h:modB js m=true):ofB m [kPath,kRes]=true:=by
  unfold modB at h;simp only [Bool.and_eq_true] at h
  exact h.1
theorem mods_of {n:Nat} {js:List ByteArray} {t:JV} (h:modsB n js t=true):ofB t kFour=true:=by
  unfold modsB headB at h;simp only [Bool.and_eq_true] at h
  exact h.1.1
theorem obj_mass (ks:List ByteArray) (vs:List JV):(objectOf ks vs).mass=1+ks.length+masses vs:=by rw [objectOf,mass_mk]
theorem list_mass (vs:List JV):(listOf vs).mass=1+masses vs:=by rw [listOf,mass_mk];simp
theorem res3_mass (k:ByteArray) {x:JV} (h:resB [kId,kAtt] x=true):(res3 k x).mass<=x.mass+2:=by
  have:=sum_mass (js:=[kId,kAtt]) (by decide) (res_of h);simp only [sumM,List.length_cons,List.length_nil] at this
  rw [res3,obj_mass,masses_cons,masses_cons,masses_cons,masses_nil,strV_mass];simp only [List.length_cons,List.length_nil]
  omega
theorem zip_mass:∀ (ks:List ByteArray) (vs:List JV),(∀ v∈vs,resB [kId,kAtt] v=true)->masses (List.zipWith res3 ks vs)<=masses vs+2*vs.length
  | [],vs,_=>by rw [List.zipWith_nil_left,masses_nil];omega
  | k::ks,[],_=>by rw [List.zipWith_nil_right,masses_nil];omega
  | k::ks,v::vs,h=>by
    have h1:=res3_mass k (h v (by simp));have h2:=zip_mass ks vs fun u hu=>h u (by simp [hu]);rw [List.zipWith_cons_cons,masses_cons,masses_cons,List.length_cons];omega
theorem ress3_mass {r:JV} (hg:GoodQ r) (h:ressB [kId,kAtt] r=true):(ress3 r).mass<=3*r.mass:=by
  obtain ⟨h6,_,hv⟩:=ress_parts h;have h1:=zip_mass (keysJ r) (kidsJ r) hv;have hl:=masses_len (kidsJ r);have hm:r.mass=1+(keysJ r).length+masses (kidsJ r):=by
    cases r with
    | mk k i n d e s ks vs=>exact mass_mk ..
  rw [ress3,obj_mass];omega
theorem mod3_mass {m:JV} (hg:GoodQ m) (h:modB [kId,kAtt] m=true):(mod3 m).mass<=3*m.mass:=by
  have hs:=sum_mass (js:=[kPath,kRes]) (by decide) (mod_of h);simp only [sumM,List.length_cons,List.length_nil] at hs
  obtain ⟨_,h2,_,h4⟩:=mod_parts h;have h5:=ress3_mass (got_good hg h2) h4;rw [mod3,obj_mass,masses_cons,masses_cons,masses_nil];simp only [List.length_cons,List.length_nil]
  omega
theorem map_mass:∀ (ms:List JV),(∀ m∈ms,GoodQ m/\modB [kId,kAtt] m=true)->masses (ms.map mod3)<=3*masses ms
  | [],_=>by rw [List.map_nil,masses_nil];omega
  | m::ms,h=>by
    have h1:=mod3_mass (h m (by simp)).1 (h m (by simp)).2;have h2:=map_mass ms fun u hu=>h u (by simp [hu]);rw [List.map_cons,masses_cons,masses_cons];omega
theorem up2_mass {t:JV} (h:TwoQ t):(up2J t).mass<=3*t.mass:=by
  obtain ⟨⟨hg,_⟩,h⟩:=h;have hs:=sum_mass (js:=kFour) (by decide) (mods_of h);simp only [sumM,kFour,List.length_cons,List.length_nil] at hs
  obtain ⟨ho,_,_,_,_,hm⟩:=mods_parts h;have gm:=got_good hg (ho kMod (by simp [kFour]));have h1:=map_mass (kidsJ (got t kMod)) fun m hm'=>⟨GoodQ.kids gm m hm',hm m hm'⟩;have h2:1+masses (kidsJ (got t kMod))<=(got t kMod).mass:=by
    cases got t kMod with
    | mk k i n d e s ks vs=>
      rw [mass_mk];show 1+masses vs<=_;omega
  rw [up2J,obj_mass,masses_cons,masses_cons,masses_cons,masses_cons,masses_nil,numV_mass,list_mass];simp only [kFour,List.length_cons,List.length_nil]
  omega
/-! ## Right -/
theorem zip_mem {f:ByteArray->JV->JV} {ks:List ByteArray} {vs:List JV} {u:JV} (h:u∈List.zipWith f ks vs):∃ k∈ks,∃ v∈vs,u=f k v:=by
  obtain ⟨j,hj,rfl⟩:=List.getElem_of_mem h;rw [List.length_zipWith] at hj;refine ⟨ks[j],List.getElem_mem (by omega),vs[j],List.getElem_mem (by omega),?_⟩;rw [List.getElem_zipWith]
theorem res3_good {k:ByteArray} {x:JV} (hk:(oldP k.data.toList).isSome=true) (hg:GoodQ x) (h:resB [kId,kAtt] x=true):GoodQ (res3 k x)/\(res3 k x).deepN<=3:=by
  obtain ⟨h1,h2,h3⟩:=res_parts h;have g1:=got_good hg (h1 kId (by simp));have g2:=got_good hg (h1 kAtt (by simp));constructor
  · refine objectOf_good rfl (fun y hy=>keys_valid y ?_) keys_apart3p fun v hv=>?_
    · simp only [List.mem_cons,List.mem_nil_iff,or_false] at hy ⊢
      rcases hy with rfl | rfl | rfl <;> simp
    · simp only [List.mem_cons,List.mem_nil_iff,or_false] at hv
      rcases hv with rfl | rfl | rfl
      · exact strV_good (prov_valid hk)
      · exact g1
      · exact g2
  · refine deep_6 (m:=2) fun v hv=>?_;have hv:v∈[strV (provB (oldA k).type),got x kId,got x kAtt]:=hv;simp only [List.mem_cons,List.mem_nil_iff,or_false] at hv
    rcases hv with rfl | rfl | rfl
    · rw [strV_deep];omega
    · rcases h3 kId (by simp) with e | h4
      · exact absurd e (by decide)
      · have:=text_deep g1 h4;omega
    · refine deep_6 (m:=1) fun u hu=>?_;unfold eachB at h2;simp only [Bool.and_eq_true,List.all_eq_true] at h2
      exact text_deep (GoodQ.kids g2 u hu) (h2.2 u hu)
theorem ress3_good {r:JV} (hg:GoodQ r) (h:ressB [kId,kAtt] r=true):GoodQ (ress3 r)/\(ress3 r).deepN<=4:=by
  obtain ⟨h6,hk,hv⟩:=ress_parts h;obtain ⟨k1,k2,k3⟩:=goodq_keys hg h6;constructor
  · refine objectOf_good (by rw [List.length_zipWith];omega) k3 k2 fun u hu=>?_;obtain ⟨k,hk',v,hv',rfl⟩:=zip_mem hu;exact (res3_good (hk k hk') (GoodQ.kids hg v hv') (hv v hv')).1
  · refine deep_6 (m:=3) fun u hu=>?_;obtain ⟨k,hk',v,hv',rfl⟩:=zip_mem hu;exact (res3_good (hk k hk') (GoodQ.kids hg v hv') (hv v hv')).2
theorem mod3_good {m:JV} (hg:GoodQ m) (h:modB [kId,kAtt] m=true):GoodQ (mod3 m)/\(mod3 m).deepN<=5:=by
  obtain ⟨h1,h2,h3,h4⟩:=mod_parts h;have g1:=got_good hg h1;obtain ⟨g2,d2⟩:=ress3_good (got_good hg h2) h4;constructor
  · refine objectOf_good rfl (fun y hy=>keys_valid y ?_) keys_apart2 fun v hv=>?_
    · simp only [List.mem_cons,List.mem_nil_iff,or_false] at hy ⊢
      rcases hy with rfl | rfl <;> simp
    · simp only [List.mem_cons,List.mem_nil_iff,or_false] at hv
      rcases hv with rfl | rfl
      · exact g1
      · exact g2
  · refine deep_6 (m:=4) fun v hv=>?_;have hv:v∈[got m kPath,ress3 (got m kRes)]:=hv;simp only [List.mem_cons,List.mem_nil_iff,or_false] at hv
    rcases hv with rfl | rfl
    · have:=path_deep g1 h3;omega
    · exact d2
theorem up2_good {t:JV} (h:TwoQ t):TR (up2J t):=by
  obtain ⟨⟨hg,_⟩,h⟩:=h;obtain ⟨ho,_,hs,hl,_,hm⟩:=mods_parts h;have gs:=got_good hg (ho kSer (by simp [kFour]));have gl:=got_good hg (ho kLin (by simp [kFour]));have gm:=got_good hg (ho kMod (by simp [kFour]));have hM:∀ m∈(kidsJ (got t kMod)).map mod3,GoodQ m/\m.deepN<=5:=fun m hm'=>by
    obtain ⟨u,hu,rfl⟩:=List.mem_map.1 hm';exact mod3_good (GoodQ.kids gm u hu) (hm u hu)
  constructor
  · refine objectOf_good rfl (fun y hy=>keys_valid y ?_) keys_apart4 fun v hv=>?_
    · simp only [kFour,List.mem_cons,List.mem_nil_iff,or_false] at hy ⊢
      rcases hy with rfl | rfl | rfl | rfl <;> simp
    · simp only [List.mem_cons,List.mem_nil_iff,or_false] at hv
      rcases hv with rfl | rfl | rfl | rfl
      · exact numV_good (by decide)
      · exact gs
      · exact gl
      · exact listOf_good fun v hv=>(hM v hv).1
  · have:(up2J t).deepN<=6+1:=deep_6 fun v hv=>by
      have hv:v∈[numV 3,got t kSer,got t kLin,listOf ((kidsJ (got t kMod)).map mod3)]:=hv;simp only [List.mem_cons,List.mem_nil_iff,or_false] at hv
      rcases hv with rfl | rfl | rfl | rfl
      · rw [numV_deep];omega
      · have:=deep_flat gs (by rw [whole_kind hs];decide);omega
      · have:=text_deep gl hl;omega
      · exact deep_6 (m:=5) fun u hu=>(hM u hu).2
    omega
/-! ## Sizes -/
theorem undata_mem {p:List (List UInt8)} {x:List UInt8} (h:x∈undata p):x∈p:=by
  unfold undata at h;split at h
  · exact List.mem_of_mem_drop h
  · exact h
theorem old_size {k:ByteArray} (h:(oldP k.data.toList).isSome=true):(oldA k).type.size<=k.size:=by
  cases ho:oldP k.data.toList with
  | none=>rw [ho] at h;cases h
  | some a=>
    have ha:oldA k=a:=by rw [oldA,ho];rfl
    rw [ha];have hk:k.data.toList.length=k.size:=by simp
    unfold oldP oldOf at ho;have hp:∀ x∈undata (splitC 4 k.data.toList),x.length<=k.size:=fun x hx=>by
      have:=splitC_le 4 k.data.toList x (undata_mem hx);omega
    have ht:∀ x:List UInt8,(⟨x.toArray⟩:ByteArray).size=x.length:=fun x=>by simp [ByteArray.size]
    split at ho
    · next ty nm e=>
      obtain ⟨rfl,_⟩:=rightO_some ho;rw [e] at hp;show (⟨ty.toArray⟩:ByteArray).size<=_;rw [ht];exact hp ty (by simp)
    · next ty nm d e=>
      split at ho
      · cases ho
      · obtain ⟨rfl,_⟩:=rightO_some ho;rw [e] at hp;show (⟨ty.toArray⟩:ByteArray).size<=_;rw [ht];exact hp ty (by simp)
    · cases ho
theorem prov_size (s:ByteArray):(provB s).size<=s.size:=by
  have h1:=prov_le s.data.toList;have h2:s.data.toList.length=s.size:=by simp
  have h3:(provB s).size=(provL s.data.toList).length:=by simp [provB,ByteArray.size]
  omega
theorem key_size {t:JV} (hf:Fine t):∀ x∈keysJ t,x.size<=6000:=by
  cases hf with | mk _ _ _ _ _ _ _ _ _ _ f3 _=>exact f3
theorem up2_fine {t:JV} (hf:Fine t) (h:TwoQ t):Fine (up2J t):=by
  obtain ⟨⟨hg,_⟩,h⟩:=h;obtain ⟨ho,_,_,_,_,hm⟩:=mods_parts h;refine objectOf_fine (by decide) fun v hv=>?_;simp only [List.mem_cons,List.mem_nil_iff,or_false] at hv
  rcases hv with rfl | rfl | rfl | rfl
  · exact numV_fine (by decide)
  · exact got_fine hf _
  · exact got_fine hf _
  refine listOf_fine fun v hv=>?_;obtain ⟨m,hm',rfl⟩:=List.mem_map.1 hv;have fm:=fine_kid (got_fine hf kMod) hm';have gm:=hm m hm';refine objectOf_fine (by decide) fun v hv=>?_;simp only [List.mem_cons,List.mem_nil_iff,or_false] at hv
  rcases hv with rfl | rfl
  · exact got_fine fm _
  have fr:=got_fine fm kRes;obtain ⟨_,hk,_⟩:=ress_parts (mod_parts gm).2.2.2;refine objectOf_fine (key_size fr) fun v hv=>?_;obtain ⟨k,hk',x,hx,rfl⟩:=zip_mem hv;have fx:=fine_kid fr hx;refine objectOf_fine (by decide) fun v hv=>?_;simp only [List.mem_cons,List.mem_nil_iff,or_false] at hv
  rcases hv with rfl | rfl | rfl
  · exact strV_fine (Nat.le_trans (prov_size _) (Nat.le_trans (old_size (hk k hk')) (key_size fr k hk')))
  · exact got_fine fx _
  · exact got_fine fx _
open Go.RowKit Strs Jdec Save Go.Proofs.YtliekocamnklfaaGreatDoor.Addr
set_option maxRecDepth 100000
set_option maxHeartbeats 16000000
theorem zip_mapIdx (g:ByteArray->JV->JV):∀ (ks:List ByteArray) (vs:List JV),ks.length=vs.length->List.zipWith g ks vs=vs.mapIdx fun i v=>g (ks.getD i ⟨#[]⟩) v:=fun ks vs h=>by
  apply List.ext_getElem
  · simp [h]
  · intro i h1 h2
    have hv:i<vs.length:=by simpa using h2
    have hk:i<ks.length:=by omega
    rw [List.getElem_zipWith,List.getElem_mapIdx];simp [List.getD,hk]
theorem change_ress {r:JV} (hg:GoodQ r) (h6:kindOf r=6):changeJ (fun i v=>res3 ((keysJ r).getD i ⟨#[]⟩) v) r=ress3 r:=by
  have:=(goodq_keys hg h6).1;unfold changeJ ress3;rw [h6,zip_mapIdx _ _ _ this];rfl
theorem up1_any (i:Int) (m:JV) (hg:GoodQ m) (hf:Fine m) (hm:m.mass<=3000) (hb:modB [kId,kAtt] m=true) (ra:Raw) (A B:Nat->Prop) (w:World) (hi:IsV w A ra m) (hB:∀ b,w.heap.size<=b->B b) (T:TabsP w):Calls Tryz.prog 59 #[.int .i64 i,ra.val] w (ValP (mod3 m) B w):=by
  obtain ⟨h1,h2,h3,h4⟩:=mod_parts hb;have gp:=got_good hg h1;have gr:=got_good hg h2;obtain ⟨h6,hk,hv⟩:=ress_parts h4;have fr:=got_fine hf kRes;have mr:=got_mass m kRes;have hch:=change_ress gr h6;have hkl:=(goodq_keys gr h6).1;obtain ⟨w2,hw2,V2,B2⟩:=own8 w ra;obtain ⟨w3,hw3,V3,B3⟩:=own8 w2 Raw.zero;have V23:=hst V2 B3;have B03:=bel B2 B3;have HSZ:Hid (w.heap.size<=w2.heap.size/\w2.heap.size<w3.heap.size):=⟨B2.out.size,heap_lt V3.out⟩;have HB0:=Hid.out (p:=Hid _) hB;have HR:Hid (∀ W,Below w3.heap.size w3 W->Hid (IsV W A ra m)):=fun W hW=>hi.behind (B03.out.trans (hW.mono B03.out.size));have H1:=Hid.out (p:=Hid _) (dget_any hg hm (HR.out w3 (Below.refl _ _)) kRes);have HG:Hid (GoodQ m/\m.mass<=3000/\GoodQ (got m kPath)):=⟨hg,hm,gp⟩;obtain ⟨tt,hto⟩:∃ tt,got m kRes=tt:=⟨_,rfl⟩;have hMod:mod3 m=objectOf [kPath,kRes] [got m kPath,ress3 tt]:=by rw [mod3,hto]
  rw [hto] at gr h6 hk hv fr mr hch hkl H1;have HC:Hid (∀ (W:World) (ob:Nat) (ro:Raw),Below w.heap.size w W->W.heap[ob]?=some (.cells ro.arr 29 (0,0))->Hid (IsV W (fun _=>True) ro tt)->Calls Tryz.prog 57 #[ro.val,.func (.func 60) #[] #[.pointer (some ⟨ob,0,none⟩)]] W (ValP (ress3 tt) (fun b=>W.heap.size<=b) W)):=fun W ob ro hW hV ho=>by
    rw [<-hch];refine change_any 60 #[.pointer (some ⟨ob,0,none⟩)] (enters_of Tryz.func60 (by kernel_rfl) rfl) _ tt (by omega) ro _ _ W ho.out (fun _ h=>h) fun j hj rr w' hw' hr=>?_;have hj':j<(keysJ tt).length:=by omega
    have e1:(keysJ tt).getD j ⟨#[]⟩=(keysJ tt)[j]:=by simp [List.getD,hj']
    have hmem:=List.getElem_mem hj;have hkm:=List.getElem_mem hj';obtain ⟨p1,p2,p3⟩:=res_parts (hv _ hmem);have gv:=GoodQ.kids gr _ hmem;show Calls _ _ #[.int .i64 j,rr.val,.pointer (some ⟨ob,0,none⟩)] w' (ValP (res3 ((keysJ tt).getD j ⟨#[]⟩) (kidsJ tt)[j]) _ w');rw [e1];have hks:=key_size fr _ hkm;exact up11_any _ hks (by have:=old_size (hk _ hkm);omega) _ gv (by have:=mass_kid hmem;omega) (got_good gv (p1 kId (by simp))) (got_good gv (p1 kAtt (by simp))) tt j hj' rfl ro rr ob _ _ _ w' (ho.out.behind hw') ((hw'.block _ (heap_lt hV)).trans hV) hr (fun _ h=>h) (T.stays (hW.trans (hw'.mono hW.size)))
  obtain ⟨tr,htr⟩:∃ tr,mod3 m=tr:=⟨_,rfl⟩;rw [htr] at hMod ⊢;have HMOD:=Hid.out (p:=Hid _) hMod;clear hg hf hm hb hi hB T h1 h2 h3 h4 gp gr h6 hk hv fr mr hch hkl hto hMod htr;unfold Raw.val kRes at H1;unfold Raw.val
  dsimp only [Raw.zero] at hw3
  have hmf:∀ (fn:Fn) (first cap:Array Value) (w:World),(Instr.makeFunc fn first cap).run Tryz.prog w=.ok (.func fn first cap) w:=fun _ _ _ _=>rfl;obtain ⟨⟨x0,x1,x2,x3,x4,x5,x6,x7⟩,_⟩:=val_cells V23.out;go_enter Tryz.func59,Tryz.ntmps59
  go_wp2_with fail
  refine (Calls.mono H1.out ?_);rintro z w4 hz;obtain ⟨zo,rfl,Io,E4⟩:=hz.to;obtain ⟨w5,hw5,V5,B5⟩:=own8 w4 zo;have B35:=bel E4 B5;have I5:=kp Io B5;have H2:=Hid.out (p:=Hid _) (HC.out w5 w4.heap.size zo (bel B03 B35).out V5.out I5);have V25:=hst V23 B35;have V35:=hst V3 B35;clear hz H1 x0 x1 x2 x3 x4 x5 x6 x7 hw2 hw3 HC;unfold Raw.val at H2 ⊢;obtain ⟨⟨x0,x1,x2,x3,x4,x5,x6,x7⟩,_⟩:=val_cells V5.out;go_wp2_with fail
  refine (Calls.mono H2.out ?_);rintro z w6 hz;obtain ⟨zn,rfl,In,E6⟩:=hz.to;obtain ⟨w7,hw7,V7,B7⟩:=own8 w6 zn;have B57:=bel E6 B7;have B37:=bel B35 B57;have V27:=hst V25 B57;have V37:=hst V35 B57;have I7:Hid (IsV w7 (fun b=>w3.heap.size<=b) zn (ress3 tt)):=(In.out.behind B7.out).turn (Turn.mono _ fun b hb _=>Nat.le_trans B35.out.size hb);clear hz H2 x0 x1 x2 x3 x4 x5 x6 x7 In;unfold Raw.val
  go_upto_region 3 with (fail)
  have HA:Hid (∀ b,w7.heap.size<=b->w3.heap.size<=b):=fun b hb=>Nat.le_trans B37.out.size hb;have HS:Hid (∀ W,Below w7.heap.size w7 W->W.heap[w.heap.size]?=some (.cells ra.arr 29 (0,0))/\W.heap[w6.heap.size]?=some (.cells zn.arr 29 (0,0))):=fun W hW=>⟨(hW.block _ (heap_lt V27.out)).trans V27.out,(hW.block _ (heap_lt V7.out)).trans V7.out⟩;have HRW:Hid (∀ W,Below w7.heap.size w7 W->Hid (IsV W A ra m)):=fun W hW=>HR.out W (B37.out.trans (hW.mono B37.out.size));have V3W:Hid (∀ W,Below w7.heap.size w7 W->Hid (W.heap[w2.heap.size]?=some (.cells Raw.zero.arr 29 (0,0)))):=fun W hW=>(hW.block _ (heap_lt V37.out)).trans V37.out;have HN:Hid (w.heap.size≠w2.heap.size/\w6.heap.size≠w2.heap.size):=⟨by have:=heap_lt V2.out;omega,by have:=HSZ.out;have:=(bel B35 E6).out.size;omega⟩;have BX:=bel B03 B37;refine wp_region_held_drew (S:=(fun W=>W.heap[w.heap.size]?=some (.cells ra.arr 29 (0,0))/\W.heap[w6.heap.size]?=some (.cells zn.arr 29 (0,0)))) (by kernel_rfl) ?_ (fun hHeld=>?_)
  · exact HS.out _ (Below.refl _ _).drew
  obtain ⟨wd,hwd⟩:∃ x,w7.drew=x:=⟨_,rfl⟩;have D:Hid (Below w7.heap.size w7 wd):=by rw [<-hwd];exact (Below.refl _ _).drew
  rw [hwd] at hHeld ⊢;clear hwd;have DA:=D;replace I7:=kp I7 D
  repeat' first
    | (refine tkT 1 (v:=.agg #[.int .i64 ra.kind,.bool ra.is,.bool ra.neg,.string ra.dig,.int .i64 ra.exp,.string ra.str,.slice ra.ka ra.kn ra.kc,.slice ra.va ra.vn ra.vc]) (by decide +kernel) ?_ (hy:=by (intro w hs;obtain ⟨⟨e0,e1,e2,e3,e4,e5,e6,e7⟩,_⟩:=val_cells hs.1;clear hs;go_simp <;> with_reducible rfl)))
    | (refine tkT 3 (v:=.agg #[.int .i64 zn.kind,.bool zn.is,.bool zn.neg,.string zn.dig,.int .i64 zn.exp,.string zn.str,.slice zn.ka zn.kn zn.kc,.slice zn.va zn.vn zn.vc]) (by decide +kernel) ?_ (hy:=by (intro w hs;obtain ⟨⟨e0,e1,e2,e3,e4,e5,e6,e7⟩,_⟩:=val_cells hs.2;clear hs;go_simp <;> with_reducible rfl)))
    | (refine rdT [0,2] (by decide +kernel) (by simp) ?_;try simp only [nz])
    | (refine rdT [2] (by decide +kernel) (by simp) ?_;try simp only [nz])
    | (refine rdT [4] (by decide +kernel) (by simp) ?_;try simp only [nz])
    | (refine rdT [5] (by decide +kernel) (by simp) ?_;try simp only [nz])
    | (refine rdT [6] (by decide +kernel) (by simp) ?_;try simp only [nz])
    | (refine rdT [0,4] (by decide +kernel) (by simp) ?_;try simp only [nz])
    | (refine rdT [0] (by decide +kernel) (by simp) ?_;try simp only [nz])
    | exact AllReadyH.nil
    | refine consT ?_ ?_
    | (refine (⟨fun K hK=>?_⟩:Tag 0 _)
       obtain ⟨q,hq,KK,E⟩:=wof D (pair_new · kPath kRes);unfold kPath kRes at hq
       try simp only [nz]
       go_simp
       have MKK:=Hid.out (p:=Hid _) (upn HA DA _ (Nat.le_refl _));clear hq;replace D:=bel D E;(try replace DA:=bel DA E);(try replace I7:=kp I7 E);(try replace I1:=kp I1 E);(try replace I4:=kp I4 E);(try replace VL:=hst VL E);(try replace KK:=ktx KK E);clear hHeld;refine hK.out _ _ ?_ (fun hHeld=>?_)
       · exact HS.out _ D.out
       clear hK K
       try simp only [nz])
    | (refine (⟨fun K hK=>?_⟩:Tag 2 _)
       try simp only [nz]
       have HC:=dcopied_any HG.out.1 HG.out.2.1 (HRW.out _ D.out) kPath HG.out.2.2 (upn HA DA);unfold Raw.val kPath at HC
       go_simp
       go_at_call 64;refine (Calls.mono HC ?_)
       rintro z q hz;obtain ⟨z1,rfl,I1,E⟩:=hz.to;clear hz HC;unfold Raw.val;replace D:=bel D E;(try replace DA:=bel DA E);(try replace I7:=kp I7 E);(try replace I1:=kp I1 E);(try replace I4:=kp I4 E);(try replace VL:=hst VL E);(try replace KK:=ktx KK E);clear hHeld;refine hK.out _ _ ?_ (fun hHeld=>?_)
       · exact HS.out _ D.out
       clear hK K
       try simp only [nz])
    | (refine (⟨fun K hK=>?_⟩:Tag 4 _)
       obtain ⟨q,hq,VL,E⟩:=wof D (kid2 · z1 zn)
       try simp only [nz]
       go_simp
       have MVL:=Hid.out (p:=Hid _) (upn HA DA _ (Nat.le_refl _));clear hq;replace D:=bel D E;(try replace DA:=bel DA E);(try replace I7:=kp I7 E);(try replace I1:=kp I1 E);(try replace I4:=kp I4 E);(try replace VL:=hst VL E);(try replace KK:=ktx KK E);clear hHeld;refine hK.out _ _ ?_ (fun hHeld=>?_)
       · exact HS.out _ D.out
       clear hK K
       try simp only [nz])
    | (refine (⟨fun K hK=>?_⟩:Tag 5 _)
       try simp only [nz]
       go_simp
       go_at_call 62;refine (Calls.mono (vobj [(z1,got m kPath),(zn,ress3 tt)] KK VL MKK.out MVL.out (vem2 I1 I7) 2 2 rfl rfl) ?_)
       rintro z q hz;obtain ⟨z4,rfl,I4,E⟩:=hz.to;clear hz;unfold Raw.val;replace D:=bel D E;(try replace DA:=bel DA E);(try replace I7:=kp I7 E);(try replace I1:=kp I1 E);(try replace I4:=kp I4 E);(try replace VL:=hst VL E);(try replace KK:=ktx KK E);clear hHeld;refine hK.out _ _ ?_ (fun hHeld=>?_)
       · exact HS.out _ D.out
       clear hK K
       try simp only [nz])
    | (refine (⟨fun K hK=>?_⟩:Tag 6 _)
       have VZ:=V3W.out _ D.out;obtain ⟨⟨v0,v1,v2,v3,v4,v5,v6,v7⟩,y0,y1,y2,y3,y4,y5,y6,y7⟩:=val_cells VZ.out
       try simp only [nz]
       go_simp
       clear v0 v1 v2 v3 v4 v5 v6 v7 y0 y1 y2 y3 y4 y5 y6 y7;have HKE:=HS.out _ D.out;clear hHeld;refine hK.out _ _ ?_ (fun hHeld=>?_)
       · exact keep8 HKE (hd HN.out.1) (hd HN.out.2) _ _ _ _ _ _ _ _
       clear hK K
       try simp only [nz])
    | (refine dnT (by decide +kernel) ?_
       clear hHeld;go_wp2_with fail
       refine val_ret (a:=z4) (b:=w2.heap.size) rfl (set8 VZ.out z4) rfl ?_;exact ⟨z4,rfl,by rw [HMOD.out];exact dnB I4 (fun k hk=>by have hk:w3.heap.size<=k:=hk;have:=HSZ.out;exact ⟨by omega,HB0.out k (by omega)⟩) _ _ _ _ _ _ _ _,below8 (bel BX D).out HSZ.out.1 _ _ _ _ _ _ _ _⟩)
end Go.Proofs.YtliekocamnklfaaGreatDoor.One
