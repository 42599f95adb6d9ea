/- A world whose listed variables hold what the row lists. -/
import Derived.Test.YtliekocamnklfaaGreatDoorRows
import Derived.Test.YtliekocamnklfaaGreatDoorPJenK
import Derived.Test.YtliekocamnklfaaGreatDoorPRtC
import Derived.WalkKit
import Derived.Deep.DeepHandedRow
import Derived.ProofKit
import Derived.OpenShut
import Derived.ShutString
import Derived.ChangeOld
import Derived.Below
import Derived.Carry
import Derived.Deep.Slices
import Derived.Laws.StructEq
namespace Go.Proofs.YtliekocamnklfaaGreatDoor
def flatD:Nat->DataW Unit->List Value
  | 0,_=>[]
  | n+1,.agg l=>l.flatMap (flatD n)
  | _,.lit (.int k z)=>[.int k z]
  | _,.lit (.string b)=>[.string ⟨b.toArray⟩]
  | _,.lit (.bool b)=>[.bool b]
  | _,_=>[]
def fill (d:DataW Unit):Obj->Obj
  | .cells _ t fr=>.cells (flatD 8 d).toArray t fr
  | o=>o
open Go.ChangeShapes Go.WideShapes Go.ChangeAt Go.RowKit
theorem ownKnobs:ownKnob Tryz.prog.godebug=none:=by kernel_rfl
theorem laidOut:laidOutB Tryz.prog=true:=by kernel_rfl
theorem trodAll_stays {H:Type} {enc:TypeId × Value->H} {W W':World} (hb:Below W.heap.size W W'):∀ {ts:List TypeId} {vs:List Value} {ds:List (DataW H)} {ps:List MemPlace},
    (∀ t∈ts,Tryz.prog.readableRec t=true)->(∀ t∈ts,t<Tryz.prog.types.size) →
    DataW.TrodAll enc Tryz.prog W 0 (fun _=>true) true ts vs ds ps->DataW.TrodAll enc Tryz.prog W' 0 (fun b=>decide (b<W.heap.size)) true ts vs ds ps
  | [],[],[],_,_,_,h=>h
  | t::ts,v::vs,d::ds,ps,hr,hz,⟨p,q,h,hs,e⟩=>
    ⟨p,q,Below.trod laidOut (hr t (by simp)) (hz t (by simp)) h hb (by obtain ⟨m,hm⟩:=h;exact DataW.trod_lt m _ _ _ hm),trodAll_stays hb (fun t' h'=>hr t' (by simp [h'])) (fun t' h'=>hz t' (by simp [h'])) hs,e⟩
  | [],_::_,_,_,_,_,h=>h.elim
  | [],[],_::_,_,_,_,h=>h.elim
  | _::_,[],_,_,_,_,h=>h.elim
  | _::_,_::_,[],_,_,_,h=>h.elim
theorem readable_of {ts:List TypeId} (h:ts.all (fun t=>Tryz.prog.readableRec t && decide (t<Tryz.prog.types.size))=true) (t:TypeId) (ht:t∈ts):Tryz.prog.readableRec t=true/\t<Tryz.prog.types.size:=by
  have:=List.all_eq_true.1 h t ht
  simpa using this
end Go.Proofs.YtliekocamnklfaaGreatDoor
set_option linter.unusedVariables false
set_option linter.unusedSimpArgs false
set_option maxRecDepth 100000
namespace Go.Proofs.YtliekocamnklfaaGreatDoor.Addr
open Go.RowKit Go.Shelf Utf Strs
open Jdec (IsTexts)
theorem APost.to {r:Option Adr} {w w':World} {e:Ending} (h:APost r w e w') (x:Adr) (hx:r.getD zeroA=x) (er:Int) (he:(if r.isSome then (0:Int) else 3)=er):∃ pa pc,e=.returned (.tuple #[.agg #[.slice pa x.path.length pc,.string x.type,.string x.name,.int .i64 x.key,.int .u64 x.place,.string x.word],.int .i64 er])/\Hid (IsTexts w' (fun _=>True) pa x.path)/\Hid (Below w.heap.size w w'):=by
  subst hx he;obtain ⟨pa,pc,rfl,ht,hb⟩:=h;exact ⟨pa,pc,rfl,ht.turn (Jdec.Turn.mono _ (fun _ _ _=>trivial)),hb⟩
theorem RPost.to {r:Option Adr} {w w':World} {e:Ending} (h:RPost r w e w') (x:Adr) (hx:r.getD zeroA=x) (ok:Bool) (he:r.isSome=ok):∃ pa pc,e=.returned (.tuple #[.agg #[.slice pa x.path.length pc,.string x.type,.string x.name,.int .i64 x.key,.int .u64 x.place,.string x.word],.bool ok])/\Hid (IsTexts w' (fun _=>True) pa x.path)/\Hid (Below w.heap.size w w'):=by
  subst hx he;obtain ⟨pa,pc,rfl,ht,hb⟩:=h;exact ⟨pa,pc,rfl,ht.turn (Jdec.Turn.mono _ (fun _ _ _=>trivial)),hb⟩
end Go.Proofs.YtliekocamnklfaaGreatDoor.Addr
set_option maxHeartbeats 4000000
namespace Go.Proofs.YtliekocamnklfaaGreatDoor.Jdec
open Go.RowKit Strs
structure KeysQ (ks:List ByteArray):Prop where
  words:∀ x∈ks,Utf.validB x.data.toList=true
  apart:ks.Nodup
theorem KeysQ.more {ks:List ByteArray} {i:Nat} (h:i<ks.length) (hq:KeysQ (ks.take i)) (hv:Utf.validB ks[i].data.toList=true) (hn:(ks.take i).any (fun x=>decide (x=ks[i]))=false):KeysQ (ks.take (i+1)):=by
  have e:ks.take (i+1)=ks.take i++[ks[i]]:=by rw [List.take_add_one,List.getElem?_eq_getElem h];rfl
  rw [e];refine ⟨fun x hx=>?_,?_⟩
  · rcases List.mem_append.1 hx with hx | hx
    · exact hq.words x hx
    · rw [List.mem_singleton.1 hx];exact hv
  · rw [List.nodup_append];refine ⟨hq.apart,by simp,fun a ha b hb e=>?_⟩;rw [List.mem_singleton.1 hb] at e;rw [List.any_eq_false] at hn;exact hn a ha (decide_eq_true e)
theorem KeysQ.not_word {ks:List ByteArray} {i:Nat} (h:i<ks.length) (hv:Utf.validB ks[i].data.toList=false):¬ KeysQ ks:=fun hq=>by
  rw [hq.words _ (List.getElem_mem h)] at hv;cases hv
theorem KeysQ.not_apart {ks:List ByteArray} {i:Nat} (h:i<ks.length) (hn:(ks.take i).any (fun x=>decide (x=ks[i]))=true):¬ KeysQ ks:=fun hq=>by
  rw [List.any_eq_true] at hn;obtain ⟨x,hx,e⟩:=hn;obtain rfl:=of_decide_eq_true e;obtain ⟨j,hj,e⟩:=List.getElem_of_mem hx;rw [List.length_take] at hj;rw [List.getElem_take] at e;exact absurd ((List.getElem_inj hq.apart).1 e) (by omega)
def IsPost (P:Prop) (w:World) (x:Ending) (w':World):Prop:=∃ b,x=.returned (.bool b)/\(b=true↔P)/\Below w.heap.size w w'
theorem IsPost.yes {P:Prop} {w w':World} {x:Ending} (hx:x=.returned (.bool true)) (h:P) (hB:Below w.heap.size w w'):IsPost P w x w':=⟨true,hx,⟨fun _=>h,fun _=>rfl⟩,hB⟩
theorem IsPost.no {P:Prop} {w w':World} {x:Ending} (hx:x=.returned (.bool false)) (h:¬ P) (hB:Below w.heap.size w w'):IsPost P w x w':=⟨false,hx,⟨fun e=>(by cases e),fun p=>absurd p h⟩,hB⟩
theorem valid_is (s:ByteArray) (w:World) (hs:s.size<=4611686018427387904) (T:Utf.Sizes w) (b:Bool) (h:Utf.validB s.data.toList=b):Calls Tryz.prog 147 #[.string s] w fun e w'=>e=.returned (.bool b)/\w=w':=by
  have:=Quote.valid_any s w hs T;rw [Utf.badZ_neg,h] at this;exact this
theorem areKeys_is (ks:List ByteArray) (ka:Option Addr) (kc:Nat) (A:Nat->Prop) (w:World) (ht:IsTexts w A ka ks) (hl:ks.length<=3000) (hs:∀ x∈ks,x.size<=1000000) (T:Utf.Sizes w):Calls Tryz.prog 180 #[.slice ka ks.length kc] w (IsPost (KeysQ ks) w):=by
  have HT:Hid (IsTexts w A ka ks):=ht;have HS:=Hid.out (p:=Hid _) hs;have HZ:=Hid.out (p:=Hid _) T;obtain ⟨w1,hw1⟩:∃ w1,w.alloc (.map #[] 0)=w1:=⟨_,rfl⟩;have S1:Hid (Seen w1 w.heap.size 0 []):=by rw [<-hw1];exact Seen.made w
  have B1:Hid (Below w.heap.size w w1):=by rw [<-hw1];exact (Below.refl _ _).alloc (Nat.le_refl _) _
  clear ht hs T;have hmm:=makeMap_hint ks.length;go_enter Tryz.func180,Tryz.ntmps180
  go_wp2_with fail
  clear hw1
  go_loopw [11] (fun p wr=>∃ i:Nat,p=.int .i64 i/\i<=ks.length/\Hid (KeysQ (ks.take i))/\Hid (Seen wr w.heap.size i (ks.take i))/\Hid (Below w.heap.size w wr)) (fun p _=>ks.length-(intOf p).toNat)
  case atStart=>exact ⟨0,rfl,Nat.zero_le _,⟨fun x hx=>(by cases hx),List.nodup_nil⟩,S1.out,B1.out⟩
  case round=>
    obtain ⟨i,rfl,hi,hQ,hS,hB⟩:=hrel;by_cases hlt:i<ks.length
    · have hne:ks≠[]:=fun e=>by rw [e] at hlt;simp at hlt
      have HT5:Hid (IsTexts wr A ka ks):=IsTexts.turn HT.out (Turn.below hB.out);obtain ⟨b,o,rfl,_,_,hc⟩:=HT5.out.resolve_left hne;have g2:=hc i hlt;have hx2:=HS.out ks[i] (List.getElem_mem hlt);have hmore:=fun a b=>KeysQ.more hlt hQ.out a b;have hnw:=fun a=>KeysQ.not_word hlt a;have hna:=fun a=>KeysQ.not_apart hlt a;have htk:ks.take (i+1)=ks.take i++[ks[i]]:=by rw [List.take_add_one,List.getElem?_eq_getElem hlt];rfl
      generalize ks[i]=x at *;have hlook:=hS.out.look x (by unfold maxLen;omega);obtain ⟨V,hV⟩:∃ V,Utf.validB x.data.toList=V:=⟨_,rfl⟩;obtain ⟨S,hSS⟩:∃ S,(ks.take i).any (fun y=>decide (y=x))=S:=⟨_,rfl⟩;rw [hSS] at hlook hmore hna;rw [hV] at hmore hnw;have hva:=valid_is x wr (by omega) (HZ.out.stays hB.out) V hV;have hkey:=key_of x (by unfold maxLen;omega);have HVA:=Hid.out (p:=Hid _) hva;have HTK:=Hid.out (p:=Hid _) htk;have HM:=Hid.out (p:=Hid _) hmore;have HNW:=Hid.out (p:=Hid _) hnw;have HNA:=Hid.out (p:=Hid _) hna;obtain ⟨D,hD1,hD2⟩:=hS.out;have HD1:Hid (wr.ownsMap Tryz.prog 9 (plainElem Tryz.prog 4) w.heap.size i D):=hD1;have HD2:=Hid.out (p:=Hid _) hD2;clear hc hva htk hD1 hD2 HT5 hV hSS hmore hnw hna;cases S
      case true=>
        go_wp2_with fail
        go_ret
        exact .no rfl (HNA.out (by trivial)) hB.out
      case false=>
        cases V
        case false=>
          go_wp2_with fail
          refine (Calls.mono HVA.out ?_);rintro e w' ⟨rfl,rfl⟩;go_wp2_with fail
          go_ret
          exact .no rfl (HNW.out (by trivial)) hB.out
        case true=>
          go_wp2_with fail
          refine (Calls.mono HVA.out ?_);rintro e w' ⟨rfl,rfl⟩;go_wp2_with (at_mapUpdate;refine wpList_mapUpdate_own _ rfl _ _ _ 202 rfl 9 4 keyLaw Tryz.underlying202 _ w.heap.size i D rfl HD1.out (by unfold maxLen;omega) _ _ _ rfl rfl hkey _ [] (plainElem_bool Tryz.underlying4 true) ?_)
          intro w4 hown4 hgrow4
          have S4:Hid (Seen w4 w.heap.size (i+1) (ks.take (i+1))):=by rw [Hid,HTK.out];exact Seen.put HD1.out HD2.out hown4
          have B4:Hid (Below w.heap.size w w4):=hB.out.grown hgrow4 hB.out.size (fun k e=>by cases e;exact Nat.le_refl _);have Q4:Hid (KeysQ (ks.take (i+1))):=HM.out (by trivial) (by trivial);clear hown4 hgrow4 hlook g2;go_wp2_with fail
          go_roundw
          case rel=>exact ⟨i+1,by go_num,by omega,Q4.out,S4.out,B4.out⟩
          case measure=>simp [intOf];omega
    · have hik:i=ks.length:=by omega
      have Q:Hid (KeysQ ks):=by have:=hQ.out;rw [hik,List.take_length] at this;exact this
      clear hik;go_wp2_with fail
      go_ret
      exact .yes rfl Q.out hB.out
end Go.Proofs.YtliekocamnklfaaGreatDoor.Jdec
