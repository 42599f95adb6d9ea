/- quote.reader: next and fail. -/
import Derived.Test.YtliekocamnklfaaGreatDoorPUtfW
import Derived.Deep.DeepCutAuto
import Derived.WalkSmall
set_option linter.unusedVariables false
set_option linter.unusedSimpArgs false
set_option maxRecDepth 100000
set_option maxHeartbeats 2000000
namespace Go.Proofs.YtliekocamnklfaaGreatDoor.Quote
open Go.RowKit
def thrown (k:Int):List PanicEntry:=[{ v:=.iface 264 (.agg #[.int .i64 k]),recovered:=false }]
structure Rdr (w:World) (B b:Nat) (src:ByteArray) (p:Nat) (out:List UInt8):Prop where
  mk ::
  it:∃ cs,Bl w B b 2 268 cs out/\cs.size=4/\cs[0]?=some (.string src)/\cs[1]?=some (.int .i64 p)
theorem Rdr.c0 {w:World} {B b:Nat} {src:ByteArray} {p:Nat} {out:List UInt8} (h:Rdr w B b src p out):w.cell? ⟨b,0,none⟩=some (.string src):=by
  obtain ⟨cs,hb,hs,h0,h1⟩:=h.it;rw [cell_of hb.blk];exact h0
theorem Rdr.c1 {w:World} {B b:Nat} {src:ByteArray} {p:Nat} {out:List UInt8} (h:Rdr w B b src p out):w.cell? ⟨b,1,none⟩=some (.int .i64 p):=by
  obtain ⟨cs,hb,hs,h0,h1⟩:=h.it;rw [cell_of hb.blk];exact h1
theorem Rdr.f1 {w:World} {B b:Nat} {src:ByteArray} {p:Nat} {out:List UInt8} (h:Rdr w B b src p out):w.frozen? ⟨b,1,none⟩=false:=by
  obtain ⟨cs,hb,hs,h0,h1⟩:=h.it;exact frozen_of hb.blk _
theorem Rdr.lt {w:World} {B b:Nat} {src:ByteArray} {p:Nat} {out:List UInt8} (h:Rdr w B b src p out):b<w.heap.size:=by
  obtain ⟨cs,hb,hs,h0,h1⟩:=h.it;exact hb.lt
theorem Rdr.hB {w:World} {B b:Nat} {src:ByteArray} {p:Nat} {out:List UInt8} (h:Rdr w B b src p out):B<=b:=by
  obtain ⟨cs,hb,hs,h0,h1⟩:=h.it;exact hb.hB
theorem Rdr.drewN {w:World} {B b:Nat} {src:ByteArray} {p:Nat} {out:List UInt8} (h:Rdr w B b src p out) (n:Nat):Rdr (w.drewN n) B b src p out:=by
  obtain ⟨cs,hb,hs,h0,h1⟩:=h.it;exact ⟨cs,hb.stays (below_drewN _ _ _),hs,h0,h1⟩
theorem Rdr.stays {w w':World} {B b:Nat} {src:ByteArray} {p:Nat} {out:List UInt8} (h:Rdr w B b src p out) (hw:Below w.heap.size w w'):Rdr w' B b src p out:=by
  obtain ⟨cs,hb,hs,h0,h1⟩:=h.it;exact ⟨cs,hb.stays hw,hs,h0,h1⟩
theorem Rdr.setAt {w:World} {B b:Nat} {src:ByteArray} {p:Nat} {out:List UInt8} (h:Rdr w B b src p out) (q:Nat):Rdr (w.setCell ⟨b,1,none⟩ (.int .i64 q)) B b src q out:=by
  obtain ⟨cs,hb,hs,h0,h1⟩:=h.it;obtain ⟨v,hv,ho⟩:=hb.buf;have hne:=Lib.ownBlock_ne ho hb.blk hb.ne;refine ⟨cs.setIfInBounds 1 (.int .i64 q),⟨hb.hB,heap_set_same hb.blk _,by simpa using hb.size,?_,⟨v,?_,?_⟩,hb.ne,by simpa using hb.lies⟩,by simpa using hs,?_,?_⟩
  · rw [Array.getElem?_setIfInBounds_ne (by omega)];exact hb.ptr
  · rw [Array.getElem?_setIfInBounds_ne (by omega)];exact hv
  · exact ho.kept (row:=some b) ⟨rfl,rfl,rfl,by simp [World.setCell],fun k _ hk=>Below.heap_setCell _ _ _ _ (fun e=>hk (by simp [e]))⟩ (Or.inr hne)
  · rw [Array.getElem?_setIfInBounds_ne (by omega)];exact h0
  · rw [Array.getElem?_setIfInBounds_self_of_lt (by omega)]
def RPost (B b:Nat) (src:ByteArray) (w:World) (r:Except Nat (Value × Nat × List UInt8)) (e:Ending) (w':World):Prop:=
  Keeps B b w w'/\match r with
    | .error k=>e=.panicked (thrown k)
    | .ok (v,p,out)=>e=.returned v/\Rdr w' B b src p out
theorem fail_any (k:Int) (w:World):Calls Tryz.prog 293 #[.int .i64 k] w fun e w'=>e=.panicked (thrown k)/\w=w':=by
  go_enter Tryz.func293,Tryz.ntmps293
  go_wp2
  exact ⟨rfl,rfl,rfl⟩
theorem next_end (B b:Nat) (src:ByteArray) (p:Nat) (out:List UInt8) (w:World) (h:Rdr w B b src p out) (hp:src.size<=p) (hp2:p<=4611686018427387904) (hs:src.size<=4611686018427387904):Calls Tryz.prog 292 #[.pointer (some ⟨b,0,none⟩)] w (RPost B b src w (.error 2)):=by
  have c0:=h.c0;have c1:=h.c1;have H:=Hid.out (p:=Hid _) h;clear h;go_enter Tryz.func292,Tryz.ntmps292
  go_wp2_with fail
  go_quiet (fail)
  go_wp2_with fail
  refine (fail_any 2 _).mono ?_;rintro e w' ⟨rfl,rfl⟩;go_wp2_with fail
  exact ⟨rfl,(Keeps.refl _ _ _).drewN _,rfl⟩
theorem next_ok (B b:Nat) (src:ByteArray) (p:Nat) (out:List UInt8) (w:World) (h:Rdr w B b src p out) (hp:p<src.size) (hs:src.size<=4611686018427387904):Calls Tryz.prog 292 #[.pointer (some ⟨b,0,none⟩)] w (RPost B b src w (.ok (.int .u8 src[p].toNat,p+1,out))):=by
  have c0:=h.c0;have c1:=h.c1;have f1:=h.f1;have hb:=h.hB;have hlt:=h.lt;have H:=Hid.out (p:=Hid _) h;clear h;go_enter Tryz.func292,Tryz.ntmps292
  go_wp2_with fail
  go_quiet (fail)
  go_wp2_with fail
  go_quiet (fail)
  go_wp2_with fail
  go_ret
  exact ⟨(((Keeps.refl B b w).drewN _).setCell (p:=⟨b,1,none⟩) rfl hb _).drewN _,rfl,((H.out.drewN _).setAt (p+1)).drewN _⟩
open Utf
theorem or16 (n d:Nat) (D:Int) (hD:D=d) (hn:n<1048576) (hd:d<16):bits .or .i64 ((n:Int)*16) D=((n*16+d:Nat):Int):=by
  subst hD;rw [show ((n:Int)*16)=((n*16:Nat):Int) by omega,Bits.or_nat _ _ (by omega) (by omega)];have:=Nat.shiftLeft_add_eq_or_of_lt (i:=4) (b:=d) (by omega) n;rw [Nat.shiftLeft_eq] at this;exact congrArg _ this.symm
theorem int_i64 {a b:Int} (h:a=b):Value.int .i64 a=Value.int .i64 b:=by rw [h]
theorem drop_cons (s:ByteArray) (p:Nat) (h:p<s.size):s.data.toList.drop p=s[p]::s.data.toList.drop (p+1):=by
  rw [List.drop_eq_getElem_cons (by simpa using h)];rfl
theorem drop_end (s:ByteArray) (p:Nat) (h:s.size<=p):s.data.toList.drop p=[]:=List.drop_eq_nil_of_le (by simpa using h)
def fourR (src:ByteArray) (p:Nat) (out:List UInt8):Except Nat (Value × Nat × List UInt8):=
  match four 4 0 (src.data.toList.drop p) with
  | .error k=>.error k
  | .ok n=>.ok (.int .i64 n,p+4,out)
theorem four_any (B b:Nat) (src:ByteArray) (p:Nat) (out:List UInt8) (w:World) (h:Rdr w B b src p out) (hp:p<=src.size) (hs:src.size<=1152921504606846976):Calls Tryz.prog 324 #[.pointer (some ⟨b,0,none⟩)] w (RPost B b src w (fourR src p out)):=by
  have H:=Hid.out (p:=Hid _) h;clear h;obtain ⟨r,hr⟩:∃ r,r=fourR src p out:=⟨_,rfl⟩;rw [<-hr];have HR:=Hid.out (p:=Hid _) hr;clear hr;go_enter Tryz.func324,Tryz.ntmps324
  go_wp2_with fail
  go_loopw [3,5] (fun v i wr=>∃ (k n:Nat),k<=4/\i=.int .i64 k/\v=.int .i64 n/\n<16 ^ k/\p+k<=src.size/\Hid (Rdr wr B b src (p+k) out/\Keeps B b w wr/\four 4 0 (src.data.toList.drop p)=four (4-k) n (src.data.toList.drop (p+k)))) (fun _ i _=>4-(intOf i).toNat)
  case atStart=>exact ⟨0,0,by omega,rfl,rfl,by omega,by omega,H.out,Keeps.refl _ _ _,rfl⟩
  case round=>
    obtain ⟨k,n,hk,rfl,rfl,hn,hpk,J⟩:=hrel;by_cases hlt:k<4
    · have hn6:n<65536:=Nat.lt_of_lt_of_le hn (Nat.pow_le_pow_right (by omega) (by omega:k<=4));have e4:Hid (4-k=(3-k)+1):=by unfold Hid;omega
      by_cases hend:p+k<src.size
      · have hc:src[p+k].toNat<256:=UInt8.toNat_lt _;have hcons:=Hid.out (p:=Hid _) (drop_cons src (p+k) hend);go_wp2_with fail
        refine (next_ok B b src (p+k) out wr J.out.1 hend (by omega)).mono ?_;rintro e w1 ⟨hk1,rfl,h1⟩;have H1:=Hid.out (p:=Hid _) h1;clear h1;have K1:Hid (Keeps B b w w1):=J.out.2.1.trans hk1;clear hk1
        cases hx:hexv src[p+k].toNat with
        | none=>
          have hf:Hid (r=.error 3):=by
            rw [Hid,HR.out,fourR,J.out.2.2,e4.out,hcons.out];unfold four;rw [hx]
          have q1:¬ (48<=src[p+k].toNat/\src[p+k].toNat<=57):=by intro h;simp [hexv,h] at hx
          have q2:¬ (97<=src[p+k].toNat/\src[p+k].toNat<=102):=by
            intro h
            rw [hexv,if_neg (by omega),if_pos h] at hx;cases hx
          have q3:¬ (65<=src[p+k].toNat/\src[p+k].toNat<=70):=by
            intro h
            rw [hexv,if_neg (by omega),if_neg (by omega),if_pos h] at hx;cases hx
          clear hx hcons;generalize src[p+k].toNat=c at *;have hfin:∀ (a:Act),a.defers=[]->bodyPost Tryz.prog Tryz.f324 (RPost B b src w r) (.panic (thrown 3)) a w1:=by
            intro a ha
            exact ⟨ha,by rw [hf.out];exact ⟨K1.out,rfl⟩⟩
          have HF:=Hid.out (p:=Hid _) hfin;clear hfin;have hr:c<48∨58<=c/\c<65∨71<=c/\c<97∨103<=c:=by omega
          rcases hr with hr | hr | hr | hr
          · have d0:decide (48<=(c:Int))=false:=by simp;omega
            have d1:decide (97<=(c:Int))=false:=by simp;omega
            have d2:decide (65<=(c:Int))=false:=by simp;omega
            go_wp2_with fail
            refine (fail_any 3 _).mono ?_;rintro e w' ⟨rfl,rfl⟩;go_wp2_with fail
            exact HF.out _ rfl
          · have d0:decide (48<=(c:Int))=true:=by simp;omega
            have d1:decide ((c:Int)<=57)=false:=by simp;omega
            have d2:decide (97<=(c:Int))=false:=by simp;omega
            have d3:decide (65<=(c:Int))=false:=by simp;omega
            go_wp2_with fail
            refine (fail_any 3 _).mono ?_;rintro e w' ⟨rfl,rfl⟩;go_wp2_with fail
            exact HF.out _ rfl
          · have d0:decide (48<=(c:Int))=true:=by simp;omega
            have d1:decide ((c:Int)<=57)=false:=by simp;omega
            have d2:decide (97<=(c:Int))=false:=by simp;omega
            have d3:decide (65<=(c:Int))=true:=by simp;omega
            have d4:decide ((c:Int)<=70)=false:=by simp;omega
            go_wp2_with fail
            refine (fail_any 3 _).mono ?_;rintro e w' ⟨rfl,rfl⟩;go_wp2_with fail
            exact HF.out _ rfl
          · have d0:decide (48<=(c:Int))=true:=by simp;omega
            have d1:decide ((c:Int)<=57)=false:=by simp;omega
            have d2:decide (97<=(c:Int))=true:=by simp;omega
            have d3:decide ((c:Int)<=102)=false:=by simp;omega
            have d4:decide (65<=(c:Int))=true:=by simp;omega
            have d5:decide ((c:Int)<=70)=false:=by simp;omega
            go_wp2_with fail
            refine (fail_any 3 _).mono ?_;rintro e w' ⟨rfl,rfl⟩;go_wp2_with fail
            exact HF.out _ rfl
        | some d=>
          have hd:=hexv_lt hx;have hst:Hid (four 4 0 (src.data.toList.drop p)=four (4-(k+1)) (n*16+d) (src.data.toList.drop (p+(k+1)))):=by
            have e5:4-(k+1)=3-k:=by omega
            rw [Hid,J.out.2.2,e4.out,hcons.out,e5];conv=>lhs;unfold four
            rw [hx]
            rfl
          have hn1:n*16+d<16 ^ (k+1):=by rw [Nat.pow_succ];omega
          have hv:48<=src[p+k].toNat/\src[p+k].toNat<=57/\d=src[p+k].toNat-48∨97<=src[p+k].toNat/\src[p+k].toNat<=102/\d=src[p+k].toNat-87∨65<=src[p+k].toNat/\src[p+k].toNat<=70/\d=src[p+k].toNat-55:=by
            unfold hexv at hx
            repeat' split at hx
            all_goals simp at hx
            all_goals omega
          clear hx hcons;generalize src[p+k].toNat=c at *;rcases hv with ⟨v1,v2,v3⟩ | ⟨v1,v2,v3⟩ | ⟨v1,v2,v3⟩
          · have d0:decide (48<=(c:Int))=true:=by simp;omega
            have d1:decide ((c:Int)<=57)=true:=by simp;omega
            have V3:=Hid.out (p:=Hid _) v3;clear v3;go_wp2_with fail
            go_roundw
            case rel=>exact ⟨k+1,n*16+d,by omega,by go_num,int_i64 (or16 n d ((c:Int)-48) (by have:=V3.out;omega) (by omega) hd),hn1,by omega,by have:=H1.out;rwa [show p+k+1=p+(k+1) by omega] at this,K1.out,hst.out⟩
            case measure=>simp [intOf];omega
          · have d0:decide (48<=(c:Int))=true:=by simp;omega
            have d1:decide ((c:Int)<=57)=false:=by simp;omega
            have d2:decide (97<=(c:Int))=true:=by simp;omega
            have d3:decide ((c:Int)<=102)=true:=by simp;omega
            have V3:=Hid.out (p:=Hid _) v3;clear v3;go_wp2_with fail
            go_roundw
            case rel=>exact ⟨k+1,n*16+d,by omega,by go_num,int_i64 (or16 n d ((c:Int)-97+10) (by have:=V3.out;omega) (by omega) hd),hn1,by omega,by have:=H1.out;rwa [show p+k+1=p+(k+1) by omega] at this,K1.out,hst.out⟩
            case measure=>simp [intOf];omega
          · have d0:decide (48<=(c:Int))=true:=by simp;omega
            have d1:decide ((c:Int)<=57)=false:=by simp;omega
            have d2:decide (97<=(c:Int))=false:=by simp;omega
            have d3:decide (65<=(c:Int))=true:=by simp;omega
            have d4:decide ((c:Int)<=70)=true:=by simp;omega
            have V3:=Hid.out (p:=Hid _) v3;clear v3;go_wp2_with fail
            go_roundw
            case rel=>exact ⟨k+1,n*16+d,by omega,by go_num,int_i64 (or16 n d ((c:Int)-65+10) (by have:=V3.out;omega) (by omega) hd),hn1,by omega,by have:=H1.out;rwa [show p+k+1=p+(k+1) by omega] at this,K1.out,hst.out⟩
            case measure=>simp [intOf];omega
      · have hf:Hid (r=.error 2):=by
          rw [Hid,HR.out,fourR,J.out.2.2,e4.out,drop_end _ _ (by omega)]
          rfl
        go_wp2_with fail
        refine (next_end B b src (p+k) out wr J.out.1 (by omega) (by omega) (by omega)).mono ?_;rintro e w1 ⟨hk1,rfl⟩;have K1:Hid (Keeps B b w w1):=J.out.2.1.trans hk1;clear hk1;go_wp2_with fail
        exact ⟨rfl,by rw [hf.out];exact ⟨K1.out,rfl⟩⟩
    · obtain rfl:k=4:=by omega
      have hf:Hid (r=.ok (.int .i64 n,p+4,out)):=by
        rw [Hid,HR.out,fourR,J.out.2.2]
        rfl
      go_wp2_with fail
      go_ret
      rw [hf.out];exact ⟨J.out.2.1,rfl,J.out.1⟩
theorem Rdr.wrote {w w':World} {B b:Nat} {src:ByteArray} {p:Nat} {out':List UInt8} {cs:Array Value} (hs:cs.size=4) (h0:cs[0]?=some (.string src)) (h1:cs[1]?=some (.int .i64 p))
    (hw:Wrote w B b 2 268 cs out' w'):Rdr w' B b src p out'/\Keeps B b w w':=by
  obtain ⟨cs',hb,_,hbe,hk⟩:=hw;exact ⟨⟨cs',hb,hbe.1.trans hs,(hbe.2 0 (by omega) (by omega)).trans h0,(hbe.2 1 (by omega) (by omega)).trans h1⟩,hk⟩
theorem rWriteString (B b:Nat) (src:ByteArray) (p:Nat) (out:List UInt8) (s:ByteArray) (w:World) (h:Rdr w B b src p out) (hlen:out.length+s.size<=140737488355328):Calls Tryz.prog 186 #[.pointer (some ⟨b,2,none⟩),.string s] w fun e w'=>e=.returned (.tuple #[.int .i64 s.size,.nilIface])/\Rdr w' B b src p (out++s.data.toList)/\Keeps B b w w':=by
  obtain ⟨cs,hb,hs,h0,h1⟩:=h.it;refine (writeString_any B b 2 _ cs out s w hb hlen (by have:=h.hB;have:=h.lt;omega)).mono ?_;rintro e w' ⟨rfl,hw⟩;exact ⟨rfl,Rdr.wrote hs h0 h1 hw⟩
theorem rWriteByte (B b:Nat) (src:ByteArray) (p:Nat) (out:List UInt8) (c:UInt8) (w:World) (h:Rdr w B b src p out) (hlen:out.length+1<=140737488355328):Calls Tryz.prog 245 #[.pointer (some ⟨b,2,none⟩),.int .u8 c.toNat] w fun e w'=>e=.returned .nilIface/\Rdr w' B b src p (out++[c])/\Keeps B b w w':=by
  obtain ⟨cs,hb,hs,h0,h1⟩:=h.it;refine (writeByte_any B b 2 _ cs out c w hb hlen (by have:=h.hB;have:=h.lt;omega)).mono ?_;rintro e w' ⟨rfl,hw⟩;exact ⟨rfl,Rdr.wrote hs h0 h1 hw⟩
theorem rWriteByteN (B b:Nat) (src:ByteArray) (p:Nat) (out:List UInt8) (n:Nat) (hn:n<256) (w:World) (h:Rdr w B b src p out) (hlen:out.length+1<=140737488355328):Calls Tryz.prog 245 #[.pointer (some ⟨b,2,none⟩),.int .u8 n] w fun e w'=>e=.returned .nilIface/\Rdr w' B b src p (out++[UInt8.ofNat n])/\Keeps B b w w':=by
  have:=rWriteByte B b src p out (UInt8.ofNat n) w h hlen
  rwa [ofNat_u8 n hn] at this
theorem four_yes (B b:Nat) (src:ByteArray) (p n:Nat) (out:List UInt8) (w:World) (h:Rdr w B b src p out) (hp:p<=src.size) (hs:src.size<=1152921504606846976) (hf:four 4 0 (src.data.toList.drop p)=.ok n):Calls Tryz.prog 324 #[.pointer (some ⟨b,0,none⟩)] w fun e w'=>e=.returned (.int .i64 n)/\Rdr w' B b src (p+4) out/\Keeps B b w w':=by
  refine (four_any B b src p out w h hp hs).mono ?_;intro e w' hr
  rw [fourR,hf] at hr;exact ⟨hr.2.1,hr.2.2,hr.1⟩
theorem four_no (B b:Nat) (src:ByteArray) (p k:Nat) (out:List UInt8) (w:World) (h:Rdr w B b src p out) (hp:p<=src.size) (hs:src.size<=1152921504606846976) (hf:four 4 0 (src.data.toList.drop p)=.error k):Calls Tryz.prog 324 #[.pointer (some ⟨b,0,none⟩)] w fun e w'=>e=.panicked (thrown k)/\Keeps B b w w':=by
  refine (four_any B b src p out w h hp hs).mono ?_;intro e w' hr
  rw [fourR,hf] at hr;exact ⟨hr.2,hr.1⟩
theorem next_yes (B b:Nat) (src:ByteArray) (p:Nat) (out:List UInt8) (w:World) (h:Rdr w B b src p out) (hp:p<src.size) (hs:src.size<=4611686018427387904):Calls Tryz.prog 292 #[.pointer (some ⟨b,0,none⟩)] w fun e w'=>e=.returned (.int .u8 src[p].toNat)/\Rdr w' B b src (p+1) out/\Keeps B b w w':=
  (next_ok B b src p out w h hp hs).mono fun e w' hr=>⟨hr.2.1,hr.2.2,hr.1⟩
theorem next_no (B b:Nat) (src:ByteArray) (p:Nat) (out:List UInt8) (w:World) (h:Rdr w B b src p out) (hp:src.size<=p) (hp2:p<=4611686018427387904) (hs:src.size<=4611686018427387904):Calls Tryz.prog 292 #[.pointer (some ⟨b,0,none⟩)] w fun e w'=>e=.panicked (thrown 2)/\Keeps B b w w':=
  (next_end B b src p out w h hp hp2 hs).mono fun e w' hr=>⟨hr.2,hr.1⟩
def numberR (src:ByteArray) (p:Nat) (out:List UInt8):Except Nat (Value × Nat × List UInt8):=
  match number (src.data.toList.drop p) with
  | .error k=>.error k
  | .ok (o,n)=>.ok (.tuple #[],p+n,out++o)
theorem rpost_err {B b:Nat} {src:ByteArray} {w w':World} {r:Except Nat (Value × Nat × List UInt8)} {k:Nat} (h:Hid (r=.error k)) (hk:Keeps B b w w'):RPost B b src w r (.panicked (thrown k)) w':=by
  rw [h.out];exact ⟨hk,rfl⟩
theorem rpost_ok {B b:Nat} {src:ByteArray} {w w':World} {r:Except Nat (Value × Nat × List UInt8)} {v:Value} {p:Nat} {out:List UInt8} (h:Hid (r=.ok (v,p,out))) (hk:Keeps B b w w') (hr:Rdr w' B b src p out):RPost B b src w r (.returned v) w':=by
  rw [h.out];exact ⟨hk,rfl,hr⟩
theorem number_e1 (B b:Nat) (src:ByteArray) (p:Nat) (out:List UInt8) (w:World) (h:Rdr w B b src p out) (hp:p<=src.size) (hs:src.size<=1099511627776) (hlen:out.length<=p) (k:Nat) (h4:four 4 0 (src.data.toList.drop p)=.error k):Calls Tryz.prog 320 #[.pointer (some ⟨b,0,none⟩)] w (RPost B b src w (numberR src p out)):=by
  obtain ⟨r,hr⟩:∃ r,r=numberR src p out:=⟨_,rfl⟩;rw [<-hr];have HP:=Hid.out (p:=Hid _) h;clear h;have HF:Hid (r=.error k):=by rw [Hid,hr,numberR];simp [number,h4]
  clear hr;have H4:=Hid.out (p:=Hid _) h4;clear h4;go_enter Tryz.func320,Tryz.ntmps320
  go_wp2_with fail
  refine (four_no B b src p k out w HP.out hp (by omega) H4.out).mono ?_;rintro e w1 ⟨rfl,hk⟩;have K1:Hid (Keeps B b w w1):=hk;clear hk;go_wp2_with fail
  exact ⟨rfl,rpost_err HF K1.out⟩
theorem number_e2 (B b:Nat) (src:ByteArray) (p:Nat) (out:List UInt8) (w:World) (h:Rdr w B b src p out) (hp:p<=src.size) (hs:src.size<=1099511627776) (hlen:out.length<=p) (c:Nat) (h4:four 4 0 (src.data.toList.drop p)=.ok c) (h1:56320<=c) (h2:c<=57343):Calls Tryz.prog 320 #[.pointer (some ⟨b,0,none⟩)] w (RPost B b src w (numberR src p out)):=by
  obtain ⟨r,hr⟩:∃ r,r=numberR src p out:=⟨_,rfl⟩;rw [<-hr];have HP:=Hid.out (p:=Hid _) h;clear h;have hc:=four_lt _ _ _ _ h4;have hl4:=four_len _ _ _ _ h4;rw [List.length_drop] at hl4;have hsz:p+4<=src.size:=by simp at hl4;omega
  clear hl4;have HF:Hid (r=.error 3):=by rw [Hid,hr,numberR];simp [number,h4,h1,h2]
  clear hr;have d1:decide (56320<=(c:Int))=true:=by simp;omega
  have d2:decide ((c:Int)<=57343)=true:=by simp;omega
  have H4:=Hid.out (p:=Hid _) h4;clear h4;go_enter Tryz.func320,Tryz.ntmps320
  go_wp2_with fail
  refine (four_yes B b src p c out w HP.out hp (by omega) H4.out).mono ?_;rintro e w1 ⟨rfl,h1,hk⟩;have K1:Hid (Keeps B b w w1):=hk;have R1:=Hid.out (p:=Hid _) h1;clear h1 hk;go_wp2_with fail
  refine (fail_any 3 _).mono ?_;rintro e w' ⟨rfl,rfl⟩;go_wp2_with fail
  exact ⟨rfl,rpost_err HF K1.out⟩
theorem number_p1 (B b:Nat) (src:ByteArray) (p:Nat) (out:List UInt8) (w:World) (h:Rdr w B b src p out) (hp:p<=src.size) (hs:src.size<=1099511627776) (hlen:out.length<=p) (c:Nat) (h4:four 4 0 (src.data.toList.drop p)=.ok c) (h1:c<55296):Calls Tryz.prog 320 #[.pointer (some ⟨b,0,none⟩)] w (RPost B b src w (numberR src p out)):=by
  obtain ⟨r,hr⟩:∃ r,r=numberR src p out:=⟨_,rfl⟩;rw [<-hr];have HP:=Hid.out (p:=Hid _) h;clear h;have hc:=four_lt _ _ _ _ h4;have hl4:=four_len _ _ _ _ h4;rw [List.length_drop] at hl4;have hsz:p+4<=src.size:=by simp at hl4;omega
  clear hl4;have HO:Hid (r=.ok (.tuple #[],p+4,out++put c)):=by
    rw [Hid,hr,numberR];unfold number;rw [h4];simp only []
    rw [if_neg (by omega),if_neg (by omega)]
  clear hr;have d0:decide (56320<=(c:Int))=false:=by simp;omega
  have d1:decide (55296<=(c:Int))=false:=by simp;omega
  have hsc:scalarB c=true:=by simp [scalarB];omega
  have HS:=Hid.out (p:=Hid _) hsc;clear hsc;have hpl:=put_length c;have H4:=Hid.out (p:=Hid _) h4;clear h4;go_enter Tryz.func320,Tryz.ntmps320
  go_wp2_with fail
  refine (four_yes B b src p c out w HP.out hp (by omega) H4.out).mono ?_;rintro e w1 ⟨rfl,h1,hk⟩;have K1:Hid (Keeps B b w w1):=hk;have R1:=Hid.out (p:=Hid _) h1;clear h1 hk;go_wp2_with fail
  refine (put_any c _ HS.out).mono ?_;rintro e w2 ⟨rfl,hb⟩;have R2:Hid (Rdr w2 B b src (p+4) out):=R1.out.stays hb;have K2:Hid (Keeps B b w w2):=K1.out.trans (Keeps.of_below hb (by have:=R1.out.hB;have:=R1.out.lt;omega));clear hb;go_wp2_with fail
  refine (rWriteString B b src (p+4) out ⟨(put c).toArray⟩ w2 R2.out (by show out.length+(put c).toArray.size<=_;simp only [List.size_toArray];omega)).mono ?_;rintro e w3 ⟨rfl,h3,hk⟩;have K3:Hid (Keeps B b w w3):=K2.out.trans hk;have R3:Hid (Rdr w3 B b src (p+4) (out++put c)):=h3;clear h3 hk;go_wp2_with fail
  go_end0
  exact rpost_ok HO K3.out R3.out
theorem number_p2 (B b:Nat) (src:ByteArray) (p:Nat) (out:List UInt8) (w:World) (h:Rdr w B b src p out) (hp:p<=src.size) (hs:src.size<=1099511627776) (hlen:out.length<=p) (c:Nat) (h4:four 4 0 (src.data.toList.drop p)=.ok c) (h1:57343<c):Calls Tryz.prog 320 #[.pointer (some ⟨b,0,none⟩)] w (RPost B b src w (numberR src p out)):=by
  obtain ⟨r,hr⟩:∃ r,r=numberR src p out:=⟨_,rfl⟩;rw [<-hr];have HP:=Hid.out (p:=Hid _) h;clear h;have hc:=four_lt _ _ _ _ h4;have hl4:=four_len _ _ _ _ h4;rw [List.length_drop] at hl4;have hsz:p+4<=src.size:=by simp at hl4;omega
  clear hl4;have HO:Hid (r=.ok (.tuple #[],p+4,out++put c)):=by
    rw [Hid,hr,numberR];unfold number;rw [h4];simp only []
    rw [if_neg (by omega),if_neg (by omega)]
  clear hr;have d0:decide (56320<=(c:Int))=true:=by simp;omega
  have d1:decide ((c:Int)<=57343)=false:=by simp;omega
  have d2:decide (55296<=(c:Int))=true:=by simp;omega
  have d3:decide ((c:Int)<=56319)=false:=by simp;omega
  have hsc:scalarB c=true:=by simp [scalarB];omega
  have HS:=Hid.out (p:=Hid _) hsc;clear hsc;have hpl:=put_length c;have H4:=Hid.out (p:=Hid _) h4;clear h4;go_enter Tryz.func320,Tryz.ntmps320
  go_wp2_with fail
  refine (four_yes B b src p c out w HP.out hp (by omega) H4.out).mono ?_;rintro e w1 ⟨rfl,h1,hk⟩;have K1:Hid (Keeps B b w w1):=hk;have R1:=Hid.out (p:=Hid _) h1;clear h1 hk;go_wp2_with fail
  refine (put_any c _ HS.out).mono ?_;rintro e w2 ⟨rfl,hb⟩;have R2:Hid (Rdr w2 B b src (p+4) out):=R1.out.stays hb;have K2:Hid (Keeps B b w w2):=K1.out.trans (Keeps.of_below hb (by have:=R1.out.hB;have:=R1.out.lt;omega));clear hb;go_wp2_with fail
  refine (rWriteString B b src (p+4) out ⟨(put c).toArray⟩ w2 R2.out (by show out.length+(put c).toArray.size<=_;simp only [List.size_toArray];omega)).mono ?_;rintro e w3 ⟨rfl,h3,hk⟩;have K3:Hid (Keeps B b w w3):=K2.out.trans hk;have R3:Hid (Rdr w3 B b src (p+4) (out++put c)):=h3;clear h3 hk;go_wp2_with fail
  go_end0
  exact rpost_ok HO K3.out R3.out
theorem number_s1 (B b:Nat) (src:ByteArray) (p:Nat) (out:List UInt8) (w:World) (h:Rdr w B b src p out) (hp:p<=src.size) (hs:src.size<=1099511627776) (hlen:out.length<=p) (c:Nat) (h4:four 4 0 (src.data.toList.drop p)=.ok c) (h1:55296<=c) (h2:c<=56319) (hend:src.size<=p+4):Calls Tryz.prog 320 #[.pointer (some ⟨b,0,none⟩)] w (RPost B b src w (numberR src p out)):=by
  obtain ⟨r,hr⟩:∃ r,r=numberR src p out:=⟨_,rfl⟩;rw [<-hr];have HP:=Hid.out (p:=Hid _) h;clear h;have hc:=four_lt _ _ _ _ h4;have hl4:=four_len _ _ _ _ h4;rw [List.length_drop] at hl4;have hsz:p+4<=src.size:=by simp at hl4;omega
  clear hl4;have HF:Hid (r=.error 2):=by
    rw [Hid,hr,numberR];unfold number;rw [h4];simp only []
    rw [if_neg (by omega),if_pos (by omega),if_pos (by rw [List.length_drop,show src.data.toList.length=src.size by simp];omega)]
  clear hr;have d1:decide (56320<=(c:Int))=false:=by simp;omega
  have d2:decide (55296<=(c:Int))=true:=by simp;omega
  have d3:decide ((c:Int)<=56319)=true:=by simp;omega
  have H4:=Hid.out (p:=Hid _) h4;clear h4;go_enter Tryz.func320,Tryz.ntmps320
  go_wp2_with fail
  refine (four_yes B b src p c out w HP.out hp (by omega) H4.out).mono ?_;rintro e w1 ⟨rfl,h1,hk⟩;have K1:Hid (Keeps B b w w1):=hk;have R1:=Hid.out (p:=Hid _) h1;clear h1 hk;go_wp2_with fail
  refine (next_no B b src (p+4) out w1 R1.out (by omega) (by omega) (by omega)).mono ?_;rintro e w2 ⟨rfl,hk⟩;have K2:Hid (Keeps B b w w2):=K1.out.trans hk;clear hk;go_wp2_with fail
  exact ⟨rfl,rpost_err HF K2.out⟩
theorem number_s2 (B b:Nat) (src:ByteArray) (p:Nat) (out:List UInt8) (w:World) (h:Rdr w B b src p out) (hp:p<=src.size) (hs:src.size<=1099511627776) (hlen:out.length<=p) (c:Nat) (h4:four 4 0 (src.data.toList.drop p)=.ok c) (h1:55296<=c) (h2:c<=56319) (hend:p+4<src.size) (n1:src[p+4].toNat≠92):Calls Tryz.prog 320 #[.pointer (some ⟨b,0,none⟩)] w (RPost B b src w (numberR src p out)):=by
  obtain ⟨r,hr⟩:∃ r,r=numberR src p out:=⟨_,rfl⟩;rw [<-hr];have HP:=Hid.out (p:=Hid _) h;clear h;have hc:=four_lt _ _ _ _ h4;have hl4:=four_len _ _ _ _ h4;rw [List.length_drop] at hl4;have hsz:p+4<=src.size:=by simp at hl4;omega
  clear hl4;have HF:Hid (r=.error 3):=by
    rw [Hid,hr,numberR];unfold number;rw [h4];simp only []
    rw [if_neg (by omega),if_pos (by omega),if_neg (by rw [List.length_drop,show src.data.toList.length=src.size by simp];omega),if_pos (by rw [byt_drop src p 4 (by omega)];omega)]
  clear hr;have d1:decide (56320<=(c:Int))=false:=by simp;omega
  have d2:decide (55296<=(c:Int))=true:=by simp;omega
  have d3:decide ((c:Int)<=56319)=true:=by simp;omega
  have q1:((src[p+4].toNat:Int) != 92)=true:=by rw [bne_iff_ne];omega
  have H4:=Hid.out (p:=Hid _) h4;clear h4;go_enter Tryz.func320,Tryz.ntmps320
  go_wp2_with fail
  refine (four_yes B b src p c out w HP.out hp (by omega) H4.out).mono ?_;rintro e w1 ⟨rfl,h1,hk⟩;have K1:Hid (Keeps B b w w1):=hk;have R1:=Hid.out (p:=Hid _) h1;clear h1 hk;go_wp2_with fail
  refine (next_yes B b src (p+4) out w1 R1.out (by omega) (by omega)).mono ?_;rintro e w2 ⟨rfl,h2,hk⟩;have K2:Hid (Keeps B b w w2):=K1.out.trans hk;have R2:=Hid.out (p:=Hid _) h2;clear h2 hk;go_wp2_with fail
  refine (fail_any 3 _).mono ?_;rintro e w' ⟨rfl,rfl⟩;go_wp2_with fail
  exact ⟨rfl,rpost_err HF K2.out⟩
theorem number_s3 (B b:Nat) (src:ByteArray) (p:Nat) (out:List UInt8) (w:World) (h:Rdr w B b src p out) (hp:p<=src.size) (hs:src.size<=1099511627776) (hlen:out.length<=p) (c:Nat) (h4:four 4 0 (src.data.toList.drop p)=.ok c) (h1:55296<=c) (h2:c<=56319) (hend:p+4<src.size) (n1:src[p+4].toNat=92) (hend2:src.size<=p+5):Calls Tryz.prog 320 #[.pointer (some ⟨b,0,none⟩)] w (RPost B b src w (numberR src p out)):=by
  obtain ⟨r,hr⟩:∃ r,r=numberR src p out:=⟨_,rfl⟩;rw [<-hr];have HP:=Hid.out (p:=Hid _) h;clear h;have hc:=four_lt _ _ _ _ h4;have hl4:=four_len _ _ _ _ h4;rw [List.length_drop] at hl4;have hsz:p+4<=src.size:=by simp at hl4;omega
  clear hl4;have HF:Hid (r=.error 2):=by
    rw [Hid,hr,numberR];unfold number;rw [h4];simp only []
    rw [if_neg (by omega),if_pos (by omega),if_neg (by rw [List.length_drop,show src.data.toList.length=src.size by simp];omega),if_neg (by rw [byt_drop src p 4 (by omega)];omega),if_pos (by rw [List.length_drop,show src.data.toList.length=src.size by simp];omega)]
  clear hr;have d1:decide (56320<=(c:Int))=false:=by simp;omega
  have d2:decide (55296<=(c:Int))=true:=by simp;omega
  have d3:decide ((c:Int)<=56319)=true:=by simp;omega
  have q1:((src[p+4].toNat:Int) != 92)=false:=by rw [n1];rfl
  clear n1;have H4:=Hid.out (p:=Hid _) h4;clear h4;go_enter Tryz.func320,Tryz.ntmps320
  go_wp2_with fail
  refine (four_yes B b src p c out w HP.out hp (by omega) H4.out).mono ?_;rintro e w1 ⟨rfl,h1,hk⟩;have K1:Hid (Keeps B b w w1):=hk;have R1:=Hid.out (p:=Hid _) h1;clear h1 hk;go_wp2_with fail
  refine (next_yes B b src (p+4) out w1 R1.out (by omega) (by omega)).mono ?_;rintro e w2 ⟨rfl,h2,hk⟩;have K2:Hid (Keeps B b w w2):=K1.out.trans hk;have R2:=Hid.out (p:=Hid _) h2;clear h2 hk;go_wp2_with fail
  refine (next_no B b src (p+5) out w2 R2.out (by omega) (by omega) (by omega)).mono ?_;rintro e w3 ⟨rfl,hk⟩;have K3:Hid (Keeps B b w w3):=K2.out.trans hk;clear hk;go_wp2_with fail
  exact ⟨rfl,rpost_err HF K3.out⟩
theorem number_s4 (B b:Nat) (src:ByteArray) (p:Nat) (out:List UInt8) (w:World) (h:Rdr w B b src p out) (hp:p<=src.size) (hs:src.size<=1099511627776) (hlen:out.length<=p) (c:Nat) (h4:four 4 0 (src.data.toList.drop p)=.ok c) (h1:55296<=c) (h2:c<=56319) (hend:p+5<src.size) (n1:(src[p+4]'(by omega)).toNat=92) (n2:src[p+5].toNat≠117):Calls Tryz.prog 320 #[.pointer (some ⟨b,0,none⟩)] w (RPost B b src w (numberR src p out)):=by
  obtain ⟨r,hr⟩:∃ r,r=numberR src p out:=⟨_,rfl⟩;rw [<-hr];have HP:=Hid.out (p:=Hid _) h;clear h;have hc:=four_lt _ _ _ _ h4;have hl4:=four_len _ _ _ _ h4;rw [List.length_drop] at hl4;have hsz:p+4<=src.size:=by simp at hl4;omega
  clear hl4;have HF:Hid (r=.error 3):=by
    rw [Hid,hr,numberR];unfold number;rw [h4];simp only []
    rw [if_neg (by omega),if_pos (by omega),if_neg (by rw [List.length_drop,show src.data.toList.length=src.size by simp];omega),if_neg (by rw [byt_drop src p 4 (by omega)];omega),if_neg (by rw [List.length_drop,show src.data.toList.length=src.size by simp];omega),if_pos (by rw [byt_drop src p 5 (by omega)];omega)]
  clear hr;have d1:decide (56320<=(c:Int))=false:=by simp;omega
  have d2:decide (55296<=(c:Int))=true:=by simp;omega
  have d3:decide ((c:Int)<=56319)=true:=by simp;omega
  have hp4:p+4<src.size:=by omega
  have q1:((src[p+4].toNat:Int) != 92)=false:=by rw [n1];rfl
  have q2:((src[p+5].toNat:Int) != 117)=true:=by rw [bne_iff_ne];omega
  clear n1;have H4:=Hid.out (p:=Hid _) h4;clear h4;go_enter Tryz.func320,Tryz.ntmps320
  go_wp2_with fail
  refine (four_yes B b src p c out w HP.out hp (by omega) H4.out).mono ?_;rintro e w1 ⟨rfl,h1,hk⟩;have K1:Hid (Keeps B b w w1):=hk;have R1:=Hid.out (p:=Hid _) h1;clear h1 hk;go_wp2_with fail
  refine (next_yes B b src (p+4) out w1 R1.out (by omega) (by omega)).mono ?_;rintro e w2 ⟨rfl,h2,hk⟩;have K2:Hid (Keeps B b w w2):=K1.out.trans hk;have R2:=Hid.out (p:=Hid _) h2;clear h2 hk;go_wp2_with fail
  refine (next_yes B b src (p+5) out w2 R2.out (by omega) (by omega)).mono ?_;rintro e w3 ⟨rfl,h3,hk⟩;have K3:Hid (Keeps B b w w3):=K2.out.trans hk;have R3:=Hid.out (p:=Hid _) h3;clear h3 hk;go_wp2_with fail
  refine (fail_any 3 _).mono ?_;rintro e w' ⟨rfl,rfl⟩;go_wp2_with fail
  exact ⟨rfl,rpost_err HF K3.out⟩
theorem number_s5 (B b:Nat) (src:ByteArray) (p:Nat) (out:List UInt8) (w:World) (h:Rdr w B b src p out) (hp:p<=src.size) (hs:src.size<=1099511627776) (hlen:out.length<=p) (c:Nat) (h4:four 4 0 (src.data.toList.drop p)=.ok c) (h1:55296<=c) (h2:c<=56319) (hend:p+5<src.size) (n1:(src[p+4]'(by omega)).toNat=92) (n2:src[p+5].toNat=117) (k:Nat) (h6:four 4 0 (src.data.toList.drop (p+6))=.error k):Calls Tryz.prog 320 #[.pointer (some ⟨b,0,none⟩)] w (RPost B b src w (numberR src p out)):=by
  obtain ⟨r,hr⟩:∃ r,r=numberR src p out:=⟨_,rfl⟩;rw [<-hr];have HP:=Hid.out (p:=Hid _) h;clear h;have hc:=four_lt _ _ _ _ h4;have hl4:=four_len _ _ _ _ h4;rw [List.length_drop] at hl4;have hsz:p+4<=src.size:=by simp at hl4;omega
  clear hl4;have HF:Hid (r=.error k):=by
    rw [Hid,hr,numberR];unfold number;rw [h4];simp only []
    rw [if_neg (by omega),if_pos (by omega),if_neg (by rw [List.length_drop,show src.data.toList.length=src.size by simp];omega),if_neg (by rw [byt_drop src p 4 (by omega)];omega),if_neg (by rw [List.length_drop,show src.data.toList.length=src.size by simp];omega),if_neg (by rw [byt_drop src p 5 (by omega)];omega),List.drop_drop,h6]
  clear hr;have d1:decide (56320<=(c:Int))=false:=by simp;omega
  have d2:decide (55296<=(c:Int))=true:=by simp;omega
  have d3:decide ((c:Int)<=56319)=true:=by simp;omega
  have hp4:p+4<src.size:=by omega
  have q1:((src[p+4].toNat:Int) != 92)=false:=by rw [n1];rfl
  have q2:((src[p+5].toNat:Int) != 117)=false:=by rw [n2];rfl
  clear n1 n2;have H4:=Hid.out (p:=Hid _) h4;clear h4;have H6:=Hid.out (p:=Hid _) h6;clear h6;go_enter Tryz.func320,Tryz.ntmps320
  go_wp2_with fail
  refine (four_yes B b src p c out w HP.out hp (by omega) H4.out).mono ?_;rintro e w1 ⟨rfl,h1,hk⟩;have K1:Hid (Keeps B b w w1):=hk;have R1:=Hid.out (p:=Hid _) h1;clear h1 hk;go_wp2_with fail
  refine (next_yes B b src (p+4) out w1 R1.out (by omega) (by omega)).mono ?_;rintro e w2 ⟨rfl,h2,hk⟩;have K2:Hid (Keeps B b w w2):=K1.out.trans hk;have R2:=Hid.out (p:=Hid _) h2;clear h2 hk;go_wp2_with fail
  refine (next_yes B b src (p+5) out w2 R2.out (by omega) (by omega)).mono ?_;rintro e w3 ⟨rfl,h3,hk⟩;have K3:Hid (Keeps B b w w3):=K2.out.trans hk;have R3:=Hid.out (p:=Hid _) h3;clear h3 hk;go_wp2_with fail
  refine (four_no B b src (p+6) k out w3 R3.out (by omega) (by omega) H6.out).mono ?_;rintro e w4 ⟨rfl,hk⟩;have K4:Hid (Keeps B b w w4):=K3.out.trans hk;clear hk;go_wp2_with fail
  exact ⟨rfl,rpost_err HF K4.out⟩
theorem number_s6 (B b:Nat) (src:ByteArray) (p:Nat) (out:List UInt8) (w:World) (h:Rdr w B b src p out) (hp:p<=src.size) (hs:src.size<=1099511627776) (hlen:out.length<=p) (c:Nat) (h4:four 4 0 (src.data.toList.drop p)=.ok c) (h1:55296<=c) (h2:c<=56319) (hend:p+5<src.size) (n1:(src[p+4]'(by omega)).toNat=92) (n2:src[p+5].toNat=117) (d:Nat) (h6:four 4 0 (src.data.toList.drop (p+6))=.ok d) (h3:d<56320):Calls Tryz.prog 320 #[.pointer (some ⟨b,0,none⟩)] w (RPost B b src w (numberR src p out)):=by
  obtain ⟨r,hr⟩:∃ r,r=numberR src p out:=⟨_,rfl⟩;rw [<-hr];have HP:=Hid.out (p:=Hid _) h;clear h;have hc:=four_lt _ _ _ _ h4;have hl4:=four_len _ _ _ _ h4;rw [List.length_drop] at hl4;have hsz:p+4<=src.size:=by simp at hl4;omega
  clear hl4;have hd:=four_lt _ _ _ _ h6;have HF:Hid (r=.error 3):=by
    rw [Hid,hr,numberR];unfold number;rw [h4];simp only []
    rw [if_neg (by omega),if_pos (by omega),if_neg (by rw [List.length_drop,show src.data.toList.length=src.size by simp];omega),if_neg (by rw [byt_drop src p 4 (by omega)];omega),if_neg (by rw [List.length_drop,show src.data.toList.length=src.size by simp];omega),if_neg (by rw [byt_drop src p 5 (by omega)];omega),List.drop_drop,h6];simp only []
    rw [if_pos (by omega)]
  clear hr;have d1:decide (56320<=(c:Int))=false:=by simp;omega
  have d2:decide (55296<=(c:Int))=true:=by simp;omega
  have d3:decide ((c:Int)<=56319)=true:=by simp;omega
  have hp4:p+4<src.size:=by omega
  have q1:((src[p+4].toNat:Int) != 92)=false:=by rw [n1];rfl
  have q2:((src[p+5].toNat:Int) != 117)=false:=by rw [n2];rfl
  clear n1 n2;have e0:decide ((d:Int)<56320)=true:=by simp;omega
  have H4:=Hid.out (p:=Hid _) h4;clear h4;have H6:=Hid.out (p:=Hid _) h6;clear h6;go_enter Tryz.func320,Tryz.ntmps320
  go_wp2_with fail
  refine (four_yes B b src p c out w HP.out hp (by omega) H4.out).mono ?_;rintro e w1 ⟨rfl,h1,hk⟩;have K1:Hid (Keeps B b w w1):=hk;have R1:=Hid.out (p:=Hid _) h1;clear h1 hk;go_wp2_with fail
  refine (next_yes B b src (p+4) out w1 R1.out (by omega) (by omega)).mono ?_;rintro e w2 ⟨rfl,h2,hk⟩;have K2:Hid (Keeps B b w w2):=K1.out.trans hk;have R2:=Hid.out (p:=Hid _) h2;clear h2 hk;go_wp2_with fail
  refine (next_yes B b src (p+5) out w2 R2.out (by omega) (by omega)).mono ?_;rintro e w3 ⟨rfl,h3,hk⟩;have K3:Hid (Keeps B b w w3):=K2.out.trans hk;have R3:=Hid.out (p:=Hid _) h3;clear h3 hk;go_wp2_with fail
  refine (four_yes B b src (p+6) d out w3 R3.out (by omega) (by omega) H6.out).mono ?_;rintro e w4 ⟨rfl,h4,hk⟩;have K4:Hid (Keeps B b w w4):=K3.out.trans hk;have R4:=Hid.out (p:=Hid _) h4;clear h4 hk;go_wp2_with fail
  refine (fail_any 3 _).mono ?_;rintro e w' ⟨rfl,rfl⟩;go_wp2_with fail
  exact ⟨rfl,rpost_err HF K4.out⟩
theorem number_s7 (B b:Nat) (src:ByteArray) (p:Nat) (out:List UInt8) (w:World) (h:Rdr w B b src p out) (hp:p<=src.size) (hs:src.size<=1099511627776) (hlen:out.length<=p) (c:Nat) (h4:four 4 0 (src.data.toList.drop p)=.ok c) (h1:55296<=c) (h2:c<=56319) (hend:p+5<src.size) (n1:(src[p+4]'(by omega)).toNat=92) (n2:src[p+5].toNat=117) (d:Nat) (h6:four 4 0 (src.data.toList.drop (p+6))=.ok d) (h3:57343<d):Calls Tryz.prog 320 #[.pointer (some ⟨b,0,none⟩)] w (RPost B b src w (numberR src p out)):=by
  obtain ⟨r,hr⟩:∃ r,r=numberR src p out:=⟨_,rfl⟩;rw [<-hr];have HP:=Hid.out (p:=Hid _) h;clear h;have hc:=four_lt _ _ _ _ h4;have hl4:=four_len _ _ _ _ h4;rw [List.length_drop] at hl4;have hsz:p+4<=src.size:=by simp at hl4;omega
  clear hl4;have hd:=four_lt _ _ _ _ h6;have HF:Hid (r=.error 3):=by
    rw [Hid,hr,numberR];unfold number;rw [h4];simp only []
    rw [if_neg (by omega),if_pos (by omega),if_neg (by rw [List.length_drop,show src.data.toList.length=src.size by simp];omega),if_neg (by rw [byt_drop src p 4 (by omega)];omega),if_neg (by rw [List.length_drop,show src.data.toList.length=src.size by simp];omega),if_neg (by rw [byt_drop src p 5 (by omega)];omega),List.drop_drop,h6];simp only []
    rw [if_pos (by omega)]
  clear hr;have d1:decide (56320<=(c:Int))=false:=by simp;omega
  have d2:decide (55296<=(c:Int))=true:=by simp;omega
  have d3:decide ((c:Int)<=56319)=true:=by simp;omega
  have hp4:p+4<src.size:=by omega
  have q1:((src[p+4].toNat:Int) != 92)=false:=by rw [n1];rfl
  have q2:((src[p+5].toNat:Int) != 117)=false:=by rw [n2];rfl
  clear n1 n2;have e0:decide ((d:Int)<56320)=false:=by simp;omega
  have e1:decide (57343<(d:Int))=true:=by simp;omega
  have H4:=Hid.out (p:=Hid _) h4;clear h4;have H6:=Hid.out (p:=Hid _) h6;clear h6;go_enter Tryz.func320,Tryz.ntmps320
  go_wp2_with fail
  refine (four_yes B b src p c out w HP.out hp (by omega) H4.out).mono ?_;rintro e w1 ⟨rfl,h1,hk⟩;have K1:Hid (Keeps B b w w1):=hk;have R1:=Hid.out (p:=Hid _) h1;clear h1 hk;go_wp2_with fail
  refine (next_yes B b src (p+4) out w1 R1.out (by omega) (by omega)).mono ?_;rintro e w2 ⟨rfl,h2,hk⟩;have K2:Hid (Keeps B b w w2):=K1.out.trans hk;have R2:=Hid.out (p:=Hid _) h2;clear h2 hk;go_wp2_with fail
  refine (next_yes B b src (p+5) out w2 R2.out (by omega) (by omega)).mono ?_;rintro e w3 ⟨rfl,h3,hk⟩;have K3:Hid (Keeps B b w w3):=K2.out.trans hk;have R3:=Hid.out (p:=Hid _) h3;clear h3 hk;go_wp2_with fail
  refine (four_yes B b src (p+6) d out w3 R3.out (by omega) (by omega) H6.out).mono ?_;rintro e w4 ⟨rfl,h4,hk⟩;have K4:Hid (Keeps B b w w4):=K3.out.trans hk;have R4:=Hid.out (p:=Hid _) h4;clear h4 hk;go_wp2_with fail
  refine (fail_any 3 _).mono ?_;rintro e w' ⟨rfl,rfl⟩;go_wp2_with fail
  exact ⟨rfl,rpost_err HF K4.out⟩
theorem number_s8 (B b:Nat) (src:ByteArray) (p:Nat) (out:List UInt8) (w:World) (h:Rdr w B b src p out) (hp:p<=src.size) (hs:src.size<=1099511627776) (hlen:out.length<=p) (c:Nat) (h4:four 4 0 (src.data.toList.drop p)=.ok c) (h1:55296<=c) (h2:c<=56319) (hend:p+5<src.size) (n1:(src[p+4]'(by omega)).toNat=92) (n2:src[p+5].toNat=117) (d:Nat) (h6:four 4 0 (src.data.toList.drop (p+6))=.ok d) (h3:56320<=d) (h5:d<=57343):Calls Tryz.prog 320 #[.pointer (some ⟨b,0,none⟩)] w (RPost B b src w (numberR src p out)):=by
  obtain ⟨r,hr⟩:∃ r,r=numberR src p out:=⟨_,rfl⟩;rw [<-hr];have HP:=Hid.out (p:=Hid _) h;clear h;have hc:=four_lt _ _ _ _ h4;have hl4:=four_len _ _ _ _ h4;rw [List.length_drop] at hl4;have hsz:p+4<=src.size:=by simp at hl4;omega
  clear hl4;have hd:=four_lt _ _ _ _ h6;obtain ⟨x,hx⟩:∃ x,x=65536+1024*(c-55296)+(d-56320):=⟨_,rfl⟩;have HO:Hid (r=.ok (.tuple #[],p+10,out++put x)):=by
    rw [Hid,hr,numberR];unfold number;rw [h4];simp only []
    rw [if_neg (by omega),if_pos (by omega),if_neg (by rw [List.length_drop,show src.data.toList.length=src.size by simp];omega),if_neg (by rw [byt_drop src p 4 (by omega)];omega),if_neg (by rw [List.length_drop,show src.data.toList.length=src.size by simp];omega),if_neg (by rw [byt_drop src p 5 (by omega)];omega),List.drop_drop,h6];simp only []
    rw [if_neg (by omega),<-hx]
  clear hr;have d1:decide (56320<=(c:Int))=false:=by simp;omega
  have d2:decide (55296<=(c:Int))=true:=by simp;omega
  have d3:decide ((c:Int)<=56319)=true:=by simp;omega
  have hp4:p+4<src.size:=by omega
  have q1:((src[p+4].toNat:Int) != 92)=false:=by rw [n1];rfl
  have q2:((src[p+5].toNat:Int) != 117)=false:=by rw [n2];rfl
  clear n1 n2;have e0:decide ((d:Int)<56320)=false:=by simp;omega
  have e1:decide (57343<(d:Int))=false:=by simp;omega
  have hsc:scalarB x=true:=by simp [scalarB];omega
  have HS:=Hid.out (p:=Hid _) hsc;clear hsc;have hpl:=put_length x;have hxx:Hid ((65536+1024*((c:Int)-55296)+((d:Int)-56320))=(x:Int)):=by unfold Hid;omega
  clear hx;have H4:=Hid.out (p:=Hid _) h4;clear h4;have H6:=Hid.out (p:=Hid _) h6;clear h6;go_enter Tryz.func320,Tryz.ntmps320
  go_wp2_with fail
  refine (four_yes B b src p c out w HP.out hp (by omega) H4.out).mono ?_;rintro e w1 ⟨rfl,h1,hk⟩;have K1:Hid (Keeps B b w w1):=hk;have R1:=Hid.out (p:=Hid _) h1;clear h1 hk;go_wp2_with fail
  refine (next_yes B b src (p+4) out w1 R1.out (by omega) (by omega)).mono ?_;rintro e w2 ⟨rfl,h2,hk⟩;have K2:Hid (Keeps B b w w2):=K1.out.trans hk;have R2:=Hid.out (p:=Hid _) h2;clear h2 hk;go_wp2_with fail
  refine (next_yes B b src (p+5) out w2 R2.out (by omega) (by omega)).mono ?_;rintro e w3 ⟨rfl,h3,hk⟩;have K3:Hid (Keeps B b w w3):=K2.out.trans hk;have R3:=Hid.out (p:=Hid _) h3;clear h3 hk;go_wp2_with fail
  refine (four_yes B b src (p+6) d out w3 R3.out (by omega) (by omega) H6.out).mono ?_;rintro e w4 ⟨rfl,h4,hk⟩;have K4:Hid (Keeps B b w w4):=K3.out.trans hk;have R4:=Hid.out (p:=Hid _) h4;clear h4 hk;go_wp2_with fail
  rw [hxx.out];refine (put_any x _ HS.out).mono ?_;rintro e w5 ⟨rfl,hb⟩;have R5:Hid (Rdr w5 B b src (p+10) out):=R4.out.stays hb;have K5:Hid (Keeps B b w w5):=K4.out.trans (Keeps.of_below hb (by have:=R4.out.hB;have:=R4.out.lt;omega));clear hb;go_wp2_with fail
  refine (rWriteString B b src (p+10) out ⟨(put x).toArray⟩ w5 R5.out (by show out.length+(put x).toArray.size<=_;simp only [List.size_toArray];omega)).mono ?_;rintro e w6 ⟨rfl,h6,hk⟩;have K6:Hid (Keeps B b w w6):=K5.out.trans hk;have R6:Hid (Rdr w6 B b src (p+10) (out++put x)):=h6;clear h6 hk;go_wp2_with fail
  go_end0
  exact rpost_ok HO K6.out R6.out
theorem number_any (B b:Nat) (src:ByteArray) (p:Nat) (out:List UInt8) (w:World) (h:Rdr w B b src p out) (hp:p<=src.size) (hs:src.size<=1099511627776) (hlen:out.length<=p):Calls Tryz.prog 320 #[.pointer (some ⟨b,0,none⟩)] w (RPost B b src w (numberR src p out)):=by
  cases h4:four 4 0 (src.data.toList.drop p) with
  | error k=>exact number_e1 B b src p out w h hp hs hlen k h4
  | ok c=>
    by_cases c1:56320<=c/\c<=57343
    · exact number_e2 B b src p out w h hp hs hlen c h4 c1.1 c1.2
    by_cases c2:c<55296
    · exact number_p1 B b src p out w h hp hs hlen c h4 c2
    by_cases c3:57343<c
    · exact number_p2 B b src p out w h hp hs hlen c h4 c3
    have h1:55296<=c:=by omega
    have h2:c<=56319:=by omega
    by_cases e1:src.size<=p+4
    · exact number_s1 B b src p out w h hp hs hlen c h4 h1 h2 e1
    by_cases n1:(src[p+4]'(by omega)).toNat=92
    · by_cases e2:src.size<=p+5
      · exact number_s3 B b src p out w h hp hs hlen c h4 h1 h2 (by omega) n1 e2
      by_cases n2:(src[p+5]'(by omega)).toNat=117
      · cases h6:four 4 0 (src.data.toList.drop (p+6)) with
        | error k=>exact number_s5 B b src p out w h hp hs hlen c h4 h1 h2 (by omega) n1 n2 k h6
        | ok d=>
          by_cases d1:d<56320
          · exact number_s6 B b src p out w h hp hs hlen c h4 h1 h2 (by omega) n1 n2 d h6 d1
          by_cases d2:57343<d
          · exact number_s7 B b src p out w h hp hs hlen c h4 h1 h2 (by omega) n1 n2 d h6 d2
          · exact number_s8 B b src p out w h hp hs hlen c h4 h1 h2 (by omega) n1 n2 d h6 (by omega) (by omega)
      · exact number_s4 B b src p out w h hp hs hlen c h4 h1 h2 (by omega) n1 n2
    · exact number_s2 B b src p out w h hp hs hlen c h4 h1 h2 (by omega) n1
def escapeR (src:ByteArray) (p:Nat) (out:List UInt8):Except Nat (Value × Nat × List UInt8):=
  match escape (src.data.toList.drop p) with
  | .error k=>.error k
  | .ok (o,n)=>.ok (.tuple #[],p+n,out++o)
theorem escape_e0 (B b:Nat) (src:ByteArray) (p:Nat) (out:List UInt8) (w:World) (h:Rdr w B b src p out) (hp:p =  src.size) (hs:src.size<=1099511627776) (hlen:out.length<=p)  : Calls Tryz.prog 306 #[.pointer (some ⟨b,0,none⟩)] w (RPost B b src w (escapeR src p out)):=by
  obtain ⟨r,hr⟩:∃ r,r=escapeR src p out:=⟨_,rfl⟩;rw [<-hr];have HP:=Hid.out (p:=Hid _) h;clear h;have HF:Hid (r=.error 2):=by rw [Hid,hr,escapeR];simp [escape,hp]
  clear hr;go_enter Tryz.func306,Tryz.ntmps306
  go_wp2_with fail
  refine (next_no B b src p out w HP.out (by omega) (by omega) (by omega)).mono ?_;rintro e w1 ⟨rfl,hk⟩;have K1:Hid (Keeps B b w w1):=hk;clear hk;go_wp2_with fail
  exact ⟨rfl,rpost_err HF K1.out⟩
theorem escape_w34 (B b:Nat) (src:ByteArray) (p:Nat) (out:List UInt8) (w:World) (h:Rdr w B b src p out) (hp:p<src.size) (hs:src.size<=1099511627776) (hlen:out.length<=p) (hv:src[p].toNat=34):Calls Tryz.prog 306 #[.pointer (some ⟨b,0,none⟩)] w (RPost B b src w (escapeR src p out)):=by
  obtain ⟨r,hr⟩:∃ r,r=escapeR src p out:=⟨_,rfl⟩;rw [<-hr];have HP:=Hid.out (p:=Hid _) h;clear h;have hb0:byt (src.data.toList.drop p) 0=src[p].toNat:=by rw [byt_drop src p 0 (by omega)];rfl
  have hl0:¬ (src.data.toList.drop p).length=0:=by rw [List.length_drop,show src.data.toList.length=src.size by simp];omega
  have HO:Hid (r=.ok (.tuple #[],p+1,out++[UInt8.ofNat src[p].toNat])):=by
    rw [Hid,hr,escapeR];unfold escape;rw [hb0,if_neg hl0,if_pos (by omega)]
  clear hr;have q34:((src[p].toNat:Int) == 34)=true:=by rw [beq_iff_eq];omega
  have hlt8:src[p].toNat<256:=by omega
  clear hb0 hl0 hv;go_enter Tryz.func306,Tryz.ntmps306
  go_wp2_with fail
  refine (next_yes B b src p out w HP.out (by omega) (by omega)).mono ?_;rintro e w1 ⟨rfl,h1,hk⟩;have K1:Hid (Keeps B b w w1):=hk;have R1:=Hid.out (p:=Hid _) h1;clear h1 hk;go_wp2_with fail
  refine (rWriteByteN B b src (p+1) out src[p].toNat (by omega) _ R1.out (by omega)).mono ?_;rintro e w2 ⟨rfl,h2,hk⟩;have K2:Hid (Keeps B b w w2):=K1.out.trans hk;have R2:Hid (Rdr w2 B b src (p+1) (out++[UInt8.ofNat src[p].toNat])):=h2;clear h2 hk;go_wp2_with fail
  go_end0
  exact rpost_ok HO K2.out R2.out
theorem escape_w92 (B b:Nat) (src:ByteArray) (p:Nat) (out:List UInt8) (w:World) (h:Rdr w B b src p out) (hp:p<src.size) (hs:src.size<=1099511627776) (hlen:out.length<=p) (hv:src[p].toNat=92):Calls Tryz.prog 306 #[.pointer (some ⟨b,0,none⟩)] w (RPost B b src w (escapeR src p out)):=by
  obtain ⟨r,hr⟩:∃ r,r=escapeR src p out:=⟨_,rfl⟩;rw [<-hr];have HP:=Hid.out (p:=Hid _) h;clear h;have hb0:byt (src.data.toList.drop p) 0=src[p].toNat:=by rw [byt_drop src p 0 (by omega)];rfl
  have hl0:¬ (src.data.toList.drop p).length=0:=by rw [List.length_drop,show src.data.toList.length=src.size by simp];omega
  have HO:Hid (r=.ok (.tuple #[],p+1,out++[UInt8.ofNat src[p].toNat])):=by
    rw [Hid,hr,escapeR];unfold escape;rw [hb0,if_neg hl0,if_pos (by omega)]
  clear hr;have q34:((src[p].toNat:Int) == 34)=false:=by rw [beq_eq_false_iff_ne];omega
  have q92:((src[p].toNat:Int) == 92)=true:=by rw [beq_iff_eq];omega
  have hlt8:src[p].toNat<256:=by omega
  clear hb0 hl0 hv;go_enter Tryz.func306,Tryz.ntmps306
  go_wp2_with fail
  refine (next_yes B b src p out w HP.out (by omega) (by omega)).mono ?_;rintro e w1 ⟨rfl,h1,hk⟩;have K1:Hid (Keeps B b w w1):=hk;have R1:=Hid.out (p:=Hid _) h1;clear h1 hk;go_wp2_with fail
  refine (rWriteByteN B b src (p+1) out src[p].toNat (by omega) _ R1.out (by omega)).mono ?_;rintro e w2 ⟨rfl,h2,hk⟩;have K2:Hid (Keeps B b w w2):=K1.out.trans hk;have R2:Hid (Rdr w2 B b src (p+1) (out++[UInt8.ofNat src[p].toNat])):=h2;clear h2 hk;go_wp2_with fail
  go_end0
  exact rpost_ok HO K2.out R2.out
theorem escape_w47 (B b:Nat) (src:ByteArray) (p:Nat) (out:List UInt8) (w:World) (h:Rdr w B b src p out) (hp:p<src.size) (hs:src.size<=1099511627776) (hlen:out.length<=p) (hv:src[p].toNat=47):Calls Tryz.prog 306 #[.pointer (some ⟨b,0,none⟩)] w (RPost B b src w (escapeR src p out)):=by
  obtain ⟨r,hr⟩:∃ r,r=escapeR src p out:=⟨_,rfl⟩;rw [<-hr];have HP:=Hid.out (p:=Hid _) h;clear h;have hb0:byt (src.data.toList.drop p) 0=src[p].toNat:=by rw [byt_drop src p 0 (by omega)];rfl
  have hl0:¬ (src.data.toList.drop p).length=0:=by rw [List.length_drop,show src.data.toList.length=src.size by simp];omega
  have HO:Hid (r=.ok (.tuple #[],p+1,out++[UInt8.ofNat src[p].toNat])):=by
    rw [Hid,hr,escapeR];unfold escape;rw [hb0,if_neg hl0,if_pos (by omega)]
  clear hr;have q34:((src[p].toNat:Int) == 34)=false:=by rw [beq_eq_false_iff_ne];omega
  have q92:((src[p].toNat:Int) == 92)=false:=by rw [beq_eq_false_iff_ne];omega
  have q47:((src[p].toNat:Int) == 47)=true:=by rw [beq_iff_eq];omega
  have hlt8:src[p].toNat<256:=by omega
  clear hb0 hl0 hv;go_enter Tryz.func306,Tryz.ntmps306
  go_wp2_with fail
  refine (next_yes B b src p out w HP.out (by omega) (by omega)).mono ?_;rintro e w1 ⟨rfl,h1,hk⟩;have K1:Hid (Keeps B b w w1):=hk;have R1:=Hid.out (p:=Hid _) h1;clear h1 hk;go_wp2_with fail
  refine (rWriteByteN B b src (p+1) out src[p].toNat (by omega) _ R1.out (by omega)).mono ?_;rintro e w2 ⟨rfl,h2,hk⟩;have K2:Hid (Keeps B b w w2):=K1.out.trans hk;have R2:Hid (Rdr w2 B b src (p+1) (out++[UInt8.ofNat src[p].toNat])):=h2;clear h2 hk;go_wp2_with fail
  go_end0
  exact rpost_ok HO K2.out R2.out
theorem escape_w98 (B b:Nat) (src:ByteArray) (p:Nat) (out:List UInt8) (w:World) (h:Rdr w B b src p out) (hp:p<src.size) (hs:src.size<=1099511627776) (hlen:out.length<=p) (hv:src[p].toNat=98):Calls Tryz.prog 306 #[.pointer (some ⟨b,0,none⟩)] w (RPost B b src w (escapeR src p out)):=by
  obtain ⟨r,hr⟩:∃ r,r=escapeR src p out:=⟨_,rfl⟩;rw [<-hr];have HP:=Hid.out (p:=Hid _) h;clear h;have hb0:byt (src.data.toList.drop p) 0=src[p].toNat:=by rw [byt_drop src p 0 (by omega)];rfl
  have hl0:¬ (src.data.toList.drop p).length=0:=by rw [List.length_drop,show src.data.toList.length=src.size by simp];omega
  have HO:Hid (r=.ok (.tuple #[],p+1,out++[UInt8.ofNat 8])):=by
    rw [Hid,hr,escapeR];unfold escape;rw [hb0,if_neg hl0];simp [hv]
  clear hr;obtain ⟨v,hvv⟩:∃ v:Nat,v=8:=⟨_,rfl⟩;have q34:((src[p].toNat:Int) == 34)=false:=by rw [beq_eq_false_iff_ne];omega
  have q92:((src[p].toNat:Int) == 92)=false:=by rw [beq_eq_false_iff_ne];omega
  have q47:((src[p].toNat:Int) == 47)=false:=by rw [beq_eq_false_iff_ne];omega
  have q98:((src[p].toNat:Int) == 98)=true:=by rw [beq_iff_eq];omega
  clear hb0 hl0;go_enter Tryz.func306,Tryz.ntmps306
  go_wp2_with fail
  refine (next_yes B b src p out w HP.out (by omega) (by omega)).mono ?_;rintro e w1 ⟨rfl,h1,hk⟩;have K1:Hid (Keeps B b w w1):=hk;have R1:=Hid.out (p:=Hid _) h1;clear h1 hk;go_wp2_with fail
  refine (rWriteByteN B b src (p+1) out 8 (by omega) _ R1.out (by omega)).mono ?_;rintro e w2 ⟨rfl,h2,hk⟩;have K2:Hid (Keeps B b w w2):=K1.out.trans hk;have R2:Hid (Rdr w2 B b src (p+1) (out++[UInt8.ofNat 8])):=h2;clear h2 hk;go_wp2_with fail
  go_end0
  exact rpost_ok HO K2.out R2.out
theorem escape_w102 (B b:Nat) (src:ByteArray) (p:Nat) (out:List UInt8) (w:World) (h:Rdr w B b src p out) (hp:p<src.size) (hs:src.size<=1099511627776) (hlen:out.length<=p) (hv:src[p].toNat=102):Calls Tryz.prog 306 #[.pointer (some ⟨b,0,none⟩)] w (RPost B b src w (escapeR src p out)):=by
  obtain ⟨r,hr⟩:∃ r,r=escapeR src p out:=⟨_,rfl⟩;rw [<-hr];have HP:=Hid.out (p:=Hid _) h;clear h;have hb0:byt (src.data.toList.drop p) 0=src[p].toNat:=by rw [byt_drop src p 0 (by omega)];rfl
  have hl0:¬ (src.data.toList.drop p).length=0:=by rw [List.length_drop,show src.data.toList.length=src.size by simp];omega
  have HO:Hid (r=.ok (.tuple #[],p+1,out++[UInt8.ofNat 12])):=by
    rw [Hid,hr,escapeR];unfold escape;rw [hb0,if_neg hl0];simp [hv]
  clear hr;obtain ⟨v,hvv⟩:∃ v:Nat,v=12:=⟨_,rfl⟩;have q34:((src[p].toNat:Int) == 34)=false:=by rw [beq_eq_false_iff_ne];omega
  have q92:((src[p].toNat:Int) == 92)=false:=by rw [beq_eq_false_iff_ne];omega
  have q47:((src[p].toNat:Int) == 47)=false:=by rw [beq_eq_false_iff_ne];omega
  have q98:((src[p].toNat:Int) == 98)=false:=by rw [beq_eq_false_iff_ne];omega
  have q102:((src[p].toNat:Int) == 102)=true:=by rw [beq_iff_eq];omega
  clear hb0 hl0;go_enter Tryz.func306,Tryz.ntmps306
  go_wp2_with fail
  refine (next_yes B b src p out w HP.out (by omega) (by omega)).mono ?_;rintro e w1 ⟨rfl,h1,hk⟩;have K1:Hid (Keeps B b w w1):=hk;have R1:=Hid.out (p:=Hid _) h1;clear h1 hk;go_wp2_with fail
  refine (rWriteByteN B b src (p+1) out 12 (by omega) _ R1.out (by omega)).mono ?_;rintro e w2 ⟨rfl,h2,hk⟩;have K2:Hid (Keeps B b w w2):=K1.out.trans hk;have R2:Hid (Rdr w2 B b src (p+1) (out++[UInt8.ofNat 12])):=h2;clear h2 hk;go_wp2_with fail
  go_end0
  exact rpost_ok HO K2.out R2.out
theorem escape_w110 (B b:Nat) (src:ByteArray) (p:Nat) (out:List UInt8) (w:World) (h:Rdr w B b src p out) (hp:p<src.size) (hs:src.size<=1099511627776) (hlen:out.length<=p) (hv:src[p].toNat=110):Calls Tryz.prog 306 #[.pointer (some ⟨b,0,none⟩)] w (RPost B b src w (escapeR src p out)):=by
  obtain ⟨r,hr⟩:∃ r,r=escapeR src p out:=⟨_,rfl⟩;rw [<-hr];have HP:=Hid.out (p:=Hid _) h;clear h;have hb0:byt (src.data.toList.drop p) 0=src[p].toNat:=by rw [byt_drop src p 0 (by omega)];rfl
  have hl0:¬ (src.data.toList.drop p).length=0:=by rw [List.length_drop,show src.data.toList.length=src.size by simp];omega
  have HO:Hid (r=.ok (.tuple #[],p+1,out++[UInt8.ofNat 10])):=by
    rw [Hid,hr,escapeR];unfold escape;rw [hb0,if_neg hl0];simp [hv]
  clear hr;obtain ⟨v,hvv⟩:∃ v:Nat,v=10:=⟨_,rfl⟩;have q34:((src[p].toNat:Int) == 34)=false:=by rw [beq_eq_false_iff_ne];omega
  have q92:((src[p].toNat:Int) == 92)=false:=by rw [beq_eq_false_iff_ne];omega
  have q47:((src[p].toNat:Int) == 47)=false:=by rw [beq_eq_false_iff_ne];omega
  have q98:((src[p].toNat:Int) == 98)=false:=by rw [beq_eq_false_iff_ne];omega
  have q102:((src[p].toNat:Int) == 102)=false:=by rw [beq_eq_false_iff_ne];omega
  have q110:((src[p].toNat:Int) == 110)=true:=by rw [beq_iff_eq];omega
  clear hb0 hl0;go_enter Tryz.func306,Tryz.ntmps306
  go_wp2_with fail
  refine (next_yes B b src p out w HP.out (by omega) (by omega)).mono ?_;rintro e w1 ⟨rfl,h1,hk⟩;have K1:Hid (Keeps B b w w1):=hk;have R1:=Hid.out (p:=Hid _) h1;clear h1 hk;go_wp2_with fail
  refine (rWriteByteN B b src (p+1) out 10 (by omega) _ R1.out (by omega)).mono ?_;rintro e w2 ⟨rfl,h2,hk⟩;have K2:Hid (Keeps B b w w2):=K1.out.trans hk;have R2:Hid (Rdr w2 B b src (p+1) (out++[UInt8.ofNat 10])):=h2;clear h2 hk;go_wp2_with fail
  go_end0
  exact rpost_ok HO K2.out R2.out
theorem escape_w114 (B b:Nat) (src:ByteArray) (p:Nat) (out:List UInt8) (w:World) (h:Rdr w B b src p out) (hp:p<src.size) (hs:src.size<=1099511627776) (hlen:out.length<=p) (hv:src[p].toNat=114):Calls Tryz.prog 306 #[.pointer (some ⟨b,0,none⟩)] w (RPost B b src w (escapeR src p out)):=by
  obtain ⟨r,hr⟩:∃ r,r=escapeR src p out:=⟨_,rfl⟩;rw [<-hr];have HP:=Hid.out (p:=Hid _) h;clear h;have hb0:byt (src.data.toList.drop p) 0=src[p].toNat:=by rw [byt_drop src p 0 (by omega)];rfl
  have hl0:¬ (src.data.toList.drop p).length=0:=by rw [List.length_drop,show src.data.toList.length=src.size by simp];omega
  have HO:Hid (r=.ok (.tuple #[],p+1,out++[UInt8.ofNat 13])):=by
    rw [Hid,hr,escapeR];unfold escape;rw [hb0,if_neg hl0];simp [hv]
  clear hr;obtain ⟨v,hvv⟩:∃ v:Nat,v=13:=⟨_,rfl⟩;have q34:((src[p].toNat:Int) == 34)=false:=by rw [beq_eq_false_iff_ne];omega
  have q92:((src[p].toNat:Int) == 92)=false:=by rw [beq_eq_false_iff_ne];omega
  have q47:((src[p].toNat:Int) == 47)=false:=by rw [beq_eq_false_iff_ne];omega
  have q98:((src[p].toNat:Int) == 98)=false:=by rw [beq_eq_false_iff_ne];omega
  have q102:((src[p].toNat:Int) == 102)=false:=by rw [beq_eq_false_iff_ne];omega
  have q110:((src[p].toNat:Int) == 110)=false:=by rw [beq_eq_false_iff_ne];omega
  have q114:((src[p].toNat:Int) == 114)=true:=by rw [beq_iff_eq];omega
  clear hb0 hl0;go_enter Tryz.func306,Tryz.ntmps306
  go_wp2_with fail
  refine (next_yes B b src p out w HP.out (by omega) (by omega)).mono ?_;rintro e w1 ⟨rfl,h1,hk⟩;have K1:Hid (Keeps B b w w1):=hk;have R1:=Hid.out (p:=Hid _) h1;clear h1 hk;go_wp2_with fail
  refine (rWriteByteN B b src (p+1) out 13 (by omega) _ R1.out (by omega)).mono ?_;rintro e w2 ⟨rfl,h2,hk⟩;have K2:Hid (Keeps B b w w2):=K1.out.trans hk;have R2:Hid (Rdr w2 B b src (p+1) (out++[UInt8.ofNat 13])):=h2;clear h2 hk;go_wp2_with fail
  go_end0
  exact rpost_ok HO K2.out R2.out
theorem escape_w116 (B b:Nat) (src:ByteArray) (p:Nat) (out:List UInt8) (w:World) (h:Rdr w B b src p out) (hp:p<src.size) (hs:src.size<=1099511627776) (hlen:out.length<=p) (hv:src[p].toNat=116):Calls Tryz.prog 306 #[.pointer (some ⟨b,0,none⟩)] w (RPost B b src w (escapeR src p out)):=by
  obtain ⟨r,hr⟩:∃ r,r=escapeR src p out:=⟨_,rfl⟩;rw [<-hr];have HP:=Hid.out (p:=Hid _) h;clear h;have hb0:byt (src.data.toList.drop p) 0=src[p].toNat:=by rw [byt_drop src p 0 (by omega)];rfl
  have hl0:¬ (src.data.toList.drop p).length=0:=by rw [List.length_drop,show src.data.toList.length=src.size by simp];omega
  have HO:Hid (r=.ok (.tuple #[],p+1,out++[UInt8.ofNat 9])):=by
    rw [Hid,hr,escapeR];unfold escape;rw [hb0,if_neg hl0];simp [hv]
  clear hr;obtain ⟨v,hvv⟩:∃ v:Nat,v=9:=⟨_,rfl⟩;have q34:((src[p].toNat:Int) == 34)=false:=by rw [beq_eq_false_iff_ne];omega
  have q92:((src[p].toNat:Int) == 92)=false:=by rw [beq_eq_false_iff_ne];omega
  have q47:((src[p].toNat:Int) == 47)=false:=by rw [beq_eq_false_iff_ne];omega
  have q98:((src[p].toNat:Int) == 98)=false:=by rw [beq_eq_false_iff_ne];omega
  have q102:((src[p].toNat:Int) == 102)=false:=by rw [beq_eq_false_iff_ne];omega
  have q110:((src[p].toNat:Int) == 110)=false:=by rw [beq_eq_false_iff_ne];omega
  have q114:((src[p].toNat:Int) == 114)=false:=by rw [beq_eq_false_iff_ne];omega
  have q116:((src[p].toNat:Int) == 116)=true:=by rw [beq_iff_eq];omega
  clear hb0 hl0;go_enter Tryz.func306,Tryz.ntmps306
  go_wp2_with fail
  refine (next_yes B b src p out w HP.out (by omega) (by omega)).mono ?_;rintro e w1 ⟨rfl,h1,hk⟩;have K1:Hid (Keeps B b w w1):=hk;have R1:=Hid.out (p:=Hid _) h1;clear h1 hk;go_wp2_with fail
  refine (rWriteByteN B b src (p+1) out 9 (by omega) _ R1.out (by omega)).mono ?_;rintro e w2 ⟨rfl,h2,hk⟩;have K2:Hid (Keeps B b w w2):=K1.out.trans hk;have R2:Hid (Rdr w2 B b src (p+1) (out++[UInt8.ofNat 9])):=h2;clear h2 hk;go_wp2_with fail
  go_end0
  exact rpost_ok HO K2.out R2.out
theorem escape_u (B b:Nat) (src:ByteArray) (p:Nat) (out:List UInt8) (w:World) (h:Rdr w B b src p out) (hp:p<src.size) (hs:src.size<=1099511627776) (hlen:out.length<=p) (hv:src[p].toNat=117):Calls Tryz.prog 306 #[.pointer (some ⟨b,0,none⟩)] w (RPost B b src w (escapeR src p out)):=by
  obtain ⟨r,hr⟩:∃ r,r=escapeR src p out:=⟨_,rfl⟩;rw [<-hr];have HP:=Hid.out (p:=Hid _) h;clear h;have hb0:byt (src.data.toList.drop p) 0=src[p].toNat:=by rw [byt_drop src p 0 (by omega)];rfl
  have hl0:¬ (src.data.toList.drop p).length=0:=by rw [List.length_drop,show src.data.toList.length=src.size by simp];omega
  have hn:numberR src (p+1) out=escapeR src p out:=by
    rw [numberR,escapeR];unfold escape;rw [hb0,if_neg hl0];simp only [hv,List.drop_drop]
    simp
    cases number (List.drop (p+1) src.data.toList) with
    | error k=>rfl
    | ok x=>obtain ⟨o,n⟩:=x;simp;omega
  have HN:Hid (r=numberR src (p+1) out):=by rw [Hid,hr,hn]
  clear hr hn;have q34:((src[p].toNat:Int) == 34)=false:=by rw [beq_eq_false_iff_ne];omega
  have q92:((src[p].toNat:Int) == 92)=false:=by rw [beq_eq_false_iff_ne];omega
  have q47:((src[p].toNat:Int) == 47)=false:=by rw [beq_eq_false_iff_ne];omega
  have q98:((src[p].toNat:Int) == 98)=false:=by rw [beq_eq_false_iff_ne];omega
  have q102:((src[p].toNat:Int) == 102)=false:=by rw [beq_eq_false_iff_ne];omega
  have q110:((src[p].toNat:Int) == 110)=false:=by rw [beq_eq_false_iff_ne];omega
  have q114:((src[p].toNat:Int) == 114)=false:=by rw [beq_eq_false_iff_ne];omega
  have q116:((src[p].toNat:Int) == 116)=false:=by rw [beq_eq_false_iff_ne];omega
  have q117:((src[p].toNat:Int) == 117)=true:=by rw [beq_iff_eq];omega
  clear hb0 hl0;go_enter Tryz.func306,Tryz.ntmps306
  go_wp2_with fail
  refine (next_yes B b src p out w HP.out (by omega) (by omega)).mono ?_;rintro e w1 ⟨rfl,h1,hk⟩;have K1:Hid (Keeps B b w w1):=hk;have R1:=Hid.out (p:=Hid _) h1;clear h1 hk;go_wp2_with fail
  refine (number_any B b src (p+1) out w1 R1.out (by omega) (by omega) (by omega)).mono ?_;rintro e w2 ⟨hk,h2⟩;have K2:Hid (Keeps B b w w2):=K1.out.trans hk;clear hk
  cases hnn:numberR src (p+1) out with
  | error k=>
    have HF:Hid (r=.error k):=by rw [Hid,HN.out,hnn]
    rw [hnn] at h2;simp only [] at h2
    obtain rfl:=h2;clear hnn;go_wp2_with fail
    exact ⟨rfl,rpost_err HF K2.out⟩
  | ok x=>
    obtain ⟨v,q,o⟩:=x;have HO:Hid (r=.ok (v,q,o)):=by rw [Hid,HN.out,hnn]
    have hvt:v=.tuple #[]:=by
      rw [numberR] at hnn;split at hnn
      · cases hnn
      · injection hnn with h1;injection h1 with h1 h3;exact h1.symm
    subst hvt;rw [hnn] at h2;simp only [] at h2
    obtain ⟨rfl,hr2⟩:=h2;have R2:Hid (Rdr w2 B b src q o):=hr2;clear hr2 hnn;go_wp2_with fail
    go_end0
    exact rpost_ok HO K2.out R2.out
theorem escape_x (B b:Nat) (src:ByteArray) (p:Nat) (out:List UInt8) (w:World) (h:Rdr w B b src p out) (hp:p<src.size) (hs:src.size<=1099511627776) (hlen:out.length<=p) (hv:src[p].toNat≠34/\src[p].toNat≠92/\src[p].toNat≠47/\src[p].toNat≠98/\src[p].toNat≠102/\src[p].toNat≠110/\src[p].toNat≠114/\src[p].toNat≠116/\src[p].toNat≠117):Calls Tryz.prog 306 #[.pointer (some ⟨b,0,none⟩)] w (RPost B b src w (escapeR src p out)):=by
  obtain ⟨r,hr⟩:∃ r,r=escapeR src p out:=⟨_,rfl⟩;rw [<-hr];have HP:=Hid.out (p:=Hid _) h;clear h;have hb0:byt (src.data.toList.drop p) 0=src[p].toNat:=by rw [byt_drop src p 0 (by omega)];rfl
  have hl0:¬ (src.data.toList.drop p).length=0:=by rw [List.length_drop,show src.data.toList.length=src.size by simp];omega
  have HF:Hid (r=.error 3):=by
    rw [Hid,hr,escapeR];unfold escape;rw [hb0,if_neg hl0];simp [hv]
  clear hr;have q34:((src[p].toNat:Int) == 34)=false:=by rw [beq_eq_false_iff_ne];omega
  have q92:((src[p].toNat:Int) == 92)=false:=by rw [beq_eq_false_iff_ne];omega
  have q47:((src[p].toNat:Int) == 47)=false:=by rw [beq_eq_false_iff_ne];omega
  have q98:((src[p].toNat:Int) == 98)=false:=by rw [beq_eq_false_iff_ne];omega
  have q102:((src[p].toNat:Int) == 102)=false:=by rw [beq_eq_false_iff_ne];omega
  have q110:((src[p].toNat:Int) == 110)=false:=by rw [beq_eq_false_iff_ne];omega
  have q114:((src[p].toNat:Int) == 114)=false:=by rw [beq_eq_false_iff_ne];omega
  have q116:((src[p].toNat:Int) == 116)=false:=by rw [beq_eq_false_iff_ne];omega
  have q117:((src[p].toNat:Int) == 117)=false:=by rw [beq_eq_false_iff_ne];omega
  clear hb0 hl0;go_enter Tryz.func306,Tryz.ntmps306
  go_wp2_with fail
  refine (next_yes B b src p out w HP.out (by omega) (by omega)).mono ?_;rintro e w1 ⟨rfl,h1,hk⟩;have K1:Hid (Keeps B b w w1):=hk;have R1:=Hid.out (p:=Hid _) h1;clear h1 hk;go_wp2_with fail
  refine (fail_any 3 _).mono ?_;rintro e w' ⟨rfl,rfl⟩;go_wp2_with fail
  exact ⟨rfl,rpost_err HF K1.out⟩
theorem escape_any (B b:Nat) (src:ByteArray) (p:Nat) (out:List UInt8) (w:World) (h:Rdr w B b src p out) (hp:p<=src.size) (hs:src.size<=1099511627776) (hlen:out.length<=p):Calls Tryz.prog 306 #[.pointer (some ⟨b,0,none⟩)] w (RPost B b src w (escapeR src p out)):=by
  by_cases h0:p=src.size
  · exact escape_e0 B b src p out w h h0 hs hlen
  have h1:p<src.size:=by omega
  by_cases c34:src[p].toNat=34
  · exact escape_w34 B b src p out w h h1 hs hlen c34
  by_cases c92:src[p].toNat=92
  · exact escape_w92 B b src p out w h h1 hs hlen c92
  by_cases c47:src[p].toNat=47
  · exact escape_w47 B b src p out w h h1 hs hlen c47
  by_cases c98:src[p].toNat=98
  · exact escape_w98 B b src p out w h h1 hs hlen c98
  by_cases c102:src[p].toNat=102
  · exact escape_w102 B b src p out w h h1 hs hlen c102
  by_cases c110:src[p].toNat=110
  · exact escape_w110 B b src p out w h h1 hs hlen c110
  by_cases c114:src[p].toNat=114
  · exact escape_w114 B b src p out w h h1 hs hlen c114
  by_cases c116:src[p].toNat=116
  · exact escape_w116 B b src p out w h h1 hs hlen c116
  by_cases c117:src[p].toNat=117
  · exact escape_u B b src p out w h h1 hs hlen c117
  exact escape_x B b src p out w h h1 hs hlen ⟨c34,c92,c47,c98,c102,c110,c114,c116,c117⟩
end Go.Proofs.YtliekocamnklfaaGreatDoor.Quote
