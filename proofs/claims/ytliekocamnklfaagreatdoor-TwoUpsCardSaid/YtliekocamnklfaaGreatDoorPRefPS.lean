/- tabulariumref07: hex, unit: four hexadecimal digits. -/
import Derived.Test.YtliekocamnklfaaGreatDoorPRefOB
import Derived.Test.YtliekocamnklfaaGreatDoorPNumW
import Derived.Deep.RegionWith
set_option linter.unusedVariables false
set_option linter.unusedSimpArgs false
set_option maxRecDepth 100000
set_option maxHeartbeats 8000000
namespace Go.Proofs.YtliekocamnklfaaGreatDoor.Quote
open Go.RowKit Utf Strs
def hexZ (n:Nat):Int:=match hexv n with | some d=>d | none=>-1
theorem rhex_any (c:Nat) (w:World) (hc:c<256):Calls Tryz.prog 300 #[.int .u8 c] w fun e w'=>e=.returned (.int .i64 (hexZ c))/\w=w':=by
  by_cases h1:48<=c/\c<=57
  · have HV:Hid (hexZ c=(c:Int)-48):=by rw [Hid,hexZ,hexv,if_pos h1];simp only [];omega
    obtain ⟨h1,h2⟩:=h1;go_enter Tryz.func300,Tryz.ntmps300
    go_wp2_with fail
    go_ret
    exact ⟨by rw [HV.out];rfl,rfl⟩
  by_cases h2:97<=c/\c<=102
  · have HV:Hid (hexZ c=(c:Int)-97+10):=by rw [Hid,hexZ,hexv,if_neg h1,if_pos h2];simp only [];omega
    obtain ⟨h2,h3⟩:=h2;have d1:decide ((c:Int)<=57)=false:=by rw [decide_eq_false_iff_not];omega
    clear h1;go_enter Tryz.func300,Tryz.ntmps300
    go_wp2_with fail
    go_ret
    exact ⟨by rw [HV.out];rfl,rfl⟩
  by_cases h3:65<=c/\c<=70
  · have HV:Hid (hexZ c=(c:Int)-65+10):=by rw [Hid,hexZ,hexv,if_neg h1,if_neg h2,if_pos h3];simp only [];omega
    obtain ⟨h3,h4⟩:=h3;have d1:decide ((c:Int)<=57)=false:=by rw [decide_eq_false_iff_not];omega
    have d2:decide (97<=(c:Int))=false:=by rw [decide_eq_false_iff_not];omega
    clear h1 h2;go_enter Tryz.func300,Tryz.ntmps300
    go_wp2_with fail
    go_ret
    exact ⟨by rw [HV.out];rfl,rfl⟩
  · have HV:Hid (hexZ c=-1):=by rw [Hid,hexZ,hexv,if_neg h1,if_neg h2,if_neg h3]
    have hc5:c<48∨57<c/\c<65∨70<c/\c<97∨102<c:=by omega
    clear h1 h2 h3;rcases hc5 with h | ⟨h,h'⟩ | ⟨h,h'⟩ | h
    all_goals
      go_enter Tryz.func300,Tryz.ntmps300
      go_wp2_with fail
      go_ret
      exact ⟨by rw [HV.out];rfl,rfl⟩
def unitV (r:Except Nat Nat):Value:=match r with | .error e=>.tuple #[.int .i64 0,.int .i64 e] | .ok n=>.tuple #[.int .i64 n,.int .i64 0]
theorem runit_any (s:ByteArray) (k:Nat) (w:World) (hk:k<=s.size+16) (hs:s.size<=2147483648):Calls Tryz.prog 267 #[.string s,.int .i64 k] w fun e w'=>e=.returned (unitV (four 4 0 (s.data.toList.drop k)))/\w=w':=by
  have hl:s.data.toList.length=s.size:=by simp
  have HL:=Hid.out (p:=Hid _) hl;clear hl;go_enter Tryz.func267,Tryz.ntmps267
  go_wp2_with fail
  go_loop [6,7] (fun p6 p7=>∃ (n i:Nat),p6=.int .i64 n/\p7=.int .i64 i/\i<=4/\n<65536/\Hid (n<16 ^ i)/\Hid (four 4 0 (s.data.toList.drop k)=four (4-i) n (s.data.toList.drop (k+i)))) (fun _ p7=>4-(intOf p7).toNat)
  case atStart=>exact ⟨0,0,rfl,rfl,by omega,by omega,(by decide:0<16 ^ 0),rfl⟩
  case round=>
    obtain ⟨n,i,rfl,rfl,hi,hn,hp,hf⟩:=hrel;by_cases hi4:i<4
    · obtain ⟨q,hq⟩:∃ q,k+i=q:=⟨_,rfl⟩;have hqq:(k:Int)+(i:Int)=(q:Int):=by omega
      have hql:q<=s.size+20:=by omega
      have hstep:Hid (four 4 0 (s.data.toList.drop k)=four ((3-i)+1) n (s.data.toList.drop q)):=by
        rw [Hid,hf.out,hq,show 4-i=3-i+1 by omega]
      have HQ:=Hid.out (p:=Hid _) hq;clear hq;by_cases hlt:q<s.size
      · have hcons:=Num.drop_byte s q hlt
        cases hx:hexv s[q].toNat with
        | none=>
          have HF:Hid (unitV (four 4 0 (s.data.toList.drop k))=.tuple #[.int .i64 0,.int .i64 3]):=by
            rw [Hid,hstep.out,hcons,four,hx];rfl
          have HX:Hid (hexZ s[q].toNat=-1):=by rw [Hid,hexZ,hx]
          clear hx hcons;go_wp2_with fail
          refine (rhex_any s[q].toNat w (UInt8.toNat_lt _)).mono ?_;rintro e w' ⟨rfl,rfl⟩;rw [HX.out];go_wp2_with fail
          go_ret2
          exact ⟨by rw [HF.out];rfl,rfl⟩
        | some d=>
          have hd:=hexv_lt hx;have HF:Hid (four 4 0 (s.data.toList.drop k)=four (4-(i+1)) (n*16+d) (s.data.toList.drop (k+(i+1)))):=by
            rw [Hid,hstep.out,hcons,four,hx,show 4-(i+1)=3-i by omega,show k+(i+1)=q+1 by have:=HQ.out;omega]
          have HX:Hid (hexZ s[q].toNat=(d:Int)):=by rw [Hid,hexZ,hx]
          have HB:Hid (n*16+d<16 ^ (i+1)/\n*16+d<65536):=by
            have h1:=hp.out;have h2:16 ^ (i+1)=16*16 ^ i:=by rw [Nat.pow_succ];omega
            have h3:n*16+d<16 ^ (i+1):=by omega
            have h4:16 ^ (i+1)<=16 ^ 4:=Nat.pow_le_pow_right (by omega) (by omega);exact ⟨h3,by omega⟩
          clear hx hcons;go_wp2_with fail
          refine (rhex_any s[q].toNat w (UInt8.toNat_lt _)).mono ?_;rintro e w' ⟨rfl,rfl⟩;rw [HX.out];go_wp2_with fail
          go_round
          case rel=>exact ⟨n*16+d,i+1,by go_num,by go_num,by omega,HB.out.2,HB.out.1,HF.out⟩
          case measure=>simp [intOf];omega
      · have HF:Hid (unitV (four 4 0 (s.data.toList.drop k))=.tuple #[.int .i64 0,.int .i64 2]):=by
          rw [Hid,hstep.out,List.drop_of_length_le (by rw [HL.out];omega)];rfl
        go_wp2_with fail
        go_ret2
        exact ⟨by rw [HF.out];rfl,rfl⟩
    · obtain rfl:i=4:=by omega
      have HF:Hid (unitV (four 4 0 (s.data.toList.drop k))=.tuple #[.int .i64 n,.int .i64 0]):=by
        rw [Hid,hf.out];rfl
      go_wp2_with fail
      go_ret2
      exact ⟨by rw [HF.out];rfl,rfl⟩
def partV (r:Except Nat (List UInt8 × Nat)):Value:=match r with | .error e=>.agg #[.string ⟨#[]⟩,.int .i64 0,.int .i64 e] | .ok (o,n)=>.agg #[.string ⟨o.toArray⟩,.int .i64 n,.int .i64 0]
def more (m:Nat) (r:Except Nat (List UInt8 × Nat)):Except Nat (List UInt8 × Nat):=match r with | .error e=>.error e | .ok (o,n)=>.ok (o,n+m)
def CodPost (s:ByteArray) (k:Nat) (w:World) (e:Ending) (w':World):Prop:=e=.returned (partV (more 2 (number (s.data.toList.drop (k+2)))))/\Below w.heap.size w w'
theorem below1 {w w':World} {a b c:Value} (h:Below w.heap.size w w'):Below w.heap.size w (((w'.setCell ⟨w.heap.size,0,none⟩ a).setCell ⟨w.heap.size,1,none⟩ b).setCell ⟨w.heap.size,2,none⟩ c):=
  ((h.setCell (p:=⟨w.heap.size,0,none⟩) (Nat.le_refl _) _).setCell (p:=⟨w.heap.size,1,none⟩) (Nat.le_refl _) _).setCell (p:=⟨w.heap.size,2,none⟩) (Nat.le_refl _) _
theorem cod_ret (s:ByteArray) (k:Nat) (w w':World) (tm:Array Value) (a b c:Value) (hb:w'.heap[w.heap.size]?=some (.cells #[a,b,c] 132 (0,0))) (hB:Below w.heap.size w w') (hv:partV (more 2 (number (s.data.toList.drop (k+2))))=.agg #[a,b,c])
    (h2:tm[4]?=some (.pointer (some ⟨w.heap.size,0,none⟩))) :
    bodyPost Tryz.prog Tryz.f218 (CodPost s k w) Exit.ret { tmps:=tm,defers:=[] } w':=by
  have c0:=cell_of hb 0;have c1:=cell_of hb 1;have c2:=cell_of hb 2;refine bodyPost_ret (v:=.agg #[a,b,c]) ?_ rfl ⟨by rw [hv],hB⟩;simp [results,Tryz.results218,go_sem,h2,c0,c1,c2]
theorem four_err {n m:Nat} {l:List UInt8} {k:Nat} (h:four n m l=.error k):k=2∨k=3:=by
  induction n generalizing m l with
  | zero=>cases h
  | succ n ih=>
    cases l with
    | nil=>unfold four at h;injection h with h;omega
    | cons c l=>
      unfold four at h;split at h
      · injection h with h;omega
      · exact ih h
theorem coded_e (s:ByteArray) (k:Nat) (w:World) (hk:k<=s.size) (hs:s.size<=2147483648) (e:Nat) (he:four 4 0 (s.data.toList.drop (k+2))=.error e):Calls Tryz.prog 218 #[.string s,.int .i64 k] w (CodPost s k w):=by
  have hne:((e:Int) != 0)=true:=by rw [bne_iff_ne];have:=four_err he;omega
  have HV:Hid (partV (more 2 (number (s.data.toList.drop (k+2))))=.agg #[.string ⟨#[]⟩,.int .i64 0,.int .i64 e]):=by
    rw [Hid,number,he];rfl
  have hc:=fun w=>runit_any s (k+2) w (by omega) hs;rw [he,show unitV (.error e)=.tuple #[.int .i64 0,.int .i64 e] from rfl] at hc;have HC:=Hid.out (p:=Hid _) hc;clear hc he;go_enter Tryz.func218,Tryz.ntmps218
  go_wp2_with fail
  refine (Calls.mono (HC.out _) ?_);rintro e w' ⟨rfl,rfl⟩;go_wp2_with fail
  exact cod_ret s k w _ _ _ _ _ (heap_alloc_new _ _) ((Below.refl _ _).alloc (Nat.le_refl _) _) HV.out rfl
theorem number_low {l:List UInt8} {n:Nat} (h:four 4 0 l=.ok n) (h1:56320<=n/\n<=57343):number l=.error 3:=by
  rw [number,h];simp only [];rw [if_pos h1]
theorem number_put {l:List UInt8} {n:Nat} (h:four 4 0 l=.ok n) (h1:n<55296∨57343<n):number l=.ok (put n,4):=by
  rw [number,h];simp only [];rw [if_neg (by omega),if_neg (by omega)]
theorem number_high {l:List UInt8} {n:Nat} (h:four 4 0 l=.ok n) (h1:55296<=n/\n<=56319):number l =
    if l.length<=4 then .error 2
      else if byt l 4≠92 then .error 3
      else if l.length<=5 then .error 2
      else if byt l 5≠117 then .error 3
      else match four 4 0 (l.drop 6) with
        | .error e=>.error e
        | .ok d=>if d<56320∨57343<d then .error 3 else .ok (put (65536+1024*(n-55296)+(d-56320)),10):=by
  rw [number,h];simp only [];rw [if_neg (by omega),if_pos h1];cases four 4 0 (l.drop 6) <;> rfl
theorem ok_tuple (n:Nat):unitV (.ok n)=.tuple #[.int .i64 n,.int .i64 0]:=rfl
theorem err_tuple (e:Nat):unitV (.error e)=.tuple #[.int .i64 0,.int .i64 e]:=rfl
theorem coded_low (s:ByteArray) (k:Nat) (w:World) (hk:k<=s.size) (hs:s.size<=2147483648) (n:Nat) (hn:four 4 0 (s.data.toList.drop (k+2))=.ok n) (h1:56320<=n) (h2:n<=57343):Calls Tryz.prog 218 #[.string s,.int .i64 k] w (CodPost s k w):=by
  have HV:Hid (partV (more 2 (number (s.data.toList.drop (k+2))))=.agg #[.string ⟨#[]⟩,.int .i64 0,.int .i64 3]):=by
    rw [Hid,number_low hn ⟨h1,h2⟩];rfl
  have hc:=fun w=>runit_any s (k+2) w (by omega) hs;rw [hn,ok_tuple] at hc;have d1:decide (56320<=(n:Int))=true:=by rw [decide_eq_true_eq];omega
  have d2:decide ((n:Int)<=57343)=true:=by rw [decide_eq_true_eq];omega
  have HC:=Hid.out (p:=Hid _) hc;clear hc hn h1 h2;go_enter Tryz.func218,Tryz.ntmps218
  go_wp2_with fail
  refine (Calls.mono (HC.out _) ?_);rintro e w' ⟨rfl,rfl⟩;go_wp2_with fail
  exact cod_ret s k w _ _ _ _ _ (heap_alloc_new _ _) ((Below.refl _ _).alloc (Nat.le_refl _) _) HV.out rfl
theorem coded_put (s:ByteArray) (k:Nat) (w:World) (hk:k<=s.size) (hs:s.size<=2147483648) (n:Nat) (hn:four 4 0 (s.data.toList.drop (k+2))=.ok n) (h1:n<55296∨57343<n):Calls Tryz.prog 218 #[.string s,.int .i64 k] w (CodPost s k w):=by
  have HV:Hid (partV (more 2 (number (s.data.toList.drop (k+2))))=.agg #[.string ⟨(put n).toArray⟩,.int .i64 6,.int .i64 0]):=by
    rw [Hid,number_put hn h1];rfl
  have hc:=fun w=>runit_any s (k+2) w (by omega) hs;rw [hn,ok_tuple] at hc;have HC:=Hid.out (p:=Hid _) hc;clear hc hn;have HP:Hid (putI (n:Int)=put n):=putI_nat n;rcases h1 with h1 | h1
  · have d1:decide (56320<=(n:Int))=false:=by rw [decide_eq_false_iff_not];omega
    have d2:decide ((n:Int)<55296)=true:=by rw [decide_eq_true_eq];omega
    clear h1;go_enter Tryz.func218,Tryz.ntmps218
    go_wp2_with fail
    refine (Calls.mono (HC.out _) ?_);rintro e w' ⟨rfl,rfl⟩;go_wp2_with fail
    refine (rput_any n _).mono ?_;rintro e w2 ⟨rfl,hb2⟩;have hb:=(hb2.block w.heap.size (by simp)).trans (heap_alloc_new w _);have B2:Hid (Below w.heap.size w w2):=((Below.refl _ _).alloc (Nat.le_refl _) _).trans (hb2.mono (by simp));have H2:=Hid.out (p:=Hid _) hb;have c0:=cell_of hb 0;have c1:=cell_of hb 1;have c2:=cell_of hb 2;have f0:=frozen_of hb 0;have f1:=frozen_of hb 1;have f2:=frozen_of hb 2;clear hb hb2;rw [HP.out];go_wp2_with fail
    exact cod_ret s k w _ _ _ _ _ (heap_set_same (heap_set_same (heap_set_same H2.out _) _) _) (below1 B2.out) HV.out rfl
  · have d0:decide (56320<=(n:Int))=true:=by rw [decide_eq_true_eq];omega
    have d1:decide ((n:Int)<=57343)=false:=by rw [decide_eq_false_iff_not];omega
    have d2:decide ((n:Int)<55296)=false:=by rw [decide_eq_false_iff_not];omega
    have d3:decide (57343<(n:Int))=true:=by rw [decide_eq_true_eq];omega
    clear h1;go_enter Tryz.func218,Tryz.ntmps218
    go_wp2_with fail
    refine (Calls.mono (HC.out _) ?_);rintro e w' ⟨rfl,rfl⟩;go_wp2_with fail
    refine (rput_any n _).mono ?_;rintro e w2 ⟨rfl,hb2⟩;have hb:=(hb2.block w.heap.size (by simp)).trans (heap_alloc_new w _);have B2:Hid (Below w.heap.size w w2):=((Below.refl _ _).alloc (Nat.le_refl _) _).trans (hb2.mono (by simp));have H2:=Hid.out (p:=Hid _) hb;have c0:=cell_of hb 0;have c1:=cell_of hb 1;have c2:=cell_of hb 2;have f0:=frozen_of hb 0;have f1:=frozen_of hb 1;have f2:=frozen_of hb 2;clear hb hb2;rw [HP.out];go_wp2_with fail
    exact cod_ret s k w _ _ _ _ _ (heap_set_same (heap_set_same (heap_set_same H2.out _) _) _) (below1 B2.out) HV.out rfl
theorem coded_high (s:ByteArray) (k:Nat) (w:World) (hk:k<=s.size) (hs:s.size<=2147483648) (n:Nat) (hn:four 4 0 (s.data.toList.drop (k+2))=.ok n) (h1:55296<=n) (h2:n<=56319):Calls Tryz.prog 218 #[.string s,.int .i64 k] w (CodPost s k w):=by
  have hnum:=number_high hn ⟨h1,h2⟩;have hlen:(s.data.toList.drop (k+2)).length=s.size-(k+2):=by simp
  have hb4:∀ q (h:q<s.size) (h2:k+2<=q),byt (s.data.toList.drop (k+2)) (q-(k+2))=s[q].toNat:=by
    intro q h h2
    have:=byt_drop s (k+2) (q-(k+2)) (by omega);rw [this];congr 2;omega
  rw [hlen,List.drop_drop,show k+2+6=k+8 by omega] at hnum;have HN:=Hid.out (p:=Hid _) hnum;clear hnum hlen;have HB:=Hid.out (p:=Hid _) hb4;clear hb4;have hc:=fun w=>runit_any s (k+2) w (by omega) hs;rw [hn,ok_tuple] at hc;have d0:decide (56320<=(n:Int))=false:=by rw [decide_eq_false_iff_not];omega
  have d2:decide ((n:Int)<55296)=false:=by rw [decide_eq_false_iff_not];omega
  have d3:decide (57343<(n:Int))=false:=by rw [decide_eq_false_iff_not];omega
  have HC:=Hid.out (p:=Hid _) hc;clear hc hn;have HL1:=Hid.out (p:=Hid _) h1;clear h1;have HL2:=Hid.out (p:=Hid _) h2;clear h2;go_enter Tryz.func218,Tryz.ntmps218
  go_wp2_with fail
  refine (Calls.mono (HC.out _) ?_);rintro e w' ⟨rfl,rfl⟩;clear HC;go_wp2_with fail
  go_loopw [7] (fun p7 wr=>∃ i:Nat,p7=.int .i64 i/\i<=2/\Hid (1<=i->¬ (s.size-(k+2)<=4)/\byt (s.data.toList.drop (k+2)) 4=92)/\Hid (2<=i->¬ (s.size-(k+2)<=5)/\byt (s.data.toList.drop (k+2)) 5=117)/\Hid (wr.heap[w.heap.size]?=some (.cells #[.string ⟨#[]⟩,.int .i64 0,.int .i64 0] 132 (0,0)))/\Hid (Below w.heap.size w wr)) (fun p7 _=>2-(intOf p7).toNat)
  case atStart=>exact ⟨0,rfl,by omega,fun h=>by omega,fun h=>by omega,heap_alloc_new _ _,(Below.refl _ _).alloc (Nat.le_refl _) _⟩
  case round=>
    obtain ⟨i,rfl,hi,hp1,hp2,hH,hB⟩:=hrel;have c0:=cell_of hH.out 0;have c1:=cell_of hH.out 1;have c2:=cell_of hH.out 2;have f0:=frozen_of hH.out 0;have f1:=frozen_of hH.out 1;have f2:=frozen_of hH.out 2;have hlw:w.heap.size<wr.heap.size:=heap_lt hH.out;clear d0 d2 d3;rcases (by omega:i=0∨i=1∨i=2) with rfl | rfl | rfl
    · rw [show ((0:Nat):Int)=0 from rfl];obtain ⟨q,hq⟩:∃ q,k+6=q:=⟨_,rfl⟩;have hqq:(k:Int)+6=(q:Int):=by omega
      have hql:q<=s.size+6:=by omega
      have hwq:IntKind.i64.wrap (q:Int)=(q:Int):=IntWalk.i64_in _ (by omega);have HQ:Hid (k+2+4=q):=by unfold Hid;omega
      have hpl:q<=s.size+7:=by omega
      clear hq;by_cases hl:q<s.size
      · have hb:=HB.out q hl (by have:=HQ.out;omega);rw [show q-(k+2)=4 by have:=HQ.out;omega] at hb;have HBY:=Hid.out (p:=Hid _) hb;clear hb;by_cases hz:s[q].toNat=92
        · have HX:Hid (byt (s.data.toList.drop (k+2)) 4=92):=HBY.out.trans hz;have HP:Hid (¬ (s.size-(k+2)<=4)/\byt (s.data.toList.drop (k+2)) 4=92):=⟨by have:=HQ.out;omega,HX.out⟩;have hzq:((s[q].toNat:Int) != 92)=false:=by rw [bne_eq_false_iff_eq];omega
          clear hz;go_wp2_with fail
          go_region
          all_goals
            have R:Hid ((wr.alloc (.cells #[.int .u8 92,.int .u8 117] 5)).heap[w.heap.size]?=some (.cells #[.string ⟨#[]⟩,.int .i64 0,.int .i64 0] 132 (0,0))):=heap_alloc_old hH.out;have B:Hid (Below w.heap.size w (wr.alloc (.cells #[.int .u8 92,.int .u8 117] 5))):=hB.out.alloc (by omega) _;go_wp2_with fail
            go_roundw
            case rel=>exact ⟨1,rfl,by omega,fun _=>HP.out,fun h=>by omega,R.out,B.out.drew⟩
            case measure=>simp [intOf]
        · have HX:Hid (byt (s.data.toList.drop (k+2)) 4≠92):=fun e=>hz (HBY.out.symm.trans e);have HV:Hid (partV (more 2 (number (s.data.toList.drop (k+2))))=.agg #[.string ⟨#[]⟩,.int .i64 0,.int .i64 3]):=by
            rw [Hid,HN.out,if_neg (by have:=HQ.out;omega),if_pos HX.out];rfl
          have hzq:((s[q].toNat:Int) != 92)=true:=by rw [bne_iff_ne];omega
          clear hz;go_wp2_with fail
          go_region
          all_goals
            have R:Hid ((wr.alloc (.cells #[.int .u8 92,.int .u8 117] 5)).drew.heap[w.heap.size]?=some (.cells #[.string ⟨#[]⟩,.int .i64 0,.int .i64 0] 132 (0,0))):=heap_alloc_old hH.out;have B:Hid (Below w.heap.size w (wr.alloc (.cells #[.int .u8 92,.int .u8 117] 5)).drew):=(hB.out.alloc (by omega) _).drew;generalize (wr.alloc (.cells #[.int .u8 92,.int .u8 117] 5)).drew=w4 at *;have g0:=cell_of R.out 0;have g1:=cell_of R.out 1;have g2:=cell_of R.out 2;have h0:=frozen_of R.out 0;have h1:=frozen_of R.out 1;have h2:=frozen_of R.out 2;go_wp2_with fail
            exact cod_ret s k w _ _ _ _ _ (heap_set_same (heap_set_same (heap_set_same R.out _) _) _) (below1 B.out) HV.out rfl
      · have HV:Hid (partV (more 2 (number (s.data.toList.drop (k+2))))=.agg #[.string ⟨#[]⟩,.int .i64 0,.int .i64 2]):=by
          rw [Hid,HN.out,if_pos (by have:=HQ.out;omega)];rfl
        go_wp2_with fail
        exact cod_ret s k w _ _ _ _ _ (heap_set_same (heap_set_same (heap_set_same hH.out _) _) _) (below1 hB.out) HV.out rfl
    · rw [show ((1:Nat):Int)=1 from rfl];obtain ⟨q,hq⟩:∃ q,k+6=q:=⟨_,rfl⟩;have hqq:(k:Int)+6=(q:Int):=by omega
      have hql:q<=s.size+6:=by omega
      obtain ⟨p,hp⟩:∃ p,q+1=p:=⟨_,rfl⟩;have hpp:(q:Int)+1=(p:Int):=by omega
      have hwp:IntKind.i64.wrap (p:Int)=(p:Int):=IntWalk.i64_in _ (by omega);have hwq:IntKind.i64.wrap (q:Int)=(q:Int):=IntWalk.i64_in _ (by omega);have HQ:Hid (k+2+5=p):=by unfold Hid;omega
      have hpl:p<=s.size+7:=by omega
      clear hq hp;by_cases hl:p<s.size
      · have hb:=HB.out p hl (by have:=HQ.out;omega);rw [show p-(k+2)=5 by have:=HQ.out;omega] at hb;have HBY:=Hid.out (p:=Hid _) hb;clear hb;by_cases hz:s[p].toNat=117
        · have HX:Hid (byt (s.data.toList.drop (k+2)) 5=117):=HBY.out.trans hz;have HP:Hid (¬ (s.size-(k+2)<=5)/\byt (s.data.toList.drop (k+2)) 5=117):=⟨by have:=HQ.out;omega,HX.out⟩;have hzq:((s[p].toNat:Int) != 117)=false:=by rw [bne_eq_false_iff_eq];omega
          clear hz;go_wp2_with fail
          go_region
          all_goals
            have R:Hid ((wr.alloc (.cells #[.int .u8 92,.int .u8 117] 5)).heap[w.heap.size]?=some (.cells #[.string ⟨#[]⟩,.int .i64 0,.int .i64 0] 132 (0,0))):=heap_alloc_old hH.out;have B:Hid (Below w.heap.size w (wr.alloc (.cells #[.int .u8 92,.int .u8 117] 5))):=hB.out.alloc (by omega) _;go_wp2_with fail
            go_roundw
            case rel=>exact ⟨2,rfl,by omega,fun _=>hp1.out (by omega),fun _=>HP.out,R.out,B.out.drew⟩
            case measure=>simp [intOf]
        · have HX:Hid (byt (s.data.toList.drop (k+2)) 5≠117):=fun e=>hz (HBY.out.symm.trans e);have HV:Hid (partV (more 2 (number (s.data.toList.drop (k+2))))=.agg #[.string ⟨#[]⟩,.int .i64 0,.int .i64 3]):=by
            rw [Hid,HN.out,if_neg (hp1.out (by omega)).1,if_neg (fun h=>h (hp1.out (by omega)).2),if_neg (by have:=HQ.out;omega),if_pos HX.out];rfl
          have hzq:((s[p].toNat:Int) != 117)=true:=by rw [bne_iff_ne];omega
          clear hz;go_wp2_with fail
          go_region
          all_goals
            have R:Hid ((wr.alloc (.cells #[.int .u8 92,.int .u8 117] 5)).drew.heap[w.heap.size]?=some (.cells #[.string ⟨#[]⟩,.int .i64 0,.int .i64 0] 132 (0,0))):=heap_alloc_old hH.out;have B:Hid (Below w.heap.size w (wr.alloc (.cells #[.int .u8 92,.int .u8 117] 5)).drew):=(hB.out.alloc (by omega) _).drew;generalize (wr.alloc (.cells #[.int .u8 92,.int .u8 117] 5)).drew=w4 at *;have g0:=cell_of R.out 0;have g1:=cell_of R.out 1;have g2:=cell_of R.out 2;have h0:=frozen_of R.out 0;have h1:=frozen_of R.out 1;have h2:=frozen_of R.out 2;go_wp2_with fail
            exact cod_ret s k w _ _ _ _ _ (heap_set_same (heap_set_same (heap_set_same R.out _) _) _) (below1 B.out) HV.out rfl
      · have HV:Hid (partV (more 2 (number (s.data.toList.drop (k+2))))=.agg #[.string ⟨#[]⟩,.int .i64 0,.int .i64 2]):=by
          rw [Hid,HN.out,if_neg (hp1.out (by omega)).1,if_neg (fun h=>h (hp1.out (by omega)).2),if_pos (by have:=HQ.out;omega)];rfl
        go_wp2_with fail
        exact cod_ret s k w _ _ _ _ _ (heap_set_same (heap_set_same (heap_set_same hH.out _) _) _) (below1 hB.out) HV.out rfl
    · rw [show ((2:Nat):Int)=2 from rfl];have p1:=hp1.out (by omega);have p2:=hp2.out (by omega)
      have HN2:Hid (number (s.data.toList.drop (k+2))=match four 4 0 (s.data.toList.drop (k+8)) with
          | .error e=>.error e
          | .ok d=>if d<56320∨57343<d then .error 3 else .ok (put (65536+1024*(n-55296)+(d-56320)),10)):=by
        rw [Hid,HN.out,if_neg p1.1,if_neg (fun h=>h p1.2),if_neg p2.1,if_neg (fun h=>h p2.2)]
      clear p1 p2;have hkk:(k:Int)+8=((k+8:Nat):Int):=by omega
      have hkl:k+8<=s.size+16:=by omega
      have hc8:=fun w=>runit_any s (k+8) w hkl hs;generalize k+8=k8 at *
      cases hm:four 4 0 (s.data.toList.drop k8) with
      | error e=>
        have hne:((e:Int) != 0)=true:=by rw [bne_iff_ne];have:=four_err hm;omega
        have HV:Hid (partV (more 2 (number (s.data.toList.drop (k+2))))=.agg #[.string ⟨#[]⟩,.int .i64 0,.int .i64 e]):=by
          rw [Hid,HN2.out,hm];rfl
        rw [hm,err_tuple] at hc8;have HC8:=Hid.out (p:=Hid _) hc8;clear hc8 hm;go_wp2_with fail
        refine (Calls.mono (HC8.out _) ?_);rintro e w' ⟨rfl,rfl⟩;go_wp2_with fail
        exact cod_ret s k w _ _ _ _ _ (heap_set_same (heap_set_same (heap_set_same hH.out _) _) _) (below1 hB.out) HV.out rfl
      | ok m=>
        rw [hm,ok_tuple] at hc8;by_cases hlow:m<56320∨57343<m
        · have HV:Hid (partV (more 2 (number (s.data.toList.drop (k+2))))=.agg #[.string ⟨#[]⟩,.int .i64 0,.int .i64 3]):=by
            rw [Hid,HN2.out,hm];simp only [];rw [if_pos hlow];rfl
          have hl2:(decide ((m:Int)<56320)=true)∨(decide ((m:Int)<56320)=false/\decide (57343<(m:Int))=true):=by
            by_cases h:m<56320
            · left;rw [decide_eq_true_eq];omega
            · right;rw [decide_eq_true_eq,decide_eq_false_iff_not];omega
          have HC8:=Hid.out (p:=Hid _) hc8;clear hc8 hm hlow;rcases hl2 with e1 | ⟨e1,e2⟩
          all_goals
            go_wp2_with fail
            refine (Calls.mono (HC8.out _) ?_);rintro e w' ⟨rfl,rfl⟩;go_wp2_with fail
            exact cod_ret s k w _ _ _ _ _ (heap_set_same (heap_set_same (heap_set_same hH.out _) _) _) (below1 hB.out) HV.out rfl
        · have HV:Hid (partV (more 2 (number (s.data.toList.drop (k+2))))=.agg #[.string ⟨(put (65536+1024*(n-55296)+(m-56320))).toArray⟩,.int .i64 12,.int .i64 0]):=by
            rw [Hid,HN2.out,hm];simp only [];rw [if_neg hlow];rfl
          have e1:decide ((m:Int)<56320)=false:=by rw [decide_eq_false_iff_not];omega
          have e2:decide (57343<(m:Int))=false:=by rw [decide_eq_false_iff_not];omega
          have h1:=HL1.out;have h2:=HL2.out;obtain ⟨a,ha⟩:∃ a,n-55296=a:=⟨_,rfl⟩;have haa:(n:Int)-55296=(a:Int):=by omega
          have hal:a<=1023:=by omega
          have hml:m<65536:=by omega
          rw [ha] at HV;have HI:Hid (putI (65536+(a:Int)*1024+(m:Int)-56320)=put (65536+1024*a+(m-56320))):=by
            have e0:(65536+(a:Int)*1024+(m:Int)-56320)=((65536+1024*a+(m-56320):Nat):Int):=by omega
            rw [Hid,e0];exact putI_nat _
          have HC8:=Hid.out (p:=Hid _) hc8;clear hc8 hm hlow h1 h2 ha;go_wp2_with fail
          refine (Calls.mono (HC8.out _) ?_);rintro e w' ⟨rfl,rfl⟩;go_wp2_with fail
          refine (rput_any _ _).mono ?_;rintro e w2 ⟨rfl,hb2⟩;have R:Hid (w2.heap[w.heap.size]?=some (.cells #[.string ⟨#[]⟩,.int .i64 0,.int .i64 0] 132 (0,0))):=(hb2.block _ hlw).trans hH.out;have B:Hid (Below w.heap.size w w2):=hB.out.trans (hb2.mono hB.out.size);clear hb2;have g0:=cell_of R.out 0;have g1:=cell_of R.out 1;have g2:=cell_of R.out 2;have h0:=frozen_of R.out 0;have h1:=frozen_of R.out 1;have h2:=frozen_of R.out 2;rw [HI.out];go_wp2_with fail
          exact cod_ret s k w _ _ _ _ _ (heap_set_same (heap_set_same (heap_set_same R.out _) _) _) (below1 B.out) HV.out rfl
theorem coded_any (s:ByteArray) (k:Nat) (w:World) (hk:k<=s.size) (hs:s.size<=2147483648):Calls Tryz.prog 218 #[.string s,.int .i64 k] w (CodPost s k w):=by
  cases h:four 4 0 (s.data.toList.drop (k+2)) with
  | error e=>exact coded_e s k w hk hs e h
  | ok n=>
    by_cases h1:56320<=n/\n<=57343
    · exact coded_low s k w hk hs n h h1.1 h1.2
    by_cases h2:n<55296∨57343<n
    · exact coded_put s k w hk hs n h h2
    · exact coded_high s k w hk hs n h (by omega) (by omega)
def two (r:Except Nat (List UInt8 × Nat × Bool)):Except Nat (List UInt8 × Nat):=match r with | .error e=>.error e | .ok (o,n,_)=>.ok (o,n)
def PartPost (s:ByteArray) (k:Nat) (w:World) (e:Ending) (w':World):Prop:=e=.returned (partV (two (part (s.data.toList.drop k))))/\Below w.heap.size w w'
theorem rp_ret (s:ByteArray) (k:Nat) (w w':World) (tm:Array Value) (a b c:Value) (hb:w'.heap[w.heap.size]?=some (.cells #[a,b,c] 132 (0,0))) (hB:Below w.heap.size w w') (hv:partV (two (part (s.data.toList.drop k)))=.agg #[a,b,c])
    (h2:tm[4]?=some (.pointer (some ⟨w.heap.size,0,none⟩))) :
    bodyPost Tryz.prog Tryz.f172 (PartPost s k w) Exit.ret { tmps:=tm,defers:=[] } w':=by
  have c0:=cell_of hb 0;have c1:=cell_of hb 1;have c2:=cell_of hb 2;refine bodyPost_ret (v:=.agg #[a,b,c]) ?_ rfl ⟨by rw [hv],hB⟩;simp [results,Tryz.results172,go_sem,h2,c0,c1,c2]
theorem bnew (w:World) (o:Obj):Below w.heap.size w (w.alloc o):=(Below.refl _ _).alloc (Nat.le_refl _) _
theorem pt0 (s:ByteArray) (k:Nat) (h:k<s.size):byt (s.data.toList.drop k) 0=s[k].toNat:=byt_drop0 s k h
theorem pt1 (s:ByteArray) (k:Nat) (h:k+1<s.size):byt ((s.data.toList.drop k).drop 1) 0=s[k+1].toNat:=by
  rw [List.drop_drop];exact byt_drop0 s (k+1) h
theorem plen (s:ByteArray) (k:Nat):(s.data.toList.drop k).length=s.size-k:=by simp
theorem rp_short {l:List UInt8} (h:l.length=0):part l=.error 2:=by unfold part;rw [if_pos h]
theorem rp_low {l:List UInt8} (h0:l.length≠0) (h:byt l 0<32):part l=.error 3:=by
  unfold part;rw [if_neg h0,if_neg (by omega),if_neg (by omega),if_pos h]
theorem rp_esc {l:List UInt8} (h0:l.length≠0) (h:byt l 0=92):two (part l)=more 1 (escape (l.drop 1)):=by
  unfold part;rw [if_neg h0,if_neg (by omega),if_pos h]
  cases escape (l.drop 1) with
  | error e=>rfl
  | ok x=>rfl
theorem rp_scal {l:List UInt8} (h0:l.length≠0) (h:32<=byt l 0) (h1:byt l 0≠34) (h2:byt l 0≠92):two (part l)=if (one l).2=0 then .error 7 else .ok (l.take (one l).2,(one l).2):=by
  unfold part;rw [if_neg h0,if_neg h1,if_neg h2,if_neg (by omega)];by_cases ha:byt l 0<128
  · rw [if_pos ha];have hz:sizeAt (byt l 0)=1:=by unfold sizeAt;rw [if_pos ha]
    have hv:val l 1=byt l 0:=rfl;have hs:stands l 1=true:=by
      have h5:scalarB (byt l 0)=true:=by simp [scalarB];omega
      have h6:width (byt l 0)=1:=by unfold width;rw [if_pos ha]
      simp only [stands,Bool.and_eq_true,decide_eq_true_eq]
      rw [hv];exact ⟨⟨⟨⟨⟨by omega,by omega⟩,hz⟩,rfl⟩,h5⟩,h6⟩
    have ho:one l=(byt l 0,1):=one_some 1 _ hz hv hs;rw [ho];obtain ⟨a,h4,h5⟩:=take1 (l:=l) (by omega);simp only [two,show ¬ (1=0) by decide,if_false]
    rw [h4,h5];simp
  · rw [if_neg ha];by_cases hz:(one l).2=0
    · rw [if_pos hz,if_pos hz];rfl
    · rw [if_neg hz,if_neg hz];have hst:stands l (sizeAt (byt l 0))=true:=by
        by_cases h:stands l (sizeAt (byt l 0))=true
        · exact h
        · exfalso;apply hz;unfold one;rw [if_neg h]
      have ho:one l=(val l (sizeAt (byt l 0)),sizeAt (byt l 0)):=by unfold one;rw [if_pos hst]
      have hp:=(stands_hit l _ hst).2;rw [ho];simp only [two]
      rw [hp,List.length_take];have hle:sizeAt (byt l 0)<=l.length:=by simp only [stands,Bool.and_eq_true,decide_eq_true_eq] at hst;exact hst.1.1.1.1.2
      rw [Nat.min_eq_left hle]
theorem rp_end (s:ByteArray) (k:Nat) (w:World) (hk:k=s.size) (hs:s.size<=2147483648):Calls Tryz.prog 172 #[.string s,.int .i64 k] w (PartPost s k w):=by
  subst hk;have HV:Hid (partV (two (part (s.data.toList.drop s.size)))=.agg #[.string ⟨#[]⟩,.int .i64 0,.int .i64 2]):=by rw [Hid,rp_short (by rw [plen];omega)];rfl
  go_enter Tryz.func172,Tryz.ntmps172
  go_wp2_with fail
  exact rp_ret s s.size w _ _ _ _ _ (heap_alloc_new _ _) (bnew _ _) HV.out rfl
theorem rp_lt (s:ByteArray) (k:Nat) (w:World) (hk:k<s.size) (hs:s.size<=2147483648) (h:s[k].toNat<32):Calls Tryz.prog 172 #[.string s,.int .i64 k] w (PartPost s k w):=by
  have HV:Hid (partV (two (part (s.data.toList.drop k)))=.agg #[.string ⟨#[]⟩,.int .i64 0,.int .i64 3]):=by rw [Hid,rp_low (by rw [plen];omega) (by rw [pt0 s k hk];exact h)];rfl
  go_enter Tryz.func172,Tryz.ntmps172
  go_wp2_with fail
  exact rp_ret s k w _ _ _ _ _ (heap_alloc_new _ _) (bnew _ _) HV.out rfl
theorem rp_sc (s:ByteArray) (k:Nat) (w:World) (hk:k<s.size) (hs:s.size<=2147483648) (h:32<=s[k].toNat) (h1:s[k].toNat≠34) (h2:s[k].toNat≠92):Calls Tryz.prog 172 #[.string s,.int .i64 k] w (PartPost s k w):=by
  have hp:=rp_scal (l:=s.data.toList.drop k) (by rw [plen];omega) (by rw [pt0 s k hk];exact h) (by rw [pt0 s k hk];exact h1) (by rw [pt0 s k hk];exact h2);have q32:decide ((s[k].toNat:Int)<32)=false:=by rw [decide_eq_false_iff_not];omega
  have q92:((s[k].toNat:Int) != 92)=true:=by rw [bne_iff_ne];omega
  have ho:=fun w=>rone_any s k w (by omega) (by omega);have hsz:=(one_size_le (s.data.toList.drop k)).1;rw [plen] at hsz;unfold ROne at ho;generalize hox:one (s.data.toList.drop k)=ox at *;obtain ⟨c,n⟩:=ox;simp only at hp ho hsz
  have HO:=Hid.out (p:=Hid _) ho;clear ho hox h h1 h2;by_cases hn:n=0
  · subst hn;rw [if_pos rfl] at hp;have HV:Hid (partV (two (part (s.data.toList.drop k)))=.agg #[.string ⟨#[]⟩,.int .i64 0,.int .i64 7]):=by rw [Hid,hp];rfl
    clear hp;go_enter Tryz.func172,Tryz.ntmps172
    go_wp2_with fail
    refine (Calls.mono (HO.out _) ?_);rintro e w2 ⟨rfl,hb2⟩;have R:Hid (w2.heap[w.heap.size]?=some (.cells #[.string ⟨#[]⟩,.int .i64 0,.int .i64 0] 132 (0,0))):=(hb2.block w.heap.size (by simp)).trans (heap_alloc_new w _);have B:Hid (Below w.heap.size w w2):=(bnew _ _).trans (hb2.mono (by simp));clear hb2;have g0:=cell_of R.out 0;have g1:=cell_of R.out 1;have g2:=cell_of R.out 2;have h0:=frozen_of R.out 0;have h1:=frozen_of R.out 1;have h2:=frozen_of R.out 2;go_wp2_with fail
    exact rp_ret s k w _ _ _ _ _ (heap_set_same (heap_set_same (heap_set_same R.out _) _) _) (below1 B.out) HV.out rfl
  · rw [if_neg hn] at hp;obtain ⟨q,hq⟩:∃ q,k+n=q:=⟨_,rfl⟩;have hqq:(k:Int)+(n:Int)=(q:Int):=by omega
    have hkq:k<=q:=by omega
    have hqs:q<=s.size:=by omega
    have HX:Hid (s.extract k q=⟨((s.data.toList.drop k).take n).toArray⟩):=by
      rw [Hid];exact Utf.str_of _ _ (ext_data s k q n hq)
    have HV:Hid (partV (two (part (s.data.toList.drop k)))=.agg #[.string (s.extract k q),.int .i64 n,.int .i64 0]):=by rw [Hid,hp,HX.out];rfl
    have hne:((n:Int) == 0)=false:=by rw [beq_eq_false_iff_ne];omega
    clear hp hn hq;go_enter Tryz.func172,Tryz.ntmps172
    go_wp2_with fail
    refine (Calls.mono (HO.out _) ?_);rintro e w2 ⟨rfl,hb2⟩;have R:Hid (w2.heap[w.heap.size]?=some (.cells #[.string ⟨#[]⟩,.int .i64 0,.int .i64 0] 132 (0,0))):=(hb2.block w.heap.size (by simp)).trans (heap_alloc_new w _);have B:Hid (Below w.heap.size w w2):=(bnew _ _).trans (hb2.mono (by simp));clear hb2;have g0:=cell_of R.out 0;have g1:=cell_of R.out 1;have g2:=cell_of R.out 2;have h0:=frozen_of R.out 0;have h1:=frozen_of R.out 1;have h2:=frozen_of R.out 2;go_wp2_with fail
    exact rp_ret s k w _ _ _ _ _ (heap_set_same (heap_set_same (heap_set_same R.out _) _) _) (below1 B.out) HV.out rfl
theorem rp_es (s:ByteArray) (k:Nat) (w:World) (hk:k<s.size) (hs:s.size<=2147483648) (h:s[k].toNat=92) (h1:k+1=s.size):Calls Tryz.prog 172 #[.string s,.int .i64 k] w (PartPost s k w):=by
  have hp:=rp_esc (l:=s.data.toList.drop k) (by rw [plen];omega) (by rw [pt0 s k hk];exact h);have q32:decide ((s[k].toNat:Int)<32)=false:=by rw [decide_eq_false_iff_not];omega
  have q92:((s[k].toNat:Int) != 92)=false:=by rw [bne_eq_false_iff_eq];omega
  clear h;have HV:Hid (partV (two (part (s.data.toList.drop k)))=.agg #[.string ⟨#[]⟩,.int .i64 0,.int .i64 2]):=by
    rw [Hid,hp,escape,if_pos (by rw [List.length_drop,plen];omega)];rfl
  have hkk:(k:Int)+1=(s.size:Int):=by omega
  clear hp;go_enter Tryz.func172,Tryz.ntmps172
  go_wp2_with fail
  exact rp_ret s k w _ _ _ _ _ (heap_alloc_new _ _) (bnew _ _) HV.out rfl
theorem rp_34 (s:ByteArray) (k:Nat) (w:World) (hk:k<s.size) (hs:s.size<=2147483648) (h:s[k].toNat=92) (h1:k+1<s.size) (h2:s[k+1].toNat=34):Calls Tryz.prog 172 #[.string s,.int .i64 k] w (PartPost s k w):=by
  have hp:=rp_esc (l:=s.data.toList.drop k) (by rw [plen];omega) (by rw [pt0 s k hk];exact h);have q32:decide ((s[k].toNat:Int)<32)=false:=by rw [decide_eq_false_iff_not];omega
  have q92:((s[k].toNat:Int) != 92)=false:=by rw [bne_eq_false_iff_eq];omega
  clear h;have hlen:((s.data.toList.drop k).drop 1).length≠0:=by rw [List.length_drop,plen];omega
  have hb1:=pt1 s k h1;obtain ⟨p,hpe⟩:∃ p,k+1=p:=⟨_,rfl⟩;have hkk:(k:Int)+1=(p:Int):=by omega
  have hps:p<s.size:=by omega
  have hbp:byt ((s.data.toList.drop k).drop 1) 0=s[p].toNat:=by subst hpe;exact hb1
  have hc:s[p].toNat=34:=by subst hpe;exact h2
  obtain ⟨q,hq⟩:∃ q,p+1=q:=⟨_,rfl⟩;have hk2:(k:Int)+2=(q:Int):=by omega
  have hpq:p<=q:=by omega
  have hqs:q<=s.size:=by omega
  have HX:Hid (s.extract p q=⟨#[UInt8.ofNat 34]⟩):=by
    rw [Hid];refine Utf.str_of _ [UInt8.ofNat 34] ?_;rw [ext_data s p q 1 hq,Num.drop_byte s p hps,List.take_succ_cons,List.take_zero,<-hc];simp
  have HV:Hid (partV (two (part (s.data.toList.drop k)))=.agg #[.string (s.extract p q),.int .i64 2,.int .i64 0]):=by
    rw [Hid,hp,escape,if_neg hlen,hbp,hc,if_pos (by decide),HX.out];rfl
  have t34:((s[p].toNat:Int) == 34)=true:=by rw [beq_iff_eq];omega
  clear hp hlen hb1 hbp h2 hc hpe hq;go_enter Tryz.func172,Tryz.ntmps172
  go_wp2_with fail
  exact rp_ret s k w _ _ _ _ _ (heap_alloc_new _ _) (bnew _ _) HV.out rfl
theorem rp_92 (s:ByteArray) (k:Nat) (w:World) (hk:k<s.size) (hs:s.size<=2147483648) (h:s[k].toNat=92) (h1:k+1<s.size) (h2:s[k+1].toNat=92):Calls Tryz.prog 172 #[.string s,.int .i64 k] w (PartPost s k w):=by
  have hp:=rp_esc (l:=s.data.toList.drop k) (by rw [plen];omega) (by rw [pt0 s k hk];exact h);have q32:decide ((s[k].toNat:Int)<32)=false:=by rw [decide_eq_false_iff_not];omega
  have q92:((s[k].toNat:Int) != 92)=false:=by rw [bne_eq_false_iff_eq];omega
  clear h;have hlen:((s.data.toList.drop k).drop 1).length≠0:=by rw [List.length_drop,plen];omega
  have hb1:=pt1 s k h1;obtain ⟨p,hpe⟩:∃ p,k+1=p:=⟨_,rfl⟩;have hkk:(k:Int)+1=(p:Int):=by omega
  have hps:p<s.size:=by omega
  have hbp:byt ((s.data.toList.drop k).drop 1) 0=s[p].toNat:=by subst hpe;exact hb1
  have hc:s[p].toNat=92:=by subst hpe;exact h2
  obtain ⟨q,hq⟩:∃ q,p+1=q:=⟨_,rfl⟩;have hk2:(k:Int)+2=(q:Int):=by omega
  have hpq:p<=q:=by omega
  have hqs:q<=s.size:=by omega
  have HX:Hid (s.extract p q=⟨#[UInt8.ofNat 92]⟩):=by
    rw [Hid];refine Utf.str_of _ [UInt8.ofNat 92] ?_;rw [ext_data s p q 1 hq,Num.drop_byte s p hps,List.take_succ_cons,List.take_zero,<-hc];simp
  have HV:Hid (partV (two (part (s.data.toList.drop k)))=.agg #[.string (s.extract p q),.int .i64 2,.int .i64 0]):=by
    rw [Hid,hp,escape,if_neg hlen,hbp,hc,if_pos (by decide),HX.out];rfl
  have t34:((s[p].toNat:Int) == 34)=false:=by rw [beq_eq_false_iff_ne];omega
  have t92:((s[p].toNat:Int) == 92)=true:=by rw [beq_iff_eq];omega
  clear hp hlen hb1 hbp h2 hc hpe hq;go_enter Tryz.func172,Tryz.ntmps172
  go_wp2_with fail
  exact rp_ret s k w _ _ _ _ _ (heap_alloc_new _ _) (bnew _ _) HV.out rfl
theorem rp_47 (s:ByteArray) (k:Nat) (w:World) (hk:k<s.size) (hs:s.size<=2147483648) (h:s[k].toNat=92) (h1:k+1<s.size) (h2:s[k+1].toNat=47):Calls Tryz.prog 172 #[.string s,.int .i64 k] w (PartPost s k w):=by
  have hp:=rp_esc (l:=s.data.toList.drop k) (by rw [plen];omega) (by rw [pt0 s k hk];exact h);have q32:decide ((s[k].toNat:Int)<32)=false:=by rw [decide_eq_false_iff_not];omega
  have q92:((s[k].toNat:Int) != 92)=false:=by rw [bne_eq_false_iff_eq];omega
  clear h;have hlen:((s.data.toList.drop k).drop 1).length≠0:=by rw [List.length_drop,plen];omega
  have hb1:=pt1 s k h1;obtain ⟨p,hpe⟩:∃ p,k+1=p:=⟨_,rfl⟩;have hkk:(k:Int)+1=(p:Int):=by omega
  have hps:p<s.size:=by omega
  have hbp:byt ((s.data.toList.drop k).drop 1) 0=s[p].toNat:=by subst hpe;exact hb1
  have hc:s[p].toNat=47:=by subst hpe;exact h2
  obtain ⟨q,hq⟩:∃ q,p+1=q:=⟨_,rfl⟩;have hk2:(k:Int)+2=(q:Int):=by omega
  have hpq:p<=q:=by omega
  have hqs:q<=s.size:=by omega
  have HX:Hid (s.extract p q=⟨#[UInt8.ofNat 47]⟩):=by
    rw [Hid];refine Utf.str_of _ [UInt8.ofNat 47] ?_;rw [ext_data s p q 1 hq,Num.drop_byte s p hps,List.take_succ_cons,List.take_zero,<-hc];simp
  have HV:Hid (partV (two (part (s.data.toList.drop k)))=.agg #[.string (s.extract p q),.int .i64 2,.int .i64 0]):=by
    rw [Hid,hp,escape,if_neg hlen,hbp,hc,if_pos (by decide),HX.out];rfl
  have t34:((s[p].toNat:Int) == 34)=false:=by rw [beq_eq_false_iff_ne];omega
  have t92:((s[p].toNat:Int) == 92)=false:=by rw [beq_eq_false_iff_ne];omega
  have t47:((s[p].toNat:Int) == 47)=true:=by rw [beq_iff_eq];omega
  clear hp hlen hb1 hbp h2 hc hpe hq;go_enter Tryz.func172,Tryz.ntmps172
  go_wp2_with fail
  exact rp_ret s k w _ _ _ _ _ (heap_alloc_new _ _) (bnew _ _) HV.out rfl
theorem rp_98 (s:ByteArray) (k:Nat) (w:World) (hk:k<s.size) (hs:s.size<=2147483648) (h:s[k].toNat=92) (h1:k+1<s.size) (h2:s[k+1].toNat=98):Calls Tryz.prog 172 #[.string s,.int .i64 k] w (PartPost s k w):=by
  have hp:=rp_esc (l:=s.data.toList.drop k) (by rw [plen];omega) (by rw [pt0 s k hk];exact h);have q32:decide ((s[k].toNat:Int)<32)=false:=by rw [decide_eq_false_iff_not];omega
  have q92:((s[k].toNat:Int) != 92)=false:=by rw [bne_eq_false_iff_eq];omega
  clear h;have hlen:((s.data.toList.drop k).drop 1).length≠0:=by rw [List.length_drop,plen];omega
  have hb1:=pt1 s k h1;obtain ⟨p,hpe⟩:∃ p,k+1=p:=⟨_,rfl⟩;have hkk:(k:Int)+1=(p:Int):=by omega
  have hps:p<s.size:=by omega
  have hbp:byt ((s.data.toList.drop k).drop 1) 0=s[p].toNat:=by subst hpe;exact hb1
  have hc:s[p].toNat=98:=by subst hpe;exact h2
  have HV:Hid (partV (two (part (s.data.toList.drop k)))=.agg #[.string ⟨#[8]⟩,.int .i64 2,.int .i64 0]):=by
    rw [Hid,hp,escape,if_neg hlen,hbp,if_neg (by omega),if_pos (by omega)];rfl
  have t34:((s[p].toNat:Int) == 34)=false:=by rw [beq_eq_false_iff_ne];omega
  have t92:((s[p].toNat:Int) == 92)=false:=by rw [beq_eq_false_iff_ne];omega
  have t47:((s[p].toNat:Int) == 47)=false:=by rw [beq_eq_false_iff_ne];omega
  have t98:((s[p].toNat:Int) == 98)=true:=by rw [beq_iff_eq];omega
  clear hp hlen hb1 hbp h2 hc hpe;go_enter Tryz.func172,Tryz.ntmps172
  go_wp2_with fail
  exact rp_ret s k w _ _ _ _ _ (heap_alloc_new _ _) (bnew _ _) HV.out rfl
theorem rp_102 (s:ByteArray) (k:Nat) (w:World) (hk:k<s.size) (hs:s.size<=2147483648) (h:s[k].toNat=92) (h1:k+1<s.size) (h2:s[k+1].toNat=102):Calls Tryz.prog 172 #[.string s,.int .i64 k] w (PartPost s k w):=by
  have hp:=rp_esc (l:=s.data.toList.drop k) (by rw [plen];omega) (by rw [pt0 s k hk];exact h);have q32:decide ((s[k].toNat:Int)<32)=false:=by rw [decide_eq_false_iff_not];omega
  have q92:((s[k].toNat:Int) != 92)=false:=by rw [bne_eq_false_iff_eq];omega
  clear h;have hlen:((s.data.toList.drop k).drop 1).length≠0:=by rw [List.length_drop,plen];omega
  have hb1:=pt1 s k h1;obtain ⟨p,hpe⟩:∃ p,k+1=p:=⟨_,rfl⟩;have hkk:(k:Int)+1=(p:Int):=by omega
  have hps:p<s.size:=by omega
  have hbp:byt ((s.data.toList.drop k).drop 1) 0=s[p].toNat:=by subst hpe;exact hb1
  have hc:s[p].toNat=102:=by subst hpe;exact h2
  have HV:Hid (partV (two (part (s.data.toList.drop k)))=.agg #[.string ⟨#[12]⟩,.int .i64 2,.int .i64 0]):=by
    rw [Hid,hp,escape,if_neg hlen,hbp,if_neg (by omega),if_neg (by omega),if_pos (by omega)];rfl
  have t34:((s[p].toNat:Int) == 34)=false:=by rw [beq_eq_false_iff_ne];omega
  have t92:((s[p].toNat:Int) == 92)=false:=by rw [beq_eq_false_iff_ne];omega
  have t47:((s[p].toNat:Int) == 47)=false:=by rw [beq_eq_false_iff_ne];omega
  have t98:((s[p].toNat:Int) == 98)=false:=by rw [beq_eq_false_iff_ne];omega
  have t102:((s[p].toNat:Int) == 102)=true:=by rw [beq_iff_eq];omega
  clear hp hlen hb1 hbp h2 hc hpe;go_enter Tryz.func172,Tryz.ntmps172
  go_wp2_with fail
  exact rp_ret s k w _ _ _ _ _ (heap_alloc_new _ _) (bnew _ _) HV.out rfl
theorem rp_110 (s:ByteArray) (k:Nat) (w:World) (hk:k<s.size) (hs:s.size<=2147483648) (h:s[k].toNat=92) (h1:k+1<s.size) (h2:s[k+1].toNat=110):Calls Tryz.prog 172 #[.string s,.int .i64 k] w (PartPost s k w):=by
  have hp:=rp_esc (l:=s.data.toList.drop k) (by rw [plen];omega) (by rw [pt0 s k hk];exact h);have q32:decide ((s[k].toNat:Int)<32)=false:=by rw [decide_eq_false_iff_not];omega
  have q92:((s[k].toNat:Int) != 92)=false:=by rw [bne_eq_false_iff_eq];omega
  clear h;have hlen:((s.data.toList.drop k).drop 1).length≠0:=by rw [List.length_drop,plen];omega
  have hb1:=pt1 s k h1;obtain ⟨p,hpe⟩:∃ p,k+1=p:=⟨_,rfl⟩;have hkk:(k:Int)+1=(p:Int):=by omega
  have hps:p<s.size:=by omega
  have hbp:byt ((s.data.toList.drop k).drop 1) 0=s[p].toNat:=by subst hpe;exact hb1
  have hc:s[p].toNat=110:=by subst hpe;exact h2
  have HV:Hid (partV (two (part (s.data.toList.drop k)))=.agg #[.string ⟨#[10]⟩,.int .i64 2,.int .i64 0]):=by
    rw [Hid,hp,escape,if_neg hlen,hbp,if_neg (by omega),if_neg (by omega),if_neg (by omega),if_pos (by omega)];rfl
  have t34:((s[p].toNat:Int) == 34)=false:=by rw [beq_eq_false_iff_ne];omega
  have t92:((s[p].toNat:Int) == 92)=false:=by rw [beq_eq_false_iff_ne];omega
  have t47:((s[p].toNat:Int) == 47)=false:=by rw [beq_eq_false_iff_ne];omega
  have t98:((s[p].toNat:Int) == 98)=false:=by rw [beq_eq_false_iff_ne];omega
  have t102:((s[p].toNat:Int) == 102)=false:=by rw [beq_eq_false_iff_ne];omega
  have t110:((s[p].toNat:Int) == 110)=true:=by rw [beq_iff_eq];omega
  clear hp hlen hb1 hbp h2 hc hpe;go_enter Tryz.func172,Tryz.ntmps172
  go_wp2_with fail
  exact rp_ret s k w _ _ _ _ _ (heap_alloc_new _ _) (bnew _ _) HV.out rfl
theorem rp_114 (s:ByteArray) (k:Nat) (w:World) (hk:k<s.size) (hs:s.size<=2147483648) (h:s[k].toNat=92) (h1:k+1<s.size) (h2:s[k+1].toNat=114):Calls Tryz.prog 172 #[.string s,.int .i64 k] w (PartPost s k w):=by
  have hp:=rp_esc (l:=s.data.toList.drop k) (by rw [plen];omega) (by rw [pt0 s k hk];exact h);have q32:decide ((s[k].toNat:Int)<32)=false:=by rw [decide_eq_false_iff_not];omega
  have q92:((s[k].toNat:Int) != 92)=false:=by rw [bne_eq_false_iff_eq];omega
  clear h;have hlen:((s.data.toList.drop k).drop 1).length≠0:=by rw [List.length_drop,plen];omega
  have hb1:=pt1 s k h1;obtain ⟨p,hpe⟩:∃ p,k+1=p:=⟨_,rfl⟩;have hkk:(k:Int)+1=(p:Int):=by omega
  have hps:p<s.size:=by omega
  have hbp:byt ((s.data.toList.drop k).drop 1) 0=s[p].toNat:=by subst hpe;exact hb1
  have hc:s[p].toNat=114:=by subst hpe;exact h2
  have HV:Hid (partV (two (part (s.data.toList.drop k)))=.agg #[.string ⟨#[13]⟩,.int .i64 2,.int .i64 0]):=by
    rw [Hid,hp,escape,if_neg hlen,hbp,if_neg (by omega),if_neg (by omega),if_neg (by omega),if_neg (by omega),if_pos (by omega)];rfl
  have t34:((s[p].toNat:Int) == 34)=false:=by rw [beq_eq_false_iff_ne];omega
  have t92:((s[p].toNat:Int) == 92)=false:=by rw [beq_eq_false_iff_ne];omega
  have t47:((s[p].toNat:Int) == 47)=false:=by rw [beq_eq_false_iff_ne];omega
  have t98:((s[p].toNat:Int) == 98)=false:=by rw [beq_eq_false_iff_ne];omega
  have t102:((s[p].toNat:Int) == 102)=false:=by rw [beq_eq_false_iff_ne];omega
  have t110:((s[p].toNat:Int) == 110)=false:=by rw [beq_eq_false_iff_ne];omega
  have t114:((s[p].toNat:Int) == 114)=true:=by rw [beq_iff_eq];omega
  clear hp hlen hb1 hbp h2 hc hpe;go_enter Tryz.func172,Tryz.ntmps172
  go_wp2_with fail
  exact rp_ret s k w _ _ _ _ _ (heap_alloc_new _ _) (bnew _ _) HV.out rfl
theorem rp_116 (s:ByteArray) (k:Nat) (w:World) (hk:k<s.size) (hs:s.size<=2147483648) (h:s[k].toNat=92) (h1:k+1<s.size) (h2:s[k+1].toNat=116):Calls Tryz.prog 172 #[.string s,.int .i64 k] w (PartPost s k w):=by
  have hp:=rp_esc (l:=s.data.toList.drop k) (by rw [plen];omega) (by rw [pt0 s k hk];exact h);have q32:decide ((s[k].toNat:Int)<32)=false:=by rw [decide_eq_false_iff_not];omega
  have q92:((s[k].toNat:Int) != 92)=false:=by rw [bne_eq_false_iff_eq];omega
  clear h;have hlen:((s.data.toList.drop k).drop 1).length≠0:=by rw [List.length_drop,plen];omega
  have hb1:=pt1 s k h1;obtain ⟨p,hpe⟩:∃ p,k+1=p:=⟨_,rfl⟩;have hkk:(k:Int)+1=(p:Int):=by omega
  have hps:p<s.size:=by omega
  have hbp:byt ((s.data.toList.drop k).drop 1) 0=s[p].toNat:=by subst hpe;exact hb1
  have hc:s[p].toNat=116:=by subst hpe;exact h2
  have HV:Hid (partV (two (part (s.data.toList.drop k)))=.agg #[.string ⟨#[9]⟩,.int .i64 2,.int .i64 0]):=by
    rw [Hid,hp,escape,if_neg hlen,hbp,if_neg (by omega),if_neg (by omega),if_neg (by omega),if_neg (by omega),if_neg (by omega),if_pos (by omega)];rfl
  have t34:((s[p].toNat:Int) == 34)=false:=by rw [beq_eq_false_iff_ne];omega
  have t92:((s[p].toNat:Int) == 92)=false:=by rw [beq_eq_false_iff_ne];omega
  have t47:((s[p].toNat:Int) == 47)=false:=by rw [beq_eq_false_iff_ne];omega
  have t98:((s[p].toNat:Int) == 98)=false:=by rw [beq_eq_false_iff_ne];omega
  have t102:((s[p].toNat:Int) == 102)=false:=by rw [beq_eq_false_iff_ne];omega
  have t110:((s[p].toNat:Int) == 110)=false:=by rw [beq_eq_false_iff_ne];omega
  have t114:((s[p].toNat:Int) == 114)=false:=by rw [beq_eq_false_iff_ne];omega
  have t116:((s[p].toNat:Int) == 116)=true:=by rw [beq_iff_eq];omega
  clear hp hlen hb1 hbp h2 hc hpe;go_enter Tryz.func172,Tryz.ntmps172
  go_wp2_with fail
  exact rp_ret s k w _ _ _ _ _ (heap_alloc_new _ _) (bnew _ _) HV.out rfl
theorem rp_117 (s:ByteArray) (k:Nat) (w:World) (hk:k<s.size) (hs:s.size<=2147483648) (h:s[k].toNat=92) (h1:k+1<s.size) (h2:s[k+1].toNat=117):Calls Tryz.prog 172 #[.string s,.int .i64 k] w (PartPost s k w):=by
  have hp:=rp_esc (l:=s.data.toList.drop k) (by rw [plen];omega) (by rw [pt0 s k hk];exact h);have q32:decide ((s[k].toNat:Int)<32)=false:=by rw [decide_eq_false_iff_not];omega
  have q92:((s[k].toNat:Int) != 92)=false:=by rw [bne_eq_false_iff_eq];omega
  clear h;have hlen:((s.data.toList.drop k).drop 1).length≠0:=by rw [List.length_drop,plen];omega
  have hb1:=pt1 s k h1;obtain ⟨p,hpe⟩:∃ p,k+1=p:=⟨_,rfl⟩;have hkk:(k:Int)+1=(p:Int):=by omega
  have hps:p<s.size:=by omega
  have hbp:byt ((s.data.toList.drop k).drop 1) 0=s[p].toNat:=by subst hpe;exact hb1
  have hc:s[p].toNat=117:=by subst hpe;exact h2
  have hnum:Hid (partV (two (part (s.data.toList.drop k)))=partV (more 2 (number (s.data.toList.drop (k+2))))):=by
    rw [Hid,hp,escape,if_neg hlen,hbp,if_neg (by omega),if_neg (by omega),if_neg (by omega),if_neg (by omega),if_neg (by omega),if_neg (by omega),if_pos (by omega),List.drop_drop,List.drop_drop];cases number (s.data.toList.drop (k+2)) <;> rfl
  have t34:((s[p].toNat:Int) == 34)=false:=by rw [beq_eq_false_iff_ne];omega
  have t92:((s[p].toNat:Int) == 92)=false:=by rw [beq_eq_false_iff_ne];omega
  have t47:((s[p].toNat:Int) == 47)=false:=by rw [beq_eq_false_iff_ne];omega
  have t98:((s[p].toNat:Int) == 98)=false:=by rw [beq_eq_false_iff_ne];omega
  have t102:((s[p].toNat:Int) == 102)=false:=by rw [beq_eq_false_iff_ne];omega
  have t110:((s[p].toNat:Int) == 110)=false:=by rw [beq_eq_false_iff_ne];omega
  have t114:((s[p].toNat:Int) == 114)=false:=by rw [beq_eq_false_iff_ne];omega
  have t116:((s[p].toNat:Int) == 116)=false:=by rw [beq_eq_false_iff_ne];omega
  have t117:((s[p].toNat:Int) == 117)=true:=by rw [beq_iff_eq];omega
  have hcd:=fun w=>coded_any s k w (by omega) hs;obtain ⟨a,b,c,hx⟩:∃ a b c,partV (more 2 (number (s.data.toList.drop (k+2))))=.agg #[a,b,c]/\(∃ o,a=.string o)/\(∃ n,b=.int .i64 n)/\(∃ n,c=.int .i64 n):=by
    cases more 2 (number (s.data.toList.drop (k+2))) with
    | error e=>exact ⟨_,_,_,rfl,⟨_,rfl⟩,⟨_,rfl⟩,⟨_,rfl⟩⟩
    | ok x=>exact ⟨_,_,_,rfl,⟨_,rfl⟩,⟨_,rfl⟩,⟨_,rfl⟩⟩
  obtain ⟨hx,⟨a,rfl⟩,⟨b,rfl⟩,⟨c,rfl⟩⟩:=hx;unfold CodPost at hcd;rw [hx] at hcd;have HV:Hid (partV (two (part (s.data.toList.drop k)))=.agg #[.string a,.int .i64 b,.int .i64 c]):=by rw [Hid,hnum.out,hx]
  have HC:=Hid.out (p:=Hid _) hcd;clear hp hlen hb1 hbp h2 hc hpe hcd hx hnum;go_enter Tryz.func172,Tryz.ntmps172
  go_wp2_with fail
  refine (Calls.mono (HC.out _) ?_);rintro e w2 ⟨rfl,hb2⟩;have R:Hid (w2.heap[w.heap.size]?=some (.cells #[.string ⟨#[]⟩,.int .i64 0,.int .i64 0] 132 (0,0))):=(hb2.block w.heap.size (by simp)).trans (heap_alloc_new w _);have B:Hid (Below w.heap.size w w2):=(bnew _ _).trans (hb2.mono (by simp));clear hb2;have g0:=cell_of R.out 0;have g1:=cell_of R.out 1;have g2:=cell_of R.out 2;have h0:=frozen_of R.out 0;have h1:=frozen_of R.out 1;have h2:=frozen_of R.out 2;go_wp2_with fail
  exact rp_ret s k w _ _ _ _ _ (heap_set_same (heap_set_same (heap_set_same R.out _) _) _) (below1 B.out) HV.out rfl
theorem rp_no (s:ByteArray) (k:Nat) (w:World) (hk:k<s.size) (hs:s.size<=2147483648) (h:s[k].toNat=92) (h1:k+1<s.size) (h2:s[k+1].toNat≠34/\s[k+1].toNat≠92/\s[k+1].toNat≠47/\s[k+1].toNat≠98/\s[k+1].toNat≠102/\s[k+1].toNat≠110/\s[k+1].toNat≠114/\s[k+1].toNat≠116/\s[k+1].toNat≠117):Calls Tryz.prog 172 #[.string s,.int .i64 k] w (PartPost s k w):=by
  have hp:=rp_esc (l:=s.data.toList.drop k) (by rw [plen];omega) (by rw [pt0 s k hk];exact h);have q32:decide ((s[k].toNat:Int)<32)=false:=by rw [decide_eq_false_iff_not];omega
  have q92:((s[k].toNat:Int) != 92)=false:=by rw [bne_eq_false_iff_eq];omega
  clear h;have hlen:((s.data.toList.drop k).drop 1).length≠0:=by rw [List.length_drop,plen];omega
  have hb1:=pt1 s k h1;obtain ⟨p,hpe⟩:∃ p,k+1=p:=⟨_,rfl⟩;have hkk:(k:Int)+1=(p:Int):=by omega
  have hps:p<s.size:=by omega
  have hbp:byt ((s.data.toList.drop k).drop 1) 0=s[p].toNat:=by subst hpe;exact hb1
  have hc:s[p].toNat≠34/\s[p].toNat≠92/\s[p].toNat≠47/\s[p].toNat≠98/\s[p].toNat≠102/\s[p].toNat≠110/\s[p].toNat≠114/\s[p].toNat≠116/\s[p].toNat≠117:=by subst hpe;exact h2
  have HV:Hid (partV (two (part (s.data.toList.drop k)))=.agg #[.string ⟨#[]⟩,.int .i64 0,.int .i64 3]):=by
    rw [Hid,hp,escape,if_neg hlen,hbp,if_neg (by omega),if_neg (by omega),if_neg (by omega),if_neg (by omega),if_neg (by omega),if_neg (by omega),if_neg (by omega)];rfl
  have t34:((s[p].toNat:Int) == 34)=false:=by rw [beq_eq_false_iff_ne];omega
  have t92:((s[p].toNat:Int) == 92)=false:=by rw [beq_eq_false_iff_ne];omega
  have t47:((s[p].toNat:Int) == 47)=false:=by rw [beq_eq_false_iff_ne];omega
  have t98:((s[p].toNat:Int) == 98)=false:=by rw [beq_eq_false_iff_ne];omega
  have t102:((s[p].toNat:Int) == 102)=false:=by rw [beq_eq_false_iff_ne];omega
  have t110:((s[p].toNat:Int) == 110)=false:=by rw [beq_eq_false_iff_ne];omega
  have t114:((s[p].toNat:Int) == 114)=false:=by rw [beq_eq_false_iff_ne];omega
  have t116:((s[p].toNat:Int) == 116)=false:=by rw [beq_eq_false_iff_ne];omega
  have t117:((s[p].toNat:Int) == 117)=false:=by rw [beq_eq_false_iff_ne];omega
  clear hp hlen hb1 hbp h2 hc hpe;go_enter Tryz.func172,Tryz.ntmps172
  go_wp2_with fail
  exact rp_ret s k w _ _ _ _ _ (heap_alloc_new _ _) (bnew _ _) HV.out rfl
theorem rpart_any (s:ByteArray) (k:Nat) (w:World) (hk:k<=s.size) (hs:s.size<=2147483648) (hq:∀ h:k<s.size,s[k].toNat≠34):Calls Tryz.prog 172 #[.string s,.int .i64 k] w (PartPost s k w):=by
  by_cases h0:k=s.size
  · exact rp_end s k w h0 hs
  have hk':k<s.size:=by omega
  by_cases h1:s[k].toNat<32
  · exact rp_lt s k w hk' hs h1
  by_cases h2:s[k].toNat=92
  · by_cases h3:k+1=s.size
    · exact rp_es s k w hk' hs h2 h3
    have h4:k+1<s.size:=by omega
    by_cases c34:s[k+1].toNat=34
    · exact rp_34 s k w hk' hs h2 h4 c34
    by_cases c92:s[k+1].toNat=92
    · exact rp_92 s k w hk' hs h2 h4 c92
    by_cases c47:s[k+1].toNat=47
    · exact rp_47 s k w hk' hs h2 h4 c47
    by_cases c98:s[k+1].toNat=98
    · exact rp_98 s k w hk' hs h2 h4 c98
    by_cases c102:s[k+1].toNat=102
    · exact rp_102 s k w hk' hs h2 h4 c102
    by_cases c110:s[k+1].toNat=110
    · exact rp_110 s k w hk' hs h2 h4 c110
    by_cases c114:s[k+1].toNat=114
    · exact rp_114 s k w hk' hs h2 h4 c114
    by_cases c116:s[k+1].toNat=116
    · exact rp_116 s k w hk' hs h2 h4 c116
    by_cases c117:s[k+1].toNat=117
    · exact rp_117 s k w hk' hs h2 h4 c117
    exact rp_no s k w hk' hs h2 h4 ⟨c34,c92,c47,c98,c102,c110,c114,c116,c117⟩
  · exact rp_sc s k w hk' hs (by omega) (hq hk') h2
def RScan (s:ByteArray) (w:World) (e:Ending) (w':World):Prop:=e=.returned (partV (scan s.data.toList))/\Below w.heap.size w w'
theorem rs_ret (s:ByteArray) (w w':World) (tm:Array Value) (a b c:Value) (hb:w'.heap[w.heap.size]?=some (.cells #[a,b,c] 132 (0,0))) (hB:Below w.heap.size w w') (hv:partV (scan s.data.toList)=.agg #[a,b,c])
    (h2:tm[2]?=some (.pointer (some ⟨w.heap.size,0,none⟩))) :
    bodyPost Tryz.prog Tryz.f130 (RScan s w) Exit.ret { tmps:=tm,defers:=[] } w':=by
  have c0:=cell_of hb 0;have c1:=cell_of hb 1;have c2:=cell_of hb 2;refine bodyPost_ret (v:=.agg #[a,b,c]) ?_ rfl ⟨by rw [hv],hB⟩;simp [results,Tryz.results130,go_sem,h2,c0,c1,c2]
theorem rscan_0 (s:ByteArray) (w:World) (h0:s.size=0):Calls Tryz.prog 130 #[.string s] w (RScan s w):=by
  have HV:Hid (partV (scan s.data.toList)=.agg #[.string ⟨#[]⟩,.int .i64 0,.int .i64 2]):=by
    rw [Hid,scan,if_pos (by simpa using h0)];rfl
  go_enter Tryz.func130,Tryz.ntmps130
  go_wp2_with fail
  exact rs_ret s w _ _ _ _ _ (heap_alloc_new _ _) (bnew _ _) HV.out rfl
theorem rscan_q (s:ByteArray) (w:World) (h0:0<s.size) (hs:s.size<=2147483648) (h:s[0].toNat≠34):Calls Tryz.prog 130 #[.string s] w (RScan s w):=by
  have hb0:byt s.data.toList 0=s[0].toNat:=by have:=byt_drop s 0 0 (by omega);simpa using this
  have HV:Hid (partV (scan s.data.toList)=.agg #[.string ⟨#[]⟩,.int .i64 0,.int .i64 3]):=by
    rw [Hid,scan,if_neg (by rw [show s.data.toList.length=s.size by simp];omega),if_pos (by rw [hb0];exact h)];rfl
  have q0:((s.size:Int) == 0)=false:=by rw [beq_eq_false_iff_ne];omega
  have q34:((s[0].toNat:Int) != 34)=true:=by rw [bne_iff_ne];omega
  clear hb0 h;go_enter Tryz.func130,Tryz.ntmps130
  go_wp2_with fail
  exact rs_ret s w _ _ _ _ _ (heap_alloc_new _ _) (bnew _ _) HV.out rfl
theorem four_ne {n m:Nat} {l:List UInt8} {k:Nat} (h:four n m l=.error k):k≠0:=by have:=four_err h;omega
theorem number_ne {l:List UInt8} {k:Nat} (h:number l=.error k):k≠0:=by
  unfold number at h
  repeat' split at h
  all_goals first
    | (cases h;done)
    | (injection h with h;subst h;omega)
    | (injection h with h;subst h;exact four_ne (by assumption))
theorem escape_ne {l:List UInt8} {k:Nat} (h:escape l=.error k):k≠0:=by
  unfold escape at h
  repeat' split at h
  all_goals first
    | (cases h;done)
    | (injection h with h;subst h;omega)
    | (injection h with h;subst h;exact number_ne (by assumption))
theorem part_ne {l:List UInt8} {k:Nat} (h:part l=.error k):k≠0:=by
  unfold part at h
  repeat' split at h
  all_goals first
    | (cases h;done)
    | (injection h with h;subst h;omega)
    | (injection h with h;subst h;exact escape_ne (by assumption))
theorem part_goes {l o:List UInt8} {n:Nat} {g:Bool} (h:part l=.ok (o,n,g)) (hq:byt l 0≠34):g=true:=by
  unfold part at h
  repeat' split at h
  all_goals first
    | (cases h;done)
    | (injection h with h;injection h with h1 h2;injection h2 with h3 h4;exact h4.symm)
    | (exfalso;exact hq (by assumption))
theorem rscan_go (s:ByteArray) (w:World) (h0:0<s.size) (hs:s.size<=2147483648) (h:s[0].toNat=34):Calls Tryz.prog 130 #[.string s] w (RScan s w):=by
  have hb0:byt s.data.toList 0=s[0].toNat:=by have:=byt_drop s 0 0 (by omega);simpa using this
  have hl:s.data.toList.length=s.size:=by simp
  have hsc:Hid (scan s.data.toList=partsAt s.data.toList 1 []):=scan_at _ (by omega) (by rw [hb0];exact h);have q0:((s.size:Int) == 0)=false:=by rw [beq_eq_false_iff_ne];omega
  have q34:((s[0].toNat:Int) != 34)=false:=by rw [bne_eq_false_iff_eq];omega
  have HL:=Hid.out (p:=Hid _) hl;clear hb0 h hl;go_enter Tryz.func130,Tryz.ntmps130
  go_wp2_with fail
  go_loopw [3,4] (fun p3 p4 wr=>∃ (p:Nat) (out:ByteArray),p3=.string out/\p4=.int .i64 p/\p<=s.size/\out.size<=p/\Hid (scan s.data.toList=partsAt s.data.toList p out.data.toList)/\Hid (wr.heap[w.heap.size]?=some (.cells #[.string ⟨#[]⟩,.int .i64 0,.int .i64 0] 132 (0,0)))/\Hid (Below w.heap.size w wr)) (fun _ p4 _=>s.size-(intOf p4).toNat)
  case atStart=>exact ⟨1,⟨#[]⟩,rfl,rfl,h0,by decide,hsc.out,heap_alloc_new _ _,bnew _ _⟩
  case round=>
    obtain ⟨p,out,rfl,rfl,hp,ho,hsp,hH,hB⟩:=hrel;have hst:=partsAt_step s.data.toList p out.data.toList (by rw [HL.out];exact hp);have HST:=Hid.out (p:=Hid _) hst;clear hst;have hlw:w.heap.size<wr.heap.size:=heap_lt hH.out;have c0:=cell_of hH.out 0;have c1:=cell_of hH.out 1;have c2:=cell_of hH.out 2;have f0:=frozen_of hH.out 0;have f1:=frozen_of hH.out 1;have f2:=frozen_of hH.out 2;by_cases hend:∃ h:p<s.size,s[p].toNat=34
    · obtain ⟨hlt,h34⟩:=hend;have HV:Hid (partV (scan s.data.toList)=.agg #[.string out,.int .i64 ((p:Int)+1),.int .i64 0]):=by
        have hpt:part (s.data.toList.drop p)=.ok ([],1,false):=by
          unfold part;rw [if_neg (by rw [plen];omega),if_pos (by rw [pt0 s p hlt];exact h34)]
        rw [Hid,hsp.out,HST.out,hpt];show Value.agg #[.string ⟨(out.data.toList++[]).toArray⟩,.int .i64 ((p+1:Nat):Int),.int .i64 0]=_;rw [List.append_nil,<-Utf.str_of out _ rfl]
        rfl
      have q:((s[p].toNat:Int) == 34)=true:=by rw [beq_iff_eq];omega
      clear h34;go_wp2_with fail
      exact rs_ret s w _ _ _ _ _ (heap_set_same (heap_set_same (heap_set_same hH.out _) _) _) (below1 hB.out) HV.out rfl
    have hq:∀ h:p<s.size,s[p].toNat≠34:=fun h e=>hend ⟨h,e⟩;have hpart:=fun w=>rpart_any s p w hp hs hq;unfold PartPost at hpart;have hto:p<s.size/\(∀ h:p<s.size,((s[p].toNat:Int) == 34)=false)∨s.size<=p:=by
      rcases Nat.lt_or_ge p s.size with h | h
      · left;exact ⟨h,fun h=>by rw [beq_eq_false_iff_ne];have:=hq h;omega⟩
      · right;exact h
    cases hpt:part (s.data.toList.drop p) with
    | error k=>
      have hk:=part_ne hpt;have hkq:((k:Int) != 0)=true:=by rw [bne_iff_ne];omega
      have HV:Hid (partV (scan s.data.toList)=.agg #[.string ⟨#[]⟩,.int .i64 0,.int .i64 k]):=by
        rw [Hid,hsp.out,HST.out,hpt];rfl
      rw [hpt,show partV (two (.error k))=.agg #[.string ⟨#[]⟩,.int .i64 0,.int .i64 k] from rfl] at hpart;have HP:=Hid.out (p:=Hid _) hpart;clear hpart hpt hq hend hk;rcases hto with ⟨hlt,hne⟩ | hge
      all_goals
        try have hne1:=hne hlt
        try clear hne
        go_wp2_with fail
        refine (Calls.mono (HP.out _) ?_);rintro e w2 ⟨rfl,hb2⟩;have R:Hid (w2.heap[w.heap.size]?=some (.cells #[.string ⟨#[]⟩,.int .i64 0,.int .i64 0] 132 (0,0))):=(hb2.block _ hlw).trans hH.out;have B:Hid (Below w.heap.size w w2):=hB.out.trans (hb2.mono hB.out.size);have hl2:w.heap.size<w2.heap.size:=heap_lt R.out;clear hb2 c0 c1 c2 f0 f1 f2;have g0:=cell_of R.out 0;have g1:=cell_of R.out 1;have g2:=cell_of R.out 2;have h0:=frozen_of R.out 0;have h1:=frozen_of R.out 1;have h2:=frozen_of R.out 2;go_wp2_with fail
        exact rs_ret s w _ _ _ _ _ (heap_alloc_old (heap_set_same (heap_set_same (heap_set_same R.out _) _) _)) ((below1 B.out).alloc (by simp;omega) _) HV.out rfl
    | ok x=>
      obtain ⟨o,n,g⟩:=x;have hsz:=part_size hpt;rw [plen] at hsz;have hlt:p<s.size:=by omega
      have hne1:((s[p].toNat:Int) == 34)=false:=by rw [beq_eq_false_iff_ne];have:=hq hlt;omega
      have hg:g=true:=part_goes hpt (by rw [pt0 s p hlt];exact hq hlt);subst hg;have HN:Hid (scan s.data.toList=partsAt s.data.toList (p+n) (out++(⟨o.toArray⟩:ByteArray)).data.toList):=by
        rw [Hid,hsp.out,HST.out,hpt];simp
      have HS:Hid ((out++(⟨o.toArray⟩:ByteArray)).size<=p+n):=by
        rw [Hid,ByteArray.size_append];show out.size+o.toArray.size<=_;rw [List.size_toArray];omega
      rw [hpt,show partV (two (.ok (o,n,true)))=.agg #[.string ⟨o.toArray⟩,.int .i64 n,.int .i64 0] from rfl] at hpart;have HP:=Hid.out (p:=Hid _) hpart;have hob:(⟨o.toArray⟩:ByteArray).size<=n:=by show o.toArray.size<=_;rw [List.size_toArray];omega
      generalize (⟨o.toArray⟩:ByteArray)=ob at *;clear hpart hpt hq hend hto;go_wp2_with fail
      refine (Calls.mono (HP.out _) ?_);rintro e w2 ⟨rfl,hb2⟩;have R:Hid (w2.heap[w.heap.size]?=some (.cells #[.string ⟨#[]⟩,.int .i64 0,.int .i64 0] 132 (0,0))):=(hb2.block _ hlw).trans hH.out;have B:Hid (Below w.heap.size w w2):=hB.out.trans (hb2.mono hB.out.size);clear hb2 c0 c1 c2 f0 f1 f2;go_wp2_with fail
      go_roundw
      case rel=>exact ⟨p+n,_,rfl,by go_num,by omega,HS.out,HN.out,heap_alloc_old R.out,B.out.alloc (by have:=B.out.size;omega) _⟩
      case measure=>simp [intOf];omega
theorem rscan_any (s:ByteArray) (w:World) (hs:s.size<=2147483648):Calls Tryz.prog 130 #[.string s] w (RScan s w):=by
  by_cases h0:s.size=0
  · exact rscan_0 s w h0
  have h0':0<s.size:=by omega
  by_cases h:s[0].toNat=34
  · exact rscan_go s w h0' hs h
  · exact rscan_q s w h0' hs h
end Go.Proofs.YtliekocamnklfaaGreatDoor.Quote
