/- tabulariumref06.Of; tabulariumref19.Num, Str. -/
import Derived.Test.YtliekocamnklfaaGreatDoorKOnE
import Derived.Test.YtliekocamnklfaaGreatDoorKOnH
set_option linter.unusedVariables false
set_option linter.unusedSimpArgs false
set_option maxRecDepth 100000
set_option maxHeartbeats 8000000
namespace Go.Proofs.YtliekocamnklfaaGreatDoor.One
open Go.RowKit Strs Utf Jdec Save Go.Proofs.YtliekocamnklfaaGreatDoor.Addr
def digs (n:Nat):List UInt8:=if n=0 then [] else Lib.decDigits n
theorem digs_step (n:Nat) (h:0<n):digs n=digs (n / 10)++[UInt8.ofNat (48+n % 10)]:=by
  unfold digs;rw [if_neg (by omega)];by_cases h10:n<10
  · rw [Lib.decDigits_one h10,if_pos (by omega),Nat.mod_eq_of_lt h10];rfl
  · rw [if_neg (by omega),Lib.decDigits,dif_neg h10]
theorem digs_len (n:Nat) (hn:n<18446744073709551616):(digs n).length<=20:=by
  unfold digs;split
  · simp
  · exact digits_le 19 n (by omega)
theorem rparse_digs (n:Nat) (hn:n<18446744073709551616) (h:digs n≠[]):Num.rparse (digs n)=.ok (false,(ofN n).1,((ofN n).2:Nat)):=by
  have h0:n≠0:=fun e=>h (by rw [e];rfl);have hd:=ofN_dec (n:=n) (by omega);rw [if_neg h0] at hd;have hr:=ofN_right (n:=n) (by omega);have hl:=digits_le 19 n (by omega);have hx:=ofN_len (n:=n) (by omega);rw [Num.rparse_eq _ (by have:=digs_len n hn;omega)];have hp:=Num.parse_nprint hr;have he:nprint false (ofN n).1 ((ofN n).2:Nat)=digs n:=by
    unfold digs;rw [if_neg h0];unfold nprint;by_cases hz:(ofN n).1=[]
    · exfalso
      unfold ofN at hz;split at hz
      · next h1=>exact h0 (ofD_nil h1)
      · next h1=>exact h1 hz
    · rw [if_neg hz,if_pos ⟨by omega,by omega⟩,Int.toNat_natCast];exact hd
  rw [he] at hp;exact hp
theorem rparse_zero:Num.rparse [48]=.ok (false,[],0):=by kernel_rfl
theorem ofN_zero:ofN 0=([],0):=by kernel_rfl
theorem num_new2 (w:World) (x y z:Value):∃ w1,w.alloc (.cells #[x,y,z] 25)=w1/\Hid (w1.heap[w.heap.size]?=some (.cells #[x,y,z] 25 (0,0)))/\Hid (Below w.heap.size w w1):=
  ⟨_,rfl,heap_alloc_new _ _,(Below.refl _ _).alloc (Nat.le_refl _) _⟩
theorem below3 {w w':World} {b:Nat} (h:Below w.heap.size w w') (hb:w.heap.size<=b) (x0 x1 x2:Value):Below w.heap.size w (((w'.setCell ⟨b,0,none⟩ x0).setCell ⟨b,1,none⟩ x1).setCell ⟨b,2,none⟩ x2):=by
  have g:w'.grownBy (((w'.setCell ⟨b,0,none⟩ x0).setCell ⟨b,1,none⟩ x1).setCell ⟨b,2,none⟩ x2) (some b):=
    ⟨rfl,rfl,rfl,by simp [World.setCell],fun k hk hr=>by
      have hne:k≠b:=fun e=>hr (by rw [e]);rw [Below.heap_setCell _ _ _ _ hne,Below.heap_setCell _ _ _ _ hne,Below.heap_setCell _ _ _ _ hne]⟩
  exact h.grown g h.size (fun k e=>by injection e with e;omega)
theorem rof06_any (n:Nat) (hn:n<18446744073709551616) (w:World):Calls Tryz.prog 42 #[.int .u64 n] w fun e w'=>e=.returned (.agg #[.bool false,.string ⟨(ofN n).1.toArray⟩,.int .i64 ((ofN n).2:Nat)])/\Below w.heap.size w w':=by
  obtain ⟨w2,hw2,V2,B2⟩:=num_new2 w (.bool false) (.string ⟨#[]⟩) (.int .i64 0);have HN:=Hid.out (p:=Hid _) hn;have HDL:=Hid.out (p:=Hid _) (digs_len n hn);have HP:Hid (∀ (s:ByteArray) (w':World),s.size<=100->Calls Tryz.prog 98 #[.string s] w' (Num.RPPost s w')):=fun s w' h=>Num.rparse_any s w' (by omega);have HPD:Hid (digs n≠[]->Num.rparse (digs n)=.ok (false,(ofN n).1,((ofN n).2:Nat))):=rparse_digs n hn;have HZ:Hid (digs n=[]->ofN n=([],0)):=fun h=>by
    have:n=0:=by
      by_cases h0:n=0
      · exact h0
      · exfalso
        have:=digs_step n (by omega);rw [h] at this;have:=congrArg List.length this;simp at this
    rw [this];exact ofN_zero
  clear hn;go_enter Tryz.func42,Tryz.ntmps42
  go_wp2_with fail
  go_loopw [0,3] (fun p0 p3 wr=>∃ (m:Nat) (s:ByteArray),p0=.int .u64 m/\p3=.string s/\m<=n/\Hid (digs n=digs m++s.data.toList)/\Hid (Below w2.heap.size w2 wr)) (fun p _ _=>(intOf p).toNat)
  case atStart=>exact ⟨n,⟨#[]⟩,rfl,rfl,Nat.le_refl _,by simp [Hid],Below.refl _ _⟩
  case round=>
    obtain ⟨m,s,rfl,rfl,hmn,hD,hB⟩:=hrel;have B3:=bel B2 hB;have hsz:s.size<=20:=by
      have h1:=congrArg List.length hD.out;rw [List.length_append] at h1;have h2:=HDL.out;have h3:s.data.toList.length=s.size:=by simp
      omega
    by_cases h0:0<m
    · have d0:decide ((0:Int)<(m:Int))=true:=by rw [decide_eq_true_eq];omega
      have d1:decide (0<m)=true:=by rw [decide_eq_true_eq];exact h0
      have hstep:=digs_step m h0;have hmm:=HN.out;obtain ⟨r,hr⟩:∃ r:Nat,m % 10=r:=⟨_,rfl⟩;have gr:(m:Int) % 10=(r:Int):=by omega
      have gr2:(m:Int).tmod 10=(r:Int):=by rw [Int.tmod_eq_emod_of_nonneg (by omega)];exact gr
      have lr:r<10:=by omega
      obtain ⟨q,hq⟩:∃ q:Nat,m / 10=q:=⟨_,rfl⟩;have gq:(m:Int) / 10=(q:Int):=by omega
      have gq2:(m:Int).tdiv 10=(q:Int):=by rw [Int.tdiv_eq_ediv_of_nonneg (by omega)];exact gq
      have gqw:IntKind.u64.wrap (q:Int)=(q:Int):=by rw [IntKind.wrap_u64];omega
      rw [hr,hq] at hstep;have hqm:Hid (q<m):=by rw [Hid];omega
      have HST:Hid (∀ o:ByteArray,o.data.toList=[UInt8.ofNat (48+r)]->digs n=digs q++(o++s).data.toList):=fun o ho=>by
        rw [hD.out,hstep,ByteArray.data_append,Array.toList_append,ho,List.append_assoc]
      clear hstep hr hq hmm h0;go_wp2_with fail
      rw [conv_back ⟨wr.heap.size,0,none⟩ 1 1 [UInt8.ofNat (48+r)] rfl (new_cells _ rfl (by
        intro j hj
        match j,hj with
        | 0,_=>
          show some (Value.int .u8 _)=some (Value.int .u8 ((UInt8.ofNat (48+r)).toNat:Int));rw [ofNat_u8 _ (by omega)]
          first | done | rfl | (congr 2 <;> omega)
        ))]
      simp only [Result.andThen]
      rw [Oper.upon_value];obtain ⟨o,ho⟩:∃ o,(⟨#[UInt8.ofNat (48+r)]⟩:ByteArray)=o:=⟨_,rfl⟩;have HF:=Hid.out (p:=Hid _) (HST.out o (by rw [<-ho]));have hos:o.size=1:=by rw [<-ho];rfl
      have ho':(⟨[UInt8.ofNat (48+r)].toArray⟩:ByteArray)=o:=ho;rw [ho'];clear ho ho';have t0:¬ 9223372036854775807<o.size+s.size:=by omega
      go_wp2_with fail
      go_roundw
      case rel=>exact ⟨q,o++s,by go_num,rfl,by have:=hqm.out;omega,HF.out,(hB.out.alloc hB.out.size _)⟩
      case measure=>simp [intOf];have:=hqm.out;omega
    · obtain rfl:m=0:=by omega
      have HS:Hid (digs n=s.data.toList):=by rw [Hid,hD.out];rfl
      have C1:=Hid.out (p:=Hid _) (HP.out ⟨#[48]⟩ wr (by decide));go_wp2_with fail
      refine (Calls.mono C1.out ?_);rintro z w4 ⟨hz,hb4⟩;rw [show (⟨#[48]⟩:ByteArray).data.toList=[48] from rfl,rparse_zero] at hz;have hz:z=.returned (.tuple #[.agg #[.bool false,.string ⟨#[]⟩,.int .i64 0],.int .i64 0]):=hz;subst hz;have E4:=Hid.out (p:=Hid _) hb4;have B4:=bel B3 E4;obtain ⟨wz,hwz,VZ,EZ⟩:=num_new2 w4 (.bool false) (.string ⟨#[]⟩) (.int .i64 0);have hne:w.heap.size≠w4.heap.size:=by have:=heap_lt V2.out;have:=(bel hB E4).out.size;omega
      have HNE:=Hid.out (p:=Hid _) hne;obtain ⟨w5,hw5⟩:∃ w5,((wz.setCell ⟨w4.heap.size,0,none⟩ (.bool false)).setCell ⟨w4.heap.size,1,none⟩ (.string ⟨#[]⟩)).setCell ⟨w4.heap.size,2,none⟩ (.int .i64 0)=w5:=⟨_,rfl⟩;have V5:Hid (w5.heap[w4.heap.size]?=some (.cells #[.bool false,.string ⟨#[]⟩,.int .i64 0] 25 (0,0))):=by rw [<-hw5];exact set3n VZ.out _ _ _
      have V2z:=hst (hst (hst V2 hB) E4) EZ;have V25:Hid (w5.heap[w.heap.size]?=some (.cells #[.bool false,.string ⟨#[]⟩,.int .i64 0] 25 (0,0))):=by rw [Hid,<-hw5,Below.heap_setCell _ _ _ _ HNE.out,Below.heap_setCell _ _ _ _ HNE.out,Below.heap_setCell _ _ _ _ HNE.out];exact V2z.out
      have B5:Hid (Below w.heap.size w w5):=by rw [<-hw5];exact below3 (bel B4 EZ).out B4.out.size _ _ _
      have q0:=cell_of VZ.out 0;have q1:=cell_of VZ.out 1;have q2:=cell_of VZ.out 2;have h0:=frozen_of VZ.out 0;have h1:=frozen_of VZ.out 1;have h2:=frozen_of VZ.out 2;have C2:=Hid.out (p:=Hid _) (HP.out s w5 (by omega));clear hb4 C1 hne;by_cases hs0:s.size=0
      · have e1:decide ((0:Int)<(s.size:Int))=false:=by rw [decide_eq_false_iff_not];omega
        have e2:decide (0<s.size)=false:=by rw [decide_eq_false_iff_not];omega
        have HQ:Hid (ofN n=([],0)):=HZ.out (by
          rw [HS.out];have h3:s.data.toList.length=s.size:=by simp
          exact List.length_eq_zero_iff.1 (by omega))
        have y0:=cell_of V5.out 0;have y1:=cell_of V5.out 1;have y2:=cell_of V5.out 2;have z0:=cell_of V25.out 0;have z1:=cell_of V25.out 1;have z2:=cell_of V25.out 2;have f0:=frozen_of V25.out 0;have f1:=frozen_of V25.out 1;have f2:=frozen_of V25.out 2;clear hs0;go_wp2_with fail
        refine num_ret (x:=.bool false) (y:=.string ⟨#[]⟩) (z:=.int .i64 0) (b:=w.heap.size) rfl (set3n V25.out _ _ _) rfl ?_;exact ⟨by rw [HQ.out];rfl,below3 B5.out (Nat.le_refl _) _ _ _⟩
      · have e1:decide ((0:Int)<(s.size:Int))=true:=by rw [decide_eq_true_eq];omega
        have e2:decide (0<s.size)=true:=by rw [decide_eq_true_eq];omega
        have HR:Hid (Num.rparse s.data.toList=.ok (false,(ofN n).1,((ofN n).2:Nat))):=by
          have h:=HPD.out (by
            rw [HS.out];have h3:s.data.toList.length=s.size:=by simp
            exact List.ne_nil_of_length_pos (by omega))
          rw [HS.out] at h;exact h
        clear hs0;go_wp2_with fail
        refine (Calls.mono C2.out ?_);rintro z w6 ⟨hz,hb6⟩;rw [HR.out] at hz;have hz:z=.returned (.tuple #[.agg #[.bool false,.string ⟨(ofN n).1.toArray⟩,.int .i64 ((ofN n).2:Nat)],.int .i64 0]):=hz;subst hz;obtain ⟨d,hd⟩:∃ d:ByteArray,⟨(ofN n).1.toArray⟩=d:=⟨_,rfl⟩;obtain ⟨x,hx⟩:∃ x:Nat,(ofN n).2=x:=⟨_,rfl⟩;rw [hd,hx];have HDX:Hid ((⟨(ofN n).1.toArray⟩:ByteArray)=d/\(ofN n).2=x):=⟨hd,hx⟩;have E6:=Hid.out (p:=Hid _) hb6;have B6:=bel B5 E6;have V6:=hst V5 E6;have V26:=hst V25 E6;have y0:=cell_of V6.out 0;have y1:=cell_of V6.out 1;have y2:=cell_of V6.out 2;have k0:=frozen_of V6.out 0;have k1:=frozen_of V6.out 1;have k2:=frozen_of V6.out 2;have z0:=cell_of V26.out 0;have z1:=cell_of V26.out 1;have z2:=cell_of V26.out 2;have f0:=frozen_of V26.out 0;have f1:=frozen_of V26.out 1;have f2:=frozen_of V26.out 2;obtain ⟨w7,hw7⟩:∃ w7,((w6.setCell ⟨w4.heap.size,0,none⟩ (.bool false)).setCell ⟨w4.heap.size,1,none⟩ (.string d)).setCell ⟨w4.heap.size,2,none⟩ (.int .i64 (x:Int))=w7:=⟨_,rfl⟩;have V7:Hid (w7.heap[w4.heap.size]?=some (.cells #[.bool false,.string d,.int .i64 (x:Int)] 25 (0,0))):=by rw [<-hw7];exact set3n V6.out _ _ _
        have V27:Hid (w7.heap[w.heap.size]?=some (.cells #[.bool false,.string ⟨#[]⟩,.int .i64 0] 25 (0,0))):=by rw [Hid,<-hw7,Below.heap_setCell _ _ _ _ HNE.out,Below.heap_setCell _ _ _ _ HNE.out,Below.heap_setCell _ _ _ _ HNE.out];exact V26.out
        have B7:Hid (Below w.heap.size w w7):=by rw [<-hw7];exact below3 B6.out B4.out.size _ _ _
        clear hb6 hd hx;have p0:=cell_of V7.out 0;have p1:=cell_of V7.out 1;have p2:=cell_of V7.out 2;have r0:=cell_of V27.out 0;have r1:=cell_of V27.out 1;have r2:=cell_of V27.out 2;have g0:=frozen_of V27.out 0;have g1:=frozen_of V27.out 1;have g2:=frozen_of V27.out 2;go_wp2_with fail
        refine num_ret (x:=.bool false) (y:=.string d) (z:=.int .i64 (x:Int)) (b:=w.heap.size) rfl (set3n V27.out _ _ _) rfl ?_;exact ⟨by rw [HDX.out.1,HDX.out.2],below3 B7.out (Nat.le_refl _) _ _ _⟩
theorem rnum_any (n:Nat) (hn:n<18446744073709551616) (A:Nat->Prop) (w:World):Calls Tryz.prog 15 #[.int .u64 n] w (ValP (numV n) A w):=by
  obtain ⟨w2,hw2,V2,B2⟩:=own8 w Raw.zero;have HO:=Hid.out (p:=Hid _) (rof06_any n hn w2)
  dsimp only [Raw.zero] at hw2
  go_enter Tryz.func15,Tryz.ntmps15
  go_wp2_with fail
  refine (Calls.mono HO.out ?_);rintro z w3 ⟨rfl,hb3⟩;have E3:=Hid.out (p:=Hid _) hb3;have V3:=hst V2 E3;have B03:=bel B2 E3;clear hb3 hw2;obtain ⟨⟨r0,r1,r2,r3,r4,r5,r6,r7⟩,g0,g1,g2,g3,g4,g5,g6,g7⟩:=val_cells V3.out;go_wp2_with fail
  refine val_ret (a:=One.numR n) (b:=w.heap.size) rfl (set8 V3.out (One.numR n)) rfl ?_;exact ⟨One.numR n,rfl,numR_is _ _ _,below8 B03.out (Nat.le_refl _) _ _ _ _ _ _ _ _⟩
open Go.RowKit Strs Jdec Save Go.Proofs.YtliekocamnklfaaGreatDoor.Addr
set_option maxHeartbeats 4000000
theorem at_in (n:Bool) (d:ByteArray) (c:Nat) (w:World) (p:Int) (i:Nat) (hs:d.size<=1000) (hc:c<=20) (hi:i<d.size) (hp:p=(d.size:Int)+c-1-i):Calls Tryz.prog 117 #[.agg #[.bool n,.string d,.int .i64 (c:Int)],.int .i64 p] w fun e w'=>e=.returned (.int .u8 (d[i].toNat:Nat))/\Below w.heap.size w w':=by
  obtain ⟨w2,hw2,V2,B2⟩:=new3 w n d c;have y1:=cell_of V2.out 1;have y2:=cell_of V2.out 2;obtain ⟨a,h1⟩:∃ a:Int,(d.size:Int)-1=a:=⟨_,rfl⟩;obtain ⟨b,h3⟩:∃ b:Int,p-(c:Int)=b:=⟨_,rfl⟩;have h2:IntKind.i64.wrap a=a:=IntWalk.i64_in _ (by omega);have h4:IntKind.i64.wrap b=b:=IntWalk.i64_in _ (by omega);have h5:a-b=(i:Int):=by omega
  have h6:IntKind.i64.wrap (i:Int)=(i:Int):=IntWalk.i64_in _ (by omega);have q1:decide ((i:Int)<0)=false:=by rw [decide_eq_false_iff_not];omega
  have q2:decide ((d.size:Int)<=(i:Int))=false:=by rw [decide_eq_false_iff_not];omega
  have q3:decide (d.size<=i)=false:=by rw [decide_eq_false_iff_not];omega
  clear hp hc;go_enter Tryz.func117,Tryz.ntmps117
  go_wp2_with fail
  go_ret
  exact ⟨rfl,B2.out⟩
theorem at_out (n:Bool) (d:ByteArray) (c:Nat) (w:World) (p:Int) (i:Nat) (hs:d.size<=1000) (hc:c<=20) (hi:¬ i<d.size) (hi2:i<=3000) (hp:p=(d.size:Int)+c-1-i):Calls Tryz.prog 117 #[.agg #[.bool n,.string d,.int .i64 (c:Int)],.int .i64 p] w fun e w'=>e=.returned (.int .u8 48)/\Below w.heap.size w w':=by
  obtain ⟨w2,hw2,V2,B2⟩:=new3 w n d c;have y1:=cell_of V2.out 1;have y2:=cell_of V2.out 2;obtain ⟨a,h1⟩:∃ a:Int,(d.size:Int)-1=a:=⟨_,rfl⟩;obtain ⟨b,h3⟩:∃ b:Int,p-(c:Int)=b:=⟨_,rfl⟩;have h2:IntKind.i64.wrap a=a:=IntWalk.i64_in _ (by omega);have h4:IntKind.i64.wrap b=b:=IntWalk.i64_in _ (by omega);have h5:a-b=(i:Int):=by omega
  have h6:IntKind.i64.wrap (i:Int)=(i:Int):=IntWalk.i64_in _ (by omega);have q1:decide ((i:Int)<0)=false:=by rw [decide_eq_false_iff_not];omega
  have q2:decide ((d.size:Int)<=(i:Int))=true:=by rw [decide_eq_true_eq];omega
  have q3:decide (d.size<=i)=true:=by rw [decide_eq_true_eq];omega
  clear hp hc hi;go_enter Tryz.func117,Tryz.ntmps117
  go_wp2_with fail
  go_ret
  exact ⟨rfl,B2.out⟩
theorem at_any (n:Bool) (d:ByteArray) (c:Nat) (w:World) (p:Int) (i:Nat) (hs:d.size<=1000) (hc:c<=20) (hi:i<(d.data.toList++List.replicate c 48).length) (hp:p=(d.size:Int)+c-1-i):Calls Tryz.prog 117 #[.agg #[.bool n,.string d,.int .i64 (c:Int)],.int .i64 p] w fun e w'=>e=.returned (.int .u8 ((d.data.toList++List.replicate c 48)[i].toNat:Nat))/\Below w.heap.size w w':=by
  have hl:d.data.toList.length=d.size:=by simp
  by_cases h:i<d.size
  · have e:(d.data.toList++List.replicate c 48)[i]=d[i]:=by rw [List.getElem_append_left (by omega)];rfl
    rw [e];exact at_in n d c w p i hs hc h hp
  · have e:(d.data.toList++List.replicate c 48)[i]=48:=by rw [List.getElem_append_right (by omega),List.getElem_replicate]
    rw [e];rw [List.length_append,List.length_replicate] at hi;exact at_out n d c w p i hs hc h (by omega) hp
theorem rright_yes (n:Bool) (d:ByteArray) (x:Int) (h:Num.right n d.data.toList x=true) (w:World):Calls Tryz.prog 116 #[.agg #[.bool n,.string d,.int .i64 x]] w fun e w'=>e=.returned (.bool true)/\Below w.heap.size w w':=by
  have hl:d.data.toList.length=d.size:=by simp
  have:=Num.rright_any n d x w (by have:=(right_bounds h).1;omega);rw [h] at this;exact this
theorem rwhole_any (n:Bool) (d:ByteArray) (e:Int) (hr:Num.right n d.data.toList e=true) (w:World):Calls Tryz.prog 76 #[.agg #[.bool n,.string d,.int .i64 e]] w (WPst (wholeN n d.data.toList e) w):=by
  obtain ⟨hb1,hb2,hb3,hb4⟩:=right_bounds hr;have hl:d.data.toList.length=d.size:=by simp
  have hdig:=digits48 hr;obtain ⟨w2,hw2,V2,B2⟩:=new3 w n d e;have HP:=Hid.out (p:=Hid _) (rright_yes n d e hr w2);have hds:d.size<=1000:=by omega
  have y0:=cell_of V2.out 0;have y1:=cell_of V2.out 1;have y2:=cell_of V2.out 2;cases n
  case true=>
    have HN:Hid (wholeN true d.data.toList e=none):=by rw [Hid,wholeN,if_neg (by simp)]
    clear hb1 hb2 hb3 hb4 hl hdig hr hds;go_enter Tryz.func76,Tryz.ntmps76
    go_wp2_with fail
    refine (Calls.mono HP.out ?_);rintro z w3 ⟨rfl,hb3⟩;have V3:=hst V2 (Hid.out (p:=Hid _) hb3);have B3:=bel B2 (Hid.out (p:=Hid _) hb3);clear hb3 y0 y1 y2 hw2;have y0:=cell_of V3.out 0;have y1:=cell_of V3.out 1;have y2:=cell_of V3.out 2;go_wp2_with fail
    go_ret2
    exact ⟨0,by rw [HN.out] <;> rfl,(fun m h=>by rw [HN.out] at h;cases h),B3.out⟩
  case false=>
  by_cases he:e<0
  · have q1:decide (e<0)=true:=by rw [decide_eq_true_eq];exact he
    have HN:Hid (wholeN false d.data.toList e=none):=by rw [Hid,wholeN,if_neg (by omega)]
    clear hb1 hb2 hb3 hb4 hl hdig hr hds he;go_enter Tryz.func76,Tryz.ntmps76
    go_wp2_with fail
    refine (Calls.mono HP.out ?_);rintro z w3 ⟨rfl,hb3⟩;have V3:=hst V2 (Hid.out (p:=Hid _) hb3);have B3:=bel B2 (Hid.out (p:=Hid _) hb3);clear hb3 y0 y1 y2 hw2;have y0:=cell_of V3.out 0;have y1:=cell_of V3.out 1;have y2:=cell_of V3.out 2;go_wp2_with fail
    go_ret2
    exact ⟨0,by rw [HN.out] <;> rfl,(fun m h=>by rw [HN.out] at h;cases h),B3.out⟩
  have q1:decide (e<0)=false:=by rw [decide_eq_false_iff_not];exact he
  obtain ⟨c,rfl⟩:∃ c:Nat,e=c:=⟨e.toNat,by omega⟩;have hc1:c<=10000:=by omega
  by_cases h20:20<c+d.size
  · have q2:decide ((20:Int)<(c:Int)+(d.size:Int))=true:=by rw [decide_eq_true_eq];omega
    have q3:decide (20<c+d.size)=true:=by rw [decide_eq_true_eq];omega
    have HN:Hid (wholeN false d.data.toList c=none):=by rw [Hid,wholeN,if_neg (by omega)]
    clear hb1 hb2 hb3 hb4 hl hdig hr h20 he;go_enter Tryz.func76,Tryz.ntmps76
    go_wp2_with fail
    refine (Calls.mono HP.out ?_);rintro z w3 ⟨rfl,hb3⟩;have V3:=hst V2 (Hid.out (p:=Hid _) hb3);have B3:=bel B2 (Hid.out (p:=Hid _) hb3);clear hb3 y0 y1 y2 hw2;have y0:=cell_of V3.out 0;have y1:=cell_of V3.out 1;have y2:=cell_of V3.out 2;go_wp2_with fail
    go_ret2
    exact ⟨0,by rw [HN.out] <;> rfl,(fun m h=>by rw [HN.out] at h;cases h),B3.out⟩
  have q2:decide ((20:Int)<(c:Int)+(d.size:Int))=false:=by rw [decide_eq_false_iff_not];omega
  have q3:decide (20<c+d.size)=false:=by rw [decide_eq_false_iff_not];omega
  obtain ⟨L,hL⟩:∃ L,d.data.toList++List.replicate c 48=L:=⟨_,rfl⟩;have HW:Hid (wholeN false d.data.toList c=Addr.numR 0 L):=by rw [Hid,wholeN,if_pos ⟨hr,rfl,by omega,by omega⟩,Int.toNat_natCast,hL]
  have hLL:L.length=d.size+c:=by rw [<-hL,List.length_append,List.length_replicate,hl]
  have hLD:∀ x∈L,48<=x.toNat/\x.toNat<=57:=fun x hx=>by
    rw [<-hL] at hx;rcases List.mem_append.1 hx with hx | hx
    · exact hdig x hx
    · rw [(List.mem_replicate.1 hx).2];decide
  have HLL:=Hid.out (p:=Hid _) hLL;have HLD:=Hid.out (p:=Hid _) hLD;have HAT:Hid (∀ (w':World) (p:Int) (i:Nat) (h:i<L.length),p=(d.size:Int)+c-1-i->Calls Tryz.prog 117 #[.agg #[.bool false,.string d,.int .i64 (c:Int)],.int .i64 p] w' fun e w''=>e=.returned (.int .u8 (L[i].toNat:Nat))/\Below w'.heap.size w' w''):=fun w' p i h hp=>by
    subst hL;exact at_any false d c w' p i hds (by omega) h hp
  have HCD:Hid (c+d.size<=20):=by rw [Hid];omega
  have hc20:c<=20:=by omega
  obtain ⟨p0,hp0⟩:∃ p:Int,(c:Int)+(d.size:Int)-1=p:=⟨_,rfl⟩;have hp1:IntKind.i64.wrap p0=p0:=IntWalk.i64_in _ (by omega);have HP0:Hid (p0=(d.size:Int)+c-1):=by rw [Hid];omega
  clear hb1 hb2 hb3 hb4 hl hdig hr h20 he hL hLL hLD hc1;go_enter Tryz.func76,Tryz.ntmps76
  go_wp2_with fail
  refine (Calls.mono HP.out ?_);rintro z w3 ⟨rfl,hb3⟩;have V3:=hst V2 (Hid.out (p:=Hid _) hb3);have B3:=bel B2 (Hid.out (p:=Hid _) hb3);clear hb3 y0 y1 y2 hw2;have y0:=cell_of V3.out 0;have y1:=cell_of V3.out 1;have y2:=cell_of V3.out 2;go_wp2_with fail
  clear y0 y1 y2 hp0 hp1
  go_loopw [4,5] (fun p4 p5 wr=>∃ (i:Nat) (a p:Int),p4=.int .u64 a/\p5=.int .i64 p/\i<=L.length/\Hid (p=(d.size:Int)+c-1-i)/\Hid (∃ n:Nat,a=(n:Int)/\n<=18446744073709551615/\Addr.numR 0 L=Addr.numR n (L.drop i))/\Hid (Below w3.heap.size w3 wr)) (fun _ p _=>(intOf p+1).toNat)
  case atStart=>exact ⟨0,0,p0,rfl,rfl,Nat.zero_le _,by rw [Hid,HP0.out];simp,⟨0,rfl,by omega,rfl⟩,Below.refl _ _⟩
  case round=>
    obtain ⟨i,a,p,rfl,rfl,hi,hP,hN,hB⟩:=hrel;have V4:=hst V3 hB;have y0:=cell_of V4.out 0;have y1:=cell_of V4.out 1;have y2:=cell_of V4.out 2;have B4:=bel B3 hB;have hpv:=hP.out;have hLv:=HLL.out;have hcd:=HCD.out;by_cases hlt:i<L.length
    · have d0:decide (0<=p)=true:=by rw [decide_eq_true_eq];omega
      have hx:=HLD.out L[i] (List.getElem_mem hlt);have HC:=Hid.out (p:=Hid _) (HAT.out wr p i hlt hpv);have hdr:L.drop i=L[i]::L.drop (i+1):=by rw [<-List.getElem_cons_drop hlt]
      generalize L[i]=x at *;obtain ⟨xn,hxn⟩:∃ xn:Nat,x.toNat=xn:=⟨_,rfl⟩;obtain ⟨q,hq⟩:∃ d:Int,(xn:Int)-48=d:=⟨_,rfl⟩;have hd1:IntKind.u8.wrap q=q:=by rw [IntKind.wrap_u8];omega
      have hd2:IntKind.u64.wrap q=q:=by rw [IntKind.wrap_u64];omega
      obtain ⟨r,hr⟩:∃ r:Int,IntKind.u64.wrap (18446744073709551615-q)=r:=⟨_,rfl⟩;obtain ⟨t,ht⟩:∃ t:Int,IntKind.u64.wrap (r.tdiv 10)=t:=⟨_,rfl⟩;obtain ⟨z,hz⟩:∃ z:Int,IntKind.u64.wrap (IntKind.u64.wrap (a*10)+q)=z:=⟨_,rfl⟩;have hrv:r=18446744073709551615-q:=by rw [<-hr,IntKind.wrap_u64];omega
      have htv:t=(18446744073709551615-q) / 10:=by
        rw [<-ht,hrv,Int.tdiv_eq_ediv_of_nonneg (by omega),IntKind.wrap_u64];omega
      obtain ⟨n,han,hnm,hnr⟩:=hN.out;have hstep:Addr.numR 0 L=if 18446744073709551615<n*10+(x.toNat-48) then none else Addr.numR (n*10+(x.toNat-48)) (L.drop (i+1)):=by
        rw [hnr,hdr,Addr.numR,if_pos (by omega)]
      rw [hxn] at HC;by_cases hb:t<a
      · have d3:decide (t<a)=true:=by rw [decide_eq_true_eq];exact hb
        have HF:Hid (wholeN false d.data.toList c=none):=by rw [Hid,HW.out,hstep,if_pos (by omega)]
        clear hrv htv han hnm hnr hstep hb hz hpv hLv hcd hx hxn hdr;go_wp2_with fail
        refine (Calls.mono HC.out ?_);rintro z w5 ⟨rfl,hb5⟩;have B5:=bel B4 (Hid.out (p:=Hid _) hb5);clear hb5 y0 y1 y2;go_wp2_with fail
        go_ret2
        exact ⟨0,by rw [HF.out] <;> rfl,(fun m h=>by rw [HF.out] at h;cases h),B5.out⟩
      · have d3:decide (t<a)=false:=by rw [decide_eq_false_iff_not];exact hb
        have HF:Hid (∃ n:Nat,z=(n:Int)/\n<=18446744073709551615/\Addr.numR 0 L=Addr.numR n (L.drop (i+1))):=by
          refine ⟨n*10+(x.toNat-48),?_,by omega,by rw [hstep,if_neg (by omega)]⟩;rw [<-hz,IntKind.wrap_u64,IntKind.wrap_u64];omega
        obtain ⟨p',hp'⟩:∃ p':Int,p-1=p':=⟨_,rfl⟩;have hpw:IntKind.i64.wrap p'=p':=IntWalk.i64_in _ (by omega);have HPP:Hid (p'=(d.size:Int)+c-1-((i+1:Nat):Int)):=by rw [Hid];omega
        have HM:Hid ((p'+1).toNat<(p+1).toNat):=by rw [Hid];omega
        clear hrv htv han hnm hnr hstep hb hpv hLv hcd hx hxn hdr;go_wp2_with fail
        refine (Calls.mono HC.out ?_);rintro zz w5 ⟨rfl,hb5⟩;have B5:=bel hB (Hid.out (p:=Hid _) hb5);clear hb5 y0 y1 y2;go_wp2_with fail
        go_roundw
        case rel=>exact ⟨i+1,z,p',rfl,rfl,by omega,HPP.out,HF.out,B5.out⟩
        case measure=>exact HM.out
    · have d0:decide (0<=p)=false:=by rw [decide_eq_false_iff_not];omega
      obtain ⟨n,rfl,_,hnr⟩:=hN.out;have HF:Hid (wholeN false d.data.toList c=some n):=by
        rw [Hid,HW.out,hnr,List.drop_of_length_le (by omega)];rfl
      clear hnr hpv hLv hcd;go_wp2_with fail
      go_ret2
      exact ⟨n,by rw [HF.out] <;> rfl,(fun m h=>by rw [HF.out] at h;injection h),B4.out⟩
end Go.Proofs.YtliekocamnklfaaGreatDoor.One
