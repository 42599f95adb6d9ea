/- tabulariumref06.Of; tabulariumref19.Num, Str. -/
import Derived.Test.YtliekocamnklfaaGreatDoorPOnE
import Derived.Test.YtliekocamnklfaaGreatDoorPOnR
import Derived.Test.YtliekocamnklfaaGreatDoorPJenA
import Derived.Test.YtliekocamnklfaaGreatDoorPOnA
import Derived.Test.YtliekocamnklfaaGreatDoorPOnS
import Derived.Deep.DeepHandedRow
set_option linter.unusedVariables false
set_option linter.unusedSimpArgs false
set_option maxRecDepth 100000
set_option maxHeartbeats 8000000
namespace Go.Proofs.YtliekocamnklfaaGreatDoor.One
open Go.RowKit Strs Utf Jdec Save Go.Proofs.YtliekocamnklfaaGreatDoor.Addr
def digs (n:Nat):List UInt8:=if n=0 then [] else Lib.decDigits n
theorem digs_step (n:Nat) (h:0<n):digs n=digs (n / 10)++[UInt8.ofNat (48+n % 10)]:=by
  unfold digs;rw [if_neg (by omega)];by_cases h10:n<10
  · rw [Lib.decDigits_one h10,if_pos (by omega),Nat.mod_eq_of_lt h10];rfl
  · rw [if_neg (by omega),Lib.decDigits,dif_neg h10]
theorem digs_len (n:Nat) (hn:n<18446744073709551616):(digs n).length<=20:=by
  unfold digs;split
  · simp
  · exact digits_le 19 n (by omega)
theorem rparse_digs (n:Nat) (hn:n<18446744073709551616) (h:digs n≠[]):Num.rparse (digs n)=.ok (false,(ofN n).1,((ofN n).2:Nat)):=by
  have h0:n≠0:=fun e=>h (by rw [e];rfl);have hd:=ofN_dec (n:=n) (by omega);rw [if_neg h0] at hd;have hr:=ofN_right (n:=n) (by omega);have hl:=digits_le 19 n (by omega);have hx:=ofN_len (n:=n) (by omega);rw [Num.rparse_eq _ (by have:=digs_len n hn;omega)];have hp:=Num.parse_nprint hr;have he:nprint false (ofN n).1 ((ofN n).2:Nat)=digs n:=by
    unfold digs;rw [if_neg h0];unfold nprint;by_cases hz:(ofN n).1=[]
    · exfalso
      unfold ofN at hz;split at hz
      · next h1=>exact h0 (ofD_nil h1)
      · next h1=>exact h1 hz
    · rw [if_neg hz,if_pos ⟨by omega,by omega⟩,Int.toNat_natCast];exact hd
  rw [he] at hp;exact hp
theorem rparse_zero:Num.rparse [48]=.ok (false,[],0):=by kernel_rfl
theorem ofN_zero:ofN 0=([],0):=by kernel_rfl
theorem num_new2 (w:World) (x y z:Value):∃ w1,w.alloc (.cells #[x,y,z] 25)=w1/\Hid (w1.heap[w.heap.size]?=some (.cells #[x,y,z] 25 (0,0)))/\Hid (Below w.heap.size w w1):=
  ⟨_,rfl,heap_alloc_new _ _,(Below.refl _ _).alloc (Nat.le_refl _) _⟩
theorem below3 {w w':World} {b:Nat} (h:Below w.heap.size w w') (hb:w.heap.size<=b) (x0 x1 x2:Value):Below w.heap.size w (((w'.setCell ⟨b,0,none⟩ x0).setCell ⟨b,1,none⟩ x1).setCell ⟨b,2,none⟩ x2):=by
  have g:w'.grownBy (((w'.setCell ⟨b,0,none⟩ x0).setCell ⟨b,1,none⟩ x1).setCell ⟨b,2,none⟩ x2) (some b):=
    ⟨rfl,rfl,rfl,by simp [World.setCell],fun k hk hr=>by
      have hne:k≠b:=fun e=>hr (by rw [e]);rw [Below.heap_setCell _ _ _ _ hne,Below.heap_setCell _ _ _ _ hne,Below.heap_setCell _ _ _ _ hne]⟩
  exact h.grown g h.size (fun k e=>by injection e with e;omega)
theorem rof06_any (n:Nat) (hn:n<18446744073709551616) (w:World):Calls Tryz.prog 42 #[.int .u64 n] w fun e w'=>e=.returned (.agg #[.bool false,.string ⟨(ofN n).1.toArray⟩,.int .i64 ((ofN n).2:Nat)])/\Below w.heap.size w w':=by
  obtain ⟨w2,hw2,V2,B2⟩:=num_new2 w (.bool false) (.string ⟨#[]⟩) (.int .i64 0);have HN:=Hid.out (p:=Hid _) hn;have HDL:=Hid.out (p:=Hid _) (digs_len n hn);have HP:Hid (∀ (s:ByteArray) (w':World),s.size<=100->Calls Tryz.prog 98 #[.string s] w' (Num.RPPost s w')):=fun s w' h=>Num.rparse_any s w' (by omega);have HPD:Hid (digs n≠[]->Num.rparse (digs n)=.ok (false,(ofN n).1,((ofN n).2:Nat))):=rparse_digs n hn;have HZ:Hid (digs n=[]->ofN n=([],0)):=fun h=>by
    have:n=0:=by
      by_cases h0:n=0
      · exact h0
      · exfalso
        have:=digs_step n (by omega);rw [h] at this;have:=congrArg List.length this;simp at this
    rw [this];exact ofN_zero
  clear hn;go_enter Tryz.func42,Tryz.ntmps42
  go_wp2_with fail
  go_loopw [0,3] (fun p0 p3 wr=>∃ (m:Nat) (s:ByteArray),p0=.int .u64 m/\p3=.string s/\m<=n/\Hid (digs n=digs m++s.data.toList)/\Hid (Below w2.heap.size w2 wr)) (fun p _ _=>(intOf p).toNat)
  case atStart=>exact ⟨n,⟨#[]⟩,rfl,rfl,Nat.le_refl _,by simp [Hid],Below.refl _ _⟩
  case round=>
    obtain ⟨m,s,rfl,rfl,hmn,hD,hB⟩:=hrel;have B3:=bel B2 hB;have hsz:s.size<=20:=by
      have h1:=congrArg List.length hD.out;rw [List.length_append] at h1;have h2:=HDL.out;have h3:s.data.toList.length=s.size:=by simp
      omega
    by_cases h0:0<m
    · have d0:decide ((0:Int)<(m:Int))=true:=by rw [decide_eq_true_eq];omega
      have d1:decide (0<m)=true:=by rw [decide_eq_true_eq];exact h0
      have hstep:=digs_step m h0;have hmm:=HN.out;obtain ⟨r,hr⟩:∃ r:Nat,m % 10=r:=⟨_,rfl⟩;have gr:(m:Int) % 10=(r:Int):=by omega
      have gr2:(m:Int).tmod 10=(r:Int):=by rw [Int.tmod_eq_emod_of_nonneg (by omega)];exact gr
      have lr:r<10:=by omega
      obtain ⟨q,hq⟩:∃ q:Nat,m / 10=q:=⟨_,rfl⟩;have gq:(m:Int) / 10=(q:Int):=by omega
      have gq2:(m:Int).tdiv 10=(q:Int):=by rw [Int.tdiv_eq_ediv_of_nonneg (by omega)];exact gq
      have gqw:IntKind.u64.wrap (q:Int)=(q:Int):=by rw [IntKind.wrap_u64];omega
      rw [hr,hq] at hstep;have hqm:Hid (q<m):=by rw [Hid];omega
      have HST:Hid (∀ o:ByteArray,o.data.toList=[UInt8.ofNat (48+r)]->digs n=digs q++(o++s).data.toList):=fun o ho=>by
        rw [hD.out,hstep,ByteArray.data_append,Array.toList_append,ho,List.append_assoc]
      clear hstep hr hq hmm h0;go_wp2_with fail
      rw [conv_back ⟨wr.heap.size,0,none⟩ 1 1 [UInt8.ofNat (48+r)] rfl (new_cells _ rfl (by
        intro j hj
        match j,hj with
        | 0,_=>
          show some (Value.int .u8 _)=some (Value.int .u8 ((UInt8.ofNat (48+r)).toNat:Int));rw [ofNat_u8 _ (by omega)]
          first | done | rfl | (congr 2 <;> omega)
        ))]
      simp only [Result.andThen]
      rw [Oper.upon_value];obtain ⟨o,ho⟩:∃ o,(⟨#[UInt8.ofNat (48+r)]⟩:ByteArray)=o:=⟨_,rfl⟩;have HF:=Hid.out (p:=Hid _) (HST.out o (by rw [<-ho]));have hos:o.size=1:=by rw [<-ho];rfl
      have ho':(⟨[UInt8.ofNat (48+r)].toArray⟩:ByteArray)=o:=ho;rw [ho'];clear ho ho';have t0:¬ 9223372036854775807<o.size+s.size:=by omega
      go_wp2_with fail
      go_roundw
      case rel=>exact ⟨q,o++s,by go_num,rfl,by have:=hqm.out;omega,HF.out,(hB.out.alloc hB.out.size _)⟩
      case measure=>simp [intOf];have:=hqm.out;omega
    · obtain rfl:m=0:=by omega
      have HS:Hid (digs n=s.data.toList):=by rw [Hid,hD.out];rfl
      have C1:=Hid.out (p:=Hid _) (HP.out ⟨#[48]⟩ wr (by decide));go_wp2_with fail
      refine (Calls.mono C1.out ?_);rintro z w4 ⟨hz,hb4⟩;rw [show (⟨#[48]⟩:ByteArray).data.toList=[48] from rfl,rparse_zero] at hz;have hz:z=.returned (.tuple #[.agg #[.bool false,.string ⟨#[]⟩,.int .i64 0],.int .i64 0]):=hz;subst hz;have E4:=Hid.out (p:=Hid _) hb4;have B4:=bel B3 E4;obtain ⟨wz,hwz,VZ,EZ⟩:=num_new2 w4 (.bool false) (.string ⟨#[]⟩) (.int .i64 0);have hne:w.heap.size≠w4.heap.size:=by have:=heap_lt V2.out;have:=(bel hB E4).out.size;omega
      have HNE:=Hid.out (p:=Hid _) hne;obtain ⟨w5,hw5⟩:∃ w5,((wz.setCell ⟨w4.heap.size,0,none⟩ (.bool false)).setCell ⟨w4.heap.size,1,none⟩ (.string ⟨#[]⟩)).setCell ⟨w4.heap.size,2,none⟩ (.int .i64 0)=w5:=⟨_,rfl⟩;have V5:Hid (w5.heap[w4.heap.size]?=some (.cells #[.bool false,.string ⟨#[]⟩,.int .i64 0] 25 (0,0))):=by rw [<-hw5];exact set3n VZ.out _ _ _
      have V2z:=hst (hst (hst V2 hB) E4) EZ;have V25:Hid (w5.heap[w.heap.size]?=some (.cells #[.bool false,.string ⟨#[]⟩,.int .i64 0] 25 (0,0))):=by rw [Hid,<-hw5,Below.heap_setCell _ _ _ _ HNE.out,Below.heap_setCell _ _ _ _ HNE.out,Below.heap_setCell _ _ _ _ HNE.out];exact V2z.out
      have B5:Hid (Below w.heap.size w w5):=by rw [<-hw5];exact below3 (bel B4 EZ).out B4.out.size _ _ _
      have q0:=cell_of VZ.out 0;have q1:=cell_of VZ.out 1;have q2:=cell_of VZ.out 2;have h0:=frozen_of VZ.out 0;have h1:=frozen_of VZ.out 1;have h2:=frozen_of VZ.out 2;have C2:=Hid.out (p:=Hid _) (HP.out s w5 (by omega));clear hb4 C1 hne;by_cases hs0:s.size=0
      · have e1:decide ((0:Int)<(s.size:Int))=false:=by rw [decide_eq_false_iff_not];omega
        have e2:decide (0<s.size)=false:=by rw [decide_eq_false_iff_not];omega
        have HQ:Hid (ofN n=([],0)):=HZ.out (by
          rw [HS.out];have h3:s.data.toList.length=s.size:=by simp
          exact List.length_eq_zero_iff.1 (by omega))
        have y0:=cell_of V5.out 0;have y1:=cell_of V5.out 1;have y2:=cell_of V5.out 2;have z0:=cell_of V25.out 0;have z1:=cell_of V25.out 1;have z2:=cell_of V25.out 2;have f0:=frozen_of V25.out 0;have f1:=frozen_of V25.out 1;have f2:=frozen_of V25.out 2;clear hs0;go_wp2_with fail
        refine num_ret (x:=.bool false) (y:=.string ⟨#[]⟩) (z:=.int .i64 0) (b:=w.heap.size) rfl (set3n V25.out _ _ _) rfl ?_;exact ⟨by rw [HQ.out];rfl,below3 B5.out (Nat.le_refl _) _ _ _⟩
      · have e1:decide ((0:Int)<(s.size:Int))=true:=by rw [decide_eq_true_eq];omega
        have e2:decide (0<s.size)=true:=by rw [decide_eq_true_eq];omega
        have HR:Hid (Num.rparse s.data.toList=.ok (false,(ofN n).1,((ofN n).2:Nat))):=by
          have h:=HPD.out (by
            rw [HS.out];have h3:s.data.toList.length=s.size:=by simp
            exact List.ne_nil_of_length_pos (by omega))
          rw [HS.out] at h;exact h
        clear hs0;go_wp2_with fail
        refine (Calls.mono C2.out ?_);rintro z w6 ⟨hz,hb6⟩;rw [HR.out] at hz;have hz:z=.returned (.tuple #[.agg #[.bool false,.string ⟨(ofN n).1.toArray⟩,.int .i64 ((ofN n).2:Nat)],.int .i64 0]):=hz;subst hz;obtain ⟨d,hd⟩:∃ d:ByteArray,⟨(ofN n).1.toArray⟩=d:=⟨_,rfl⟩;obtain ⟨x,hx⟩:∃ x:Nat,(ofN n).2=x:=⟨_,rfl⟩;rw [hd,hx];have HDX:Hid ((⟨(ofN n).1.toArray⟩:ByteArray)=d/\(ofN n).2=x):=⟨hd,hx⟩;have E6:=Hid.out (p:=Hid _) hb6;have B6:=bel B5 E6;have V6:=hst V5 E6;have V26:=hst V25 E6;have y0:=cell_of V6.out 0;have y1:=cell_of V6.out 1;have y2:=cell_of V6.out 2;have k0:=frozen_of V6.out 0;have k1:=frozen_of V6.out 1;have k2:=frozen_of V6.out 2;have z0:=cell_of V26.out 0;have z1:=cell_of V26.out 1;have z2:=cell_of V26.out 2;have f0:=frozen_of V26.out 0;have f1:=frozen_of V26.out 1;have f2:=frozen_of V26.out 2;obtain ⟨w7,hw7⟩:∃ w7,((w6.setCell ⟨w4.heap.size,0,none⟩ (.bool false)).setCell ⟨w4.heap.size,1,none⟩ (.string d)).setCell ⟨w4.heap.size,2,none⟩ (.int .i64 (x:Int))=w7:=⟨_,rfl⟩;have V7:Hid (w7.heap[w4.heap.size]?=some (.cells #[.bool false,.string d,.int .i64 (x:Int)] 25 (0,0))):=by rw [<-hw7];exact set3n V6.out _ _ _
        have V27:Hid (w7.heap[w.heap.size]?=some (.cells #[.bool false,.string ⟨#[]⟩,.int .i64 0] 25 (0,0))):=by rw [Hid,<-hw7,Below.heap_setCell _ _ _ _ HNE.out,Below.heap_setCell _ _ _ _ HNE.out,Below.heap_setCell _ _ _ _ HNE.out];exact V26.out
        have B7:Hid (Below w.heap.size w w7):=by rw [<-hw7];exact below3 B6.out B4.out.size _ _ _
        clear hb6 hd hx;have p0:=cell_of V7.out 0;have p1:=cell_of V7.out 1;have p2:=cell_of V7.out 2;have r0:=cell_of V27.out 0;have r1:=cell_of V27.out 1;have r2:=cell_of V27.out 2;have g0:=frozen_of V27.out 0;have g1:=frozen_of V27.out 1;have g2:=frozen_of V27.out 2;go_wp2_with fail
        refine num_ret (x:=.bool false) (y:=.string d) (z:=.int .i64 (x:Int)) (b:=w.heap.size) rfl (set3n V27.out _ _ _) rfl ?_;exact ⟨by rw [HDX.out.1,HDX.out.2],below3 B7.out (Nat.le_refl _) _ _ _⟩
theorem rnum_any (n:Nat) (hn:n<18446744073709551616) (A:Nat->Prop) (w:World):Calls Tryz.prog 15 #[.int .u64 n] w (ValP (numV n) A w):=by
  obtain ⟨w2,hw2,V2,B2⟩:=own8 w Raw.zero;have HO:=Hid.out (p:=Hid _) (rof06_any n hn w2)
  dsimp only [Raw.zero] at hw2
  go_enter Tryz.func15,Tryz.ntmps15
  go_wp2_with fail
  refine (Calls.mono HO.out ?_);rintro z w3 ⟨rfl,hb3⟩;have E3:=Hid.out (p:=Hid _) hb3;have V3:=hst V2 E3;have B03:=bel B2 E3;clear hb3 hw2;obtain ⟨⟨r0,r1,r2,r3,r4,r5,r6,r7⟩,g0,g1,g2,g3,g4,g5,g6,g7⟩:=val_cells V3.out;go_wp2_with fail
  refine val_ret (a:=One.numR n) (b:=w.heap.size) rfl (set8 V3.out (One.numR n)) rfl ?_;exact ⟨One.numR n,rfl,numR_is _ _ _,below8 B03.out (Nat.le_refl _) _ _ _ _ _ _ _ _⟩
theorem rstr_any (s:ByteArray) (A:Nat->Prop) (w:World):Calls Tryz.prog 72 #[.string s] w (ValP (strV s) A w):=by
  obtain ⟨w2,hw2,V2,B2⟩:=own8 w Raw.zero
  dsimp only [Raw.zero] at hw2
  obtain ⟨⟨r0,r1,r2,r3,r4,r5,r6,r7⟩,g0,g1,g2,g3,g4,g5,g6,g7⟩:=val_cells V2.out;go_enter Tryz.func72,Tryz.ntmps72
  go_wp2_with fail
  refine val_ret (a:=strR s) (b:=w.heap.size) rfl (set8 V2.out (strR s)) rfl ?_;exact ⟨strR s,rfl,strR_is _ _ _,below8 B2.out (Nat.le_refl _) _ _ _ _ _ _ _ _⟩
open Go.RowKit Strs Jdec Save Go.Proofs.YtliekocamnklfaaGreatDoor.Addr
theorem kid2 (w:World) (r1 r2:Raw):∃ w1,w.alloc (.cells #[.int .i64 r1.kind,.bool r1.is,.bool r1.neg,.string r1.dig,.int .i64 r1.exp,.string r1.str,.slice r1.ka r1.kn r1.kc,.slice r1.va r1.vn r1.vc,.int .i64 r2.kind,.bool r2.is,.bool r2.neg,.string r2.dig,.int .i64 r2.exp,.string r2.str,.slice r2.ka r2.kn r2.kc,.slice r2.va r2.vn r2.vc] 29)=w1/\Hid (w1.heap[w.heap.size]?=some (.cells ([r1,r2].flatMap Raw.cells).toArray 29 (0,0)))/\Hid (Below w.heap.size w w1):=
  ⟨_,rfl,heap_alloc_new _ _,(Below.refl _ _).alloc (Nat.le_refl _) _⟩
theorem kid3 (w:World) (r1 r2 r3:Raw):∃ w1,w.alloc (.cells #[.int .i64 r1.kind,.bool r1.is,.bool r1.neg,.string r1.dig,.int .i64 r1.exp,.string r1.str,.slice r1.ka r1.kn r1.kc,.slice r1.va r1.vn r1.vc,.int .i64 r2.kind,.bool r2.is,.bool r2.neg,.string r2.dig,.int .i64 r2.exp,.string r2.str,.slice r2.ka r2.kn r2.kc,.slice r2.va r2.vn r2.vc,.int .i64 r3.kind,.bool r3.is,.bool r3.neg,.string r3.dig,.int .i64 r3.exp,.string r3.str,.slice r3.ka r3.kn r3.kc,.slice r3.va r3.vn r3.vc] 29)=w1/\Hid (w1.heap[w.heap.size]?=some (.cells ([r1,r2,r3].flatMap Raw.cells).toArray 29 (0,0)))/\Hid (Below w.heap.size w w1):=
  ⟨_,rfl,heap_alloc_new _ _,(Below.refl _ _).alloc (Nat.le_refl _) _⟩
theorem kid4 (w:World) (r1 r2 r3 r4:Raw):∃ w1,w.alloc (.cells #[.int .i64 r1.kind,.bool r1.is,.bool r1.neg,.string r1.dig,.int .i64 r1.exp,.string r1.str,.slice r1.ka r1.kn r1.kc,.slice r1.va r1.vn r1.vc,.int .i64 r2.kind,.bool r2.is,.bool r2.neg,.string r2.dig,.int .i64 r2.exp,.string r2.str,.slice r2.ka r2.kn r2.kc,.slice r2.va r2.vn r2.vc,.int .i64 r3.kind,.bool r3.is,.bool r3.neg,.string r3.dig,.int .i64 r3.exp,.string r3.str,.slice r3.ka r3.kn r3.kc,.slice r3.va r3.vn r3.vc,.int .i64 r4.kind,.bool r4.is,.bool r4.neg,.string r4.dig,.int .i64 r4.exp,.string r4.str,.slice r4.ka r4.kn r4.kc,.slice r4.va r4.vn r4.vc] 29)=w1/\Hid (w1.heap[w.heap.size]?=some (.cells ([r1,r2,r3,r4].flatMap Raw.cells).toArray 29 (0,0)))/\Hid (Below w.heap.size w w1):=
  ⟨_,rfl,heap_alloc_new _ _,(Below.refl _ _).alloc (Nat.le_refl _) _⟩
theorem vem2 {w:World} {A:Nat->Prop} {r1 r2:Raw} {t1 t2:JV} (h1:Hid (IsV w A r1 t1)) (h2:Hid (IsV w A r2 t2)):∀ x∈([(r1,t1),(r2,t2)]:List (Raw × JV)),IsV w A x.1 x.2:=fun x hx=>by
  simp only [List.mem_cons,List.mem_nil_iff,or_false] at hx
  rcases hx with rfl | rfl
  · exact h1.out
  · exact h2.out
theorem vem3 {w:World} {A:Nat->Prop} {r1 r2 r3:Raw} {t1 t2 t3:JV} (h1:Hid (IsV w A r1 t1)) (h2:Hid (IsV w A r2 t2)) (h3:Hid (IsV w A r3 t3)):∀ x∈([(r1,t1),(r2,t2),(r3,t3)]:List (Raw × JV)),IsV w A x.1 x.2:=fun x hx=>by
  simp only [List.mem_cons,List.mem_nil_iff,or_false] at hx
  rcases hx with rfl | rfl | rfl
  · exact h1.out
  · exact h2.out
  · exact h3.out
theorem vem4 {w:World} {A:Nat->Prop} {r1 r2 r3 r4:Raw} {t1 t2 t3 t4:JV} (h1:Hid (IsV w A r1 t1)) (h2:Hid (IsV w A r2 t2)) (h3:Hid (IsV w A r3 t3)) (h4:Hid (IsV w A r4 t4)):∀ x∈([(r1,t1),(r2,t2),(r3,t3),(r4,t4)]:List (Raw × JV)),IsV w A x.1 x.2:=fun x hx=>by
  simp only [List.mem_cons,List.mem_nil_iff,or_false] at hx
  rcases hx with rfl | rfl | rfl | rfl
  · exact h1.out
  · exact h2.out
  · exact h3.out
  · exact h4.out
theorem tblk {w q:World} {cs:Array Value} {T:TypeId} (h:w.alloc (.cells cs T)=q):Hid (q.heap[w.heap.size]?=some (.cells cs T (0,0))):=by rw [<-h];exact heap_alloc_new _ _
theorem ktx {w w':World} {k:Option Addr} {l:List ByteArray} (h:Hid (IsTexts w (fun _=>True) k l)) (e:Hid (Below w.heap.size w w')):Hid (IsTexts w' (fun _=>True) k l):=h.out.turn (Turn.below e.out)
theorem flat8_at:∀ (l:List Raw) (i:Nat) (h:i<l.length) (c:Nat),c<8->(l.flatMap Raw.cells)[i*8+c]?=l[i].cells[c]?
  | x::t,0,h,c,hc=>by
    have e:x.cells.length=8:=rfl;rw [List.flatMap_cons,Nat.zero_mul,Nat.zero_add,List.getElem?_append_left (by omega)];rfl
  | x::t,i+1,h,c,hc=>by
    have e:x.cells.length=8:=rfl;rw [List.flatMap_cons,List.getElem?_append_right (by omega),e,show (i+1)*8+c-8=i*8+c by omega];exact flat8_at t i (by simpa using h) c hc
theorem obj_is {w:World} {A:Nat->Prop} {kb vb:Nat} {ks:List ByteArray} (F:List (Raw × JV)) (K:Hid (IsTexts w (fun _=>True) (some ⟨kb,0,none⟩) ks)) (V:Hid (w.heap[vb]?=some (.cells ((F.map (·.1)).flatMap Raw.cells).toArray 29 (0,0)))) (hk:A kb) (hv:A vb) (hI:∀ x∈F,IsV w A x.1 x.2) (n m:Nat) (hn:n=ks.length) (hm:m=F.length):IsV w A (objR (some ⟨kb,0,none⟩) n n (some ⟨vb,0,none⟩) m m) (objectOf ks (F.map (·.2))):=by
  subst hn hm;refine .mk (objR (some ⟨kb,0,none⟩) ks.length ks.length (some ⟨vb,0,none⟩) F.length F.length) ks (F.map (·.2)) (fun i=>(F.map (·.1)).getD i Raw.zero) rfl (by simp [objR]) ?_ (.inr ⟨vb,0,rfl,hv,heap_lt V.out,fun i hi j u hu=>?_⟩) (fun i hi=>?_)
  · rcases K.out with h | ⟨b,o,h1,h2,h3,h4⟩
    · exact .inl h
    · injection h1 with h1
      injection h1 with h1 h5
      subst h1;exact .inr ⟨kb,o,by rw [h5];rfl,hk,h3,h4⟩
  · have hi':i<F.length:=by simpa using hi
    have e:(F.map (·.1)).getD i Raw.zero=F[i].1:=by simp [List.getD,hi']
    have hj:j<8:=(List.getElem?_eq_some_iff.1 hu).1;rw [Nat.zero_add,cell_of V.out,List.getElem?_toArray,flat8_at _ i (by simpa using hi') j hj];rw [e] at hu
    simpa using hu
  · have hi':i<F.length:=by simpa using hi
    have e:(F.map (·.1)).getD i Raw.zero=F[i].1:=by simp [List.getD,hi']
    have e2:(F.map (·.2))[i]=F[i].2:=by simp
    rw [e,e2];exact hI _ (List.getElem_mem hi')
end Go.Proofs.YtliekocamnklfaaGreatDoor.One
namespace Go.Proofs.YtliekocamnklfaaGreatDoor.Jdec
open Go.RowKit Strs Go.ChangeShapes Go.WideShapes Go.ChangeAt
abbrev rb:Nat:=140737488351232
theorem weights_all {H:Type} {P:Program} {e:TypeId}:∀ (l:List (DataW H)) (d:DataW H),d∈l->∀ n∈d.weights P e,n∈DataW.weightsAll P e l
  | x::t,d,hd,n,hn=>by
    rw [DataW.weightsAll];rcases List.mem_cons.1 hd with rfl | hd
    · exact List.mem_append_left _ hn
    · exact List.mem_append_right _ (weights_all t d hd n hn)
theorem fits_val:∀ cs:List Value,cs.length=8->∃ a b c d e f g h,cs=[a,b,c,d,e,f,g,h]
  | [a,b,c,d,e,f,g,h],_=>⟨a,b,c,d,e,f,g,h,rfl⟩
theorem bytesStr:Tryz.prog.bytesOf 9=16:=by kernel_rfl
theorem bytesVal:Tryz.prog.bytesOf 29=112:=by kernel_rfl
theorem cellsVal:Tryz.prog.cellsOf 29=8:=by kernel_rfl
theorem cellsNum:Tryz.prog.cellsOf 25=3:=by kernel_rfl
theorem cellsStr1:Tryz.prog.cellsOf 9=1:=by kernel_rfl
theorem cellsInt1:Tryz.prog.cellsOf 3=1:=by kernel_rfl
theorem cellsBool1:Tryz.prog.cellsOf 4=1:=by kernel_rfl
theorem cellsSS:Tryz.prog.cellsOf 26=1:=by kernel_rfl
theorem cellsSV:Tryz.prog.cellsOf 27=1:=by kernel_rfl
section
variable {H:Type} {enc:TypeId × Value->H} {W:World} {base:Nat} {spare:Nat->Bool} {held:Bool}
theorem open_texts {fuel:Nat} {c:Value} {x:DataW H × List MemPlace} (h:DataW.trod enc Tryz.prog W base spare held fuel 26 [c]=some x) (hw:∀ n∈x.1.weights Tryz.prog 26,n<=rb):∃ (ka:Option Addr) (kc:Nat) (ks:List ByteArray),c=.slice ka ks.length kc/\IsTexts W (fun _=>True) ka ks/\ks.length<=rb/\∀ s∈ks,s.size<=rb:=by
  rcases DataW.trod_slice Tryz.underlying26 h with ⟨hcs,hx⟩ | ⟨a,len,cap,elems,rest,n,_,hcs,hx,hb,hl,hm,hlen,hel,_⟩
  · injection hcs with hcs
    exact ⟨none,0,[],hcs,.inl rfl,Nat.zero_le _,fun s hs=>by cases hs⟩
  · injection hcs with hcs
    have hw1:DataW.weights Tryz.prog 26 x.1=(elems.length+rest.length)*16::(DataW.weightsAll Tryz.prog 9 (elems.map (·.1))++DataW.weightsAll Tryz.prog 9 (rest.map (·.1))):=by
      rw [hx];simp only [DataW.weights,Tryz.underlying26,List.length_map,bytesStr]
    rw [hw1] at hw;have hlb:=hw _ (List.mem_cons_self ..);have el:∀ i,∃ s:ByteArray,i<len->W.cell? (a.add i)=some (.string s)/\s.size<=rb:=by
      intro i
      by_cases him:i<len
      · have h1:=hel i him;rw [cellsStr1,Nat.mul_one] at h1;have hie:i<elems.length:=by omega
        rw [List.getElem?_eq_getElem hie] at h1;obtain ⟨cs',hc,ht'⟩:=Option.bind_eq_some_iff.1 h1;obtain ⟨s,hs,hx2,_⟩:=DataW.trod_string Tryz.underlying9 ht';obtain ⟨_,hcl,hat⟩:=World.cells?_some hc;have hwm:s.data.toList.length<=rb:=by
          refine hw _ (List.mem_cons_of_mem _ (List.mem_append_left _ (weights_all _ elems[i].1 (List.mem_map_of_mem (List.getElem_mem hie)) _ ?_)));rw [hx2,DataW.weights];exact List.mem_singleton.2 rfl
        refine ⟨s,fun _=>⟨?_,by simpa using hwm⟩⟩;have h0:=hat 0 (by omega);subst hs;rw [Go.Deep.add_add] at h0;exact h0
      · exact ⟨⟨#[]⟩,fun h=>absurd h him⟩
    let X:Nat->ByteArray:=fun i=>(el i).choose
    have hX:∀ i,i<len->W.cell? (a.add i)=some (.string (X i))/\(X i).size<=rb:=fun i h=>(el i).choose_spec h;refine ⟨some a,cap,(List.range len).map X,by simpa using hcs,?_,by simp;omega,fun s hs=>?_⟩
    · rcases Nat.eq_zero_or_pos len with h0 | h0
      · left;subst h0;rfl
      · right
        obtain ⟨ab,ao,spot⟩:=a;have hspot:spot=none:=by simpa [Addr.add] using World.cell?_spot (hX 0 h0).1
        subst hspot;refine ⟨ab,ao,rfl,trivial,World.block_lt_of_cell? W _ (hX 0 h0).1,fun i hi=>?_⟩;have hi':i<len:=by simpa using hi
        have:=(hX i hi').1;rw [List.getElem_map,List.getElem_range];have e:(⟨ab,ao,none⟩:Addr).add i=⟨ab,ao+i,none⟩:=by unfold Addr.add;split <;> simp_all
        rw [e] at this;exact this
    · obtain ⟨i,hi,rfl⟩:=List.mem_map.1 hs;exact (hX i (List.mem_range.1 hi)).2
theorem open_val:∀ (fuel:Nat) (cs:List Value) (x:DataW H × List MemPlace),DataW.trod enc Tryz.prog W base spare held fuel 29 cs=some x->(∀ n∈x.1.weights Tryz.prog 29,n<=rb) →
    ∃ (ra:Raw) (t:JV),cs=ra.cells/\IsV W (fun _=>True) ra t/\Held rb t:=by
  intro fuel
  induction fuel using Nat.strongRecOn with
  | _ fuel ih=>
  intro cs x h hw
  obtain ⟨ys,n1,hf1,hx,hlen,hyl,hg⟩:=DataW.trod_struct Tryz.underlying29 h;have hcl:cs.length=8:=by rw [hlen];exact cellsVal
  obtain ⟨c0,c1,c2,c3,c4,c5,c6,c7,rfl⟩:=fits_val cs hcl
  match ys,hyl with
  | [y0,y1,y2,y3,y4,y5],_=>
    have g0:=hg 0 _ rfl;have g1:=hg 1 _ rfl;have g2:=hg 2 _ rfl;have g3:=hg 3 _ rfl;have g4:=hg 4 _ rfl;have g5:=hg 5 _ rfl;simp [cellsInt1,cellsBool1,cellsNum,cellsStr1,cellsSS,cellsSV] at g0 g1 g2 g3 g4 g5
    have hwt:DataW.weights Tryz.prog 29 x.1=y0.1.weights Tryz.prog 3++(y1.1.weights Tryz.prog 4++(y2.1.weights Tryz.prog 25++(y3.1.weights Tryz.prog 9++(y4.1.weights Tryz.prog 26++(y5.1.weights Tryz.prog 27++[]))))):=by
      rw [hx];simp [DataW.weights,DataW.weightsEach,Tryz.underlying29]
    rw [hwt] at hw;obtain ⟨k,e0,_,_⟩:=DataW.trod_int Tryz.underlying3 g0;obtain ⟨is,e1,_⟩:=DataW.trod_bool Tryz.underlying4 g1;obtain ⟨zs,n2,hf2,hz,hzlen,hzl,hzg⟩:=DataW.trod_struct Tryz.underlying25 g2;obtain ⟨s,e3,hs3,_⟩:=DataW.trod_string Tryz.underlying9 g3;obtain ⟨ka,kc,ks,e4,hkt,hkl,hks⟩:=open_texts g4 (fun n hn=>hw n (by simp [hn]))
    match zs,hzl with
    | [z0,z1,z2],_=>
    have f0:=hzg 0 _ rfl;have f1:=hzg 1 _ rfl;have f2:=hzg 2 _ rfl;simp [cellsInt1,cellsBool1,cellsStr1] at f0 f1 f2
    obtain ⟨ng,e20,_⟩:=DataW.trod_bool Tryz.underlying4 f0;obtain ⟨dg,e21,hs21,_⟩:=DataW.trod_string Tryz.underlying9 f1;obtain ⟨ex,e22,_,_⟩:=DataW.trod_int Tryz.underlying3 f2;simp at e0 e1 e20 e21 e22 e3
    subst e0 e1 e20 e21 e22 e3 e4;have hss:s.size<=rb:=by
      have:=hw s.data.toList.length (by rw [hs3];simp [DataW.weights])
      simpa using this
    have hdd:dg.size<=rb:=by
      have:=hw dg.data.toList.length (by rw [hz,hs21];simp [DataW.weights,DataW.weightsEach,Tryz.underlying25])
      simpa using this
    rcases DataW.trod_slice Tryz.underlying27 g5 with ⟨hcs,hx5⟩ | ⟨a,len,cap,elems,rest,n3,hf3,hcs,hx5,hb,hl,hm,hlen5,hel,_⟩
    · injection hcs with hcs
      subst hcs;exact ⟨⟨k,is,ng,dg,ex,s,ka,ks.length,kc,none,0,0⟩,.mk k is ng dg ex s ks [],rfl,.mk ⟨k,is,ng,dg,ex,s,ka,ks.length,kc,none,0,0⟩ ks [] (fun _=>Raw.zero) rfl rfl hkt (.inl rfl) (fun i hi=>absurd hi (Nat.not_lt_zero _)),.mk k is ng dg ex s ks [] hdd hss hkl (Nat.zero_le _) hks (fun j hj=>absurd hj (Nat.not_lt_zero _))⟩
    · injection hcs with hcs
      subst hcs;have hw5:DataW.weights Tryz.prog 27 y5.1=(elems.length+rest.length)*112::(DataW.weightsAll Tryz.prog 29 (elems.map (·.1))++DataW.weightsAll Tryz.prog 29 (rest.map (·.1))):=by
        rw [hx5];simp only [DataW.weights,Tryz.underlying27,List.length_map,bytesVal]
      have hlb:=hw ((elems.length+rest.length)*112) (by rw [hw5];simp);have el:∀ i,∃ p:Raw × JV,i<len->(∀ j u,p.1.cells[j]?=some u->W.cell? (a.add (i*8+j))=some u)/\IsV W (fun _=>True) p.1 p.2/\Held rb p.2:=by
        intro i
        by_cases him:i<len
        · have h1:=hel i him;rw [cellsVal] at h1;have hie:i<elems.length:=by omega
          rw [List.getElem?_eq_getElem hie] at h1;obtain ⟨cs',hc,ht'⟩:=Option.bind_eq_some_iff.1 h1;obtain ⟨r,t,hr,hi1,hi2⟩:=ih n3 (by omega) cs' elems[i] ht' (fun n hn=>hw n (by
            rw [hw5];have:=weights_all (P:=Tryz.prog) (e:=29) (elems.map (·.1)) elems[i].1 (List.mem_map_of_mem (List.getElem_mem hie)) n hn;simp [this]))
          obtain ⟨_,hcl',hat⟩:=World.cells?_some hc;refine ⟨(r,t),fun _=>⟨fun j u hu=>?_,hi1,hi2⟩⟩;have hj:j<8:=(List.getElem?_eq_some_iff.1 hu).1;have h0:=hat j (by omega);rw [Go.Deep.add_add] at h0;rw [h0];subst hr;rw [<-hu]
        · exact ⟨(Raw.zero,JV.zero),fun h=>absurd h him⟩
      let X:Nat->Raw × JV:=fun i=>(el i).choose
      have hX:∀ i,i<len->(∀ j u,(X i).1.cells[j]?=some u->W.cell? (a.add (i*8+j))=some u)/\IsV W (fun _=>True) (X i).1 (X i).2/\Held rb (X i).2:=fun i h=>(el i).choose_spec h;refine ⟨⟨k,is,ng,dg,ex,s,ka,ks.length,kc,some a,len,cap⟩,.mk k is ng dg ex s ks ((List.range len).map fun i=>(X i).2),rfl,.mk ⟨k,is,ng,dg,ex,s,ka,ks.length,kc,some a,len,cap⟩ ks _ (fun i=>(X i).1) rfl (by simp) hkt ?_ (fun i hi=>?_),.mk k is ng dg ex s ks _ hdd hss hkl (by simp;omega) hks (fun j hj=>?_)⟩
      · rcases Nat.eq_zero_or_pos len with h0 | h0
        · left;subst h0;rfl
        · right
          obtain ⟨ab,ao,spot⟩:=a;have hc0:=(hX 0 h0).1 0 _ rfl;have hspot:spot=none:=by simpa [Addr.add] using World.cell?_spot hc0
          subst hspot;refine ⟨ab,ao,rfl,trivial,World.block_lt_of_cell? W _ hc0,fun i hi j u hu=>?_⟩;have hi':i<len:=by simpa using hi
          have:=(hX i hi').1 j u hu;have e:(⟨ab,ao,none⟩:Addr).add (i*8+j)=⟨ab,ao+i*8+j,none⟩:=by unfold Addr.add;split <;> simp_all;omega
          rw [e] at this;exact this
      · have hi':i<len:=by simpa using hi
        rw [List.getElem_map,List.getElem_range];exact (hX i hi').2.1
      · have hj':j<len:=by simpa using hj
        rw [List.getElem_map,List.getElem_range];exact (hX j hj').2.2
end
theorem open_arg {H:Type} {enc:TypeId × Value->H} {W:World} {base:Nat} {v:Value} {d:DataW H} {p:List MemPlace} (hval:Value.okWide Tryz.prog W .any base 29 v) (h:DataW.Trod enc Tryz.prog W 0 (fun _=>true) true 29 v d p) (hR:∀ n∈d.weights Tryz.prog 29,n<=rb):∃ x:JV,∃ ra:Raw,v=ra.val/\IsV W (fun _=>True) ra x/\Held rb x:=by
  obtain ⟨cs,rfl,_⟩:=okWide_struct Tryz.underlying29 hval;obtain ⟨fuel,hf⟩:=h;obtain ⟨ra,t,hcs,h1,h2⟩:=open_val fuel _ _ hf hR;have hcs2:cs.toList=ra.cells:=by simpa [Value.cells] using hcs
  have e:cs=ra.arr:=by
    apply Array.toList_inj.1
    rw [hcs2];rfl
  exact ⟨t,ra,by rw [e];rfl,h1,h2⟩
end Go.Proofs.YtliekocamnklfaaGreatDoor.Jdec
namespace Go.Proofs.YtliekocamnklfaaGreatDoor.One
open Go.RowKit Strs Jdec Save Go.Proofs.YtliekocamnklfaaGreatDoor.Addr
theorem same_val {t:JV} (hf:Fine t) (hm:t.mass<=6000) {a b:Raw} {A B:Nat->Prop} {w:World} (ha:Hid (IsV w A a t)) (hb:Hid (IsV w B b t)):Calls Tryz.prog 17 #[a.val,b.val] w (BoolP true w):=
  same_alike 6000 (by decide) t (held_small (held_of hf hm)) a b A B w ha.out hb.out
end Go.Proofs.YtliekocamnklfaaGreatDoor.One
