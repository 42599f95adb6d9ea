/- lex.remark, lex.aside, lex.sign. -/
import Derived.Test.YtliekocamnklfaaGreatDoorPLexW
set_option linter.unusedVariables false
set_option linter.unusedSimpArgs false
set_option maxRecDepth 100000
set_option maxHeartbeats 4000000
namespace Go.Proofs.YtliekocamnklfaaGreatDoor.Lex
open Go.RowKit Utf Strs
structure MaxL (w:World):Prop where
  cell:∃ m:Int,w.cell? ⟨0,0,none⟩=some (.int .i64 m)
theorem MaxL.lt {w:World} (T:MaxL w):0<w.heap.size:=by
  obtain ⟨m,h⟩:=T.cell;unfold World.cell? at h;split at h
  · rename_i h1;exact heap_lt h1
  · cases h
theorem MaxL.kept {w w':World} (T:MaxL w) (h:w'.heap[0]?=w.heap[0]?):MaxL w':=by
  obtain ⟨m,hm⟩:=T.cell;exact ⟨m,(World.cell?_of_block h).trans hm⟩
theorem MaxL.stays {w w':World} (T:MaxL w) (h:Below w.heap.size w w'):MaxL w':=T.kept (h.block _ T.lt)
theorem comment_eq (kind:Nat) (l:List UInt8) (x y:Nat) (h:within l=(x,y)):comment kind l=if y≠0 then (0,0,x,y) else (kind,l.length,0,0):=by
  unfold comment;rw [h]
theorem within_le (l:List UInt8):(within l).1<=l.length:=by
  unfold within;have hs:∀ (n:Nat) (l:List UInt8) (p:Nat) (x:Nat × Nat),x∈scal n l p->x.1<=p+l.length:=by
    intro n
    induction n with
    | zero=>intro l p x h;cases h
    | succ n ih=>
      intro l p x h
      unfold scal at h;split at h
      · cases h
      split at h
      · cases h
      have h1:=(one_size_le l).1;rcases List.mem_cons.1 h with rfl | h
      · simp
      · have:=ih _ _ _ h;rw [List.length_drop] at this;omega
  have hb:∀ (n:Nat) (l:List UInt8) (p q:Nat),bad n l p=some q->q<=p+l.length:=by
    intro n
    induction n with
    | zero=>intro l p q h;cases h
    | succ n ih=>
      intro l p q h
      unfold bad at h;split at h
      · cases h
      split at h
      · injection h with h;omega
      have h1:=(one_size_le l).1;have:=ih _ _ _ h;rw [List.length_drop] at this;omega
  split
  · rename_i x hx
    have:=hs _ _ _ _ (List.mem_of_find?_eq_some hx)
    simpa using this
  · split
    · rename_i p hp
      have:=hb _ _ _ _ hp
      simpa using this
    · exact Nat.zero_le _
theorem remark_any (s:ByteArray) (w:World) (hs:s.size<=2147483648) (T:Sizes w):Calls Tryz.prog 312 #[.string s] w fun e w'=>e=.returned (val (remark s.data.toList))/\Below w.heap.size w w':=by
  have HT:=Hid.out (p:=Hid _) T;clear T;have hix:Calls Tryz.prog 104 #[.string s,.int .u8 (10:Nat)] w fun e w'=>e=.returned (.int .i64 (zidx (s.data.toList.findIdx? (· == 10))))/\w=w':=indexByte_any s 10 w (by decide);go_enter Tryz.func312,Tryz.ntmps312
  go_wp2_with fail
  cases hi:s.data.toList.findIdx? (· == 10) with
  | none=>
    simp only [hi,zidx] at hix
    have HL:Hid (line s.data.toList=s.data.toList):=by rw [Hid,line,hi]
    clear hi;refine hix.mono ?_;rintro e w' ⟨rfl,rfl⟩;clear hix;go_wp2_with fail
    refine (trimRightS_any s ⟨#[32,9,13]⟩ w (by omega) (by decide) (by decide)).mono ?_;rintro e w2 ⟨d,rfl,hd,hb2⟩;have HD:Hid (d.data.toList=(s.data.toList.reverse.dropWhile ([32,9,13].contains ·)).reverse):=hd;have hds:d.size<=s.size:=by
      have h1:=congrArg List.length hd;have h2:=Num.dropWhile_le (p:=((⟨#[32,9,13]⟩:ByteArray).data.toList.contains ·)) s.data.toList.reverse;rw [show d.data.toList.length=d.size by simp,List.length_reverse] at h1;rw [List.length_reverse,show s.data.toList.length=s.size by simp] at h2;omega
    have B2B:Hid (Below w.heap.size w w2):=hb2;have B2T:Hid (Sizes w2):=HT.out.stays hb2;clear hd hb2;go_wp2_with fail
    refine (within_any d w2 (by omega) (B2T.out)).mono ?_;rintro e w9 ⟨rfl,hb9⟩;have B9:Hid (Below w.heap.size w w9):=B2B.out.trans (hb9.mono B2B.out.size);have hwl:=within_le d.data.toList;rw [show d.data.toList.length=d.size by simp] at hwl;clear hb9
    cases hwi:within d.data.toList with
    | mk x y=>
      rw [hwi] at hwl;simp only at hwl
      have hcm:=comment_eq 6 _ _ _ hwi;by_cases hy:y=0
      · have hq:((y:Int) != 0)=false:=by rw [hy];rfl
        have HV:Hid (val (remark s.data.toList)=.tuple #[.int .i64 6,.int .i64 d.size,.int .i64 0,.int .i64 0]):=by
          rw [Hid,remark,HL.out,<-HD.out,hcm,if_neg (by simp [hy]),show d.data.toList.length=d.size by simp];rfl
        clear hcm hwi hy;go_wp2_with fail
        refine bodyPost_ret (v:=.tuple #[.int .i64 6,.int .i64 d.size,.int .i64 0,.int .i64 0]) (by simp [results,Tryz.results312,go_sem]) rfl ⟨by rw [HV.out],B9.out⟩
      · have hq:((y:Int) != 0)=true:=by rw [bne_iff_ne];omega
        have HV:Hid (val (remark s.data.toList)=.tuple #[.int .i64 0,.int .i64 0,.int .i64 x,.int .i64 y]):=by
          rw [Hid,remark,HL.out,<-HD.out,hcm,if_pos hy];rfl
        clear hcm hwi hy;go_wp2_with fail
        refine bodyPost_ret (v:=.tuple #[.int .i64 0,.int .i64 0,.int .i64 x,.int .i64 y]) (by simp [results,Tryz.results312,go_sem]) rfl ⟨by rw [HV.out],B9.out⟩
  | some i=>
    simp only [hi,zidx] at hix
    have his:i<s.size:=by have h1:=(List.findIdx?_eq_some_iff_getElem.1 hi).1;simpa using h1
    have HL:Hid (line s.data.toList=s.data.toList.take i):=by rw [Hid,line,hi]
    clear hi;refine hix.mono ?_;rintro e w' ⟨rfl,rfl⟩;clear hix;go_wp2_with fail
    obtain ⟨s1,hs1⟩:∃ t,t=s.extract 0 i:=⟨_,rfl⟩;rw [<-hs1];have HS1:Hid (s1.data.toList=s.data.toList.take i):=by rw [Hid,hs1,Lib.extract_data];simp
    have hs1s:s1.size<=s.size:=by rw [hs1,ByteArray.size_extract];omega
    clear hs1;refine (trimRightS_any s1 ⟨#[32,9,13]⟩ w (by omega) (by decide) (by decide)).mono ?_;rintro e w2 ⟨d,rfl,hd,hb2⟩;have HD:Hid (d.data.toList=(s1.data.toList.reverse.dropWhile ([32,9,13].contains ·)).reverse):=hd;have hds:d.size<=s1.size:=by
      have h1:=congrArg List.length hd;have h2:=Num.dropWhile_le (p:=((⟨#[32,9,13]⟩:ByteArray).data.toList.contains ·)) s1.data.toList.reverse;rw [show d.data.toList.length=d.size by simp,List.length_reverse] at h1;rw [List.length_reverse,show s1.data.toList.length=s1.size by simp] at h2;omega
    have B2B:Hid (Below w.heap.size w w2):=hb2;have B2T:Hid (Sizes w2):=HT.out.stays hb2;clear hd hb2;go_wp2_with fail
    refine (within_any d w2 (by omega) (B2T.out)).mono ?_;rintro e w9 ⟨rfl,hb9⟩;have B9:Hid (Below w.heap.size w w9):=B2B.out.trans (hb9.mono B2B.out.size);have hwl:=within_le d.data.toList;rw [show d.data.toList.length=d.size by simp] at hwl;clear hb9
    cases hwi:within d.data.toList with
    | mk x y=>
      rw [hwi] at hwl;simp only at hwl
      have hcm:=comment_eq 6 _ _ _ hwi;by_cases hy:y=0
      · have hq:((y:Int) != 0)=false:=by rw [hy];rfl
        have HV:Hid (val (remark s.data.toList)=.tuple #[.int .i64 6,.int .i64 d.size,.int .i64 0,.int .i64 0]):=by
          rw [Hid,remark,HL.out,<-HS1.out,<-HD.out,hcm,if_neg (by simp [hy]),show d.data.toList.length=d.size by simp];rfl
        clear hcm hwi hy;go_wp2_with fail
        refine bodyPost_ret (v:=.tuple #[.int .i64 6,.int .i64 d.size,.int .i64 0,.int .i64 0]) (by simp [results,Tryz.results312,go_sem]) rfl ⟨by rw [HV.out],B9.out⟩
      · have hq:((y:Int) != 0)=true:=by rw [bne_iff_ne];omega
        have HV:Hid (val (remark s.data.toList)=.tuple #[.int .i64 0,.int .i64 0,.int .i64 x,.int .i64 y]):=by
          rw [Hid,remark,HL.out,<-HS1.out,<-HD.out,hcm,if_pos hy];rfl
        clear hcm hwi hy;go_wp2_with fail
        refine bodyPost_ret (v:=.tuple #[.int .i64 0,.int .i64 0,.int .i64 x,.int .i64 y]) (by simp [results,Tryz.results312,go_sem]) rfl ⟨by rw [HV.out],B9.out⟩
theorem index_room (sub:List UInt8):∀ l:List UInt8,sub≠[]->0<=Lib.index l sub->(Lib.index l sub).toNat+sub.length<=l.length
  | [],h,h0=>by
    rw [Lib.index,if_neg (by simp [h])] at h0;omega
  | b::l,h,h0=>by
    rw [Lib.index] at h0 ⊢;by_cases hp:sub.isPrefixOf (b::l)=true
    · rw [if_pos hp];have:=(List.isPrefixOf_iff_prefix.1 hp).length_le
      simpa using this
    · rw [if_neg hp] at h0 ⊢;by_cases hm:(Lib.index l sub == -1)=true
      · rw [if_pos hm] at h0;omega
      · rw [if_neg hm] at h0 ⊢;have hge:=Lib.index_ge l sub;have hne:Lib.index l sub≠-1:=fun e=>hm (beq_iff_eq.2 e);have:=index_room sub l h (by omega);simp only [List.length_cons]
        omega
theorem strIndex_any (s sub:ByteArray) (w:World) (hs:s.size<4294967281) (T:MaxL w):Calls Tryz.prog 192 #[.string s,.string sub] w fun e w'=>e=.returned (.int .i64 (Lib.index s.data.toList sub.data.toList))/\w=w':=by
  obtain ⟨m,hm⟩:=T.cell;exact (Tryz.strings_Index s sub m w hs hm).mono fun e w' h=>⟨h.1,h.2.symm⟩
theorem aside_any (s:ByteArray) (w:World) (h2:2<=s.size) (hs:s.size<=2147483648) (T:Sizes w) (M:MaxL w):Calls Tryz.prog 313 #[.string s] w fun e w'=>e=.returned (val (aside s.data.toList))/\Below w.heap.size w w':=by
  have HTT:=Hid.out (p:=Hid _) T;clear T;have HM:=Hid.out (p:=Hid _) M;clear M;have hcall:=strIndex_any (s.extract 2 s.size) ⟨#[42,47]⟩ w (by rw [ByteArray.size_extract];omega) HM.out;have hge:=Lib.index_ge (s.extract 2 s.size).data.toList [42,47];have hroom:=index_room [42,47] (s.extract 2 s.size).data.toList (by simp);have hex:Hid ((s.extract 2 s.size).data.toList=s.data.toList.drop 2):=by rw [Hid,Lib.extract_data,List.take_of_length_le (by simp)]
  rw [show (s.extract 2 s.size).data.toList.length=s.size-2 by rw [hex.out];simp] at hroom;rw [show (⟨#[42,47]⟩:ByteArray).data.toList=[42,47] from rfl] at hcall;rw [hex.out] at hcall hge hroom;have HA:Hid (aside s.data.toList=if Lib.index (s.data.toList.drop 2) [42,47]<0 then (0,0,0,2)
    else if ((s.data.toList.take ((Lib.index (s.data.toList.drop 2) [42,47]).toNat+2)).findIdx? (· == 10)).isSome then (0,0,0,2)
    else comment 7 (s.data.toList.take ((Lib.index (s.data.toList.drop 2) [42,47]).toNat+4))):=rfl
  generalize Lib.index (s.data.toList.drop 2) [42,47]=z at *;clear hex;by_cases hz:z<0
  · have d1:decide (z<0)=true:=by simp;omega
    have HV:Hid (val (aside s.data.toList)=.tuple #[.int .i64 0,.int .i64 0,.int .i64 0,.int .i64 2]):=by rw [Hid,HA.out,if_pos hz];rfl
    clear hroom;go_enter Tryz.func313,Tryz.ntmps313
    go_wp2_with fail
    refine hcall.mono ?_;rintro e w' ⟨rfl,rfl⟩;clear hcall;go_wp2_with fail
    refine bodyPost_ret (v:=.tuple #[.int .i64 0,.int .i64 0,.int .i64 0,.int .i64 2]) (by simp [results,Tryz.results313,go_sem]) rfl ⟨by rw [HV.out],Below.refl _ _⟩
  · obtain ⟨n,rfl⟩:∃ n:Nat,z=n:=⟨z.toNat,by omega⟩;have hroom2:=hroom (by omega);simp only [Int.toNat_natCast,List.length_cons,List.length_nil] at hroom2
    rw [Int.toNat_natCast] at HA;have HA2:Hid (aside s.data.toList=if ((s.data.toList.take (n+2)).findIdx? (· == 10)).isSome then (0,0,0,2) else comment 7 (s.data.toList.take (n+4))):=by rw [Hid,HA.out,if_neg hz]
    clear hroom hge hz HA;have hjx:Calls Tryz.prog 104 #[.string (s.extract 0 (n+2)),.int .u8 (10:Nat)] w fun e w'=>e=.returned (.int .i64 (zidx ((s.extract 0 (n+2)).data.toList.findIdx? (· == 10))))/\w=w':=indexByte_any _ 10 w (by decide);rw [show (s.extract 0 (n+2)).data.toList=s.data.toList.take (n+2) by rw [Lib.extract_data];simp] at hjx;go_enter Tryz.func313,Tryz.ntmps313
    go_wp2_with fail
    refine hcall.mono ?_;rintro e w' ⟨rfl,rfl⟩;clear hcall;go_wp2_with fail
    cases hj:(s.data.toList.take (n+2)).findIdx? (· == 10) with
    | some j=>
      simp only [hj,zidx] at hjx
      have HV:Hid (val (aside s.data.toList)=.tuple #[.int .i64 0,.int .i64 0,.int .i64 0,.int .i64 2]):=by rw [Hid,HA2.out,hj];rfl
      clear hj;refine hjx.mono ?_;rintro e w' ⟨rfl,rfl⟩;clear hjx;go_wp2_with fail
      refine bodyPost_ret (v:=.tuple #[.int .i64 0,.int .i64 0,.int .i64 0,.int .i64 2]) (by simp [results,Tryz.results313,go_sem]) rfl ⟨by rw [HV.out],Below.refl _ _⟩
    | none=>
      simp only [hj,zidx] at hjx
      have HA3:Hid (aside s.data.toList=comment 7 (s.data.toList.take (n+4))):=by rw [Hid,HA2.out,hj];rfl
      clear hj;refine hjx.mono ?_;rintro e w' ⟨rfl,rfl⟩;clear hjx;go_wp2_with fail
      obtain ⟨s1,hs1⟩:∃ t,t=s.extract 0 (n+4):=⟨_,rfl⟩;rw [<-hs1];have HS1:Hid (s1.data.toList=s.data.toList.take (n+4)):=by rw [Hid,hs1,Lib.extract_data];simp
      have hs1s:s1.size<=s.size:=by rw [hs1,ByteArray.size_extract];omega
      clear hs1;have HB:Hid (Below w.heap.size w w):=Below.refl _ _;have HT:Hid (Sizes w):=HTT.out;refine (within_any s1 w (by omega) (HT.out)).mono ?_;rintro e w9 ⟨rfl,hb9⟩;have B9:Hid (Below w.heap.size w w9):=HB.out.trans (hb9.mono HB.out.size);have hwl:=within_le s1.data.toList;rw [show s1.data.toList.length=s1.size by simp] at hwl;clear hb9
      cases hwi:within s1.data.toList with
      | mk x y=>
        rw [hwi] at hwl;simp only at hwl
        have hcm:=comment_eq 7 _ _ _ hwi;by_cases hy:y=0
        · have hq:((y:Int) != 0)=false:=by rw [hy];rfl
          have HV:Hid (val (aside s.data.toList)=.tuple #[.int .i64 7,.int .i64 s1.size,.int .i64 0,.int .i64 0]):=by
            rw [Hid,HA3.out,<-HS1.out,hcm,if_neg (by simp [hy]),show s1.data.toList.length=s1.size by simp];rfl
          clear hcm hwi hy;go_wp2_with fail
          refine bodyPost_ret (v:=.tuple #[.int .i64 7,.int .i64 s1.size,.int .i64 0,.int .i64 0]) (by simp [results,Tryz.results313,go_sem]) rfl ⟨by rw [HV.out],B9.out⟩
        · have hq:((y:Int) != 0)=true:=by rw [bne_iff_ne];omega
          have HV:Hid (val (aside s.data.toList)=.tuple #[.int .i64 0,.int .i64 0,.int .i64 x,.int .i64 y]):=by
            rw [Hid,HA3.out,<-HS1.out,hcm,if_pos hy];rfl
          clear hcm hwi hy;go_wp2_with fail
          refine bodyPost_ret (v:=.tuple #[.int .i64 0,.int .i64 0,.int .i64 x,.int .i64 y]) (by simp [results,Tryz.results313,go_sem]) rfl ⟨by rw [HV.out],B9.out⟩
structure Dbl (w:World):Prop where
  c0:w.cell? ⟨10,0,none⟩=some (.string ⟨#[61,61]⟩)
  c1:w.cell? ⟨10,1,none⟩=some (.string ⟨#[33,61]⟩)
  c2:w.cell? ⟨10,2,none⟩=some (.string ⟨#[60,61]⟩)
  c3:w.cell? ⟨10,3,none⟩=some (.string ⟨#[62,61]⟩)
  c4:w.cell? ⟨10,4,none⟩=some (.string ⟨#[38,38]⟩)
  c5:w.cell? ⟨10,5,none⟩=some (.string ⟨#[124,124]⟩)
theorem Dbl.lt {w:World} (T:Dbl w):10<w.heap.size:=by
  have h:=T.c0;unfold World.cell? at h;split at h
  · rename_i h1;exact heap_lt h1
  · cases h
theorem Dbl.kept {w w':World} (T:Dbl w) (h:w'.heap[10]?=w.heap[10]?):Dbl w':=
  ⟨(World.cell?_of_block h).trans T.c0,(World.cell?_of_block h).trans T.c1,(World.cell?_of_block h).trans T.c2,(World.cell?_of_block h).trans T.c3,(World.cell?_of_block h).trans T.c4,(World.cell?_of_block h).trans T.c5⟩
theorem Dbl.stays {w w':World} (T:Dbl w) (h:Below w.heap.size w w'):Dbl w':=T.kept (h.block _ T.lt)
theorem sign_any (s:ByteArray) (w:World) (h0:0<s.size) (hs:s.size<=2147483648) (D:Dbl w):Calls Tryz.prog 314 #[.string s] w fun e w'=>e=.returned (.int .i64 (sign s.data.toList))/\w=w':=by
  have D0:=D.c0;have D1:=D.c1;have D2:=D.c2;have D3:=D.c3;have D4:=D.c4;have D5:=D.c5;clear D;have I0:(Instr.index 293 (.agg #[.string ⟨#[61,61]⟩,.string ⟨#[33,61]⟩,.string ⟨#[60,61]⟩,.string ⟨#[62,61]⟩,.string ⟨#[38,38]⟩,.string ⟨#[124,124]⟩]) (.int .i64 0)).run Tryz.prog w=.ok (.string ⟨#[61,61]⟩) w:=by kernel_rfl
  have I1:(Instr.index 293 (.agg #[.string ⟨#[61,61]⟩,.string ⟨#[33,61]⟩,.string ⟨#[60,61]⟩,.string ⟨#[62,61]⟩,.string ⟨#[38,38]⟩,.string ⟨#[124,124]⟩]) (.int .i64 1)).run Tryz.prog w=.ok (.string ⟨#[33,61]⟩) w:=by kernel_rfl
  have I2:(Instr.index 293 (.agg #[.string ⟨#[61,61]⟩,.string ⟨#[33,61]⟩,.string ⟨#[60,61]⟩,.string ⟨#[62,61]⟩,.string ⟨#[38,38]⟩,.string ⟨#[124,124]⟩]) (.int .i64 2)).run Tryz.prog w=.ok (.string ⟨#[60,61]⟩) w:=by kernel_rfl
  have I3:(Instr.index 293 (.agg #[.string ⟨#[61,61]⟩,.string ⟨#[33,61]⟩,.string ⟨#[60,61]⟩,.string ⟨#[62,61]⟩,.string ⟨#[38,38]⟩,.string ⟨#[124,124]⟩]) (.int .i64 3)).run Tryz.prog w=.ok (.string ⟨#[62,61]⟩) w:=by kernel_rfl
  have I4:(Instr.index 293 (.agg #[.string ⟨#[61,61]⟩,.string ⟨#[33,61]⟩,.string ⟨#[60,61]⟩,.string ⟨#[62,61]⟩,.string ⟨#[38,38]⟩,.string ⟨#[124,124]⟩]) (.int .i64 4)).run Tryz.prog w=.ok (.string ⟨#[38,38]⟩) w:=by kernel_rfl
  have I5:(Instr.index 293 (.agg #[.string ⟨#[61,61]⟩,.string ⟨#[33,61]⟩,.string ⟨#[60,61]⟩,.string ⟨#[62,61]⟩,.string ⟨#[38,38]⟩,.string ⟨#[124,124]⟩]) (.int .i64 5)).run Tryz.prog w=.ok (.string ⟨#[124,124]⟩) w:=by kernel_rfl
  have hb0:byt s.data.toList 0=s[0].toNat:=by have:=byt_drop s 0 0 (by omega);simpa using this
  have hsx:Calls Tryz.prog 104 #[.string ⟨#[61,60,62,43,45,42,47,37,33,63,58,44,46,40,41,91,93,123,125]⟩,.int .u8 s[0].toNat] w fun e w'=>e=.returned (.int .i64 (zidx (singles.findIdx? (· == UInt8.ofNat s[0].toNat))))/\w=w':=indexByte_any ⟨#[61,60,62,43,45,42,47,37,33,63,58,44,46,40,41,91,93,123,125]⟩ s[0].toNat w (UInt8.toNat_lt _);have HS:Hid (sign s.data.toList=if doubles.any (·.isPrefixOf s.data.toList) then 2 else if (singles.findIdx? (· == UInt8.ofNat s[0].toNat)).isSome then 1 else 0):=by rw [Hid,<-hb0];rfl
  clear hb0;go_enter Tryz.func314,Tryz.ntmps314
  go_wp2_with fail
  go_loop [4,6] (fun p4 p6=>∃ i:Nat,i<=6/\p6=.int .i64 i/\Hid ((doubles.take i).any (·.isPrefixOf s.data.toList)=false)) (fun p4 p6=>6-(intOf p6).toNat)
  case atStart=>exact ⟨0,by omega,rfl,rfl⟩
  case round=>
    obtain ⟨i,hi,rfl,hp⟩:=hrel;by_cases h6:i=6
    · subst h6;go_wp2_with fail
      have hp6:doubles.any (·.isPrefixOf s.data.toList)=false:=hp.out;refine hsx.mono ?_;rintro e w' ⟨rfl,rfl⟩;clear hsx
      cases hf:singles.findIdx? (· == UInt8.ofNat s[0].toNat) with
      | none=>
        have HF:Hid (sign s.data.toList=0):=by rw [Hid,HS.out,hp6,hf];rfl
        rw [show zidx none=-1 from rfl];clear hf hp6;go_wp2_with fail
        go_ret
        exact ⟨by rw [HF.out];rfl,rfl⟩
      | some j=>
        have HF:Hid (sign s.data.toList=1):=by rw [Hid,HS.out,hp6,hf];rfl
        rw [show zidx (some j)=(j:Int) from rfl];clear hf hp6;go_wp2_with fail
        go_ret
        exact ⟨by rw [HF.out];rfl,rfl⟩
    have hcs:i=0∨i=1∨i=2∨i=3∨i=4∨i=5:=by omega
    clear hi h6;rcases hcs with rfl | rfl | rfl | rfl | rfl | rfl
    · go_wp2_with fail
      refine (hasPrefix_any s ⟨#[61,61]⟩ w).mono ?_;rintro e w' ⟨rfl,rfl⟩;rw [show (⟨#[61,61]⟩:ByteArray).data.toList=[61,61] from rfl]
      cases hx:List.isPrefixOf [61,61] s.data.toList with
      | false=>
        have HN:Hid ((doubles.take 1).any (·.isPrefixOf s.data.toList)=false):=by
          have:=hp.out;rw [Hid,show doubles.take 1=doubles.take 0++[[61,61]] from rfl,List.any_append,this];simp [hx]
        clear hx;go_wp2_with fail
        go_round
        case rel=>exact ⟨1,by omega,by go_num,HN.out⟩
        case measure=>simp [intOf]
      | true=>
        have HF:Hid (sign s.data.toList=2):=by
          rw [Hid,HS.out,if_pos (by rw [List.any_eq_true];exact ⟨[61,61],by decide,hx⟩)]
        clear hx;go_wp2_with fail
        go_ret
        exact ⟨by rw [HF.out];rfl,rfl⟩
    · go_wp2_with fail
      refine (hasPrefix_any s ⟨#[33,61]⟩ w).mono ?_;rintro e w' ⟨rfl,rfl⟩;rw [show (⟨#[33,61]⟩:ByteArray).data.toList=[33,61] from rfl]
      cases hx:List.isPrefixOf [33,61] s.data.toList with
      | false=>
        have HN:Hid ((doubles.take 2).any (·.isPrefixOf s.data.toList)=false):=by
          have:=hp.out;rw [Hid,show doubles.take 2=doubles.take 1++[[33,61]] from rfl,List.any_append,this];simp [hx]
        clear hx;go_wp2_with fail
        go_round
        case rel=>exact ⟨2,by omega,by go_num,HN.out⟩
        case measure=>simp [intOf]
      | true=>
        have HF:Hid (sign s.data.toList=2):=by
          rw [Hid,HS.out,if_pos (by rw [List.any_eq_true];exact ⟨[33,61],by decide,hx⟩)]
        clear hx;go_wp2_with fail
        go_ret
        exact ⟨by rw [HF.out];rfl,rfl⟩
    · go_wp2_with fail
      refine (hasPrefix_any s ⟨#[60,61]⟩ w).mono ?_;rintro e w' ⟨rfl,rfl⟩;rw [show (⟨#[60,61]⟩:ByteArray).data.toList=[60,61] from rfl]
      cases hx:List.isPrefixOf [60,61] s.data.toList with
      | false=>
        have HN:Hid ((doubles.take 3).any (·.isPrefixOf s.data.toList)=false):=by
          have:=hp.out;rw [Hid,show doubles.take 3=doubles.take 2++[[60,61]] from rfl,List.any_append,this];simp [hx]
        clear hx;go_wp2_with fail
        go_round
        case rel=>exact ⟨3,by omega,by go_num,HN.out⟩
        case measure=>simp [intOf]
      | true=>
        have HF:Hid (sign s.data.toList=2):=by
          rw [Hid,HS.out,if_pos (by rw [List.any_eq_true];exact ⟨[60,61],by decide,hx⟩)]
        clear hx;go_wp2_with fail
        go_ret
        exact ⟨by rw [HF.out];rfl,rfl⟩
    · go_wp2_with fail
      refine (hasPrefix_any s ⟨#[62,61]⟩ w).mono ?_;rintro e w' ⟨rfl,rfl⟩;rw [show (⟨#[62,61]⟩:ByteArray).data.toList=[62,61] from rfl]
      cases hx:List.isPrefixOf [62,61] s.data.toList with
      | false=>
        have HN:Hid ((doubles.take 4).any (·.isPrefixOf s.data.toList)=false):=by
          have:=hp.out;rw [Hid,show doubles.take 4=doubles.take 3++[[62,61]] from rfl,List.any_append,this];simp [hx]
        clear hx;go_wp2_with fail
        go_round
        case rel=>exact ⟨4,by omega,by go_num,HN.out⟩
        case measure=>simp [intOf]
      | true=>
        have HF:Hid (sign s.data.toList=2):=by
          rw [Hid,HS.out,if_pos (by rw [List.any_eq_true];exact ⟨[62,61],by decide,hx⟩)]
        clear hx;go_wp2_with fail
        go_ret
        exact ⟨by rw [HF.out];rfl,rfl⟩
    · go_wp2_with fail
      refine (hasPrefix_any s ⟨#[38,38]⟩ w).mono ?_;rintro e w' ⟨rfl,rfl⟩;rw [show (⟨#[38,38]⟩:ByteArray).data.toList=[38,38] from rfl]
      cases hx:List.isPrefixOf [38,38] s.data.toList with
      | false=>
        have HN:Hid ((doubles.take 5).any (·.isPrefixOf s.data.toList)=false):=by
          have:=hp.out;rw [Hid,show doubles.take 5=doubles.take 4++[[38,38]] from rfl,List.any_append,this];simp [hx]
        clear hx;go_wp2_with fail
        go_round
        case rel=>exact ⟨5,by omega,by go_num,HN.out⟩
        case measure=>simp [intOf]
      | true=>
        have HF:Hid (sign s.data.toList=2):=by
          rw [Hid,HS.out,if_pos (by rw [List.any_eq_true];exact ⟨[38,38],by decide,hx⟩)]
        clear hx;go_wp2_with fail
        go_ret
        exact ⟨by rw [HF.out];rfl,rfl⟩
    · go_wp2_with fail
      refine (hasPrefix_any s ⟨#[124,124]⟩ w).mono ?_;rintro e w' ⟨rfl,rfl⟩;rw [show (⟨#[124,124]⟩:ByteArray).data.toList=[124,124] from rfl]
      cases hx:List.isPrefixOf [124,124] s.data.toList with
      | false=>
        have HN:Hid ((doubles.take 6).any (·.isPrefixOf s.data.toList)=false):=by
          have:=hp.out;rw [Hid,show doubles.take 6=doubles.take 5++[[124,124]] from rfl,List.any_append,this];simp [hx]
        clear hx;go_wp2_with fail
        go_round
        case rel=>exact ⟨6,by omega,by go_num,HN.out⟩
        case measure=>simp [intOf]
      | true=>
        have HF:Hid (sign s.data.toList=2):=by
          rw [Hid,HS.out,if_pos (by rw [List.any_eq_true];exact ⟨[124,124],by decide,hx⟩)]
        clear hx;go_wp2_with fail
        go_ret
        exact ⟨by rw [HF.out];rfl,rfl⟩
structure Tabs (w:World):Prop where
  z:Sizes w
  s:Num.Steps w
  m:MaxL w
  d:Dbl w
theorem Tabs.stays {w w':World} (T:Tabs w) (h:Below w.heap.size w w'):Tabs w':=⟨T.z.stays h,T.s.stays h,T.m.stays h,T.d.stays h⟩
def NPost (s:ByteArray) (w:World) (e:Ending) (w':World):Prop:=e=.returned (val (next s.data.toList))/\Below w.heap.size w w'
theorem scan_err {l:List UInt8} {k:Nat} (h:Quote.scan l=.error k):k≠0:=by
  have h4:∀ n m l k,Quote.four n m l=.error k->k≠0:=by
    intro n
    induction n with
    | zero=>intro m l k h;cases h
    | succ n ih=>
      intro m l k h
      cases l with
      | nil=>unfold Quote.four at h;injection h with h;omega
      | cons c l=>
        unfold Quote.four at h;split at h
        · injection h with h;omega
        · exact ih _ _ _ h
  have hn:∀ l k,Quote.number l=.error k->k≠0:=by
    intro l k h
    unfold Quote.number at h
    repeat' split at h
    all_goals first
      | (cases h;done)
      | (injection h with h;subst h;omega)
      | (injection h with h;subst h;exact h4 _ _ _ _ (by assumption))
  have he:∀ l k,Quote.escape l=.error k->k≠0:=by
    intro l k h
    unfold Quote.escape at h
    repeat' split at h
    all_goals first
      | (cases h;done)
      | (injection h with h;subst h;omega)
      | (injection h with h;subst h;exact hn _ _ (by assumption))
  have hp:∀ l k,Quote.part l=.error k->k≠0:=by
    intro l k h
    unfold Quote.part at h
    repeat' split at h
    all_goals first
      | (cases h;done)
      | (injection h with h;subst h;omega)
      | (injection h with h;subst h;exact he _ _ (by assumption))
  have hps:∀ n l p out k,Quote.parts n l p out=.error k->k≠0:=by
    intro n
    induction n with
    | zero=>intro l p out k h;injection h with h;omega
    | succ n ih=>
      intro l p out k h
      unfold Quote.parts at h;split at h
      · injection h with h;subst h;exact hp _ _ (by assumption)
      · exact ih _ _ _ _ h
      · cases h
  unfold Quote.scan at h;split at h
  · injection h with h;omega
  · split at h
    · injection h with h;omega
    · exact hps _ _ _ _ _ h
theorem next_ident (s:ByteArray) (w:World) (h0:0<s.size) (hs:s.size<=2147483648) (T:Tabs w) (hl:letterB s[0].toNat=true):Calls Tryz.prog 302 #[.string s] w (NPost s w):=by
  have HT:=Hid.out (p:=Hid _) T;clear T;have hb0:byt s.data.toList 0=s[0].toNat:=by have:=byt_drop s 0 0 (by omega);simpa using this
  have hn:next s.data.toList=_:=next.eq_1 s.data.toList;rw [hb0] at hn;have HV:Hid (val (next s.data.toList)=.tuple #[.int .i64 1,.int .i64 (ident s.data.toList),.int .i64 0,.int .i64 0]):=by
    rw [Hid,hn,if_pos hl];rfl
  clear hn hb0;go_enter Tryz.func302,Tryz.ntmps302
  go_wp2_with fail
  refine (letter_any s[0].toNat w).mono ?_;rintro e w' ⟨rfl,rfl⟩;rw [hl];go_wp2_with fail
  refine (ident_any s w h0 (by omega)).mono ?_;rintro e w' ⟨rfl,rfl⟩;go_wp2_with fail
  refine bodyPost_ret (v:=.tuple #[.int .i64 1,.int .i64 (ident s.data.toList),.int .i64 0,.int .i64 0]) (by simp [results,Tryz.results302,go_sem]) rfl ⟨by rw [HV.out],Below.refl _ _⟩
theorem next_dec (s:ByteArray) (w:World) (h0:0<s.size) (hs:s.size<=2147483648) (T:Tabs w) (hl:letterB s[0].toNat=false) (hd:digitB s[0].toNat=true):Calls Tryz.prog 302 #[.string s] w (NPost s w):=by
  have HT:=Hid.out (p:=Hid _) T;clear T;have hb0:byt s.data.toList 0=s[0].toNat:=by have:=byt_drop s 0 0 (by omega);simpa using this
  have hn:next s.data.toList=_:=next.eq_1 s.data.toList;rw [hb0] at hn;have HN:Hid (next s.data.toList=decimal s.data.toList):=by rw [Hid,hn,if_neg (by rw [hl];decide),if_pos hd]
  clear hn hb0;obtain ⟨a,b,c,d,hx⟩:∃ a b c d,decimal s.data.toList=(a,b,c,d):=⟨_,_,_,_,rfl⟩;have HV:Hid (val (next s.data.toList)=.tuple #[.int .i64 a,.int .i64 b,.int .i64 c,.int .i64 d]):=by rw [Hid,HN.out,hx];rfl
  have hc:=decimal_any s w hs HT.out.s;rw [hx,show val (a,b,c,d)=.tuple #[.int .i64 a,.int .i64 b,.int .i64 c,.int .i64 d] from rfl] at hc;clear hx;go_enter Tryz.func302,Tryz.ntmps302
  go_wp2_with fail
  refine (letter_any s[0].toNat w).mono ?_;rintro e w' ⟨rfl,rfl⟩;rw [hl];go_wp2_with fail
  refine (digit_any s[0].toNat w).mono ?_;rintro e w' ⟨rfl,rfl⟩;rw [hd];go_wp2_with fail
  refine hc.mono ?_;rintro e w2 ⟨rfl,hb2⟩;have B2:Hid (Below w.heap.size w w2):=hb2;clear hb2 hc;go_wp2_with fail
  refine bodyPost_ret (v:=.tuple #[.int .i64 a,.int .i64 b,.int .i64 c,.int .i64 d]) (by simp [results,Tryz.results302,go_sem]) rfl ⟨by rw [HV.out],B2.out⟩
theorem next_quo_e (s:ByteArray) (w:World) (h0:0<s.size) (hs:s.size<=2147483648) (T:Tabs w) (hl:letterB s[0].toNat=false) (hd:digitB s[0].toNat=false) (hq:s[0].toNat=34) (k:Nat) (hk:Quote.scan s.data.toList=.error k):Calls Tryz.prog 302 #[.string s] w (NPost s w):=by
  have HT:=Hid.out (p:=Hid _) T;clear T;have hb0:byt s.data.toList 0=s[0].toNat:=by have:=byt_drop s 0 0 (by omega);simpa using this
  have hn:next s.data.toList=_:=next.eq_1 s.data.toList;rw [hb0] at hn;have hk0:=scan_err hk;have HV:Hid (val (next s.data.toList)=.tuple #[.int .i64 0,.int .i64 0,.int .i64 0,.int .i64 k]):=by rw [Hid,hn,if_neg (by rw [hl];decide),if_neg (by rw [hd];decide),if_pos hq,hk];rfl
  have hc:=Quote.scan_any s w (by omega) HT.out.z;rw [show Quote.scanV s=.tuple #[.string ⟨#[]⟩,.int .i64 0,.int .i64 k] by rw [Quote.scanV,hk]] at hc;have hkk:((k:Int) != 0)=true:=by rw [bne_iff_ne];omega
  have q34:((s[0].toNat:Int) == 34)=true:=by rw [beq_iff_eq];omega
  clear hn hb0 hk hq hk0;go_enter Tryz.func302,Tryz.ntmps302
  go_wp2_with fail
  refine (letter_any s[0].toNat w).mono ?_;rintro e w' ⟨rfl,rfl⟩;rw [hl];go_wp2_with fail
  refine (digit_any s[0].toNat w).mono ?_;rintro e w' ⟨rfl,rfl⟩;rw [hd];go_wp2_with fail
  refine hc.mono ?_;rintro e w2 ⟨rfl,hb2⟩;have B2:Hid (Below w.heap.size w w2):=hb2;clear hb2 hc;go_wp2_with fail
  refine bodyPost_ret (v:=.tuple #[.int .i64 0,.int .i64 0,.int .i64 0,.int .i64 k]) (by simp [results,Tryz.results302,go_sem]) rfl ⟨by rw [HV.out],B2.out⟩
theorem next_quo (s:ByteArray) (w:World) (h0:0<s.size) (hs:s.size<=2147483648) (T:Tabs w) (hl:letterB s[0].toNat=false) (hd:digitB s[0].toNat=false) (hq:s[0].toNat=34) (o:List UInt8) (k:Nat) (hk:Quote.scan s.data.toList=.ok (o,k)):Calls Tryz.prog 302 #[.string s] w (NPost s w):=by
  have HT:=Hid.out (p:=Hid _) T;clear T;have hb0:byt s.data.toList 0=s[0].toNat:=by have:=byt_drop s 0 0 (by omega);simpa using this
  have hn:next s.data.toList=_:=next.eq_1 s.data.toList;rw [hb0] at hn;have HV:Hid (val (next s.data.toList)=.tuple #[.int .i64 3,.int .i64 k,.int .i64 0,.int .i64 0]):=by rw [Hid,hn,if_neg (by rw [hl];decide),if_neg (by rw [hd];decide),if_pos hq,hk];rfl
  have hc:=Quote.scan_any s w (by omega) HT.out.z;rw [show Quote.scanV s=.tuple #[.string ⟨o.toArray⟩,.int .i64 k,.int .i64 0] by rw [Quote.scanV,hk]] at hc;generalize (⟨o.toArray⟩:ByteArray)=os at hc;have q34:((s[0].toNat:Int) == 34)=true:=by rw [beq_iff_eq];omega
  clear hn hb0 hk hq;go_enter Tryz.func302,Tryz.ntmps302
  go_wp2_with fail
  refine (letter_any s[0].toNat w).mono ?_;rintro e w' ⟨rfl,rfl⟩;rw [hl];go_wp2_with fail
  refine (digit_any s[0].toNat w).mono ?_;rintro e w' ⟨rfl,rfl⟩;rw [hd];go_wp2_with fail
  refine hc.mono ?_;rintro e w2 ⟨rfl,hb2⟩;have B2:Hid (Below w.heap.size w w2):=hb2;clear hb2 hc;go_wp2_with fail
  refine bodyPost_ret (v:=.tuple #[.int .i64 3,.int .i64 k,.int .i64 0,.int .i64 0]) (by simp [results,Tryz.results302,go_sem]) rfl ⟨by rw [HV.out],B2.out⟩
theorem next_line (s:ByteArray) (w:World) (h0:0<s.size) (hs:s.size<=2147483648) (T:Tabs w) (hl:letterB s[0].toNat=false) (hd:digitB s[0].toNat=false) (hq:s[0].toNat=10):Calls Tryz.prog 302 #[.string s] w (NPost s w):=by
  have HT:=Hid.out (p:=Hid _) T;clear T;have hb0:byt s.data.toList 0=s[0].toNat:=by have:=byt_drop s 0 0 (by omega);simpa using this
  have hn:next s.data.toList=_:=next.eq_1 s.data.toList;rw [hb0] at hn;have HV:Hid (val (next s.data.toList)=.tuple #[.int .i64 5,.int .i64 1,.int .i64 0,.int .i64 0]):=by rw [Hid,hn,if_neg (by rw [hl];decide),if_neg (by rw [hd];decide),if_neg (by omega),if_pos hq];rfl
  have q34:((s[0].toNat:Int) == 34)=false:=by rw [beq_eq_false_iff_ne];omega
  have q10:((s[0].toNat:Int) == 10)=true:=by rw [beq_iff_eq];omega
  clear hn hb0 hq;go_enter Tryz.func302,Tryz.ntmps302
  go_wp2_with fail
  refine (letter_any s[0].toNat w).mono ?_;rintro e w' ⟨rfl,rfl⟩;rw [hl];go_wp2_with fail
  refine (digit_any s[0].toNat w).mono ?_;rintro e w' ⟨rfl,rfl⟩;rw [hd];go_wp2_with fail
  refine bodyPost_ret (v:=.tuple #[.int .i64 5,.int .i64 1,.int .i64 0,.int .i64 0]) (by simp [results,Tryz.results302,go_sem]) rfl ⟨by rw [HV.out],Below.refl _ _⟩
theorem next_rem1 (s:ByteArray) (w:World) (h0:0<s.size) (hs:s.size<=2147483648) (T:Tabs w) (hl:letterB s[0].toNat=false) (hd:digitB s[0].toNat=false) (hq:s[0].toNat≠34) (hr:s[0].toNat≠10) (hh:s[0].toNat=35):Calls Tryz.prog 302 #[.string s] w (NPost s w):=by
  have HT:=Hid.out (p:=Hid _) T;clear T;have hb0:byt s.data.toList 0=s[0].toNat:=by have:=byt_drop s 0 0 (by omega);simpa using this
  have hn:next s.data.toList=_:=next.eq_1 s.data.toList;rw [hb0] at hn;have HN:Hid (next s.data.toList=remark s.data.toList):=by rw [Hid,hn,if_neg (by rw [hl];decide),if_neg (by rw [hd];decide),if_neg hq,if_neg hr,if_pos (Or.inl hh)]
  have q34:((s[0].toNat:Int) == 34)=false:=by rw [beq_eq_false_iff_ne];omega
  have q10:((s[0].toNat:Int) == 10)=false:=by rw [beq_eq_false_iff_ne];omega
  have q35:((s[0].toNat:Int) == 35)=true:=by rw [beq_iff_eq];omega
  clear hn hb0;obtain ⟨a,b,c,d,hx⟩:∃ a b c d,remark s.data.toList=(a,b,c,d):=⟨_,_,_,_,rfl⟩;have HV:Hid (val (next s.data.toList)=.tuple #[.int .i64 a,.int .i64 b,.int .i64 c,.int .i64 d]):=by rw [Hid,HN.out,hx];rfl
  have hc:=remark_any s w hs HT.out.z;rw [hx,show val (a,b,c,d)=.tuple #[.int .i64 a,.int .i64 b,.int .i64 c,.int .i64 d] from rfl] at hc;clear hx;clear hq hr hh;go_enter Tryz.func302,Tryz.ntmps302
  go_wp2_with fail
  refine (letter_any s[0].toNat w).mono ?_;rintro e w' ⟨rfl,rfl⟩;rw [hl];go_wp2_with fail
  refine (digit_any s[0].toNat w).mono ?_;rintro e w' ⟨rfl,rfl⟩;rw [hd];go_wp2_with fail
  refine hc.mono ?_;rintro e w2 ⟨rfl,hb2⟩;have B2:Hid (Below w.heap.size w w2):=hb2;clear hb2 hc;go_wp2_with fail
  refine bodyPost_ret (v:=.tuple #[.int .i64 a,.int .i64 b,.int .i64 c,.int .i64 d]) (by simp [results,Tryz.results302,go_sem]) rfl ⟨by rw [HV.out],B2.out⟩
theorem next_rem2 (s:ByteArray) (w:World) (h0:0<s.size) (hs:s.size<=2147483648) (T:Tabs w) (hl:letterB s[0].toNat=false) (hd:digitB s[0].toNat=false) (hq:s[0].toNat≠34) (hr:s[0].toNat≠10) (hh:s[0].toNat≠35) (hp:[47,47].isPrefixOf s.data.toList=true):Calls Tryz.prog 302 #[.string s] w (NPost s w):=by
  have HT:=Hid.out (p:=Hid _) T;clear T;have hb0:byt s.data.toList 0=s[0].toNat:=by have:=byt_drop s 0 0 (by omega);simpa using this
  have hn:next s.data.toList=_:=next.eq_1 s.data.toList;rw [hb0] at hn;have HN:Hid (next s.data.toList=remark s.data.toList):=by rw [Hid,hn,if_neg (by rw [hl];decide),if_neg (by rw [hd];decide),if_neg hq,if_neg hr,if_pos (Or.inr hp)]
  have q34:((s[0].toNat:Int) == 34)=false:=by rw [beq_eq_false_iff_ne];omega
  have q10:((s[0].toNat:Int) == 10)=false:=by rw [beq_eq_false_iff_ne];omega
  have q35:((s[0].toNat:Int) == 35)=false:=by rw [beq_eq_false_iff_ne];omega
  clear hn hb0;obtain ⟨a,b,c,d,hx⟩:∃ a b c d,remark s.data.toList=(a,b,c,d):=⟨_,_,_,_,rfl⟩;have HV:Hid (val (next s.data.toList)=.tuple #[.int .i64 a,.int .i64 b,.int .i64 c,.int .i64 d]):=by rw [Hid,HN.out,hx];rfl
  have hc:=remark_any s w hs HT.out.z;rw [hx,show val (a,b,c,d)=.tuple #[.int .i64 a,.int .i64 b,.int .i64 c,.int .i64 d] from rfl] at hc;clear hx;clear hq hr hh;go_enter Tryz.func302,Tryz.ntmps302
  go_wp2_with fail
  refine (letter_any s[0].toNat w).mono ?_;rintro e w' ⟨rfl,rfl⟩;rw [hl];go_wp2_with fail
  refine (digit_any s[0].toNat w).mono ?_;rintro e w' ⟨rfl,rfl⟩;rw [hd];go_wp2_with fail
  refine (hasPrefix_any s ⟨#[47,47]⟩ w).mono ?_;rintro e w' ⟨rfl,rfl⟩;rw [show (⟨#[47,47]⟩:ByteArray).data.toList=[47,47] from rfl,hp];go_wp2_with fail
  refine hc.mono ?_;rintro e w2 ⟨rfl,hb2⟩;have B2:Hid (Below w.heap.size w w2):=hb2;clear hb2 hc;go_wp2_with fail
  refine bodyPost_ret (v:=.tuple #[.int .i64 a,.int .i64 b,.int .i64 c,.int .i64 d]) (by simp [results,Tryz.results302,go_sem]) rfl ⟨by rw [HV.out],B2.out⟩
theorem next_aside (s:ByteArray) (w:World) (h0:0<s.size) (hs:s.size<=2147483648) (T:Tabs w) (hl:letterB s[0].toNat=false) (hd:digitB s[0].toNat=false) (hq:s[0].toNat≠34) (hr:s[0].toNat≠10) (hh:s[0].toNat≠35) (hp:[47,47].isPrefixOf s.data.toList=false) (hp2:[47,42].isPrefixOf s.data.toList=true):Calls Tryz.prog 302 #[.string s] w (NPost s w):=by
  have HT:=Hid.out (p:=Hid _) T;clear T;have hb0:byt s.data.toList 0=s[0].toNat:=by have:=byt_drop s 0 0 (by omega);simpa using this
  have hn:next s.data.toList=_:=next.eq_1 s.data.toList;rw [hb0] at hn;have HN:Hid (next s.data.toList=aside s.data.toList):=by rw [Hid,hn,if_neg (by rw [hl];decide),if_neg (by rw [hd];decide),if_neg hq,if_neg hr,if_neg (by rw [hp];simp [hh]),if_pos hp2]
  have h2:2<=s.size:=by have:=(List.isPrefixOf_iff_prefix.1 hp2).length_le;simpa using this
  have q34:((s[0].toNat:Int) == 34)=false:=by rw [beq_eq_false_iff_ne];omega
  have q10:((s[0].toNat:Int) == 10)=false:=by rw [beq_eq_false_iff_ne];omega
  have q35:((s[0].toNat:Int) == 35)=false:=by rw [beq_eq_false_iff_ne];omega
  clear hn hb0;obtain ⟨a,b,c,d,hx⟩:∃ a b c d,aside s.data.toList=(a,b,c,d):=⟨_,_,_,_,rfl⟩;have HV:Hid (val (next s.data.toList)=.tuple #[.int .i64 a,.int .i64 b,.int .i64 c,.int .i64 d]):=by rw [Hid,HN.out,hx];rfl
  have hc:=aside_any s w h2 hs HT.out.z HT.out.m;rw [hx,show val (a,b,c,d)=.tuple #[.int .i64 a,.int .i64 b,.int .i64 c,.int .i64 d] from rfl] at hc;clear hx;clear hq hr hh;go_enter Tryz.func302,Tryz.ntmps302
  go_wp2_with fail
  refine (letter_any s[0].toNat w).mono ?_;rintro e w' ⟨rfl,rfl⟩;rw [hl];go_wp2_with fail
  refine (digit_any s[0].toNat w).mono ?_;rintro e w' ⟨rfl,rfl⟩;rw [hd];go_wp2_with fail
  refine (hasPrefix_any s ⟨#[47,47]⟩ w).mono ?_;rintro e w' ⟨rfl,rfl⟩;rw [show (⟨#[47,47]⟩:ByteArray).data.toList=[47,47] from rfl,hp];go_wp2_with fail
  refine (hasPrefix_any s ⟨#[47,42]⟩ w).mono ?_;rintro e w' ⟨rfl,rfl⟩;rw [show (⟨#[47,42]⟩:ByteArray).data.toList=[47,42] from rfl,hp2];go_wp2_with fail
  refine hc.mono ?_;rintro e w2 ⟨rfl,hb2⟩;have B2:Hid (Below w.heap.size w w2):=hb2;clear hb2 hc;go_wp2_with fail
  refine bodyPost_ret (v:=.tuple #[.int .i64 a,.int .i64 b,.int .i64 c,.int .i64 d]) (by simp [results,Tryz.results302,go_sem]) rfl ⟨by rw [HV.out],B2.out⟩
theorem next_sign (s:ByteArray) (w:World) (h0:0<s.size) (hs:s.size<=2147483648) (T:Tabs w) (hl:letterB s[0].toNat=false) (hd:digitB s[0].toNat=false) (hq:s[0].toNat≠34) (hr:s[0].toNat≠10) (hh:s[0].toNat≠35) (hp:[47,47].isPrefixOf s.data.toList=false) (hp2:[47,42].isPrefixOf s.data.toList=false) (hg:0<sign s.data.toList):Calls Tryz.prog 302 #[.string s] w (NPost s w):=by
  have HT:=Hid.out (p:=Hid _) T;clear T;have hb0:byt s.data.toList 0=s[0].toNat:=by have:=byt_drop s 0 0 (by omega);simpa using this
  have hn:next s.data.toList=_:=next.eq_1 s.data.toList;rw [hb0] at hn;have HV:Hid (val (next s.data.toList)=.tuple #[.int .i64 4,.int .i64 (sign s.data.toList),.int .i64 0,.int .i64 0]):=by rw [Hid,hn,if_neg (by rw [hl];decide),if_neg (by rw [hd];decide),if_neg hq,if_neg hr,if_neg (by rw [hp];simp [hh]),if_neg (by rw [hp2];decide),if_pos hg];rfl
  have dg:decide (0<(sign s.data.toList:Int))=true:=by simp;omega
  have q34:((s[0].toNat:Int) == 34)=false:=by rw [beq_eq_false_iff_ne];omega
  have q10:((s[0].toNat:Int) == 10)=false:=by rw [beq_eq_false_iff_ne];omega
  have q35:((s[0].toNat:Int) == 35)=false:=by rw [beq_eq_false_iff_ne];omega
  clear hn hb0 hq hr hh;go_enter Tryz.func302,Tryz.ntmps302
  go_wp2_with fail
  refine (letter_any s[0].toNat w).mono ?_;rintro e w' ⟨rfl,rfl⟩;rw [hl];go_wp2_with fail
  refine (digit_any s[0].toNat w).mono ?_;rintro e w' ⟨rfl,rfl⟩;rw [hd];go_wp2_with fail
  refine (hasPrefix_any s ⟨#[47,47]⟩ w).mono ?_;rintro e w' ⟨rfl,rfl⟩;rw [show (⟨#[47,47]⟩:ByteArray).data.toList=[47,47] from rfl,hp];go_wp2_with fail
  refine (hasPrefix_any s ⟨#[47,42]⟩ w).mono ?_;rintro e w' ⟨rfl,rfl⟩;rw [show (⟨#[47,42]⟩:ByteArray).data.toList=[47,42] from rfl,hp2];go_wp2_with fail
  refine (sign_any s w h0 hs HT.out.d).mono ?_;rintro e w' ⟨rfl,rfl⟩;go_wp2_with fail
  refine bodyPost_ret (v:=.tuple #[.int .i64 4,.int .i64 (sign s.data.toList),.int .i64 0,.int .i64 0]) (by simp [results,Tryz.results302,go_sem]) rfl ⟨by rw [HV.out],Below.refl _ _⟩
theorem next_none (s:ByteArray) (w:World) (h0:0<s.size) (hs:s.size<=2147483648) (T:Tabs w) (hl:letterB s[0].toNat=false) (hd:digitB s[0].toNat=false) (hq:s[0].toNat≠34) (hr:s[0].toNat≠10) (hh:s[0].toNat≠35) (hp:[47,47].isPrefixOf s.data.toList=false) (hp2:[47,42].isPrefixOf s.data.toList=false) (hg:¬ 0<sign s.data.toList):Calls Tryz.prog 302 #[.string s] w (NPost s w):=by
  have HT:=Hid.out (p:=Hid _) T;clear T;have hb0:byt s.data.toList 0=s[0].toNat:=by have:=byt_drop s 0 0 (by omega);simpa using this
  have hn:next s.data.toList=_:=next.eq_1 s.data.toList;rw [hb0] at hn;have HV:Hid (val (next s.data.toList)=.tuple #[.int .i64 0,.int .i64 0,.int .i64 0,.int .i64 3]):=by rw [Hid,hn,if_neg (by rw [hl];decide),if_neg (by rw [hd];decide),if_neg hq,if_neg hr,if_neg (by rw [hp];simp [hh]),if_neg (by rw [hp2];decide),if_neg hg];rfl
  have dg:decide (0<(sign s.data.toList:Int))=false:=by simp;omega
  have q34:((s[0].toNat:Int) == 34)=false:=by rw [beq_eq_false_iff_ne];omega
  have q10:((s[0].toNat:Int) == 10)=false:=by rw [beq_eq_false_iff_ne];omega
  have q35:((s[0].toNat:Int) == 35)=false:=by rw [beq_eq_false_iff_ne];omega
  clear hn hb0 hq hr hh;go_enter Tryz.func302,Tryz.ntmps302
  go_wp2_with fail
  refine (letter_any s[0].toNat w).mono ?_;rintro e w' ⟨rfl,rfl⟩;rw [hl];go_wp2_with fail
  refine (digit_any s[0].toNat w).mono ?_;rintro e w' ⟨rfl,rfl⟩;rw [hd];go_wp2_with fail
  refine (hasPrefix_any s ⟨#[47,47]⟩ w).mono ?_;rintro e w' ⟨rfl,rfl⟩;rw [show (⟨#[47,47]⟩:ByteArray).data.toList=[47,47] from rfl,hp];go_wp2_with fail
  refine (hasPrefix_any s ⟨#[47,42]⟩ w).mono ?_;rintro e w' ⟨rfl,rfl⟩;rw [show (⟨#[47,42]⟩:ByteArray).data.toList=[47,42] from rfl,hp2];go_wp2_with fail
  refine (sign_any s w h0 hs HT.out.d).mono ?_;rintro e w' ⟨rfl,rfl⟩;go_wp2_with fail
  refine bodyPost_ret (v:=.tuple #[.int .i64 0,.int .i64 0,.int .i64 0,.int .i64 3]) (by simp [results,Tryz.results302,go_sem]) rfl ⟨by rw [HV.out],Below.refl _ _⟩
theorem next_any (s:ByteArray) (w:World) (h0:0<s.size) (hs:s.size<=2147483648) (T:Tabs w):Calls Tryz.prog 302 #[.string s] w (NPost s w):=by
  cases hl:letterB s[0].toNat with
  | true=>exact next_ident s w h0 hs T hl
  | false=>
  cases hd:digitB s[0].toNat with
  | true=>exact next_dec s w h0 hs T hl hd
  | false=>
  by_cases hq:s[0].toNat=34
  · cases hk:Quote.scan s.data.toList with
    | error k=>exact next_quo_e s w h0 hs T hl hd hq k hk
    | ok x=>exact next_quo s w h0 hs T hl hd hq x.1 x.2 hk
  by_cases hr:s[0].toNat=10
  · exact next_line s w h0 hs T hl hd hr
  by_cases hh:s[0].toNat=35
  · exact next_rem1 s w h0 hs T hl hd hq hr hh
  cases hp:List.isPrefixOf [47,47] s.data.toList with
  | true=>exact next_rem2 s w h0 hs T hl hd hq hr hh hp
  | false=>
  cases hp2:List.isPrefixOf [47,42] s.data.toList with
  | true=>exact next_aside s w h0 hs T hl hd hq hr hh hp hp2
  | false=>
  by_cases hg:0<sign s.data.toList
  · exact next_sign s w h0 hs T hl hd hq hr hh hp hp2 hg
  · exact next_none s w h0 hs T hl hd hq hr hh hp hp2 hg
end Go.Proofs.YtliekocamnklfaaGreatDoor.Lex
