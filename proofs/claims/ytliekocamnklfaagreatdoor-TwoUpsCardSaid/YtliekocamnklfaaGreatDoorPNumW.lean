/- num.signOf, num.isWhole, num.Scan. -/
import Derived.Test.YtliekocamnklfaaGreatDoorPPlainA
import Derived.Test.YtliekocamnklfaaGreatDoorPFrame
set_option linter.unusedVariables false
set_option linter.unusedSimpArgs false
set_option maxRecDepth 100000
set_option maxHeartbeats 8000000
namespace Go.Proofs.YtliekocamnklfaaGreatDoor.Num
open Go.RowKit
theorem signOf_minus (c:Nat) (w:World) (hc:c=45):Calls Tryz.prog 258 #[.int .u8 c] w fun e w'=>e=.returned (.int .i64 0)/\w=w':=by
  have q45:((c:Int) == 45)=true:=by rw [beq_iff_eq];omega
  clear hc;go_enter Tryz.func258,Tryz.ntmps258
  go_wp2_with fail
  go_ret
  exact ⟨rfl,rfl⟩
theorem signOf_plus (c:Nat) (w:World) (hc:c=43):Calls Tryz.prog 258 #[.int .u8 c] w fun e w'=>e=.returned (.int .i64 1)/\w=w':=by
  have q45:((c:Int) == 45)=false:=by rw [beq_eq_false_iff_ne];omega
  have q43:((c:Int) == 43)=true:=by rw [beq_iff_eq];omega
  clear hc;go_enter Tryz.func258,Tryz.ntmps258
  go_wp2_with fail
  go_ret
  exact ⟨rfl,rfl⟩
theorem signOf_nought (c:Nat) (w:World) (hc:c=48):Calls Tryz.prog 258 #[.int .u8 c] w fun e w'=>e=.returned (.int .i64 2)/\w=w':=by
  have q45:((c:Int) == 45)=false:=by rw [beq_eq_false_iff_ne];omega
  have q43:((c:Int) == 43)=false:=by rw [beq_eq_false_iff_ne];omega
  have q48:((c:Int) == 48)=true:=by rw [beq_iff_eq];omega
  clear hc;go_enter Tryz.func258,Tryz.ntmps258
  go_wp2_with fail
  go_ret
  exact ⟨rfl,rfl⟩
theorem signOf_digit (c:Nat) (w:World) (hc:49<=c/\c<=57):Calls Tryz.prog 258 #[.int .u8 c] w fun e w'=>e=.returned (.int .i64 3)/\w=w':=by
  have q45:((c:Int) == 45)=false:=by rw [beq_eq_false_iff_ne];omega
  have q43:((c:Int) == 43)=false:=by rw [beq_eq_false_iff_ne];omega
  have q48:((c:Int) == 48)=false:=by rw [beq_eq_false_iff_ne];omega
  have g1:decide (49<=(c:Int))=true:=by simp;omega
  have g2:decide ((c:Int)<=57)=true:=by simp;omega
  clear hc;go_enter Tryz.func258,Tryz.ntmps258
  go_wp2_with fail
  go_ret
  exact ⟨rfl,rfl⟩
theorem signOf_point (c:Nat) (w:World) (hc:c=46):Calls Tryz.prog 258 #[.int .u8 c] w fun e w'=>e=.returned (.int .i64 4)/\w=w':=by
  have q45:((c:Int) == 45)=false:=by rw [beq_eq_false_iff_ne];omega
  have q43:((c:Int) == 43)=false:=by rw [beq_eq_false_iff_ne];omega
  have q48:((c:Int) == 48)=false:=by rw [beq_eq_false_iff_ne];omega
  have g1:decide (49<=(c:Int))=false:=by simp;omega
  have q46:((c:Int) == 46)=true:=by rw [beq_iff_eq];omega
  clear hc;go_enter Tryz.func258,Tryz.ntmps258
  go_wp2_with fail
  go_ret
  exact ⟨rfl,rfl⟩
theorem signOf_marke (c:Nat) (w:World) (hc:c=101):Calls Tryz.prog 258 #[.int .u8 c] w fun e w'=>e=.returned (.int .i64 5)/\w=w':=by
  have q45:((c:Int) == 45)=false:=by rw [beq_eq_false_iff_ne];omega
  have q43:((c:Int) == 43)=false:=by rw [beq_eq_false_iff_ne];omega
  have q48:((c:Int) == 48)=false:=by rw [beq_eq_false_iff_ne];omega
  have g1:decide (49<=(c:Int))=true:=by simp;omega
  have g2:decide ((c:Int)<=57)=false:=by simp;omega
  have q46:((c:Int) == 46)=false:=by rw [beq_eq_false_iff_ne];omega
  have q101:((c:Int) == 101)=true:=by rw [beq_iff_eq];omega
  clear hc;go_enter Tryz.func258,Tryz.ntmps258
  go_wp2_with fail
  go_ret
  exact ⟨rfl,rfl⟩
theorem signOf_markE (c:Nat) (w:World) (hc:c=69):Calls Tryz.prog 258 #[.int .u8 c] w fun e w'=>e=.returned (.int .i64 5)/\w=w':=by
  have q45:((c:Int) == 45)=false:=by rw [beq_eq_false_iff_ne];omega
  have q43:((c:Int) == 43)=false:=by rw [beq_eq_false_iff_ne];omega
  have q48:((c:Int) == 48)=false:=by rw [beq_eq_false_iff_ne];omega
  have g1:decide (49<=(c:Int))=true:=by simp;omega
  have g2:decide ((c:Int)<=57)=false:=by simp;omega
  have q46:((c:Int) == 46)=false:=by rw [beq_eq_false_iff_ne];omega
  have q101:((c:Int) == 101)=false:=by rw [beq_eq_false_iff_ne];omega
  have q69:((c:Int) == 69)=true:=by rw [beq_iff_eq];omega
  clear hc;go_enter Tryz.func258,Tryz.ntmps258
  go_wp2_with fail
  go_ret
  exact ⟨rfl,rfl⟩
theorem signOf_low (c:Nat) (w:World) (hc:c<49/\c≠45/\c≠43/\c≠48/\c≠46):Calls Tryz.prog 258 #[.int .u8 c] w fun e w'=>e=.returned (.int .i64 6)/\w=w':=by
  have q45:((c:Int) == 45)=false:=by rw [beq_eq_false_iff_ne];omega
  have q43:((c:Int) == 43)=false:=by rw [beq_eq_false_iff_ne];omega
  have q48:((c:Int) == 48)=false:=by rw [beq_eq_false_iff_ne];omega
  have g1:decide (49<=(c:Int))=false:=by simp;omega
  have q46:((c:Int) == 46)=false:=by rw [beq_eq_false_iff_ne];omega
  have q101:((c:Int) == 101)=false:=by rw [beq_eq_false_iff_ne];omega
  have q69:((c:Int) == 69)=false:=by rw [beq_eq_false_iff_ne];omega
  clear hc;go_enter Tryz.func258,Tryz.ntmps258
  go_wp2_with fail
  go_ret
  exact ⟨rfl,rfl⟩
theorem signOf_high (c:Nat) (w:World) (hc:57<c/\c≠101/\c≠69):Calls Tryz.prog 258 #[.int .u8 c] w fun e w'=>e=.returned (.int .i64 6)/\w=w':=by
  have q45:((c:Int) == 45)=false:=by rw [beq_eq_false_iff_ne];omega
  have q43:((c:Int) == 43)=false:=by rw [beq_eq_false_iff_ne];omega
  have q48:((c:Int) == 48)=false:=by rw [beq_eq_false_iff_ne];omega
  have g1:decide (49<=(c:Int))=true:=by simp;omega
  have g2:decide ((c:Int)<=57)=false:=by simp;omega
  have q46:((c:Int) == 46)=false:=by rw [beq_eq_false_iff_ne];omega
  have q101:((c:Int) == 101)=false:=by rw [beq_eq_false_iff_ne];omega
  have q69:((c:Int) == 69)=false:=by rw [beq_eq_false_iff_ne];omega
  clear hc;go_enter Tryz.func258,Tryz.ntmps258
  go_wp2_with fail
  go_ret
  exact ⟨rfl,rfl⟩
theorem signOf_any (c:Nat) (w:World):Calls Tryz.prog 258 #[.int .u8 c] w fun e w'=>e=.returned (.int .i64 (sgn c))/\w=w':=by
  unfold sgn;by_cases h1:c=45
  · rw [if_pos h1];exact signOf_minus c w h1
  rw [if_neg h1];by_cases h2:c=43
  · rw [if_pos h2];exact signOf_plus c w h2
  rw [if_neg h2];by_cases h3:c=48
  · rw [if_pos h3];exact signOf_nought c w h3
  rw [if_neg h3];by_cases h4:49<=c/\c<=57
  · rw [if_pos h4];exact signOf_digit c w h4
  rw [if_neg h4];by_cases h5:c=46
  · rw [if_pos h5];exact signOf_point c w h5
  rw [if_neg h5];by_cases h6:c=101
  · rw [if_pos (Or.inl h6)];exact signOf_marke c w h6
  by_cases h7:c=69
  · rw [if_pos (Or.inr h7)];exact signOf_markE c w h7
  rw [if_neg (by omega)];by_cases h8:c<49
  · exact signOf_low c w ⟨h8,h1,h2,h3,h5⟩
  · exact signOf_high c w ⟨by omega,h6,h7⟩
theorem isWhole_0 (w:World):Calls Tryz.prog 259 #[.int .i64 0] w fun e w'=>e=.returned (.bool false)/\w=w':=by
  go_enter Tryz.func259,Tryz.ntmps259
  go_wp2_with fail
  go_ret
  exact ⟨rfl,rfl⟩
theorem isWhole_1 (w:World):Calls Tryz.prog 259 #[.int .i64 1] w fun e w'=>e=.returned (.bool false)/\w=w':=by
  go_enter Tryz.func259,Tryz.ntmps259
  go_wp2_with fail
  go_ret
  exact ⟨rfl,rfl⟩
theorem isWhole_2 (w:World):Calls Tryz.prog 259 #[.int .i64 2] w fun e w'=>e=.returned (.bool true)/\w=w':=by
  go_enter Tryz.func259,Tryz.ntmps259
  go_wp2_with fail
  go_ret
  exact ⟨rfl,rfl⟩
theorem isWhole_3 (w:World):Calls Tryz.prog 259 #[.int .i64 3] w fun e w'=>e=.returned (.bool true)/\w=w':=by
  go_enter Tryz.func259,Tryz.ntmps259
  go_wp2_with fail
  go_ret
  exact ⟨rfl,rfl⟩
theorem isWhole_4 (w:World):Calls Tryz.prog 259 #[.int .i64 4] w fun e w'=>e=.returned (.bool false)/\w=w':=by
  go_enter Tryz.func259,Tryz.ntmps259
  go_wp2_with fail
  go_ret
  exact ⟨rfl,rfl⟩
theorem isWhole_5 (w:World):Calls Tryz.prog 259 #[.int .i64 5] w fun e w'=>e=.returned (.bool true)/\w=w':=by
  go_enter Tryz.func259,Tryz.ntmps259
  go_wp2_with fail
  go_ret
  exact ⟨rfl,rfl⟩
theorem isWhole_6 (w:World):Calls Tryz.prog 259 #[.int .i64 6] w fun e w'=>e=.returned (.bool false)/\w=w':=by
  go_enter Tryz.func259,Tryz.ntmps259
  go_wp2_with fail
  go_ret
  exact ⟨rfl,rfl⟩
theorem isWhole_7 (w:World):Calls Tryz.prog 259 #[.int .i64 7] w fun e w'=>e=.returned (.bool false)/\w=w':=by
  go_enter Tryz.func259,Tryz.ntmps259
  go_wp2_with fail
  go_ret
  exact ⟨rfl,rfl⟩
theorem isWhole_8 (w:World):Calls Tryz.prog 259 #[.int .i64 8] w fun e w'=>e=.returned (.bool true)/\w=w':=by
  go_enter Tryz.func259,Tryz.ntmps259
  go_wp2_with fail
  go_ret
  exact ⟨rfl,rfl⟩
theorem isWhole_any (st:Nat) (h:st<9) (w:World):Calls Tryz.prog 259 #[.int .i64 st] w fun e w'=>e=.returned (.bool (whole st))/\w=w':=by
  match st,h with
  | 0,_=>exact isWhole_0 w
  | 1,_=>exact isWhole_1 w
  | 2,_=>exact isWhole_2 w
  | 3,_=>exact isWhole_3 w
  | 4,_=>exact isWhole_4 w
  | 5,_=>exact isWhole_5 w
  | 6,_=>exact isWhole_6 w
  | 7,_=>exact isWhole_7 w
  | 8,_=>exact isWhole_8 w
theorem drop_byte (s:ByteArray) (i:Nat) (h:i<s.size):s.data.toList.drop i=s[i]::s.data.toList.drop (i+1):=by
  rw [List.drop_eq_getElem_cons (show i<s.data.toList.length by simpa using h)];rfl
structure Steps (w:World):Prop where
  cell:∀ st sg,st<9->sg<7->w.cell? ⟨2,st*7+sg,none⟩=some (.int .i64 (step st sg))
theorem Steps.lt {w:World} (T:Steps w):2<w.heap.size:=by
  have h:=T.cell 0 0 (by omega) (by omega);unfold World.cell? at h;split at h
  · rename_i h1;exact heap_lt h1
  · cases h
theorem Steps.kept {w w':World} (T:Steps w) (h:w'.heap[2]?=w.heap[2]?):Steps w':=
  ⟨fun st sg h1 h2=>(World.cell?_of_block h).trans (T.cell st sg h1 h2)⟩
theorem Steps.stays {w w':World} (T:Steps w) (h:Below w.heap.size w w'):Steps w':=T.kept (h.block _ T.lt)
theorem scan_any (s:ByteArray) (w:World) (hs:s.size<=4611686018427387904) (T:Steps w):Calls Tryz.prog 211 #[.string s] w fun e w'=>e=.returned (.int .i64 (scan s.data.toList))/\∃ n,w'=w.drewN n:=by
  have HT:=Hid.out (p:=Hid _) T;clear T;go_enter Tryz.func211,Tryz.ntmps211
  go_wp2_with fail
  go_loopw [3,4,5,8] (fun p3 p4 p5 p8 wr=>∃ (i st k:Nat),i<=s.size/\k<=s.size/\st<9/\p3=.int .i64 k/\p4=.int .i64 st/\p8=.int .i64 i/\Hid (∃ n,wr=w.drewN n)/\Hid (scan s.data.toList=from_ st i k (s.data.toList.drop i))) (fun p3 p4 p5 p8 _=>s.size-(intOf p8).toNat)
  case atStart=>exact ⟨0,0,0,Nat.zero_le _,Nat.zero_le _,by omega,rfl,rfl,rfl,⟨0,rfl⟩,rfl⟩
  case round=>
    obtain ⟨i,st,k,hi,hk,hst,rfl,rfl,rfl,hw,hsc⟩:=hrel;by_cases hlt:i<s.size
    · have T2:Hid (Steps wr):=by obtain ⟨n,rfl⟩:=hw.out;exact ⟨fun st sg h1 h2=>HT.out.cell st sg h1 h2⟩
      have hsg:=sgn_lt s[i].toNat;have hcl:=T2.out.cell st (sgn s[i].toNat) hst hsg;have hle:=step_le st hst _ hsg;have hcons:=drop_byte s i hlt;have HS:Hid (from_ st i k (s.data.toList.drop i)=if step st (sgn s[i].toNat)=9 then k else from_ (step st (sgn s[i].toNat)) (i+1) (if whole (step st (sgn s[i].toNat)) then i+1 else k) (s.data.toList.drop (i+1))):=by rw [Hid,hcons,from_]
      clear hcons;generalize hc:s[i].toNat=c at *;generalize hg:sgn c=sg at *;generalize hx:step st sg=x at *;have hgs:Hid (sgn c=sg):=hg;clear hg hx;have hsig:∀ n,Calls Tryz.prog 258 #[.int .u8 c] (wr.drewN n) fun e w''=>e=.returned (.int .i64 sg)/\∃ m,w''=wr.drewN m:=fun n=>
        Calls.quiet_of_same ((signOf_any c (wr.drewN n)).mono fun e w' h=>⟨by rw [h.1,hgs.out],h.2.symm⟩)
      go_wp2_with fail
      go_quiet ((go_at_call 258;exact hsig _))
      have W2:Hid (∃ n,wr.drewN nq=w.drewN n):=by obtain ⟨n,rfl⟩:=hw.out;exact ⟨_,World.drewN_drewN _ _ _⟩
      generalize wr.drewN nq=w2 at *;by_cases h9:x=9
      · have q9:((x:Int) == 9)=true:=by rw [beq_iff_eq];omega
        have HF:Hid (scan s.data.toList=k):=by rw [Hid,hsc.out,HS.out,if_pos h9]
        clear h9;go_wp2_with fail
        go_ret
        exact ⟨by rw [HF.out];rfl,W2.out⟩
      · have q9:((x:Int) == 9)=false:=by rw [beq_eq_false_iff_ne];omega
        have hx9:x<9:=by omega
        go_wp2_with fail
        refine (isWhole_any x hx9 w2).mono ?_;rintro e w' ⟨rfl,rfl⟩;cases hwh:whole x
        · have HF:Hid (scan s.data.toList=from_ x (i+1) k (s.data.toList.drop (i+1))):=by rw [Hid,hsc.out,HS.out,if_neg h9,hwh];rfl
          clear hwh h9;go_wp2_with fail
          go_roundw
          case rel=>exact ⟨i+1,x,k,by omega,hk,hx9,rfl,rfl,by go_num,W2.out,HF.out⟩
          case measure=>simp [intOf];omega
        · have HF:Hid (scan s.data.toList=from_ x (i+1) (i+1) (s.data.toList.drop (i+1))):=by rw [Hid,hsc.out,HS.out,if_neg h9,hwh];rfl
          clear hwh h9;go_wp2_with fail
          go_roundw
          case rel=>exact ⟨i+1,x,i+1,by omega,by omega,hx9,by go_num,rfl,by go_num,W2.out,HF.out⟩
          case measure=>simp [intOf];omega
    · have hend:s.data.toList.drop i=[]:=by apply List.drop_eq_nil_of_le;simp;omega
      have HF:Hid (scan s.data.toList=k):=by rw [Hid,hsc.out,hend,from_]
      clear hend;go_wp2_with fail
      go_ret
      exact ⟨by rw [HF.out];rfl,hw.out⟩
theorem extract1 (s:ByteArray):(s.extract 1 s.size).data.toList=s.data.toList.drop 1:=by
  simp [ByteArray.data_extract,Array.toList_extract,List.extract_eq_take_drop]
  rw [List.take_of_length_le (by simp)]
theorem foldl_drop (l:List UInt8) (t:ByteArray) (n i:Nat) (h:i<t.size):(t.data.toList.drop i).foldl pstep n=(t.data.toList.drop (i+1)).foldl pstep (pstep n t[i]):=by
  rw [drop_byte t i h];rfl
theorem wrap_sub48 (c:Nat) (h:c<256):IntKind.u8.wrap ((c:Int)-48)=(((c+208) % 256:Nat):Int):=by
  simp [IntKind.wrap,IntKind.bits,IntKind.signed];omega
theorem power_m (s:ByteArray) (w:World) (h:0<s.size) (hs:s.size<=4611686018427387904) (hc:s[0].toNat=45):Calls Tryz.prog 262 #[.string s] w fun e w'=>e=.returned (.int .i64 (power s.data.toList))/\w=w':=by
  have hl0:s.data.toList=s[0]::s.data.toList.drop 1:=by have:=drop_byte s 0 h;simpa using this
  obtain ⟨t,ht⟩:∃ t,t=s.extract 1 s.size:=⟨_,rfl⟩;have htl:t.data.toList=s.data.toList.drop 1:=by rw [ht];exact extract1 s
  have hts0:s.size-1=t.size:=by rw [ht,ByteArray.size_extract];omega
  have hsz:t.size<=4611686018427387904:=by omega
  have hts:=Hid.out (p:=Hid _) hts0;clear hts0;have HP:Hid (power s.data.toList=-(pdigits t.data.toList:Int)):=by
    unfold Hid;rw [hl0];show (if s[0].toNat=45 then _ else _)=_;rw [if_pos hc,<-htl]
  have q45:((s[0].toNat:Int) == 45)=true:=by rw [beq_iff_eq];omega
  clear hc hl0 htl;go_enter Tryz.func262,Tryz.ntmps262
  go_wp2_with fail
  rw [<-ht,hts.out];clear ht
  go_loop [4,5,19] (fun p4 p5 p19=>∃ (i n:Nat),i<=t.size/\n<=1099511627776/\p4=.int .i64 n/\p19=.int .i64 i/\Hid (pdigits t.data.toList=(t.data.toList.drop i).foldl pstep n)) (fun p4 p5 p19=>t.size-(intOf p19).toNat)
  case atStart=>exact ⟨0,0,Nat.zero_le _,by omega,rfl,rfl,rfl⟩
  case round=>
    obtain ⟨i,n,hi,hn,rfl,rfl,hf⟩:=hrel;by_cases hlt:i<t.size
    · have HS:Hid (pdigits t.data.toList=(t.data.toList.drop (i+1)).foldl pstep (pstep n t[i])):=by rw [Hid,hf.out,foldl_drop s.data.toList t n i hlt]
      have hps:=pstep_le n t[i];have hw8:=wrap_sub48 t[i].toNat (UInt8.toNat_lt _);have hdd:(t[i].toNat+208) % 256<256:=Nat.mod_lt _ (by omega);have hmin:(if (1099511627776:Int)<(n:Int)*10+(((t[i].toNat+208) % 256:Nat):Int) then (1099511627776:Int) else (n:Int)*10+(((t[i].toNat+208) % 256:Nat):Int))=(pstep n t[i]:Int):=by
        unfold pstep;split <;> omega
      have hmin2:min ((n:Int)*10+(((t[i].toNat+208) % 256:Nat):Int)) 1099511627776=(pstep n t[i]:Int):=by unfold pstep;omega
      generalize pstep n t[i]=m at *;generalize (t[i].toNat+208) % 256=dd at *;go_wp2_with fail
      go_round
      case rel=>exact ⟨i+1,m,by omega,hps,rfl,by go_num,HS.out⟩
      case measure=>simp [intOf];omega
    · obtain rfl:i=t.size:=by omega
      have hfin:Hid (pdigits t.data.toList=n):=by rw [Hid,hf.out,List.drop_of_length_le (by simp)];rfl
      go_wp2_with fail
      go_ret
      exact ⟨by rw [HP.out,hfin.out];rfl,rfl⟩
theorem power_p (s:ByteArray) (w:World) (h:0<s.size) (hs:s.size<=4611686018427387904) (hc:s[0].toNat=43):Calls Tryz.prog 262 #[.string s] w fun e w'=>e=.returned (.int .i64 (power s.data.toList))/\w=w':=by
  have hl0:s.data.toList=s[0]::s.data.toList.drop 1:=by have:=drop_byte s 0 h;simpa using this
  obtain ⟨t,ht⟩:∃ t,t=s.extract 1 s.size:=⟨_,rfl⟩;have htl:t.data.toList=s.data.toList.drop 1:=by rw [ht];exact extract1 s
  have hts0:s.size-1=t.size:=by rw [ht,ByteArray.size_extract];omega
  have hsz:t.size<=4611686018427387904:=by omega
  have hts:=Hid.out (p:=Hid _) hts0;clear hts0;have HP:Hid (power s.data.toList=(pdigits t.data.toList:Int)):=by
    unfold Hid;rw [hl0];show (if s[0].toNat=45 then _ else if s[0].toNat=43 then _ else _)=_;rw [if_neg (by omega),if_pos hc,<-htl]
  have q45:((s[0].toNat:Int) == 45)=false:=by rw [beq_eq_false_iff_ne];omega
  have q43:((s[0].toNat:Int) == 43)=true:=by rw [beq_iff_eq];omega
  clear hc hl0 htl;go_enter Tryz.func262,Tryz.ntmps262
  go_wp2_with fail
  rw [<-ht,hts.out];clear ht
  go_loop [4,5,19] (fun p4 p5 p19=>∃ (i n:Nat),i<=t.size/\n<=1099511627776/\p4=.int .i64 n/\p19=.int .i64 i/\Hid (pdigits t.data.toList=(t.data.toList.drop i).foldl pstep n)) (fun p4 p5 p19=>t.size-(intOf p19).toNat)
  case atStart=>exact ⟨0,0,Nat.zero_le _,by omega,rfl,rfl,rfl⟩
  case round=>
    obtain ⟨i,n,hi,hn,rfl,rfl,hf⟩:=hrel;by_cases hlt:i<t.size
    · have HS:Hid (pdigits t.data.toList=(t.data.toList.drop (i+1)).foldl pstep (pstep n t[i])):=by rw [Hid,hf.out,foldl_drop s.data.toList t n i hlt]
      have hps:=pstep_le n t[i];have hw8:=wrap_sub48 t[i].toNat (UInt8.toNat_lt _);have hdd:(t[i].toNat+208) % 256<256:=Nat.mod_lt _ (by omega);have hmin:(if (1099511627776:Int)<(n:Int)*10+(((t[i].toNat+208) % 256:Nat):Int) then (1099511627776:Int) else (n:Int)*10+(((t[i].toNat+208) % 256:Nat):Int))=(pstep n t[i]:Int):=by
        unfold pstep;split <;> omega
      have hmin2:min ((n:Int)*10+(((t[i].toNat+208) % 256:Nat):Int)) 1099511627776=(pstep n t[i]:Int):=by unfold pstep;omega
      generalize pstep n t[i]=m at *;generalize (t[i].toNat+208) % 256=dd at *;go_wp2_with fail
      go_round
      case rel=>exact ⟨i+1,m,by omega,hps,rfl,by go_num,HS.out⟩
      case measure=>simp [intOf];omega
    · obtain rfl:i=t.size:=by omega
      have hfin:Hid (pdigits t.data.toList=n):=by rw [Hid,hf.out,List.drop_of_length_le (by simp)];rfl
      go_wp2_with fail
      go_ret
      exact ⟨by rw [HP.out,hfin.out];rfl,rfl⟩
theorem power_n (s:ByteArray) (w:World) (h:0<s.size) (hs:s.size<=4611686018427387904) (hc:s[0].toNat≠45/\s[0].toNat≠43):Calls Tryz.prog 262 #[.string s] w fun e w'=>e=.returned (.int .i64 (power s.data.toList))/\w=w':=by
  have hl0:s.data.toList=s[0]::s.data.toList.drop 1:=by have:=drop_byte s 0 h;simpa using this
  have hsz:s.size<=4611686018427387904:=hs;have HP:Hid (power s.data.toList=(pdigits s.data.toList:Int)):=by
    unfold Hid;rw [hl0];show (if s[0].toNat=45 then _ else if s[0].toNat=43 then _ else _)=_;rw [if_neg hc.1,if_neg hc.2,<-hl0]
  have q45:((s[0].toNat:Int) == 45)=false:=by rw [beq_eq_false_iff_ne];omega
  have q43:((s[0].toNat:Int) == 43)=false:=by rw [beq_eq_false_iff_ne];omega
  clear hc hl0;go_enter Tryz.func262,Tryz.ntmps262
  go_wp2_with fail
  go_loop [4,5,19] (fun p4 p5 p19=>∃ (i n:Nat),i<=s.size/\n<=1099511627776/\p4=.int .i64 n/\p19=.int .i64 i/\Hid (pdigits s.data.toList=(s.data.toList.drop i).foldl pstep n)) (fun p4 p5 p19=>s.size-(intOf p19).toNat)
  case atStart=>exact ⟨0,0,Nat.zero_le _,by omega,rfl,rfl,rfl⟩
  case round=>
    obtain ⟨i,n,hi,hn,rfl,rfl,hf⟩:=hrel;by_cases hlt:i<s.size
    · have HS:Hid (pdigits s.data.toList=(s.data.toList.drop (i+1)).foldl pstep (pstep n s[i])):=by rw [Hid,hf.out,foldl_drop s.data.toList s n i hlt]
      have hps:=pstep_le n s[i];have hw8:=wrap_sub48 s[i].toNat (UInt8.toNat_lt _);have hdd:(s[i].toNat+208) % 256<256:=Nat.mod_lt _ (by omega);have hmin:(if (1099511627776:Int)<(n:Int)*10+(((s[i].toNat+208) % 256:Nat):Int) then (1099511627776:Int) else (n:Int)*10+(((s[i].toNat+208) % 256:Nat):Int))=(pstep n s[i]:Int):=by
        unfold pstep;split <;> omega
      have hmin2:min ((n:Int)*10+(((s[i].toNat+208) % 256:Nat):Int)) 1099511627776=(pstep n s[i]:Int):=by unfold pstep;omega
      generalize pstep n s[i]=m at *;generalize (s[i].toNat+208) % 256=dd at *;go_wp2_with fail
      go_round
      case rel=>exact ⟨i+1,m,by omega,hps,rfl,by go_num,HS.out⟩
      case measure=>simp [intOf];omega
    · obtain rfl:i=s.size:=by omega
      have hfin:Hid (pdigits s.data.toList=n):=by rw [Hid,hf.out,List.drop_of_length_le (by simp)];rfl
      go_wp2_with fail
      go_ret
      exact ⟨by rw [HP.out,hfin.out];rfl,rfl⟩
theorem power_any (s:ByteArray) (w:World) (h:0<s.size) (hs:s.size<=4611686018427387904):Calls Tryz.prog 262 #[.string s] w fun e w'=>e=.returned (.int .i64 (power s.data.toList))/\w=w':=by
  by_cases c1:s[0].toNat=45
  · exact power_m s w h hs c1
  by_cases c2:s[0].toNat=43
  · exact power_p s w h hs c2
  · exact power_n s w h hs ⟨c1,c2⟩
theorem bool_ret {a b:Bool} (h:a=b):Ending.returned (.bool a)=.returned (.bool b):=by rw [h]
theorem getLastD_byte (d:ByteArray) (h:0<d.size):d.data.toList.getLastD 48=d[d.size-1]:=by
  rw [List.getLastD_eq_getLast?,List.getLast?_eq_getElem?];have:d.data.toList.length=d.size:=by simp
  rw [this,List.getElem?_eq_getElem (by omega)]
  rfl
theorem headD_byte (d:ByteArray) (h:0<d.size):d.data.toList.headD 48=d[0]:=by
  have:=drop_byte d 0 h;rw [List.drop_zero] at this;rw [this];rfl
theorem u8_ne (c:UInt8):((c.toNat:Int) != 48)=(c != 48):=by
  by_cases h:c=48
  · subst h;rfl
  · have h2:c.toNat≠48:=fun e=>h (UInt8.toNat_inj.1 e);have e1:((c.toNat:Int) != 48)=true:=by rw [bne_iff_ne];omega
    have e2:(c != 48)=true:=by rw [bne_iff_ne];exact h
    rw [e1,e2]
theorem right_et (d:ByteArray) (x:Int) (w:World) (hs:d.size<=4611686018427387904) (h0:d.size=0):Calls Tryz.prog 139 #[.agg #[.bool true,.string d,.int .i64 x]] w fun e w'=>e=.returned (.bool (right true d.data.toList x))/\Below w.heap.size w w':=by
  have hl:d.data.toList=[]:=List.eq_nil_of_length_eq_zero (by simpa using h0);have HR:Hid (right true d.data.toList x=(!true && x == 0)):=by rw [Hid,hl];rfl
  clear hl;have q0:((d.size:Int) == 0)=true:=by rw [beq_iff_eq];omega
  generalize hx:(x == 0)=xb at HR;go_enter Tryz.func139,Tryz.ntmps139
  go_wp2_with fail
  go_ret
  exact ⟨bool_ret (by rw [HR.out];rfl),(Below.refl _ _).alloc (Nat.le_refl _) _⟩
theorem right_ef (d:ByteArray) (x:Int) (w:World) (hs:d.size<=4611686018427387904) (h0:d.size=0):Calls Tryz.prog 139 #[.agg #[.bool false,.string d,.int .i64 x]] w fun e w'=>e=.returned (.bool (right false d.data.toList x))/\Below w.heap.size w w':=by
  have hl:d.data.toList=[]:=List.eq_nil_of_length_eq_zero (by simpa using h0);have HR:Hid (right false d.data.toList x=(!false && x == 0)):=by rw [Hid,hl];rfl
  clear hl;have q0:((d.size:Int) == 0)=true:=by rw [beq_iff_eq];omega
  generalize hx:(x == 0)=xb at HR;go_enter Tryz.func139,Tryz.ntmps139
  go_wp2_with fail
  go_ret
  exact ⟨bool_ret (by rw [HR.out];rfl),(Below.refl _ _).alloc (Nat.le_refl _) _⟩
theorem right_long (neg:Bool) (d:ByteArray) (x:Int) (w:World) (hs:d.size<=4611686018427387904) (h1:1000<d.size):Calls Tryz.prog 139 #[.agg #[.bool neg,.string d,.int .i64 x]] w fun e w'=>e=.returned (.bool (right neg d.data.toList x))/\Below w.heap.size w w':=by
  have q0:((d.size:Int) == 0)=false:=by rw [beq_eq_false_iff_ne];omega
  have hl:¬ d.data.toList=[]:=List.ne_nil_of_length_pos (by simp;omega);have HR:Hid (right neg d.data.toList x=false):=by
    rw [Hid, right, if_neg hl, if_pos (by have:d.data.toList.length=d.size:=by simp
                                          omega)]
  clear hl;have d1:decide (1000<(d.size:Int))=true:=by simp;omega
  go_enter Tryz.func139,Tryz.ntmps139
  go_wp2_with fail
  go_ret
  exact ⟨bool_ret (by rw [HR.out]),(Below.refl _ _).alloc (Nat.le_refl _) _⟩
theorem right_low (neg:Bool) (d:ByteArray) (x:Int) (w:World) (hs:d.size<=4611686018427387904) (h0:0<d.size) (h1:d.size<=1000) (h2:x < -10000):Calls Tryz.prog 139 #[.agg #[.bool neg,.string d,.int .i64 x]] w fun e w'=>e=.returned (.bool (right neg d.data.toList x))/\Below w.heap.size w w':=by
  have q0:((d.size:Int) == 0)=false:=by rw [beq_eq_false_iff_ne];omega
  have hl:¬ d.data.toList=[]:=List.ne_nil_of_length_pos (by simp;omega);have HR:Hid (right neg d.data.toList x=false):=by
    rw [Hid, right, if_neg hl, if_pos (by have:d.data.toList.length=d.size:=by simp
                                          omega)]
  clear hl;have d1:decide (1000<(d.size:Int))=false:=by simp;omega
  have d2:decide (x < -10000)=true:=by simp;omega
  go_enter Tryz.func139,Tryz.ntmps139
  go_wp2_with fail
  go_ret
  exact ⟨bool_ret (by rw [HR.out]),(Below.refl _ _).alloc (Nat.le_refl _) _⟩
theorem right_high (neg:Bool) (d:ByteArray) (x:Int) (w:World) (hs:d.size<=4611686018427387904) (h0:0<d.size) (h1:d.size<=1000) (h2:10000<x):Calls Tryz.prog 139 #[.agg #[.bool neg,.string d,.int .i64 x]] w fun e w'=>e=.returned (.bool (right neg d.data.toList x))/\Below w.heap.size w w':=by
  have q0:((d.size:Int) == 0)=false:=by rw [beq_eq_false_iff_ne];omega
  have hl:¬ d.data.toList=[]:=List.ne_nil_of_length_pos (by simp;omega);have HR:Hid (right neg d.data.toList x=false):=by
    rw [Hid, right, if_neg hl, if_pos (by have:d.data.toList.length=d.size:=by simp
                                          omega)]
  clear hl;have d1:decide (1000<(d.size:Int))=false:=by simp;omega
  have d2:decide (x < -10000)=false:=by simp;omega
  have d3:decide (10000<x)=true:=by simp;omega
  go_enter Tryz.func139,Tryz.ntmps139
  go_wp2_with fail
  go_ret
  exact ⟨bool_ret (by rw [HR.out]),(Below.refl _ _).alloc (Nat.le_refl _) _⟩
theorem right_loop (neg:Bool) (d:ByteArray) (x:Int) (w:World) (hs:d.size<=4611686018427387904) (h0:0<d.size) (h1:d.size<=1000) (h2:-10000<=x) (h3:x<=10000):Calls Tryz.prog 139 #[.agg #[.bool neg,.string d,.int .i64 x]] w fun e w'=>e=.returned (.bool (right neg d.data.toList x))/\Below w.heap.size w w':=by
  have q0:((d.size:Int) == 0)=false:=by rw [beq_eq_false_iff_ne];omega
  have hl:¬ d.data.toList=[]:=List.ne_nil_of_length_pos (by simp;omega);have HR:Hid (right neg d.data.toList x=(d.data.toList.all isDigit && (d[0] != 48) && (d[d.size-1] != 48))):=by
    rw [Hid, right, if_neg hl, if_neg (by have:d.data.toList.length=d.size:=by simp
                                          omega),headD_byte d h0,getLastD_byte d h0]
  clear hl;have d1:decide (1000<(d.size:Int))=false:=by simp;omega
  have d2:decide (x < -10000)=false:=by simp;omega
  have d3:decide (10000<x)=false:=by simp;omega
  go_enter Tryz.func139,Tryz.ntmps139
  go_wp2_with fail
  go_loop [4,31] (fun p4 p31=>∃ i:Nat,i<=d.size/\p31=.int .i64 i/\Hid (d.data.toList.all isDigit=(d.data.toList.drop i).all isDigit)) (fun p4 p31=>d.size-(intOf p31).toNat)
  case atStart=>exact ⟨0,Nat.zero_le _,rfl,rfl⟩
  case round=>
    obtain ⟨i,hi,rfl,hf⟩:=hrel;by_cases hlt:i<d.size
    · have HS:Hid ((d.data.toList.drop i).all isDigit=(isDigit d[i] && (d.data.toList.drop (i+1)).all isDigit)):=by rw [Hid,drop_byte d i hlt,List.all_cons]
      by_cases c1:d[i].toNat<48
      · have e1:decide ((d[i].toNat:Int)<48)=true:=by simp;omega
        have HF:Hid (right neg d.data.toList x=false):=by
          rw [Hid,HR.out,hf.out,HS.out,show isDigit d[i]=false by simp [isDigit];omega];rfl
        go_wp2_with fail
        go_ret
        exact ⟨bool_ret (by rw [HF.out]),(Below.refl _ _).alloc (Nat.le_refl _) _⟩
      by_cases c2:57<d[i].toNat
      · have e1:decide ((d[i].toNat:Int)<48)=false:=by simp;omega
        have e2:decide (57<(d[i].toNat:Int))=true:=by simp;omega
        have HF:Hid (right neg d.data.toList x=false):=by
          rw [Hid,HR.out,hf.out,HS.out,show isDigit d[i]=false by simp [isDigit];omega];rfl
        go_wp2_with fail
        go_ret
        exact ⟨bool_ret (by rw [HF.out]),(Below.refl _ _).alloc (Nat.le_refl _) _⟩
      · have e1:decide ((d[i].toNat:Int)<48)=false:=by simp;omega
        have e2:decide (57<(d[i].toNat:Int))=false:=by simp;omega
        have HN:Hid (d.data.toList.all isDigit=(d.data.toList.drop (i+1)).all isDigit):=by
          rw [Hid,hf.out,HS.out,show isDigit d[i]=true by simp [isDigit];omega];rfl
        go_wp2_with fail
        go_round
        case rel=>exact ⟨i+1,by omega,by go_num,HN.out⟩
        case measure=>simp [intOf];omega
    · obtain rfl:i=d.size:=by omega
      have ha:d.data.toList.all isDigit=true:=by rw [hf.out,List.drop_of_length_le (by simp)];rfl
      have HF:Hid (right neg d.data.toList x=(((d[0].toNat:Int) != 48) && ((d[d.size-1].toNat:Int) != 48))):=by
        rw [Hid,HR.out,ha,u8_ne,u8_ne];rfl
      clear ha;have hsub:d.size-1<d.size:=by omega
      have hcst:((d.size:Int)-1)=((d.size-1:Nat):Int):=by omega
      cases hb1:((d[0].toNat:Int) != 48)
      · go_wp2_with fail
        go_ret
        exact ⟨bool_ret (by rw [HF.out,hb1];rfl),(Below.refl _ _).alloc (Nat.le_refl _) _⟩
      · go_wp2_with fail
        go_ret
        refine ⟨bool_ret ?_,(Below.refl _ _).alloc (Nat.le_refl _) _⟩;rw [HF.out,hb1];rfl
theorem right_any (neg:Bool) (d:ByteArray) (x:Int) (w:World) (hs:d.size<=4611686018427387904):Calls Tryz.prog 139 #[.agg #[.bool neg,.string d,.int .i64 x]] w fun e w'=>e=.returned (.bool (right neg d.data.toList x))/\Below w.heap.size w w':=by
  by_cases h0:d.size=0
  · cases neg
    · exact right_ef d x w hs h0
    · exact right_et d x w hs h0
  by_cases h1:1000<d.size
  · exact right_long neg d x w hs h1
  by_cases h2:x < -10000
  · exact right_low neg d x w hs (by omega) (by omega) h2
  by_cases h3:10000<x
  · exact right_high neg d x w hs (by omega) (by omega) h3
  · exact right_loop neg d x w hs (by omega) (by omega) (by omega) (by omega)
open Strs
def fin (neg:Bool) (d:List UInt8) (x:Int):Except Nat (Bool × List UInt8 × Int):=
  let d3:=d.dropWhile (· == 48)
  let cut:=(d3.reverse.dropWhile (· == 48)).reverse
  if cut=[] then .ok (false,[],0)
  else if right neg cut (x+((d3.length:Int)-cut.length)) then .ok (neg,cut,x+((d3.length:Int)-cut.length)) else .error 4
def point (neg:Bool) (d:List UInt8) (x:Int):Except Nat (Bool × List UInt8 × Int):=
  match d.findIdx? (· == 46) with
  | none=>fin neg d x
  | some j=>fin neg (d.take j++d.drop (j+1)) (x-((d.length:Int)-j-1))
def mant (neg:Bool) (d:List UInt8):Except Nat (Bool × List UInt8 × Int):=
  match d.findIdx? ([101,69].contains ·) with
  | none=>point neg d 0
  | some i=>point neg (d.take i) (power (d.drop (i+1)))
def parse (l:List UInt8):Except Nat (Bool × List UInt8 × Int):=
  if l=[]∨scan l≠l.length then .error 3
  else mant (l.head? == some 45) (if l.head? == some 45 then l.drop 1 else l)
def parseV (l:List UInt8):Value:=
  match parse l with
  | .error k=>.tuple #[.agg #[.bool false,.string ⟨#[]⟩,.int .i64 0],.int .i64 k]
  | .ok (n,d,x)=>.tuple #[.agg #[.bool n,.string ⟨d.toArray⟩,.int .i64 x],.int .i64 0]
theorem pdigits_le (l:List UInt8):pdigits l<=1099511627776:=by
  have:∀ (l:List UInt8) (n:Nat),n<=1099511627776->l.foldl pstep n<=1099511627776:=by
    intro l
    induction l with
    | nil=>intro n h;exact h
    | cons c l ih=>intro n h;exact ih _ (pstep_le n c)
  exact this l 0 (by omega)
theorem power_le (l:List UInt8):-1099511627776<=power l/\power l<=1099511627776:=by
  unfold power;split
  · omega
  · rename_i c t
    have h1:=pdigits_le t;have h2:=pdigits_le (c::t);split
    · omega
    · split <;> omega
theorem dropWhile_le {p:UInt8->Bool}:∀ l:List UInt8,(l.dropWhile p).length<=l.length
  | []=>Nat.le_refl _
  | c::l=>by
    rw [List.dropWhile_cons];split
    · have:=dropWhile_le (p:=p) l;simp;omega
    · exact Nat.le_refl _
theorem nil_size {d:ByteArray}:d.data.toList=[]↔d.size=0:=by
  rw [<-List.length_eq_zero_iff];simp
theorem fin_zero {neg:Bool} {d:List UInt8} {x:Int} {d3 cut:ByteArray} (h3:d3.data.toList=d.dropWhile (· == 48)) (hc:cut.data.toList=(d3.data.toList.reverse.dropWhile (· == 48)).reverse) (hz:cut.size=0):fin neg d x=.ok (false,[],0):=by
  unfold fin;simp only []
  rw [<-h3,<-hc,if_pos (nil_size.2 hz)]
theorem fin_bad {neg:Bool} {d:List UInt8} {x:Int} {d3 cut:ByteArray} (h3:d3.data.toList=d.dropWhile (· == 48)) (hc:cut.data.toList=(d3.data.toList.reverse.dropWhile (· == 48)).reverse) (hz:¬ cut.size=0)
    (y:Int) (hy:y=x+((d3.size:Int)-cut.size)) (hr:right neg cut.data.toList y=false):fin neg d x=.error 4:=by
  unfold fin;simp only []
  rw [<-h3,<-hc,if_neg (fun e=>hz (nil_size.1 e)),show ((d3.data.toList.length:Nat):Int)-(cut.data.toList.length:Nat)=(d3.size:Int)-cut.size by simp,<-hy,if_neg (by rw [hr];decide)]
theorem fin_ok {neg:Bool} {d:List UInt8} {x:Int} {d3 cut:ByteArray} (h3:d3.data.toList=d.dropWhile (· == 48)) (hc:cut.data.toList=(d3.data.toList.reverse.dropWhile (· == 48)).reverse) (hz:¬ cut.size=0)
    (y:Int) (hy:y=x+((d3.size:Int)-cut.size)) (hr:right neg cut.data.toList y=true):fin neg d x=.ok (neg,cut.data.toList,y):=by
  unfold fin;simp only []
  rw [<-h3,<-hc,if_neg (fun e=>hz (nil_size.1 e)),show ((d3.data.toList.length:Nat):Int)-(cut.data.toList.length:Nat)=(d3.size:Int)-cut.size by simp,<-hy,if_pos hr]
structure Whole (s:ByteArray) (d0:ByteArray) (neg:Bool):Prop where
  parse:parseV s.data.toList=(match mant neg d0.data.toList with
    | .error k=>.tuple #[.agg #[.bool false,.string ⟨#[]⟩,.int .i64 0],.int .i64 k]
    | .ok (n,d,x)=>.tuple #[.agg #[.bool n,.string ⟨d.toArray⟩,.int .i64 x],.int .i64 0])
  ascii:∀ c∈d0.data.toList,c.toNat<128
  more:∀ i,d0.data.toList.findIdx? ([101,69].contains ·)=some i->i+1<d0.size
  size:d0.size<=s.size
theorem whole_of (s d0:ByteArray) (neg:Bool) (h0:s.data.toList≠[]) (hsc:scan s.data.toList=s.data.toList.length) (hn:neg=(s.data.toList.head? == some 45)) (hd:d0.data.toList=if s.data.toList.head? == some 45 then s.data.toList.drop 1 else s.data.toList):Whole s d0 neg:=by
  have hr:=(scan_full _ h0).1 hsc;have hsuf:∃ a,s.data.toList=a++d0.data.toList:=by
    rw [hd];split
    · exact ⟨s.data.toList.take 1,(List.take_append_drop 1 _).symm⟩
    · exact ⟨[],rfl⟩
  obtain ⟨a,ha⟩:=hsuf;refine ⟨?_,?_,?_,?_⟩
  · unfold parseV parse;rw [if_neg (by simp [h0,hsc]),hd,hn]
  · intro c hc
    exact sgn_ascii _ (run_signs _ 0 (by omega) hr.1 c (by rw [ha];exact List.mem_append_right _ hc))
  · intro i hi
    obtain ⟨hlt,hp,_⟩:=List.findIdx?_eq_some_iff_getElem.1 hi;have hl:d0.data.toList.length=d0.size:=by simp
    have hc:sgn (d0.data.toList[i]).toNat=5:=by
      have:d0.data.toList[i]=101∨d0.data.toList[i]=69:=by simpa using hp
      rcases this with h | h <;> rw [h] <;> rfl
    have hsp:s.data.toList=(a++d0.data.toList.take i)++d0.data.toList[i]::d0.data.toList.drop (i+1):=by
      rw [ha,List.append_assoc,<-List.drop_eq_getElem_cons hlt,List.take_append_drop]
    rw [hsp] at hr;have:=mark_more _ _ _ hc hr.1 hr.2;have h2:=List.length_pos_iff.2 this;rw [List.length_drop] at h2;omega
  · have:=congrArg List.length ha;simp at this
    omega
def PPost (s:ByteArray) (w:World) (e:Ending) (w':World):Prop:=e=.returned (parseV s.data.toList)/\Below w.heap.size w w'
theorem set3 {w:World} {b:Nat} {x y z:Value} {T:TypeId} (h:w.heap[b]?=some (.cells #[x,y,z] T (0,0))) (a c d:Value):(((w.setCell ⟨b,0,none⟩ a).setCell ⟨b,1,none⟩ c).setCell ⟨b,2,none⟩ d).heap[b]?=some (.cells #[a,c,d] T (0,0)):=
  heap_set_same (heap_set_same (heap_set_same h a) c) d
theorem below_set3 {w w':World} {b:Nat} (h:Below b w w') (a c d:Value):Below b w (((w'.setCell ⟨b,0,none⟩ a).setCell ⟨b,1,none⟩ c).setCell ⟨b,2,none⟩ d):=
  ((h.setCell (p:=⟨b,0,none⟩) (Nat.le_refl _) _).setCell (p:=⟨b,1,none⟩) (Nat.le_refl _) _).setCell (p:=⟨b,2,none⟩) (Nat.le_refl _) _
theorem pret (s:ByteArray) (w w':World) (tm:Array Value) (a b c k:Value) (hb:w'.heap[w.heap.size]?=some (.cells #[a,b,c] 25 (0,0))) (hB:Below w.heap.size w w') (hv:parseV s.data.toList=.tuple #[.agg #[a,b,c],k])
    (h2:tm[2]?=some (.pointer (some ⟨w.heap.size,0,none⟩))) (h3:tm[3]?=some k) :
    bodyPost Tryz.prog Tryz.f212 (PPost s w) Exit.ret { tmps:=tm,defers:=[] } w':=by
  have c0:=cell_of hb 0;have c1:=cell_of hb 1;have c2:=cell_of hb 2;refine bodyPost_ret (v:=.tuple #[.agg #[a,b,c],k]) ?_ rfl ⟨by rw [hv],hB⟩;simp [results,Tryz.results212,go_sem,h2,h3,c0,c1,c2]
theorem parse_e0 (s:ByteArray) (w:World) (hs:s.size<=2147483648) (T:Steps w) (h0:s=⟨#[]⟩):Calls Tryz.prog 212 #[.string s] w (PPost s w):=by
  have HT:=Hid.out (p:=Hid _) T;clear T;subst h0;have HV:Hid (parseV (⟨#[]⟩:ByteArray).data.toList=.tuple #[.agg #[.bool false,.string ⟨#[]⟩,.int .i64 0],.int .i64 3]):=rfl;go_enter Tryz.func212,Tryz.ntmps212
  go_wp2_with fail
  exact pret _ w _ _ _ _ _ _ (heap_alloc_new _ _) ((Below.refl _ _).alloc (Nat.le_refl _) _) HV.out rfl rfl
theorem parse_e1 (s:ByteArray) (w:World) (hs:s.size<=2147483648) (T:Steps w) (h0:s.size≠0) (h1:scan s.data.toList≠s.size):Calls Tryz.prog 212 #[.string s] w (PPost s w):=by
  have HT:=Hid.out (p:=Hid _) T;clear T;have hne:s.toList.isEmpty=false:=by rw [isEmpty_size];simp [h0]
  have q1:((scan s.data.toList:Int) != (s.size:Int))=true:=by rw [bne_iff_ne];omega
  have HV:Hid (parseV s.data.toList=.tuple #[.agg #[.bool false,.string ⟨#[]⟩,.int .i64 0],.int .i64 3]):=by
    rw [Hid,parseV,parse,if_pos (Or.inr (by rw [show s.data.toList.length=s.size by simp];exact h1))];rfl
  clear h0 h1;have hsl:=scan_le s.data.toList;rw [show s.data.toList.length=s.size by simp] at hsl;have hsc:=fun w T0=>scan_any s w (by omega) T0;generalize scan s.data.toList=sc at *;have T0:Steps (w.alloc (.cells #[.bool false,.string ⟨#[]⟩,.int .i64 0] 25)):=⟨fun st sg h1 h2=>(World.cell?_of_block (Below.heap_alloc _ _ _ HT.out.lt)).trans (HT.out.cell st sg h1 h2)⟩;go_enter Tryz.func212,Tryz.ntmps212
  go_wp2_with fail
  refine (hsc _ T0).mono ?_;rintro e w1 ⟨rfl,n,hw1⟩;clear T0;have R1:Hid (w1.heap[w.heap.size]?=some (.cells #[.bool false,.string ⟨#[]⟩,.int .i64 0] 25 (0,0))):=by rw [hw1];exact heap_alloc_new _ _
  have B1:Hid (Below w.heap.size w w1):=by rw [hw1];exact ((Below.refl _ _).alloc (Nat.le_refl _) _).trans (below_drewN _ _ _)
  clear hw1;have cR0_1:=cell_of R1.out 0;have fR0_1:=frozen_of R1.out 0;have cR1_1:=cell_of R1.out 1;have fR1_1:=frozen_of R1.out 1;have cR2_1:=cell_of R1.out 2;have fR2_1:=frozen_of R1.out 2;go_wp2_with fail
  exact pret s w _ _ _ _ _ _ (set3 R1.out _ _ _) (below_set3 B1.out _ _ _) HV.out rfl rfl
theorem parse_main (s:ByteArray) (w:World) (hs:s.size<=2147483648) (T:Steps w) (h0:s.size≠0) (h1:scan s.data.toList=s.size):Calls Tryz.prog 212 #[.string s] w (PPost s w):=by
  have HT:=Hid.out (p:=Hid _) T;clear T;have hne:s.toList.isEmpty=false:=by rw [isEmpty_size];simp [h0]
  have hl:s.data.toList.length=s.size:=by simp
  have hn0:s.data.toList≠[]:=List.ne_nil_of_length_pos (by omega);have q1:((s.size:Int) != (s.size:Int))=false:=by simp
  have HW:Hid (∀ (d0:ByteArray) (neg:Bool),neg=(s.data.toList.head? == some 45)->(d0.data.toList=if s.data.toList.head? == some 45 then s.data.toList.drop 1 else s.data.toList)->Whole s d0 neg):=fun d0 neg a b=>whole_of s d0 neg hn0 (by rw [h1,hl]) a b;have hsc:=fun w T0=>scan_any s w (by omega) T0;rw [h1] at hsc;clear h0 h1 hl hn0;have T0:Steps (w.alloc (.cells #[.bool false,.string ⟨#[]⟩,.int .i64 0] 25)):=⟨fun st sg h1 h2=>(World.cell?_of_block (Below.heap_alloc _ _ _ HT.out.lt)).trans (HT.out.cell st sg h1 h2)⟩;go_enter Tryz.func212,Tryz.ntmps212
  go_wp2_with fail
  refine (hsc _ T0).mono ?_;rintro e w1 ⟨rfl,n,hw1⟩;clear T0 hsc;have R1:Hid (w1.heap[w.heap.size]?=some (.cells #[.bool false,.string ⟨#[]⟩,.int .i64 0] 25 (0,0))):=by rw [hw1];exact heap_alloc_new _ _
  have B1:Hid (Below w.heap.size w w1):=by rw [hw1];exact ((Below.refl _ _).alloc (Nat.le_refl _) _).trans (below_drewN _ _ _)
  clear hw1;go_wp2_with fail
  refine (cut1_any s 45 w1).mono ?_;rintro e w' ⟨d0,neg,rfl,hneg,hd0,rfl⟩;have WH:=Hid.out (p:=Hid _) (HW.out d0 neg hneg hd0);have hds:=WH.out.size;clear hneg hd0;go_wp2_with fail
  have hix:Calls Tryz.prog 261 #[.string d0,.string ⟨#[101,69]⟩] w1 fun e w'=>e=.returned (.int .i64 (zidx (d0.data.toList.findIdx? ([101,69].contains ·))))/\Below w1.heap.size w1 w':=indexAny_any d0 ⟨#[101,69]⟩ w1 (by omega) (by decide) WH.out.ascii (by decide)
  cases he:d0.data.toList.findIdx? ([101,69].contains ·) with
  | none=>
    simp only [he,zidx] at hix
    have HE:=Hid.out (p:=Hid _) he;clear he;refine hix.mono ?_;rintro e w2 ⟨rfl,hb2⟩;have R2:Hid (w2.heap[w.heap.size]?=some (.cells #[.bool false,.string ⟨#[]⟩,.int .i64 0] 25 (0,0))):=(hb2.block _ (heap_lt R1.out)).trans R1.out;have B2:Hid (Below w.heap.size w w2):=B1.out.trans (hb2.mono B1.out.size);clear hb2 hix R1 B1;go_wp2_with fail
    have hjx:Calls Tryz.prog 104 #[.string d0,.int .u8 (46:Nat)] w2 fun e w'=>e=.returned (.int .i64 (zidx (d0.data.toList.findIdx? (· == 46))))/\w2=w':=indexByte_any d0 46 w2 (by decide)
    cases hj:d0.data.toList.findIdx? (· == 46) with
    | none=>
      simp only [hj,zidx] at hjx
      have HJ:=Hid.out (p:=Hid _) hj;clear hj;refine hjx.mono ?_;rintro e w' ⟨rfl,rfl⟩;clear hjx;go_wp2_with fail
      refine (trimLeft_any d0 48 (by decide) _).mono ?_;rintro e w' ⟨d3,rfl,hd3',rfl⟩;have hd3:Hid (d3.data.toList=(d0.data.toList).dropWhile (· == 48)):=hd3';clear hd3';have hd3s:d3.size<=d0.size:=by
        have:=congrArg List.length hd3.out;have h2:=dropWhile_le (p:=(· == 48)) (d0.data.toList);rw [show d3.data.toList.length=d3.size by simp] at this;have h3:(d0.data.toList).length=d0.size:=by simp
        omega
      go_wp2_with fail
      refine (trimRight_any d3 48 (by decide) _ (by omega)).mono ?_;rintro e w' ⟨cut,rfl,hcut',rfl⟩;have hcut:Hid (cut.data.toList=(d3.data.toList.reverse.dropWhile (· == 48)).reverse):=hcut';clear hcut';have hcs:cut.size<=d3.size:=by
        have:=congrArg List.length hcut.out;have h2:=dropWhile_le (p:=(· == 48)) d3.data.toList.reverse;rw [show cut.data.toList.length=cut.size by simp,List.length_reverse] at this;rw [List.length_reverse,show d3.data.toList.length=d3.size by simp] at h2;omega
      by_cases hz:cut.size=0
      · have qz:cut.toList.isEmpty=true:=by rw [isEmpty_size];simp [hz]
        have HV:Hid (parseV s.data.toList=.tuple #[.agg #[.bool false,.string ⟨#[]⟩,.int .i64 0],.int .i64 0]):=by
          rw [Hid,WH.out.parse,mant,HE.out];simp only [];rw [point,HJ.out];simp only [];rw [fin_zero hd3.out hcut.out hz]
        clear hz;have cR0_2:=cell_of R2.out 0;have fR0_2:=frozen_of R2.out 0;have cR1_2:=cell_of R2.out 1;have fR1_2:=frozen_of R2.out 1;have cR2_2:=cell_of R2.out 2;have fR2_2:=frozen_of R2.out 2;go_wp2_with fail
        exact pret s w _ _ _ _ _ _ (set3 R2.out _ _ _) (below_set3 B2.out _ _ _) HV.out rfl rfl
      · have qz:cut.toList.isEmpty=false:=by rw [isEmpty_size];simp [hz]
        go_wp2_with fail
        refine (right_any neg cut ((d3.size:Int)-cut.size) _ (by omega)).mono ?_;rintro e w5 ⟨rfl,hb5⟩;have R5:Hid (w5.heap[w.heap.size]?=some (.cells #[.bool false,.string ⟨#[]⟩,.int .i64 0] 25 (0,0))):=(hb5.block _ (by have:=heap_lt R2.out;simp;omega)).trans (heap_alloc_old R2.out);have N5:Hid (w5.heap[w2.heap.size]?=some (.cells #[.bool neg,.string cut,.int .i64 ((d3.size:Int)-cut.size)] 25 (0,0))):=(hb5.block _ (by simp)).trans (heap_alloc_new _ _);have B5:Hid (Below w.heap.size w w5):=(B2.out.alloc B2.out.size _).trans (hb5.mono (by have:=B2.out.size;simp;omega));have hRN:w.heap.size≠w2.heap.size:=by have:=heap_lt R2.out;omega
        clear hb5
        cases hr:right neg cut.data.toList ((d3.size:Int)-cut.size) with
        | false=>
          have HV:Hid (parseV s.data.toList=.tuple #[.agg #[.bool false,.string ⟨#[]⟩,.int .i64 0],.int .i64 4]):=by
            rw [Hid,WH.out.parse,mant,HE.out];simp only [];rw [point,HJ.out];simp only [];rw [fin_bad hd3.out hcut.out hz ((d3.size:Int)-cut.size) (by omega) hr];rfl
          clear hz hr;have cR0_5:=cell_of R5.out 0;have fR0_5:=frozen_of R5.out 0;have cR1_5:=cell_of R5.out 1;have fR1_5:=frozen_of R5.out 1;have cR2_5:=cell_of R5.out 2;have fR2_5:=frozen_of R5.out 2;go_wp2_with fail
          exact pret s w _ _ _ _ _ _ (set3 R5.out _ _ _) (below_set3 B5.out _ _ _) HV.out rfl rfl
        | true=>
          have HV:Hid (parseV s.data.toList=.tuple #[.agg #[.bool neg,.string cut,.int .i64 ((d3.size:Int)-cut.size)],.int .i64 0]):=by
            rw [Hid,WH.out.parse,mant,HE.out];simp only [];rw [point,HJ.out];simp only [];rw [fin_ok hd3.out hcut.out hz ((d3.size:Int)-cut.size) (by omega) hr]
          clear hz hr;go_wp2_with fail
          refine (clone_any cut w5 (by omega)).mono ?_;rintro e w6 ⟨rfl,hb6⟩;have R6:Hid (w6.heap[w.heap.size]?=some (.cells #[.bool false,.string ⟨#[]⟩,.int .i64 0] 25 (0,0))):=(hb6.block _ (heap_lt R5.out)).trans R5.out;have N6:Hid (w6.heap[w2.heap.size]?=some (.cells #[.bool neg,.string cut,.int .i64 ((d3.size:Int)-cut.size)] 25 (0,0))):=(hb6.block _ (heap_lt N5.out)).trans N5.out;have B6:Hid (Below w.heap.size w w6):=B5.out.trans (hb6.mono B5.out.size);clear hb6 R5 N5 B5;have cR0_6:=cell_of R6.out 0;have fR0_6:=frozen_of R6.out 0;have cR1_6:=cell_of R6.out 1;have fR1_6:=frozen_of R6.out 1;have cR2_6:=cell_of R6.out 2;have fR2_6:=frozen_of R6.out 2;have cN0:=cell_of N6.out 0;have cN1:=cell_of N6.out 1;have cN2:=cell_of N6.out 2;have fN1:=frozen_of N6.out 1;go_wp2_with fail
          exact pret s w _ _ _ _ _ _ (set3 (heap_set_other R6.out hRN _) _ _ _) (below_set3 (B6.out.setCell (p:=⟨w2.heap.size,1,none⟩) (by have:=B2.out.size;exact this) _) _ _ _) HV.out rfl rfl
    | some j=>
      simp only [hj,zidx] at hjx
      have hjs:j<d0.size:=by have h1:=(List.findIdx?_eq_some_iff_getElem.1 hj).1;simpa using h1
      have HJ:=Hid.out (p:=Hid _) hj;clear hj;refine hjx.mono ?_;rintro e w' ⟨rfl,rfl⟩;clear hjx;go_wp2_with fail
      go_quiet (fail)
      go_wp2_with fail
      obtain ⟨d2,hd2⟩:∃ d2,d2=d0.extract 0 j++d0.extract (j+1) d0.size:=⟨_,rfl⟩;rw [<-hd2];have HD2:Hid (d2.data.toList=d0.data.toList.take j++d0.data.toList.drop (j+1)):=by
        rw [Hid,hd2,ByteArray.data_append,Array.toList_append,Lib.extract_data,Lib.extract_data,List.take_of_length_le (l:=List.drop (j+1) _) (by simp)];simp
      have hd2s:d2.size<=d0.size:=by rw [hd2,ByteArray.size_append,ByteArray.size_extract,ByteArray.size_extract];omega
      clear hd2;have R3:Hid ((w2.drewN nq).heap[w.heap.size]?=some (.cells #[.bool false,.string ⟨#[]⟩,.int .i64 0] 25 (0,0))):=R2.out;have B3:Hid (Below w.heap.size w (w2.drewN nq)):=B2.out.trans (below_drewN _ _ _);clear R2 B2;generalize w2.drewN nq=w3 at *;refine (trimLeft_any d2 48 (by decide) _).mono ?_;rintro e w' ⟨d3,rfl,hd3',rfl⟩;have hd3:Hid (d3.data.toList=(d2.data.toList).dropWhile (· == 48)):=hd3';clear hd3';have hd3s:d3.size<=d2.size:=by
        have:=congrArg List.length hd3.out;have h2:=dropWhile_le (p:=(· == 48)) (d2.data.toList);rw [show d3.data.toList.length=d3.size by simp] at this;have h3:(d2.data.toList).length=d2.size:=by simp
        omega
      go_wp2_with fail
      refine (trimRight_any d3 48 (by decide) _ (by omega)).mono ?_;rintro e w' ⟨cut,rfl,hcut',rfl⟩;have hcut:Hid (cut.data.toList=(d3.data.toList.reverse.dropWhile (· == 48)).reverse):=hcut';clear hcut';have hcs:cut.size<=d3.size:=by
        have:=congrArg List.length hcut.out;have h2:=dropWhile_le (p:=(· == 48)) d3.data.toList.reverse;rw [show cut.data.toList.length=cut.size by simp,List.length_reverse] at this;rw [List.length_reverse,show d3.data.toList.length=d3.size by simp] at h2;omega
      by_cases hz:cut.size=0
      · have qz:cut.toList.isEmpty=true:=by rw [isEmpty_size];simp [hz]
        have HV:Hid (parseV s.data.toList=.tuple #[.agg #[.bool false,.string ⟨#[]⟩,.int .i64 0],.int .i64 0]):=by
          rw [Hid,WH.out.parse,mant,HE.out];simp only [];rw [point,HJ.out];simp only [];rw [<-HD2.out];rw [fin_zero hd3.out hcut.out hz]
        clear hz;have cR0_2:=cell_of R3.out 0;have fR0_2:=frozen_of R3.out 0;have cR1_2:=cell_of R3.out 1;have fR1_2:=frozen_of R3.out 1;have cR2_2:=cell_of R3.out 2;have fR2_2:=frozen_of R3.out 2;go_wp2_with fail
        exact pret s w _ _ _ _ _ _ (set3 R3.out _ _ _) (below_set3 B3.out _ _ _) HV.out rfl rfl
      · have qz:cut.toList.isEmpty=false:=by rw [isEmpty_size];simp [hz]
        go_wp2_with fail
        refine (right_any neg cut (-((d0.size:Int)-j-1)+((d3.size:Int)-cut.size)) _ (by omega)).mono ?_;rintro e w5 ⟨rfl,hb5⟩;have R5:Hid (w5.heap[w.heap.size]?=some (.cells #[.bool false,.string ⟨#[]⟩,.int .i64 0] 25 (0,0))):=(hb5.block _ (by have:=heap_lt R3.out;simp;omega)).trans (heap_alloc_old R3.out);have N5:Hid (w5.heap[w3.heap.size]?=some (.cells #[.bool neg,.string cut,.int .i64 (-((d0.size:Int)-j-1)+((d3.size:Int)-cut.size))] 25 (0,0))):=(hb5.block _ (by simp)).trans (heap_alloc_new _ _);have B5:Hid (Below w.heap.size w w5):=(B3.out.alloc B3.out.size _).trans (hb5.mono (by have:=B3.out.size;simp;omega));have hRN:w.heap.size≠w3.heap.size:=by have:=heap_lt R3.out;omega
        clear hb5
        cases hr:right neg cut.data.toList (-((d0.size:Int)-j-1)+((d3.size:Int)-cut.size)) with
        | false=>
          have HV:Hid (parseV s.data.toList=.tuple #[.agg #[.bool false,.string ⟨#[]⟩,.int .i64 0],.int .i64 4]):=by
            rw [Hid,WH.out.parse,mant,HE.out];simp only [];rw [point,HJ.out];simp only [];rw [<-HD2.out];rw [fin_bad hd3.out hcut.out hz (-((d0.size:Int)-j-1)+((d3.size:Int)-cut.size)) (by simp <;> omega) hr];rfl
          clear hz hr;have cR0_5:=cell_of R5.out 0;have fR0_5:=frozen_of R5.out 0;have cR1_5:=cell_of R5.out 1;have fR1_5:=frozen_of R5.out 1;have cR2_5:=cell_of R5.out 2;have fR2_5:=frozen_of R5.out 2;go_wp2_with fail
          exact pret s w _ _ _ _ _ _ (set3 R5.out _ _ _) (below_set3 B5.out _ _ _) HV.out rfl rfl
        | true=>
          have HV:Hid (parseV s.data.toList=.tuple #[.agg #[.bool neg,.string cut,.int .i64 (-((d0.size:Int)-j-1)+((d3.size:Int)-cut.size))],.int .i64 0]):=by
            rw [Hid,WH.out.parse,mant,HE.out];simp only [];rw [point,HJ.out];simp only [];rw [<-HD2.out];rw [fin_ok hd3.out hcut.out hz (-((d0.size:Int)-j-1)+((d3.size:Int)-cut.size)) (by simp <;> omega) hr]
          clear hz hr;go_wp2_with fail
          refine (clone_any cut w5 (by omega)).mono ?_;rintro e w6 ⟨rfl,hb6⟩;have R6:Hid (w6.heap[w.heap.size]?=some (.cells #[.bool false,.string ⟨#[]⟩,.int .i64 0] 25 (0,0))):=(hb6.block _ (heap_lt R5.out)).trans R5.out;have N6:Hid (w6.heap[w3.heap.size]?=some (.cells #[.bool neg,.string cut,.int .i64 (-((d0.size:Int)-j-1)+((d3.size:Int)-cut.size))] 25 (0,0))):=(hb6.block _ (heap_lt N5.out)).trans N5.out;have B6:Hid (Below w.heap.size w w6):=B5.out.trans (hb6.mono B5.out.size);clear hb6 R5 N5 B5;have cR0_6:=cell_of R6.out 0;have fR0_6:=frozen_of R6.out 0;have cR1_6:=cell_of R6.out 1;have fR1_6:=frozen_of R6.out 1;have cR2_6:=cell_of R6.out 2;have fR2_6:=frozen_of R6.out 2;have cN0:=cell_of N6.out 0;have cN1:=cell_of N6.out 1;have cN2:=cell_of N6.out 2;have fN1:=frozen_of N6.out 1;go_wp2_with fail
          exact pret s w _ _ _ _ _ _ (set3 (heap_set_other R6.out hRN _) _ _ _) (below_set3 (B6.out.setCell (p:=⟨w3.heap.size,1,none⟩) (by have:=B3.out.size;exact this) _) _ _ _) HV.out rfl rfl
  | some i=>
    simp only [he,zidx] at hix
    have hmore:=WH.out.more i he;have HE:=Hid.out (p:=Hid _) he;clear he;refine hix.mono ?_;rintro e w2 ⟨rfl,hb2⟩;have R2:Hid (w2.heap[w.heap.size]?=some (.cells #[.bool false,.string ⟨#[]⟩,.int .i64 0] 25 (0,0))):=(hb2.block _ (heap_lt R1.out)).trans R1.out;have B2:Hid (Below w.heap.size w w2):=B1.out.trans (hb2.mono B1.out.size);clear hb2 hix R1 B1;go_wp2_with fail
    refine (power_any (d0.extract (i+1) d0.size) w2 (by rw [ByteArray.size_extract];omega) (by rw [ByteArray.size_extract];omega)).mono ?_;rintro e w' ⟨rfl,rfl⟩;have hpw:=power_le (d0.extract (i+1) d0.size).data.toList;obtain ⟨x,hx⟩:∃ x,x=power (d0.extract (i+1) d0.size).data.toList:=⟨_,rfl⟩;rw [<-hx] at hpw ⊢;have HX:Hid (power (d0.data.toList.drop (i+1))=x):=by
      rw [Hid,hx,Lib.extract_data,List.take_of_length_le (by simp)]
    clear hx;go_wp2_with fail
    obtain ⟨d1,hd1⟩:∃ d1,d1=d0.extract 0 i:=⟨_,rfl⟩;rw [<-hd1];have HD1:Hid (d1.data.toList=d0.data.toList.take i):=by rw [Hid,hd1,Lib.extract_data];simp
    have hd1s:d1.size<=d0.size:=by rw [hd1,ByteArray.size_extract];omega
    clear hd1;have hjx:Calls Tryz.prog 104 #[.string d1,.int .u8 (46:Nat)] w2 fun e w'=>e=.returned (.int .i64 (zidx (d1.data.toList.findIdx? (· == 46))))/\w2=w':=indexByte_any d1 46 w2 (by decide)
    cases hj:d1.data.toList.findIdx? (· == 46) with
    | none=>
      simp only [hj,zidx] at hjx
      have HJ:=Hid.out (p:=Hid _) hj;clear hj;refine hjx.mono ?_;rintro e w' ⟨rfl,rfl⟩;clear hjx;go_wp2_with fail
      refine (trimLeft_any d1 48 (by decide) _).mono ?_;rintro e w' ⟨d3,rfl,hd3',rfl⟩;have hd3:Hid (d3.data.toList=(d1.data.toList).dropWhile (· == 48)):=hd3';clear hd3';have hd3s:d3.size<=d1.size:=by
        have:=congrArg List.length hd3.out;have h2:=dropWhile_le (p:=(· == 48)) (d1.data.toList);rw [show d3.data.toList.length=d3.size by simp] at this;have h3:(d1.data.toList).length=d1.size:=by simp
        omega
      go_wp2_with fail
      refine (trimRight_any d3 48 (by decide) _ (by omega)).mono ?_;rintro e w' ⟨cut,rfl,hcut',rfl⟩;have hcut:Hid (cut.data.toList=(d3.data.toList.reverse.dropWhile (· == 48)).reverse):=hcut';clear hcut';have hcs:cut.size<=d3.size:=by
        have:=congrArg List.length hcut.out;have h2:=dropWhile_le (p:=(· == 48)) d3.data.toList.reverse;rw [show cut.data.toList.length=cut.size by simp,List.length_reverse] at this;rw [List.length_reverse,show d3.data.toList.length=d3.size by simp] at h2;omega
      by_cases hz:cut.size=0
      · have qz:cut.toList.isEmpty=true:=by rw [isEmpty_size];simp [hz]
        have HV:Hid (parseV s.data.toList=.tuple #[.agg #[.bool false,.string ⟨#[]⟩,.int .i64 0],.int .i64 0]):=by
          rw [Hid,WH.out.parse,mant,HE.out];simp only [];rw [HX.out,<-HD1.out];rw [point,HJ.out];simp only [];rw [fin_zero hd3.out hcut.out hz]
        clear hz;have cR0_2:=cell_of R2.out 0;have fR0_2:=frozen_of R2.out 0;have cR1_2:=cell_of R2.out 1;have fR1_2:=frozen_of R2.out 1;have cR2_2:=cell_of R2.out 2;have fR2_2:=frozen_of R2.out 2;go_wp2_with fail
        exact pret s w _ _ _ _ _ _ (set3 R2.out _ _ _) (below_set3 B2.out _ _ _) HV.out rfl rfl
      · have qz:cut.toList.isEmpty=false:=by rw [isEmpty_size];simp [hz]
        go_wp2_with fail
        refine (right_any neg cut (x+((d3.size:Int)-cut.size)) _ (by omega)).mono ?_;rintro e w5 ⟨rfl,hb5⟩;have R5:Hid (w5.heap[w.heap.size]?=some (.cells #[.bool false,.string ⟨#[]⟩,.int .i64 0] 25 (0,0))):=(hb5.block _ (by have:=heap_lt R2.out;simp;omega)).trans (heap_alloc_old R2.out);have N5:Hid (w5.heap[w2.heap.size]?=some (.cells #[.bool neg,.string cut,.int .i64 (x+((d3.size:Int)-cut.size))] 25 (0,0))):=(hb5.block _ (by simp)).trans (heap_alloc_new _ _);have B5:Hid (Below w.heap.size w w5):=(B2.out.alloc B2.out.size _).trans (hb5.mono (by have:=B2.out.size;simp;omega));have hRN:w.heap.size≠w2.heap.size:=by have:=heap_lt R2.out;omega
        clear hb5
        cases hr:right neg cut.data.toList (x+((d3.size:Int)-cut.size)) with
        | false=>
          have HV:Hid (parseV s.data.toList=.tuple #[.agg #[.bool false,.string ⟨#[]⟩,.int .i64 0],.int .i64 4]):=by
            rw [Hid,WH.out.parse,mant,HE.out];simp only [];rw [HX.out,<-HD1.out];rw [point,HJ.out];simp only [];rw [fin_bad hd3.out hcut.out hz (x+((d3.size:Int)-cut.size)) (by omega) hr];rfl
          clear hz hr;have cR0_5:=cell_of R5.out 0;have fR0_5:=frozen_of R5.out 0;have cR1_5:=cell_of R5.out 1;have fR1_5:=frozen_of R5.out 1;have cR2_5:=cell_of R5.out 2;have fR2_5:=frozen_of R5.out 2;go_wp2_with fail
          exact pret s w _ _ _ _ _ _ (set3 R5.out _ _ _) (below_set3 B5.out _ _ _) HV.out rfl rfl
        | true=>
          have HV:Hid (parseV s.data.toList=.tuple #[.agg #[.bool neg,.string cut,.int .i64 (x+((d3.size:Int)-cut.size))],.int .i64 0]):=by
            rw [Hid,WH.out.parse,mant,HE.out];simp only [];rw [HX.out,<-HD1.out];rw [point,HJ.out];simp only [];rw [fin_ok hd3.out hcut.out hz (x+((d3.size:Int)-cut.size)) (by omega) hr]
          clear hz hr;go_wp2_with fail
          refine (clone_any cut w5 (by omega)).mono ?_;rintro e w6 ⟨rfl,hb6⟩;have R6:Hid (w6.heap[w.heap.size]?=some (.cells #[.bool false,.string ⟨#[]⟩,.int .i64 0] 25 (0,0))):=(hb6.block _ (heap_lt R5.out)).trans R5.out;have N6:Hid (w6.heap[w2.heap.size]?=some (.cells #[.bool neg,.string cut,.int .i64 (x+((d3.size:Int)-cut.size))] 25 (0,0))):=(hb6.block _ (heap_lt N5.out)).trans N5.out;have B6:Hid (Below w.heap.size w w6):=B5.out.trans (hb6.mono B5.out.size);clear hb6 R5 N5 B5;have cR0_6:=cell_of R6.out 0;have fR0_6:=frozen_of R6.out 0;have cR1_6:=cell_of R6.out 1;have fR1_6:=frozen_of R6.out 1;have cR2_6:=cell_of R6.out 2;have fR2_6:=frozen_of R6.out 2;have cN0:=cell_of N6.out 0;have cN1:=cell_of N6.out 1;have cN2:=cell_of N6.out 2;have fN1:=frozen_of N6.out 1;go_wp2_with fail
          exact pret s w _ _ _ _ _ _ (set3 (heap_set_other R6.out hRN _) _ _ _) (below_set3 (B6.out.setCell (p:=⟨w2.heap.size,1,none⟩) (by have:=B2.out.size;exact this) _) _ _ _) HV.out rfl rfl
    | some j=>
      simp only [hj,zidx] at hjx
      have hjs:j<d1.size:=by have h1:=(List.findIdx?_eq_some_iff_getElem.1 hj).1;simpa using h1
      have HJ:=Hid.out (p:=Hid _) hj;clear hj;refine hjx.mono ?_;rintro e w' ⟨rfl,rfl⟩;clear hjx;go_wp2_with fail
      go_quiet (fail)
      go_wp2_with fail
      obtain ⟨d2,hd2⟩:∃ d2,d2=d1.extract 0 j++d1.extract (j+1) d1.size:=⟨_,rfl⟩;rw [<-hd2];have HD2:Hid (d2.data.toList=d1.data.toList.take j++d1.data.toList.drop (j+1)):=by
        rw [Hid,hd2,ByteArray.data_append,Array.toList_append,Lib.extract_data,Lib.extract_data,List.take_of_length_le (l:=List.drop (j+1) _) (by simp)];simp
      have hd2s:d2.size<=d1.size:=by rw [hd2,ByteArray.size_append,ByteArray.size_extract,ByteArray.size_extract];omega
      clear hd2;have R3:Hid ((w2.drewN nq).heap[w.heap.size]?=some (.cells #[.bool false,.string ⟨#[]⟩,.int .i64 0] 25 (0,0))):=R2.out;have B3:Hid (Below w.heap.size w (w2.drewN nq)):=B2.out.trans (below_drewN _ _ _);clear R2 B2;generalize w2.drewN nq=w3 at *;refine (trimLeft_any d2 48 (by decide) _).mono ?_;rintro e w' ⟨d3,rfl,hd3',rfl⟩;have hd3:Hid (d3.data.toList=(d2.data.toList).dropWhile (· == 48)):=hd3';clear hd3';have hd3s:d3.size<=d2.size:=by
        have:=congrArg List.length hd3.out;have h2:=dropWhile_le (p:=(· == 48)) (d2.data.toList);rw [show d3.data.toList.length=d3.size by simp] at this;have h3:(d2.data.toList).length=d2.size:=by simp
        omega
      go_wp2_with fail
      refine (trimRight_any d3 48 (by decide) _ (by omega)).mono ?_;rintro e w' ⟨cut,rfl,hcut',rfl⟩;have hcut:Hid (cut.data.toList=(d3.data.toList.reverse.dropWhile (· == 48)).reverse):=hcut';clear hcut';have hcs:cut.size<=d3.size:=by
        have:=congrArg List.length hcut.out;have h2:=dropWhile_le (p:=(· == 48)) d3.data.toList.reverse;rw [show cut.data.toList.length=cut.size by simp,List.length_reverse] at this;rw [List.length_reverse,show d3.data.toList.length=d3.size by simp] at h2;omega
      by_cases hz:cut.size=0
      · have qz:cut.toList.isEmpty=true:=by rw [isEmpty_size];simp [hz]
        have HV:Hid (parseV s.data.toList=.tuple #[.agg #[.bool false,.string ⟨#[]⟩,.int .i64 0],.int .i64 0]):=by
          rw [Hid,WH.out.parse,mant,HE.out];simp only [];rw [HX.out,<-HD1.out];rw [point,HJ.out];simp only [];rw [<-HD2.out];rw [fin_zero hd3.out hcut.out hz]
        clear hz;have cR0_2:=cell_of R3.out 0;have fR0_2:=frozen_of R3.out 0;have cR1_2:=cell_of R3.out 1;have fR1_2:=frozen_of R3.out 1;have cR2_2:=cell_of R3.out 2;have fR2_2:=frozen_of R3.out 2;go_wp2_with fail
        exact pret s w _ _ _ _ _ _ (set3 R3.out _ _ _) (below_set3 B3.out _ _ _) HV.out rfl rfl
      · have qz:cut.toList.isEmpty=false:=by rw [isEmpty_size];simp [hz]
        go_wp2_with fail
        refine (right_any neg cut (x-((d1.size:Int)-j-1)+((d3.size:Int)-cut.size)) _ (by omega)).mono ?_;rintro e w5 ⟨rfl,hb5⟩;have R5:Hid (w5.heap[w.heap.size]?=some (.cells #[.bool false,.string ⟨#[]⟩,.int .i64 0] 25 (0,0))):=(hb5.block _ (by have:=heap_lt R3.out;simp;omega)).trans (heap_alloc_old R3.out);have N5:Hid (w5.heap[w3.heap.size]?=some (.cells #[.bool neg,.string cut,.int .i64 (x-((d1.size:Int)-j-1)+((d3.size:Int)-cut.size))] 25 (0,0))):=(hb5.block _ (by simp)).trans (heap_alloc_new _ _);have B5:Hid (Below w.heap.size w w5):=(B3.out.alloc B3.out.size _).trans (hb5.mono (by have:=B3.out.size;simp;omega));have hRN:w.heap.size≠w3.heap.size:=by have:=heap_lt R3.out;omega
        clear hb5
        cases hr:right neg cut.data.toList (x-((d1.size:Int)-j-1)+((d3.size:Int)-cut.size)) with
        | false=>
          have HV:Hid (parseV s.data.toList=.tuple #[.agg #[.bool false,.string ⟨#[]⟩,.int .i64 0],.int .i64 4]):=by
            rw [Hid,WH.out.parse,mant,HE.out];simp only [];rw [HX.out,<-HD1.out];rw [point,HJ.out];simp only [];rw [<-HD2.out];rw [fin_bad hd3.out hcut.out hz (x-((d1.size:Int)-j-1)+((d3.size:Int)-cut.size)) (by simp <;> omega) hr];rfl
          clear hz hr;have cR0_5:=cell_of R5.out 0;have fR0_5:=frozen_of R5.out 0;have cR1_5:=cell_of R5.out 1;have fR1_5:=frozen_of R5.out 1;have cR2_5:=cell_of R5.out 2;have fR2_5:=frozen_of R5.out 2;go_wp2_with fail
          exact pret s w _ _ _ _ _ _ (set3 R5.out _ _ _) (below_set3 B5.out _ _ _) HV.out rfl rfl
        | true=>
          have HV:Hid (parseV s.data.toList=.tuple #[.agg #[.bool neg,.string cut,.int .i64 (x-((d1.size:Int)-j-1)+((d3.size:Int)-cut.size))],.int .i64 0]):=by
            rw [Hid,WH.out.parse,mant,HE.out];simp only [];rw [HX.out,<-HD1.out];rw [point,HJ.out];simp only [];rw [<-HD2.out];rw [fin_ok hd3.out hcut.out hz (x-((d1.size:Int)-j-1)+((d3.size:Int)-cut.size)) (by simp <;> omega) hr]
          clear hz hr;go_wp2_with fail
          refine (clone_any cut w5 (by omega)).mono ?_;rintro e w6 ⟨rfl,hb6⟩;have R6:Hid (w6.heap[w.heap.size]?=some (.cells #[.bool false,.string ⟨#[]⟩,.int .i64 0] 25 (0,0))):=(hb6.block _ (heap_lt R5.out)).trans R5.out;have N6:Hid (w6.heap[w3.heap.size]?=some (.cells #[.bool neg,.string cut,.int .i64 (x-((d1.size:Int)-j-1)+((d3.size:Int)-cut.size))] 25 (0,0))):=(hb6.block _ (heap_lt N5.out)).trans N5.out;have B6:Hid (Below w.heap.size w w6):=B5.out.trans (hb6.mono B5.out.size);clear hb6 R5 N5 B5;have cR0_6:=cell_of R6.out 0;have fR0_6:=frozen_of R6.out 0;have cR1_6:=cell_of R6.out 1;have fR1_6:=frozen_of R6.out 1;have cR2_6:=cell_of R6.out 2;have fR2_6:=frozen_of R6.out 2;have cN0:=cell_of N6.out 0;have cN1:=cell_of N6.out 1;have cN2:=cell_of N6.out 2;have fN1:=frozen_of N6.out 1;go_wp2_with fail
          exact pret s w _ _ _ _ _ _ (set3 (heap_set_other R6.out hRN _) _ _ _) (below_set3 (B6.out.setCell (p:=⟨w3.heap.size,1,none⟩) (by have:=B3.out.size;exact this) _) _ _ _) HV.out rfl rfl
theorem parse_any (s:ByteArray) (w:World) (hs:s.size<=2147483648) (T:Steps w):Calls Tryz.prog 212 #[.string s] w fun e w'=>e=.returned (parseV s.data.toList)/\Below w.heap.size w w':=by
  by_cases h0:s.size=0
  · refine parse_e0 s w hs T ?_;have:s.data.toList=[]:=nil_size.2 h0;rw [<-Lib.mk_data s,this]
  by_cases h1:scan s.data.toList=s.size
  · exact parse_main s w hs T h0 h1
  · exact parse_e1 s w hs T h0 h1
end Go.Proofs.YtliekocamnklfaaGreatDoor.Num
