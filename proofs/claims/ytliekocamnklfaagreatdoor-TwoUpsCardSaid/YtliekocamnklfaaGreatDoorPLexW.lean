/- What package lex computes, in plain Lean. -/
import Derived.Test.YtliekocamnklfaaGreatDoorPNumW
import Derived.Test.YtliekocamnklfaaGreatDoorPQuoteC
set_option linter.unusedVariables false
set_option linter.unusedSimpArgs false
set_option maxRecDepth 100000
set_option maxHeartbeats 4000000
namespace Go.Proofs.YtliekocamnklfaaGreatDoor.Lex
open Utf
def letterB (c:Nat):Bool:=(decide (65<=c) && decide (c<=90)) || (decide (97<=c) && decide (c<=122)) || c == 95
def digitB (c:Nat):Bool:=decide (48<=c) && decide (c<=57)
def inId (c:UInt8):Bool:=letterB c.toNat || digitB c.toNat
def ident (l:List UInt8):Nat:=1+((l.drop 1).takeWhile inId).length
abbrev Nx:=Nat × Nat × Nat × Nat
def val (x:Nx):Value:=.tuple #[.int .i64 x.1,.int .i64 x.2.1,.int .i64 x.2.2.1,.int .i64 x.2.2.2]
def decimal (l:List UInt8):Nx:=
  match Num.parse (l.take (Num.scan l)) with
  | .error e=>(0,0,0,e)
  | .ok _=>(2,Num.scan l,0,0)
def ctl (x:Nat × Nat):Bool:=decide (x.2<32) && x.2 != 9
def within (l:List UInt8):Nat × Nat:=
  match (scalAt l 0).find? ctl with
  | some x=>(x.1,3)
  | none=>match bad (l.length+1) l 0 with
    | some p=>(p,7)
    | none=>(0,0)
def comment (kind:Nat) (l:List UInt8):Nx:=
  if (within l).2≠0 then (0,0,(within l).1,(within l).2) else (kind,l.length,0,0)
def line (l:List UInt8):List UInt8:=match l.findIdx? (· == 10) with | some i=>l.take i | none=>l
def remark (l:List UInt8):Nx:=comment 6 ((line l).reverse.dropWhile ([32,9,13].contains ·)).reverse
def aside (l:List UInt8):Nx:=
  if Lib.index (l.drop 2) [42,47]<0 then (0,0,0,2)
  else if ((l.take ((Lib.index (l.drop 2) [42,47]).toNat+2)).findIdx? (· == 10)).isSome then (0,0,0,2)
  else comment 7 (l.take ((Lib.index (l.drop 2) [42,47]).toNat+4))
def doubles:List (List UInt8):=[[61,61],[33,61],[60,61],[62,61],[38,38],[124,124]]
def singles:List UInt8:=[61,60,62,43,45,42,47,37,33,63,58,44,46,40,41,91,93,123,125]
def sign (l:List UInt8):Nat:=
  if doubles.any (·.isPrefixOf l) then 2 else if (singles.findIdx? (· == UInt8.ofNat (byt l 0))).isSome then 1 else 0
def next (l:List UInt8):Nx:=
  if letterB (byt l 0) then (1,ident l,0,0)
  else if digitB (byt l 0) then decimal l
  else if byt l 0=34 then match Quote.scan l with
    | .error e=>(0,0,0,e)
    | .ok (_,n)=>(3,n,0,0)
  else if byt l 0=10 then (5,1,0,0)
  else if byt l 0=35∨[47,47].isPrefixOf l then remark l
  else if [47,42].isPrefixOf l then aside l
  else if 0<sign l then (4,sign l,0,0)
  else (0,0,0,3)
def blank (c:UInt8):Bool:=([32,9,13].findIdx? (· == c)).isSome
abbrev Tok:=Nat × List UInt8 × Nat
def toks:(fuel:Nat)->List UInt8->Nat->List Tok × Nat × Nat
  | 0,_,_=>([],0,0)
  | n+1,l,p=>
    match l with
    | []=>([],0,0)
    | c::t=>
      if blank c then toks n t (p+1)
      else if (next l).2.2.2≠0 then ([],p+(next l).2.2.1,(next l).2.2.2)
      else (((next l).1,l.take (next l).2.1,p)::(toks n (l.drop (next l).2.1) (p+(next l).2.1)).1,(toks n (l.drop (next l).2.1) (p+(next l).2.1)).2)
open Go.RowKit
theorem letter_0 (c:Nat) (w:World) (h:c<65):Calls Tryz.prog 308 #[.int .u8 c] w fun e w'=>e=.returned (.bool false)/\w=w':=by
  have a:decide (65<=(c:Int))=false:=by simp;omega
  have b:decide ((c:Int)<=90)=true:=by simp;omega
  have e:decide (97<=(c:Int))=false:=by simp;omega
  have g:((c:Int) == 95)=false:=by rw [beq_eq_false_iff_ne];omega
  clear h;go_enter Tryz.func308,Tryz.ntmps308
  go_wp2_with fail
  go_ret
  exact ⟨rfl,rfl⟩
theorem letter_1 (c:Nat) (w:World) (h:65<=c/\c<=90):Calls Tryz.prog 308 #[.int .u8 c] w fun e w'=>e=.returned (.bool true)/\w=w':=by
  have a:decide (65<=(c:Int))=true:=by simp;omega
  have b:decide ((c:Int)<=90)=true:=by simp;omega
  clear h;go_enter Tryz.func308,Tryz.ntmps308
  go_wp2_with fail
  go_ret
  exact ⟨rfl,rfl⟩
theorem letter_2 (c:Nat) (w:World) (h:90<c/\c<95):Calls Tryz.prog 308 #[.int .u8 c] w fun e w'=>e=.returned (.bool false)/\w=w':=by
  have a:decide (65<=(c:Int))=true:=by simp;omega
  have b:decide ((c:Int)<=90)=false:=by simp;omega
  have e:decide (97<=(c:Int))=false:=by simp;omega
  have g:((c:Int) == 95)=false:=by rw [beq_eq_false_iff_ne];omega
  clear h;go_enter Tryz.func308,Tryz.ntmps308
  go_wp2_with fail
  go_ret
  exact ⟨rfl,rfl⟩
theorem letter_3 (c:Nat) (w:World) (h:c=95):Calls Tryz.prog 308 #[.int .u8 c] w fun e w'=>e=.returned (.bool true)/\w=w':=by
  have a:decide (65<=(c:Int))=true:=by simp;omega
  have b:decide ((c:Int)<=90)=false:=by simp;omega
  have e:decide (97<=(c:Int))=false:=by simp;omega
  have g:((c:Int) == 95)=true:=by rw [beq_iff_eq];omega
  clear h;go_enter Tryz.func308,Tryz.ntmps308
  go_wp2_with fail
  go_ret
  exact ⟨rfl,rfl⟩
theorem letter_4 (c:Nat) (w:World) (h:c=96):Calls Tryz.prog 308 #[.int .u8 c] w fun e w'=>e=.returned (.bool false)/\w=w':=by
  have a:decide (65<=(c:Int))=true:=by simp;omega
  have b:decide ((c:Int)<=90)=false:=by simp;omega
  have e:decide (97<=(c:Int))=false:=by simp;omega
  have g:((c:Int) == 95)=false:=by rw [beq_eq_false_iff_ne];omega
  clear h;go_enter Tryz.func308,Tryz.ntmps308
  go_wp2_with fail
  go_ret
  exact ⟨rfl,rfl⟩
theorem letter_5 (c:Nat) (w:World) (h:97<=c/\c<=122):Calls Tryz.prog 308 #[.int .u8 c] w fun e w'=>e=.returned (.bool true)/\w=w':=by
  have a:decide (65<=(c:Int))=true:=by simp;omega
  have b:decide ((c:Int)<=90)=false:=by simp;omega
  have e:decide (97<=(c:Int))=true:=by simp;omega
  have f:decide ((c:Int)<=122)=true:=by simp;omega
  clear h;go_enter Tryz.func308,Tryz.ntmps308
  go_wp2_with fail
  go_ret
  exact ⟨rfl,rfl⟩
theorem letter_6 (c:Nat) (w:World) (h:122<c):Calls Tryz.prog 308 #[.int .u8 c] w fun e w'=>e=.returned (.bool false)/\w=w':=by
  have a:decide (65<=(c:Int))=true:=by simp;omega
  have b:decide ((c:Int)<=90)=false:=by simp;omega
  have e:decide (97<=(c:Int))=true:=by simp;omega
  have f:decide ((c:Int)<=122)=false:=by simp;omega
  have g:((c:Int) == 95)=false:=by rw [beq_eq_false_iff_ne];omega
  clear h;go_enter Tryz.func308,Tryz.ntmps308
  go_wp2_with fail
  go_ret
  exact ⟨rfl,rfl⟩
theorem letter_any (c:Nat) (w:World):Calls Tryz.prog 308 #[.int .u8 c] w fun e w'=>e=.returned (.bool (letterB c))/\w=w':=by
  by_cases h0:c<65
  · rw [show letterB c=false by simp [letterB];omega];exact letter_0 c w h0
  by_cases h1:65<=c/\c<=90
  · rw [show letterB c=true by simp [letterB];omega];exact letter_1 c w h1
  by_cases h2:90<c/\c<95
  · rw [show letterB c=false by simp [letterB];omega];exact letter_2 c w h2
  by_cases h3:c=95
  · rw [show letterB c=true by simp [letterB];omega];exact letter_3 c w h3
  by_cases h4:c=96
  · rw [show letterB c=false by simp [letterB];omega];exact letter_4 c w h4
  by_cases h5:97<=c/\c<=122
  · rw [show letterB c=true by simp [letterB];omega];exact letter_5 c w h5
  · rw [show letterB c=false by simp [letterB];omega];exact letter_6 c w (by omega)
theorem digit_0 (c:Nat) (w:World) (h:c<48):Calls Tryz.prog 310 #[.int .u8 c] w fun e w'=>e=.returned (.bool false)/\w=w':=by
  have a:decide (48<=(c:Int))=false:=by simp;omega
  clear h;go_enter Tryz.func310,Tryz.ntmps310
  go_wp2_with fail
  go_ret
  exact ⟨rfl,rfl⟩
theorem digit_1 (c:Nat) (w:World) (h:48<=c/\c<=57):Calls Tryz.prog 310 #[.int .u8 c] w fun e w'=>e=.returned (.bool true)/\w=w':=by
  have a:decide (48<=(c:Int))=true:=by simp;omega
  have b:decide ((c:Int)<=57)=true:=by simp;omega
  clear h;go_enter Tryz.func310,Tryz.ntmps310
  go_wp2_with fail
  go_ret
  exact ⟨rfl,rfl⟩
theorem digit_2 (c:Nat) (w:World) (h:57<c):Calls Tryz.prog 310 #[.int .u8 c] w fun e w'=>e=.returned (.bool false)/\w=w':=by
  have a:decide (48<=(c:Int))=true:=by simp;omega
  have b:decide ((c:Int)<=57)=false:=by simp;omega
  clear h;go_enter Tryz.func310,Tryz.ntmps310
  go_wp2_with fail
  go_ret
  exact ⟨rfl,rfl⟩
theorem digit_any (c:Nat) (w:World):Calls Tryz.prog 310 #[.int .u8 c] w fun e w'=>e=.returned (.bool (digitB c))/\w=w':=by
  by_cases h0:c<48
  · rw [show digitB c=false by simp [digitB];omega];exact digit_0 c w h0
  by_cases h1:48<=c/\c<=57
  · rw [show digitB c=true by simp [digitB];omega];exact digit_1 c w h1
  · rw [show digitB c=false by simp [digitB];omega];exact digit_2 c w (by omega)
open Go.Shelf Strs
attribute [local go_sem] Oper.semAt_some
theorem ident_any (s:ByteArray) (w:World) (h0:0<s.size) (hs:s.size<=4611686018427387904):Calls Tryz.prog 309 #[.string s] w fun e w'=>e=.returned (.int .i64 (ident s.data.toList))/\w=w':=by
  go_enter Tryz.func309,Tryz.ntmps309
  go_wp2_with fail
  go_loop [3] (fun p3=>∃ n:Nat,1<=n/\n<=s.size/\p3=.int .i64 n/\Hid (ident s.data.toList=n+((s.data.toList.drop n).takeWhile inId).length)) (fun p3=>s.size-(intOf p3).toNat)
  case atStart=>exact ⟨1,Nat.le_refl _,h0,rfl,rfl⟩
  case round=>
    obtain ⟨n,h1,hn,rfl,hid⟩:=hrel;by_cases hlt:n<s.size
    · have hcons:Hid (s.data.toList.drop n=s[n]::s.data.toList.drop (n+1)):=Num.drop_byte s n hlt;go_wp2_with fail
      refine (letter_any s[n].toNat w).mono ?_;rintro e w' ⟨rfl,rfl⟩;cases hl:letterB s[n].toNat
      · go_wp2_with fail
        refine (digit_any s[n].toNat w).mono ?_;rintro e w' ⟨rfl,rfl⟩;cases hd:digitB s[n].toNat
        · have HF:Hid (ident s.data.toList=n):=by
            rw [Hid,hid.out,hcons.out,List.takeWhile_cons,if_neg (by simp [inId,hl,hd])];rfl
          clear hl hd;go_wp2_with fail
          go_ret
          exact ⟨by rw [HF.out];rfl,rfl⟩
        · have HF:Hid (ident s.data.toList=n+1+((s.data.toList.drop (n+1)).takeWhile inId).length):=by
            rw [Hid,hid.out,hcons.out,List.takeWhile_cons,if_pos (by simp [inId,hd])];simp;omega
          clear hl hd;go_wp2_with fail
          go_round
          case rel=>exact ⟨n+1,by omega,by omega,by go_num,HF.out⟩
          case measure=>simp [intOf];omega
      · have HF:Hid (ident s.data.toList=n+1+((s.data.toList.drop (n+1)).takeWhile inId).length):=by
          rw [Hid,hid.out,hcons.out,List.takeWhile_cons,if_pos (by simp [inId,hl])];simp;omega
        clear hl;go_wp2_with fail
        go_round
        case rel=>exact ⟨n+1,by omega,by omega,by go_num,HF.out⟩
        case measure=>simp [intOf];omega
    · have HF:Hid (ident s.data.toList=n):=by
        rw [Hid,hid.out,List.drop_of_length_le (by simp;omega)];rfl
      obtain rfl:n=s.size:=by omega
      go_wp2_with fail
      go_ret
      exact ⟨by rw [HF.out];rfl,rfl⟩
theorem parse_err {l:List UInt8} {k:Nat} (h:Num.parse l=.error k):k=3∨k=4:=by
  have hf:∀ neg d x,Num.fin neg d x=.error k->k=3∨k=4:=by
    intro neg d x h
    unfold Num.fin at h;simp only [] at h
    split at h
    · cases h
    · split at h
      · cases h
      · injection h with h;omega
  have hp:∀ neg d x,Num.point neg d x=.error k->k=3∨k=4:=by
    intro neg d x h
    unfold Num.point at h;split at h <;> exact hf _ _ _ h
  unfold Num.parse at h;split at h
  · injection h with h;omega
  · unfold Num.mant at h;split at h <;> exact hp _ _ _ h
theorem decimal_any (s:ByteArray) (w:World) (hs:s.size<=2147483648) (T:Num.Steps w):Calls Tryz.prog 311 #[.string s] w fun e w'=>e=.returned (val (decimal s.data.toList))/\Below w.heap.size w w':=by
  have HT:=Hid.out (p:=Hid _) T;clear T;obtain ⟨n,hn⟩:∃ n,n=Num.scan s.data.toList:=⟨_,rfl⟩;have hle:=Num.scan_le s.data.toList;rw [<-hn,show s.data.toList.length=s.size by simp] at hle;have hdec:Hid (decimal s.data.toList=match Num.parse (s.data.toList.take n) with
    | .error e=>(0,0,0,e)
    | .ok _=>(2,n,0,0)):=by rw [Hid,decimal,<-hn] <;> cases Num.parse (s.data.toList.take n) <;> rfl
  have hscan:=Num.scan_any s w (by omega) HT.out;rw [<-hn] at hscan;clear hn;go_enter Tryz.func311,Tryz.ntmps311
  go_wp2_with fail
  refine hscan.mono ?_;rintro e w1 ⟨rfl,m,hw1⟩;have B1:Hid (Below w.heap.size w w1):=by rw [hw1];exact below_drewN _ _ _
  have T1:Hid (Num.Steps w1):=HT.out.stays B1.out;clear hw1 hscan;go_wp2_with fail
  refine (Num.parse_any (s.extract 0 n) w1 (by rw [ByteArray.size_extract];omega) T1.out).mono ?_;rintro e w2 ⟨rfl,hb2⟩;have B2:Hid (Below w.heap.size w w2):=B1.out.trans (hb2.mono B1.out.size);clear hb2;rw [show (s.extract 0 n).data.toList=s.data.toList.take n by rw [Lib.extract_data];simp]
  cases hp:Num.parse (s.data.toList.take n) with
  | error k=>
    have hk:=parse_err hp;have hq:((k:Int) != 0)=true:=by rw [bne_iff_ne];omega
    have HV:Hid (val (decimal s.data.toList)=.tuple #[.int .i64 0,.int .i64 0,.int .i64 0,.int .i64 k]):=by rw [Hid,hdec.out,hp];rfl
    have HP:Num.parseV (s.data.toList.take n)=.tuple #[.agg #[.bool false,.string ⟨#[]⟩,.int .i64 0],.int .i64 k]:=by rw [Num.parseV,hp]
    rw [HP];clear hp HP;go_wp2_with fail
    refine bodyPost_ret (v:=.tuple #[.int .i64 0,.int .i64 0,.int .i64 0,.int .i64 k]) (by simp [results,Tryz.results311,go_sem]) rfl ⟨by rw [HV.out],B2.out.alloc B2.out.size _⟩
  | ok x=>
    obtain ⟨g,d,x⟩:=x;have HV:Hid (val (decimal s.data.toList)=.tuple #[.int .i64 2,.int .i64 n,.int .i64 0,.int .i64 0]):=by rw [Hid,hdec.out,hp];rfl
    have HP:Num.parseV (s.data.toList.take n)=.tuple #[.agg #[.bool g,.string ⟨d.toArray⟩,.int .i64 x],.int .i64 0]:=by rw [Num.parseV,hp]
    rw [HP];clear hp HP;go_wp2_with fail
    refine bodyPost_ret (v:=.tuple #[.int .i64 2,.int .i64 n,.int .i64 0,.int .i64 0]) (by simp [results,Tryz.results311,go_sem]) rfl ⟨by rw [HV.out],B2.out.alloc B2.out.size _⟩
attribute [local go_sem] Oper.semAt_some
theorem KeepsOthers.set2 (W:World) (a b:Addr) (u v:Value):KeepsOthers W ((W.setCell a u).setCell b v):=(KeepsOthers.setCell _ _ _).trans (KeepsOthers.setCell _ _ _)
structure Two (W:World) (b:Nat) (x y:Value):Prop where
  c0:W.heap[b]?=some (.cells #[x] 3 (0,0))
  c1:W.heap[b+1]?=some (.cells #[y] 33 (0,0))
theorem Two.grown {w w':World} {b:Nat} {x y:Value} {row:Option Nat} (h:Two w b x y) (hg:w.grownBy w' row) (hr:∀ r,row=some r->∃ o:Obj,w.heap[r]?=some o/\o.isCells=false):Two w' b x y:=
  ⟨Quote.blk_grown h.c0 hg hr,Quote.blk_grown h.c1 hg hr⟩
theorem Two.set {w:World} {b:Nat} {x y:Value} (h:Two w b x y) (u v:Value):Two ((w.setCell ⟨b,0,none⟩ u).setCell ⟨b+1,0,none⟩ v) b u v:=
  ⟨heap_set_other (heap_set_same h.c0 u) (by omega) v,heap_set_same (heap_set_other h.c1 (by omega) u) v⟩
theorem wret (s:ByteArray) (w W:World) (D:Nat) (tm:Array Value) (x y:Nat) (h:Two W w.heap.size (.int .i64 x) (.int .i64 y)) (hB:Below w.heap.size w W) (hD:w.heap.size<=D) (hK:W.heap[D]?=some (.deferred (some []))) (hv:within s.data.toList=(x,y))
    (h2:tm[2]?=some (.pointer (some ⟨w.heap.size,0,none⟩))) (h3:tm[3]?=some (.pointer (some ⟨w.heap.size+1,0,none⟩))) :
    bodyPostM Fence.wide 10 Tryz.prog Tryz.f323 (fun e w'=>e=.returned (.tuple #[.int .i64 (within s.data.toList).1,.int .i64 (within s.data.toList).2])/\Below w.heap.size w w') Exit.ret
      { tmps:=tm,defers:=[{ target:=.collected D,args:=#[] }] } W:=by
  have hg:=grownBy_putObj' W D (.deferred none);have hr:∀ r,some D=some r->∃ o:Obj,W.heap[r]?=some o/\o.isCells=false:=fun r e=>by cases e;exact ⟨_,hK,rfl⟩
  have h':=h.grown hg hr;have e0:=cell_of h'.c0 0;have e1:=cell_of h'.c1 0;refine ⟨by simp,.inl ⟨_,_,rfl,run_takeDeferred hK,?_⟩⟩;refine ⟨.tuple #[.int .i64 x,.int .i64 y],?_,by rw [hv],hB.grown hg hB.size (fun k e=>by cases e;exact hD)⟩;simp [results,Tryz.results323,go_sem,h2,h3,e0,e1]
theorem within_any (s:ByteArray) (w:World) (hs:s.size<=2147483648) (T:Sizes w):Calls Tryz.prog 323 #[.string s] w fun e w'=>e=.returned (.tuple #[.int .i64 (within s.data.toList).1,.int .i64 (within s.data.toList).2])/\Below w.heap.size w w':=by
  have HT:=Hid.out (p:=Hid _) T;clear T;rw [<-callsIn_wide (n:=10)];refine callsIn_of_wp_marks Tryz.func323 rfl trivial ?_ rfl;simp only [Tryz.ntmps323,List.size_toArray,List.length_cons,List.length_nil,Nat.reduceAdd,Nat.reduceSub,Array.replicate_succ,Array.replicate_zero,List.push_toArray,List.append_toArray,List.nil_append,List.cons_append]
  refine wpIn_wide.2 ?_;go_wp2_with fail
  refine (all_any s _).mono ?_;rintro e w1 ⟨rfl,hb1,hbox⟩;have hb0:Below w.heap.size w w1:=(((Below.refl _ w).alloc (Nat.le_refl _) _).alloc (by simp) _).trans (hb1.mono (by simp;omega));have T2:Hid (Two w1 w.heap.size (.int .i64 0) (.int .i64 0)):=
    ⟨(hb1.block _ (by simp;omega)).trans (heap_alloc_old (heap_alloc_new _ _)),(hb1.block _ (by simp)).trans (by have:=heap_alloc_new (w.alloc (.cells #[.int .i64 0] 3)) (.cells #[.int .i64 0] 33);simpa using this)⟩
  have T1:Hid (Sizes w1):=HT.out.stays hb0;have HB:=Hid.out (p:=Hid _) hb0;clear hb0;have hX:Hid (w1.heap[w.heap.size+1+1]?=some (.cells #[.string s] 9 (0,0))):=by unfold Hid;simpa using hbox
  have hsz:w.heap.size+1+1<w1.heap.size:=heap_lt hX.out;clear hb1 hbox;go_wp2_with fail
  refine (wpIn_wide (n:=10)).1 ?_;refine wpIn_rangeFunc_ownG (α:=Nat × Nat) (w:=w1) rfl (by decide) (gf:=325) (lb:=#[.pointer (some ⟨w.heap.size+1+1,0,none⟩)]) rfl trivial (enters_of Tryz.func325 (by kernel_rfl) rfl)
    (scal_stops 9 (w.heap.size+1+1) s (by omega) (by decide) w1 hX.out T1.out) (fun h k=>KpA.t h k)
    (fun W l o o' hl ho hc _=>⟨World.putObj_heap_other (fun e=>by omega),fun t=>t.kept (World.putObj_heap_other (fun e=>by have:=T1.out.lt;omega))⟩) (Below.refl _ _) (fun _=>rfl)
    (fun pre W=>(∀ y∈pre,ctl y=false)/\Hid (Two W w.heap.size (.int .i64 0) (.int .i64 0))/\Hid (Below w.heap.size w W))
    (fun c pre W=>c=.ret/\∃ (p:List (Nat × Nat)) (x:Nat × Nat),pre=p++[x]/\(∀ y∈p,ctl y=false)/\ctl x=true/\Hid (Two W w.heap.size (.int .i64 x.1) (.int .i64 3))/\Hid (Below w.heap.size w W))
    (fun s A B row hs hg hr=>⟨hs.1,hs.2.1.out.grown hg (fun r e=>(hr r e).2),hs.2.2.out.grown hg hs.2.2.out.size (fun r e=>by have:=(hr r e).1;omega)⟩)
    (fun c s A B row hs hg hr=>⟨hs.1,by obtain ⟨_,p,x,h1,h2,h3,h4,h5⟩:=hs;exact ⟨p,x,h1,h2,h3,h4.out.grown hg (fun r e=>(hr r e).2),h5.out.grown hg h5.out.size (fun r e=>by have:=(hr r e).1;omega)⟩⟩)
    ⟨by simp,T2.out,HB.out⟩
    (fun x=>{ tmps:=#[.string s,undef,.pointer (some ⟨w.heap.size,0,none⟩),.pointer (some ⟨w.heap.size+1,0,none⟩),.int .i64 x.1,.int .i64 x.2,undef,.string s,.func (.func 325) #[] #[.pointer (some ⟨w.heap.size+1+1,0,none⟩)],.int .i64 x.1,.int .i64 x.2,undef,undef,undef,undef,undef,undef,undef,undef,undef,undef,undef,undef],defers:=[] }) ?assign ?body ?done ?stop
  case assign=>
    intro l x W K hK
    gi_wp2
    exact hK
  case body=>
    rintro l pre x W ⟨hp,h2,hB⟩ _;have c0:=cell_of h2.out.c0 0;have c1:=cell_of h2.out.c1 0;have f0:=frozen_of h2.out.c0 0;have f1:=frozen_of h2.out.c1 0;by_cases h32:x.2<32
    · by_cases h9:x.2=9
      · have d1:decide ((x.2:Int)<32)=true:=by simp;omega
        have d2:((x.2:Int) != 9)=false:=by rw [h9];rfl
        have hc:ctl x=false:=by simp [ctl,h9]
        clear h9 h32
        gi_wp2_with fail
        exact ⟨KeepsFrom.refl _ _,⟨rfl,fun t=>t⟩,fun y hy=>by rcases List.mem_append.1 hy with h | h;exact hp y h;rw [List.mem_singleton.1 h];exact hc,h2,hB⟩
      · have d1:decide ((x.2:Int)<32)=true:=by simp;omega
        have d2:((x.2:Int) != 9)=true:=by rw [bne_iff_ne];omega
        have hc:ctl x=true:=by simp [ctl,h9,h32]
        clear h9 h32
        gi_wp2_with fail
        exact ⟨(KeepsOthers.set2 _ _ _ _ _).from _,rfl,pre,x,rfl,hp,hc,h2.out.set _ _,(hB.out.setCell (p:=⟨w.heap.size,0,none⟩) (Nat.le_refl _) _).setCell (p:=⟨w.heap.size+1,0,none⟩) (by simp) _⟩
    · have d1:decide ((x.2:Int)<32)=false:=by simp;omega
      have hc:ctl x=false:=by simp [ctl,h32]
      clear h32
      gi_wp2_with fail
      exact ⟨KeepsFrom.refl _ _,⟨rfl,fun t=>t⟩,fun y hy=>by rcases List.mem_append.1 hy with h | h;exact hp y h;rw [List.mem_singleton.1 h];exact hc,h2,hB⟩
  case done=>
    rintro D xs W hD rfl ⟨hp,h2,hB⟩ hKD;have hf:(scalAt s.data.toList 0).find? ctl=none:=List.find?_eq_none.2 (fun y hy=>by rw [hp y hy];decide);have TW:Hid (Sizes W):=HT.out.stays hB.out;have HP:=Hid.out (p:=Hid _) hp;clear hp;have HK:=Hid.out (p:=Hid _) hKD;clear hKD;go_wp2_with fail
    refine (bad_any s W (by omega) TW.out).mono ?_;rintro e w' ⟨rfl,rfl⟩;have c0:=cell_of h2.out.c0 0;have c1:=cell_of h2.out.c1 0;have f0:=frozen_of h2.out.c0 0;have f1:=frozen_of h2.out.c1 0
    cases hb:bad (s.data.toList.length+1) s.data.toList 0 with
    | none=>
      have hz:badZ s.data.toList=-1:=by rw [badZ,hb]
      have hv:Hid (within s.data.toList=(0,0)):=by rw [Hid,within,hf,hb]
      rw [hz];clear hz hb hf;go_wp2_with fail
      exact wret s w _ D _ 0 0 (h2.out.set _ _) ((hB.out.setCell (p:=⟨w.heap.size,0,none⟩) (Nat.le_refl _) _).setCell (p:=⟨w.heap.size+1,0,none⟩) (by simp) _) (by omega) (heap_set_other (heap_set_other HK.out (by omega) _) (by omega) _) hv.out rfl rfl
    | some p=>
      have hz:badZ s.data.toList=p:=by rw [badZ,hb]
      have hv:Hid (within s.data.toList=(p,7)):=by rw [Hid,within,hf,hb]
      rw [hz];clear hz hb hf;go_wp2_with fail
      exact wret s w _ D _ p 7 (h2.out.set _ _) ((hB.out.setCell (p:=⟨w.heap.size,0,none⟩) (Nat.le_refl _) _).setCell (p:=⟨w.heap.size+1,0,none⟩) (by simp) _) (by omega) (heap_set_other (heap_set_other HK.out (by omega) _) (by omega) _) hv.out rfl rfl
  case stop=>
    rintro D c pre W hD hpre ⟨rfl,p,x,rfl,hp,hc,h2,hB⟩ hKD;have hv:Hid (within s.data.toList=(x.1,3)):=by
      obtain ⟨t,ht⟩:=hpre;rw [Hid,within,<-ht,List.append_assoc,List.find?_append,List.find?_eq_none.2 (fun y hy=>by rw [hp y hy];decide)];simp [hc]
    clear hpre hp;have HK:=Hid.out (p:=Hid _) hKD;clear hKD;refine wpIn_wide.2 ?_;go_wp2_with fail
    exact wret s w W D _ x.1 3 h2.out hB.out (by omega) HK.out hv.out rfl rfl
end Go.Proofs.YtliekocamnklfaaGreatDoor.Lex
