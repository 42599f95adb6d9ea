/- tabulariumref06.Parse: the walk. -/
import Derived.Test.YtliekocamnklfaaGreatDoorPRefD
import Derived.Deep.LoopGhost
import Derived.StillTailTactics
import Derived.Deep.RegionWith
import Derived.RegionTactic
import Derived.Deep.CutBlock
set_option linter.unusedVariables false
set_option linter.unusedSimpArgs false
set_option maxRecDepth 100000
set_option maxHeartbeats 8000000
namespace Go.Proofs.YtliekocamnklfaaGreatDoor.Num
open Go.RowKit Utf Strs
def isMark (c:UInt8):Bool:=c.toNat == 101 || c.toNat == 69
abbrev Ms:=Int × List UInt8 × Bool
def mstep (m:Ms) (c:UInt8):Ms:=
  if c.toNat=46 then (m.1,m.2.1,true)
  else (if m.2.2 then m.1-1 else m.1,if m.2.1=[]/\c.toNat=48 then m.2.1 else m.2.1++[c],m.2.2)
def ploop (m:Nat × Bool) (c:UInt8):Nat × Bool:=
  (if dig c.toNat && decide (m.1<1000000000) then m.1*10+(c.toNat-48) else m.1,m.2 || c.toNat == 45)
def trim0 (l:List UInt8):List UInt8:=(l.reverse.dropWhile (· == 48)).reverse
def rfin (neg:Bool) (d:List UInt8) (x:Int):Except Nat (Bool × List UInt8 × Int):=
  if trim0 d=[] then .ok (false,[],0)
  else if right neg (trim0 d) (x+((d.length:Int)-(trim0 d).length)) then .ok (neg,trim0 d,x+((d.length:Int)-(trim0 d).length)) else .error 4
def pow (m:Nat × Bool):Int:=if m.2 then -(m.1:Int) else m.1
def rmant (neg:Bool) (l:List UInt8):Except Nat (Bool × List UInt8 × Int):=
  rfin neg ((l.takeWhile (!isMark ·)).foldl mstep (0,[],false)).2.1
    (((l.takeWhile (!isMark ·)).foldl mstep (0,[],false)).1+pow (((l.dropWhile (!isMark ·)).drop 1).foldl ploop (0,false)))
def rparse (l:List UInt8):Except Nat (Bool × List UInt8 × Int):=
  if l=[]∨rscan l≠l.length then .error 3
  else rmant (byt l 0 == 45) (if byt l 0=45 then l.drop 1 else l)
def resV:Except Nat (Bool × List UInt8 × Int)->Value
  | .error k=>.tuple #[.agg #[.bool false,.string ⟨#[]⟩,.int .i64 0],.int .i64 k]
  | .ok (n,d,x)=>.tuple #[.agg #[.bool n,.string ⟨d.toArray⟩,.int .i64 x],.int .i64 0]
structure Nw (w:World) (W:World) (neg:Bool) (d:ByteArray) (x:Int):Prop where
  r:W.heap[w.heap.size]?=some (.cells #[.bool false,.string ⟨#[]⟩,.int .i64 0] 25 (0,0))
  n:W.heap[w.heap.size+1]?=some (.cells #[.bool neg,.string d,.int .i64 x] 25 (0,0))
  b:Below w.heap.size w W
theorem Nw.set1 {w W:World} {neg:Bool} {d:ByteArray} {x:Int} (h:Nw w W neg d x) (d':ByteArray):Nw w (W.setCell ⟨w.heap.size+1,1,none⟩ (.string d')) neg d' x:=
  ⟨heap_set_other h.r (by omega) _,heap_set_same h.n _,h.b.setCell (p:=⟨w.heap.size+1,1,none⟩) (by simp) _⟩
theorem Nw.set2 {w W:World} {neg:Bool} {d:ByteArray} {x:Int} (h:Nw w W neg d x) (x':Int):Nw w (W.setCell ⟨w.heap.size+1,2,none⟩ (.int .i64 x')) neg d x':=
  ⟨heap_set_other h.r (by omega) _,heap_set_same h.n _,h.b.setCell (p:=⟨w.heap.size+1,2,none⟩) (by simp) _⟩
theorem Nw.set0 {w W:World} {neg:Bool} {d:ByteArray} {x:Int} (h:Nw w W neg d x) (neg':Bool):Nw w (W.setCell ⟨w.heap.size+1,0,none⟩ (.bool neg')) neg' d x:=
  ⟨heap_set_other h.r (by omega) _,heap_set_same h.n _,h.b.setCell (p:=⟨w.heap.size+1,0,none⟩) (by simp) _⟩
theorem Nw.drew {w W:World} {neg:Bool} {d:ByteArray} {x:Int} (h:Nw w W neg d x):Nw w W.drew neg d x:=
  ⟨h.r,h.n,h.b.drew⟩
theorem conc_data (d e:ByteArray):(d++e).data.toList=d.data.toList++e.data.toList:=by simp
theorem trim0_snoc (l:List UInt8) (c:UInt8):trim0 (l++[c])=if c=48 then trim0 l else l++[c]:=by
  unfold trim0;rw [List.reverse_append,List.reverse_singleton,List.singleton_append,List.dropWhile_cons];by_cases h:c=48
  · rw [if_pos h,if_pos (by rw [h];rfl)]
  · rw [if_neg h,if_neg (by simpa using h)];simp
theorem last_split (d:ByteArray) (g:Nat) (h:d.size=g+1):d.data.toList=(d.extract 0 g).data.toList++[d[g]]:=by
  rw [Lib.extract_data];have hl:d.data.toList.length=g+1:=by simpa using h
  have:d.data.toList=d.data.toList.take g++d.data.toList.drop g:=(List.take_append_drop _ _).symm;conv=>lhs;rw [this]
  rw [List.drop_zero,Nat.sub_zero,drop_byte d g (by omega),List.drop_of_length_le (by omega)]
theorem rfin_at {neg:Bool} {d c:List UInt8} {x x':Int} (h:trim0 d=c) (hx:x'=x+((d.length:Int)-c.length)):rfin neg d x=if c=[] then .ok (false,[],0) else if right neg c x' then .ok (neg,c,x') else .error 4:=by
  subst h hx;rfl
def RPPost (s:ByteArray) (w:World) (e:Ending) (w':World):Prop:=e=.returned (resV (rparse s.data.toList))/\Below w.heap.size w w'
theorem rparse_e (s:ByteArray) (w:World) (hs:s.size<=2147483648) (h:s.size=0∨s.size≠0/\rscan s.data.toList≠s.size):Calls Tryz.prog 98 #[.string s] w (RPPost s w):=by
  have HV:Hid (resV (rparse s.data.toList)=.tuple #[.agg #[.bool false,.string ⟨#[]⟩,.int .i64 0],.int .i64 3]):=by
    rw [Hid,rparse,if_pos];rfl;rcases h with h | h
    · exact .inl (List.eq_nil_of_length_eq_zero (by simpa using h))
    · right;simpa using h.2
  rcases h with h | ⟨h,h1⟩
  · go_enter Tryz.func98,Tryz.ntmps98
    go_wp2_with fail
    refine bodyPost_ret (v:=.tuple #[.agg #[.bool false,.string ⟨#[]⟩,.int .i64 0],.int .i64 3]) (by simp [results,Tryz.results98,go_sem]) rfl ⟨by rw [HV.out],(Below.refl _ _).alloc (Nat.le_refl _) _⟩
  · have q0:((s.size:Int) == 0)=false:=by rw [beq_eq_false_iff_ne];omega
    have q1:((rscan s.data.toList:Int) != (s.size:Int))=true:=by rw [bne_iff_ne];omega
    have hc:=fun w=>rscan_any s w hs;generalize rscan s.data.toList=r at *;have HC:=Hid.out (p:=Hid _) hc;clear hc h h1;go_enter Tryz.func98,Tryz.ntmps98
    go_wp2_with fail
    refine (Calls.mono (HC.out _) ?_);rintro e w' ⟨rfl,rfl⟩;go_wp2_with fail
    refine bodyPost_ret (v:=.tuple #[.agg #[.bool false,.string ⟨#[]⟩,.int .i64 0],.int .i64 3]) (by simp [results,Tryz.results98,go_sem]) rfl ⟨by rw [HV.out],(Below.refl _ _).alloc (Nat.le_refl _) _⟩
theorem rpret (s:ByteArray) (w w':World) (tm:Array Value) (a b c k:Value) (hb:w'.heap[w.heap.size]?=some (.cells #[a,b,c] 25 (0,0))) (hB:Below w.heap.size w w') (hv:resV (rparse s.data.toList)=.tuple #[.agg #[a,b,c],k])
    (h2:tm[2]?=some (.pointer (some ⟨w.heap.size,0,none⟩))) (h3:tm[3]?=some k) :
    bodyPost Tryz.prog Tryz.f98 (RPPost s w) Exit.ret { tmps:=tm,defers:=[] } w':=by
  have c0:=cell_of hb 0;have c1:=cell_of hb 1;have c2:=cell_of hb 2;refine bodyPost_ret (v:=.tuple #[.agg #[a,b,c],k]) ?_ rfl ⟨by rw [hv],hB⟩;simp [results,Tryz.results98,go_sem,h2,h3,c0,c1,c2]
theorem rparse_go (s:ByteArray) (w:World) (hs:s.size<=2147483648) (h0:0<s.size) (h:rscan s.data.toList=s.size):Calls Tryz.prog 98 #[.string s] w (RPPost s w):=by
  have hb0:=byt_at s 0 h0;have hl:s.data.toList.length=s.size:=by simp
  have HV:Hid (resV (rparse s.data.toList)=resV (rmant (byt s.data.toList 0 == 45) (if byt s.data.toList 0=45 then s.data.toList.drop 1 else s.data.toList))):=by
    rw [Hid,rparse,if_neg];rintro (h1 | h1)
    · rw [h1] at hl;simp at hl;omega
    · exact h1 (by rw [h];simp)
  have q0:((s.size:Int) == 0)=false:=by rw [beq_eq_false_iff_ne];omega
  have q1:((rscan s.data.toList:Int) != (s.size:Int))=false:=by rw [bne_eq_false_iff_eq];omega
  have hc:=fun w=>rscan_any s w hs;generalize rscan s.data.toList=r at *;have HC:=Hid.out (p:=Hid _) hc;clear hc h;have HB:=Hid.out (p:=Hid _) hb0;clear hb0;have HL:=Hid.out (p:=Hid _) hl;clear hl;go_enter Tryz.func98,Tryz.ntmps98
  go_wp2_with fail
  refine (Calls.mono (HC.out _) ?_);rintro e w' ⟨rfl,rfl⟩;clear HC
  go_upto_if 23 with (fail)
  go_cut [5] (fun p5 wx=>∃ i:Nat,p5=.int .i64 i/\Hid (Nw w wx (byt s.data.toList 0 == 45) ⟨#[]⟩ 0)/\Hid ((if byt s.data.toList 0=45 then s.data.toList.drop 1 else s.data.toList)=s.data.toList.drop i)/\i<=s.size/\i<=1)
  case first=>
    have N0:Hid (Nw w ((w.alloc (.cells #[.bool false,.string ⟨#[]⟩,.int .i64 0] 25)).alloc (.cells #[.bool false,.string ⟨#[]⟩,.int .i64 0] 25)) false ⟨#[]⟩ 0):=by
      refine ⟨heap_alloc_old (heap_alloc_new _ _),?_,((Below.refl _ _).alloc (Nat.le_refl _) _).alloc (by simp) _⟩;have:=heap_alloc_new (w.alloc (.cells #[.bool false,.string ⟨#[]⟩,.int .i64 0] 25)) (.cells #[.bool false,.string ⟨#[]⟩,.int .i64 0] 25)
      simpa using this
    have HBB:=Hid.out (p:=Hid _) (UInt8.toNat_lt s[0]);by_cases hq:s[0].toNat=45
    · have q45:((s[0].toNat:Int) == 45)=true:=by rw [beq_iff_eq];omega
      have HE:Hid ((byt s.data.toList 0 == 45)=true/\(if byt s.data.toList 0=45 then s.data.toList.drop 1 else s.data.toList)=s.data.toList.drop 1):=by
        rw [Hid,HB.out];exact ⟨by rw [beq_iff_eq];exact hq,if_pos hq⟩
      clear hq;have c0:=cell_of N0.out.n 0;have f0:=frozen_of N0.out.n 0;generalize ((w.alloc (.cells #[.bool false,.string ⟨#[]⟩,.int .i64 0] 25)).alloc (.cells #[.bool false,.string ⟨#[]⟩,.int .i64 0] 25))=wz at *;go_wp2_with fail
      go_meet
      exact ⟨1,rfl,by rw [HE.out.1];exact N0.out.set0 true,HE.out.2,h0,Nat.le_refl _⟩
    · have q45:((s[0].toNat:Int) == 45)=false:=by rw [beq_eq_false_iff_ne];omega
      have HE:Hid ((byt s.data.toList 0 == 45)=false/\(if byt s.data.toList 0=45 then s.data.toList.drop 1 else s.data.toList)=s.data.toList.drop 0):=by
        rw [Hid,HB.out];exact ⟨by rw [beq_eq_false_iff_ne];exact hq,if_neg hq⟩
      clear hq;generalize ((w.alloc (.cells #[.bool false,.string ⟨#[]⟩,.int .i64 0] 25)).alloc (.cells #[.bool false,.string ⟨#[]⟩,.int .i64 0] 25))=wz at *;go_wp2_with fail
      go_meet
      exact ⟨0,rfl,by rw [HE.out.1];exact N0.out,HE.out.2,Nat.zero_le _,by omega⟩
  case rest=>
  obtain ⟨i,rfl,hN,hi,his,hi1⟩:=hcut;rw [hi.out] at HV;clear hi;generalize (byt s.data.toList 0 == 45)=neg at *
  go_upto_block 0 with (fail)
  go_cut [5,6] (fun p5 p6 wx=>∃ (k:Nat) (d:ByteArray) (x:Int) (pt:Bool),p5=.int .i64 k/\Hid (Nw w wx neg d x)/\k<=s.size/\-(k:Int)<=x/\x<=0/\d.size<=k/\Hid (((s.data.toList.drop i).takeWhile (!isMark ·)).foldl mstep (0,[],false)=(x,d.data.toList,pt))/\Hid ((s.data.toList.drop i).dropWhile (!isMark ·)=s.data.toList.drop k))
  case first=>
    go_wp2_with fail
    go_loopw [5,6] (fun p5 p6 wr=>∃ (k:Nat) (d:ByteArray) (x:Int) (pt:Bool),p5=.int .i64 k/\p6=.bool pt/\k<=s.size/\-(k:Int)<=x/\x<=0/\d.size<=k/\Hid (Nw w wr neg d x)/\Hid (((s.data.toList.drop i).takeWhile (!isMark ·)).foldl mstep (0,[],false)=((s.data.toList.drop k).takeWhile (!isMark ·)).foldl mstep (x,d.data.toList,pt))/\Hid ((s.data.toList.drop i).dropWhile (!isMark ·)=(s.data.toList.drop k).dropWhile (!isMark ·))) (fun p5 _ _=>s.size-(intOf p5).toNat)
    case atStart=>exact ⟨i,⟨#[]⟩,0,false,rfl,rfl,his,by omega,by omega,Nat.zero_le _,hN.out,rfl,rfl⟩
    case round=>
      obtain ⟨k,d,x,pt,rfl,rfl,hk,hx1,hx2,hds,hNk,hm,hr⟩:=hrel;have c0:=cell_of hNk.out.n 0;have c1:=cell_of hNk.out.n 1;have c2:=cell_of hNk.out.n 2;have f1:=frozen_of hNk.out.n 1;have f2:=frozen_of hNk.out.n 2;by_cases hlt:k<s.size
      · have hcons:=drop_byte s k hlt;have HC:=Hid.out (p:=Hid _) hcons;clear hcons;cases hmk:isMark s[k]
        · have HM:Hid (((s.data.toList.drop i).takeWhile (!isMark ·)).foldl mstep (0,[],false)=((s.data.toList.drop (k+1)).takeWhile (!isMark ·)).foldl mstep (mstep (x,d.data.toList,pt) s[k])):=by
            rw [Hid,hm.out,HC.out,List.takeWhile_cons,if_pos (by rw [hmk];rfl)];rfl
          have HR:Hid ((s.data.toList.drop i).dropWhile (!isMark ·)=(s.data.toList.drop (k+1)).dropWhile (!isMark ·)):=by
            rw [Hid,hr.out,HC.out,List.dropWhile_cons,if_pos (by rw [hmk];rfl)]
          have hq1:((s[k].toNat:Int) != 101)=true:=by
            rw [bne_iff_ne];unfold isMark at hmk;rw [Bool.or_eq_false_iff,beq_eq_false_iff_ne,beq_eq_false_iff_ne] at hmk;omega
          have hq2:((s[k].toNat:Int) != 69)=true:=by
            rw [bne_iff_ne];unfold isMark at hmk;rw [Bool.or_eq_false_iff,beq_eq_false_iff_ne,beq_eq_false_iff_ne] at hmk;omega
          clear hmk HC;by_cases hp:s[k].toNat=46
          · have hq3:((s[k].toNat:Int) == 46)=true:=by rw [beq_iff_eq];omega
            have HS:Hid (mstep (x,d.data.toList,pt) s[k]=(x,d.data.toList,true)):=by rw [Hid,mstep,if_pos hp]
            clear hp;go_wp2_with fail
            go_roundw
            case rel=>exact ⟨k+1,d,x,true,by go_num,rfl,by omega,by omega,hx2,by omega,hNk.out,by rw [Hid,HM.out,HS.out],HR.out⟩
            case measure=>simp [intOf];omega
          have hq3:((s[k].toNat:Int) == 46)=false:=by rw [beq_eq_false_iff_ne];omega
          have HS:Hid (mstep (x,d.data.toList,pt) s[k]=(if pt then x-1 else x,if d.data.toList=[]/\s[k].toNat=48 then d.data.toList else d.data.toList++[s[k]],pt)):=by rw [Hid,mstep,if_neg hp]
          clear hp;have hskip:Hid (d.size=0->s[k].toNat=48->(if d.data.toList=[]/\s[k].toNat=48 then d.data.toList else d.data.toList++[s[k]])=d.data.toList):=by
            intro h1 h2;rw [if_pos];exact ⟨List.eq_nil_of_length_eq_zero (by simpa using h1),h2⟩
          have hput:Hid ((0<d.size∨s[k].toNat≠48)->(if d.data.toList=[]/\s[k].toNat=48 then d.data.toList else d.data.toList++[s[k]])=d.data.toList++[s[k]]):=by
            intro h1;rw [if_neg];rintro ⟨h2,h3⟩
            rcases h1 with h1 | h1
            · have:=congrArg List.length h2;rw [show d.data.toList.length=d.size by simp,List.length_nil] at this;omega
            · exact h1 h3
          have hxk:(s.extract k (k+1)).data.toList=[s[k]]:=by
            rw [Lib.extract_data,drop_byte s k hlt];simp
          obtain ⟨k1,hk1⟩:∃ k1,k+1=k1:=⟨_,rfl⟩;rw [hk1] at hxk HM HR;have hkk:(k:Int)+1=(k1:Int):=by omega
          have hkl:k<=k1:=by omega
          have hkm:k1<=s.size:=by omega
          have HXK:=Hid.out (p:=Hid _) hxk;clear hxk;have HK1:=Hid.out (p:=Hid _) hk1;clear hk1;have hwk:IntKind.i64.wrap (k1:Int)=(k1:Int):=IntWalk.i64_in _ (by omega);by_cases hd0:0<d.size
          · have hw0:¬ d=ByteArray.empty:=fun e=>by rw [e] at hd0;exact absurd hd0 (by decide)
            have HP:=hput.out (Or.inl hd0);rw [HP] at HS;clear HP hput hskip;have HC2:Hid ((d++s.extract k k1).size<=k1):=by rw [Hid,ByteArray.size_append,ByteArray.size_extract];omega
            cases pt
            · go_wp2_with fail
              go_region
              all_goals
                go_wp2_with fail
                go_roundw
                case rel=>exact ⟨k1,_,_,false,rfl,rfl,hkm,by omega,by omega,HC2.out,hNk.out.drew.set1 _,by rw [Hid,HM.out,HS.out,conc_data,HXK.out];rfl,HR.out⟩
                case measure=>have:=HK1.out;simp [intOf];omega
            · go_wp2_with fail
              go_region
              all_goals
                go_wp2_with fail
                go_roundw
                case rel=>exact ⟨k1,_,_,true,rfl,rfl,hkm,by omega,by omega,HC2.out,(hNk.out.set2 _).drew.set1 _,by rw [Hid,HM.out,HS.out,conc_data,HXK.out];rfl,HR.out⟩
                case measure=>have:=HK1.out;simp [intOf];omega
          · by_cases hz:s[k].toNat=48
            · have hq4:((s[k].toNat:Int) != 48)=false:=by rw [bne_eq_false_iff_eq];omega
              have HP:=hskip.out (by omega) hz;rw [HP] at HS;clear HP hput hskip hz;cases pt
              · go_wp2_with fail
                go_roundw
                case rel=>exact ⟨k1,d,_,false,rfl,rfl,hkm,by omega,by omega,by omega,hNk.out,by rw [Hid,HM.out,HS.out];rfl,HR.out⟩
                case measure=>have:=HK1.out;simp [intOf];omega
              · go_wp2_with fail
                go_roundw
                case rel=>exact ⟨k1,d,_,true,rfl,rfl,hkm,by omega,by omega,by omega,hNk.out.set2 _,by rw [Hid,HM.out,HS.out];rfl,HR.out⟩
                case measure=>have:=HK1.out;simp [intOf];omega
            · have hq4:((s[k].toNat:Int) != 48)=true:=by rw [bne_iff_ne];omega
              have HP:=hput.out (Or.inr hz);rw [HP] at HS;clear HP hput hskip hz;have HC2:Hid ((d++s.extract k k1).size<=k1):=by rw [Hid,ByteArray.size_append,ByteArray.size_extract];omega
              cases pt
              · go_wp2_with fail
                go_region
                all_goals
                  go_wp2_with fail
                  go_roundw
                  case rel=>exact ⟨k1,_,_,false,rfl,rfl,hkm,by omega,by omega,HC2.out,hNk.out.drew.set1 _,by rw [Hid,HM.out,HS.out,conc_data,HXK.out];rfl,HR.out⟩
                  case measure=>have:=HK1.out;simp [intOf];omega
              · go_wp2_with fail
                go_region
                all_goals
                  go_wp2_with fail
                  go_roundw
                  case rel=>exact ⟨k1,_,_,true,rfl,rfl,hkm,by omega,by omega,HC2.out,(hNk.out.set2 _).drew.set1 _,by rw [Hid,HM.out,HS.out,conc_data,HXK.out];rfl,HR.out⟩
                  case measure=>have:=HK1.out;simp [intOf];omega
        · have HT:Hid (((s.data.toList.drop i).takeWhile (!isMark ·)).foldl mstep (0,[],false)=(x,d.data.toList,pt)):=by
            rw [Hid,hm.out,HC.out,List.takeWhile_cons,if_neg (by rw [hmk];decide)];rfl
          have HD:Hid ((s.data.toList.drop i).dropWhile (!isMark ·)=s.data.toList.drop k):=by
            rw [Hid,hr.out,HC.out,List.dropWhile_cons,if_neg (by rw [hmk];decide)]
          by_cases h1:s[k].toNat=101
          · have hq1:((s[k].toNat:Int) != 101)=false:=by rw [bne_eq_false_iff_eq];omega
            clear h1 hmk HC;go_wp2_with fail
            go_meet
            exact ⟨k,d,x,pt,rfl,hNk.out,hk,hx1,hx2,hds,HT.out,HD.out⟩
          · have hq1:((s[k].toNat:Int) != 101)=true:=by rw [bne_iff_ne];omega
            have hq2:((s[k].toNat:Int) != 69)=false:=by
              rw [bne_eq_false_iff_eq];unfold isMark at hmk;rw [Bool.or_eq_true,beq_iff_eq,beq_iff_eq] at hmk;omega
            clear h1 hmk HC;go_wp2_with fail
            go_meet
            exact ⟨k,d,x,pt,rfl,hNk.out,hk,hx1,hx2,hds,HT.out,HD.out⟩
      · have hnil:s.data.toList.drop k=[]:=List.drop_of_length_le (by rw [HL.out];omega);have HT:Hid (((s.data.toList.drop i).takeWhile (!isMark ·)).foldl mstep (0,[],false)=(x,d.data.toList,pt)):=by
          rw [Hid,hm.out,hnil];rfl
        have HD:Hid ((s.data.toList.drop i).dropWhile (!isMark ·)=s.data.toList.drop k):=by
          rw [Hid,hr.out,hnil];rfl
        clear hnil;go_wp2_with fail
        go_meet
        exact ⟨k,d,x,pt,rfl,hNk.out,hk,hx1,hx2,hds,HT.out,HD.out⟩
  case rest=>
  obtain ⟨k,d,x,pt,rfl,hNk,hk,hx1,hx2,hds,hM,hD⟩:=hcut;have HV2:Hid (resV (rparse s.data.toList)=resV (rfin neg d.data.toList (x+pow ((s.data.toList.drop (k+1)).foldl ploop (0,false))))):=by
    rw [Hid,HV.out,rmant,hM.out,hD.out,List.drop_drop]
  clear HV hM hD hN;go_wp2_with fail
  go_loop [5,7,8] (fun p5 p7 p8=>∃ (j n:Nat) (dn:Bool),p5=.int .i64 j/\p7=.int .i64 n/\p8=.bool dn/\j<=s.size+1/\n<=10000000000/\Hid ((s.data.toList.drop (k+1)).foldl ploop (0,false)=(s.data.toList.drop j).foldl ploop (n,dn))) (fun p5 _ _=>s.size-(intOf p5).toNat)
  case atStart=>exact ⟨k+1,0,false,by go_num,rfl,rfl,by omega,by omega,rfl⟩
  case round=>
    obtain ⟨j,n,dn,rfl,rfl,rfl,hj,hn,hf⟩:=hrel;by_cases hlt:j<s.size
    · have hcons:=drop_byte s j hlt;have hdg:digitAt s.data.toList j=dig s[j].toNat:=by rw [digitAt,byt_at s j hlt]
      have HF:Hid ((s.data.toList.drop (k+1)).foldl ploop (0,false)=(s.data.toList.drop (j+1)).foldl ploop (ploop (n,dn) s[j])):=by
        rw [Hid,hf.out,hcons];rfl
      clear hcons hf;have HDG:=Hid.out (p:=Hid _) hdg;clear hdg;by_cases h45:s[j].toNat=45
      · have hq:((s[j].toNat:Int) == 45)=true:=by rw [beq_iff_eq];omega
        have HP:Hid (ploop (n,dn) s[j]=(n,true)):=by
          rw [Hid,ploop,h45];simp [dig]
        have HZ:Hid (dig s[j].toNat=false):=by rw [Hid,h45];rfl
        clear h45;go_wp2_with fail
        refine (rdigit_any s j _ (by omega) (by omega)).mono ?_;rintro e w' ⟨rfl,rfl⟩;rw [HDG.out,HZ.out];go_wp2_with fail
        go_round
        case rel=>exact ⟨j+1,n,true,by go_num,rfl,rfl,by omega,hn,by rw [Hid,HF.out,HP.out]⟩
        case measure=>simp [intOf];omega
      · have hq:((s[j].toNat:Int) == 45)=false:=by rw [beq_eq_false_iff_ne];omega
        have hq':(s[j].toNat == 45)=false:=by rw [beq_eq_false_iff_ne];exact h45
        have HQ':=Hid.out (p:=Hid _) hq';clear hq' h45;cases hdz:dig s[j].toNat
        · have HP:Hid (ploop (n,dn) s[j]=(n,dn)):=by
            rw [Hid,ploop,hdz,HQ'.out];simp
          have HZ:=Hid.out (p:=Hid _) hdz;clear hdz;go_wp2_with fail
          refine (rdigit_any s j _ (by omega) (by omega)).mono ?_;rintro e w' ⟨rfl,rfl⟩;rw [HDG.out,HZ.out];go_wp2_with fail
          go_round
          case rel=>exact ⟨j+1,n,dn,by go_num,rfl,rfl,by omega,hn,by rw [Hid,HF.out,HP.out]⟩
          case measure=>simp [intOf];omega
        · have hb:48<=s[j].toNat/\s[j].toNat<=57:=by simpa [dig] using hdz
          have HZ:=Hid.out (p:=Hid _) hdz;clear hdz;obtain ⟨hb1,hb2⟩:=hb;by_cases hbig:n<1000000000
          · have HP:Hid (ploop (n,dn) s[j]=(n*10+(s[j].toNat-48),dn)):=by
              rw [Hid,ploop,HZ.out,HQ'.out];simp [hbig]
            have hdc:decide ((n:Int)<1000000000)=true:=by rw [decide_eq_true_eq];omega
            have hw8:IntKind.u8.wrap ((s[j].toNat:Int)-48)=((s[j].toNat-48:Nat):Int):=by
              have:=wrap_sub48 s[j].toNat (UInt8.toNat_lt _);rw [this];omega
            obtain ⟨v,hv⟩:∃ v,s[j].toNat-48=v:=⟨_,rfl⟩;rw [hv] at HP hw8;have hv9:v<=9:=by omega
            have HN:Hid (n<=999999999):=by unfold Hid;omega
            clear hv hbig;go_wp2_with fail
            refine (rdigit_any s j _ (by omega) (by omega)).mono ?_;rintro e w' ⟨rfl,rfl⟩;rw [HDG.out,HZ.out];go_wp2_with fail
            go_round
            case rel=>exact ⟨j+1,n*10+v,dn,by go_num,by go_num,rfl,by omega,by have:=HN.out;omega,by rw [Hid,HF.out,HP.out]⟩
            case measure=>simp [intOf];omega
          · have HP:Hid (ploop (n,dn) s[j]=(n,dn)):=by
              rw [Hid,ploop,HZ.out,HQ'.out];simp [hbig]
            have hdc:decide ((n:Int)<1000000000)=false:=by rw [decide_eq_false_iff_not];omega
            clear hbig;go_wp2_with fail
            refine (rdigit_any s j _ (by omega) (by omega)).mono ?_;rintro e w' ⟨rfl,rfl⟩;rw [HDG.out,HZ.out];go_wp2_with fail
            go_round
            case rel=>exact ⟨j+1,n,dn,by go_num,rfl,rfl,by omega,hn,by rw [Hid,HF.out,HP.out]⟩
            case measure=>simp [intOf];omega
    · have HF:Hid ((s.data.toList.drop (k+1)).foldl ploop (0,false)=(n,dn)):=by
        rw [Hid,hf.out,List.drop_of_length_le (by rw [HL.out];omega)];rfl
      clear hf;have HV3:Hid (resV (rparse s.data.toList)=resV (rfin neg d.data.toList (x+pow (n,dn)))):=by rw [Hid,HV2.out,HF.out]
      clear HV2 HF
      go_upto_if 98 with (fail)
      go_cut [7] (fun p7 wx=>wc=wx/\∃ z:Int,p7=.int .i64 z/\-10000000000<=z/\z<=10000000000/\Hid (resV (rparse s.data.toList)=resV (rfin neg d.data.toList (x+z))))
      case first=>
        cases dn
        · go_wp2_with fail
          go_meet
          exact ⟨rfl,n,rfl,by omega,by omega,HV3.out⟩
        · go_wp2_with fail
          go_meet
          exact ⟨rfl,-(n:Int),rfl,by omega,by omega,HV3.out⟩
      case rest=>
      obtain ⟨rfl,z,rfl,hz1,hz2,hV⟩:=hcut;clear HV3;have c2:=cell_of hNk.out.n 2;have f2:=frozen_of hNk.out.n 2
      go_upto_block 4 with (fail)
      go_cut [] (fun wx=>∃ (c:ByteArray) (y:Int),Hid (Nw w wx neg c y)/\Hid (trim0 d.data.toList=c.data.toList)/\Hid (y=(x+z)+((d.size:Int)-c.size))/\c.size<=d.size)
      case first=>
        go_wp2_with fail
        go_loopg [] d.size (fun g wr=>∃ (c:ByteArray) (y:Int),c.size=g/\Hid (Nw w wr neg c y)/\Hid (trim0 d.data.toList=trim0 c.data.toList)/\y=(x+z)+((d.size:Int)-c.size)/\c.size<=d.size)
        case atStart=>exact ⟨d,x+z,rfl,hNk.out.set2 _,rfl,by omega,Nat.le_refl _⟩
        case round=>
          obtain ⟨c,y,hg,hNc,ht,hy,hcd⟩:=hrel;have c1:=cell_of hNc.out.n 1;have f1:=frozen_of hNc.out.n 1;have c2:=cell_of hNc.out.n 2;have f2:=frozen_of hNc.out.n 2
          cases gk with
          | zero=>
            have HT:Hid (trim0 d.data.toList=c.data.toList):=by
              have hn:c.data.toList=[]:=List.eq_nil_of_length_eq_zero (by simpa using hg);rw [Hid,ht.out,hn];rfl
            have HY:=Hid.out (p:=Hid _) hy;clear hy;have hc0:¬ 0<c.size:=by omega
            clear hg;go_wp2_with fail
            go_meet
            exact ⟨c,y,hNc.out,HT.out,HY.out,hcd⟩
          | succ g=>
            have hc0:0<c.size:=by omega
            have hcne:¬ c=ByteArray.empty:=fun e=>by rw [e] at hc0;exact absurd hc0 (by decide)
            have hcst:((c.size:Int)-1)=(g:Int):=by omega
            have hgl:g<c.size:=by omega
            have hsp:=last_split c g hg;have htr:Hid (trim0 d.data.toList=if c[g]=48 then trim0 (c.extract 0 g).data.toList else c.data.toList):=by
              rw [Hid,ht.out,hsp,trim0_snoc,<-hsp]
            have HG:=Hid.out (p:=Hid _) hg;have hy1:-30000000000<=y:=by omega
            have hy2:y<=30000000000:=by omega
            have HY:=Hid.out (p:=Hid _) hy;clear hsp hg hy;by_cases h48:c[g].toNat=48
            · have hq:((c[g].toNat:Int) == 48)=true:=by rw [beq_iff_eq];omega
              have HT:Hid (trim0 d.data.toList=trim0 (c.extract 0 g).data.toList):=by
                rw [Hid,htr.out,if_pos (UInt8.toNat_inj.1 h48)]
              have HS:Hid ((c.extract 0 g).size=g):=by rw [Hid,ByteArray.size_extract];have:=HG.out;omega
              clear h48;go_wp2_with fail
              go_roundg g
              case rel=>exact ⟨_,_,HS.out,(hNc.out.set1 _).set2 _,HT.out,by rw [HS.out,HY.out,HG.out];omega,by rw [HS.out];omega⟩
              case measure=>omega
            · have hq:((c[g].toNat:Int) == 48)=false:=by rw [beq_eq_false_iff_ne];omega
              have HT:Hid (trim0 d.data.toList=c.data.toList):=by
                rw [Hid,htr.out,if_neg (fun e=>h48 (by rw [e];rfl))]
              clear h48;go_wp2_with fail
              go_meet
              exact ⟨c,y,hNc.out,HT.out,HY.out,hcd⟩
      case rest=>
      obtain ⟨c,y,hNc,ht,hy,hcd⟩:=hcut;have hfin:Hid (resV (rparse s.data.toList)=resV (if c.data.toList=[] then .ok (false,[],0) else if right neg c.data.toList y then .ok (neg,c.data.toList,y) else .error 4)):=by
        rw [Hid,hV.out,rfin_at ht.out (x:=x+z) (x':=y) (by rw [hy.out];simp)]
      have c0:=cell_of hNc.out.n 0;have c1:=cell_of hNc.out.n 1;have c2':=cell_of hNc.out.n 2;have r0:=cell_of hNc.out.r 0;have r1:=cell_of hNc.out.r 1;have r2:=cell_of hNc.out.r 2;have s0:=frozen_of hNc.out.r 0;have s1:=frozen_of hNc.out.r 1;have s2:=frozen_of hNc.out.r 2;clear c2 f2;by_cases hz:c.size=0
      · have hq:((c.size:Int) == 0)=true:=by rw [beq_iff_eq];omega
        have HF:Hid (resV (rparse s.data.toList)=.tuple #[.agg #[.bool false,.string ⟨#[]⟩,.int .i64 0],.int .i64 0]):=by
          rw [Hid,hfin.out,if_pos (List.eq_nil_of_length_eq_zero (by simpa using hz))];rfl
        clear hz hfin;go_wp2_with fail
        exact rpret s w _ _ _ _ _ _ (set3 hNc.out.r _ _ _) (below_set3 hNc.out.b _ _ _) HF.out rfl rfl
      · have hq:((c.size:Int) == 0)=false:=by rw [beq_eq_false_iff_ne];omega
        have hne:¬ c.data.toList=[]:=List.ne_nil_of_length_pos (by simp;omega);rw [if_neg hne] at hfin;clear hne;go_wp2_with fail
        refine (rright_any neg c y _ (by omega)).mono ?_;rintro e w3 ⟨rfl,hb3⟩;have N3:Hid (Nw w w3 neg c y):=⟨(hb3.block _ (heap_lt hNc.out.r)).trans hNc.out.r,(hb3.block _ (heap_lt hNc.out.n)).trans hNc.out.n,hNc.out.b.trans (hb3.mono hNc.out.b.size)⟩;clear hb3 c0 c1 c2' r0 r1 r2 s0 s1 s2;have c0:=cell_of N3.out.n 0;have c1:=cell_of N3.out.n 1;have c2':=cell_of N3.out.n 2;have r0:=cell_of N3.out.r 0;have r1:=cell_of N3.out.r 1;have r2:=cell_of N3.out.r 2;have s0:=frozen_of N3.out.r 0;have s1:=frozen_of N3.out.r 1;have s2:=frozen_of N3.out.r 2;cases hr:right neg c.data.toList y
        · have HF:Hid (resV (rparse s.data.toList)=.tuple #[.agg #[.bool false,.string ⟨#[]⟩,.int .i64 0],.int .i64 4]):=by
            rw [Hid,hfin.out,hr];rfl
          clear hr hfin;go_wp2_with fail
          exact rpret s w _ _ _ _ _ _ (set3 N3.out.r _ _ _) (below_set3 N3.out.b _ _ _) HF.out rfl rfl
        · have HF:Hid (resV (rparse s.data.toList)=.tuple #[.agg #[.bool neg,.string c,.int .i64 y],.int .i64 0]):=by
            rw [Hid,hfin.out,hr];rfl
          clear hr hfin;go_wp2_with fail
          exact rpret s w _ _ _ _ _ _ (set3 N3.out.r _ _ _) (below_set3 N3.out.b _ _ _) HF.out rfl rfl
theorem rparse_any (s:ByteArray) (w:World) (hs:s.size<=2147483648):Calls Tryz.prog 98 #[.string s] w (RPPost s w):=by
  by_cases h0:s.size=0
  · exact rparse_e s w hs (.inl h0)
  · by_cases h1:rscan s.data.toList=s.size
    · exact rparse_go s w hs (by omega) h1
    · exact rparse_e s w hs (.inr ⟨h0,h1⟩)
end Go.Proofs.YtliekocamnklfaaGreatDoor.Num
