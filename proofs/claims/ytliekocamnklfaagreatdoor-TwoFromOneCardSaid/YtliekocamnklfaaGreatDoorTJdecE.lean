/- strconv.FormatUint, base 10. -/
import Derived.Test.YtliekocamnklfaaGreatDoorTAdF
import Derived.Test.YtliekocamnklfaaGreatDoorTJenE
import Derived.Test.YtliekocamnklfaaGreatDoorTQuoteC
import Derived.Lib.AppendIntMem
import Derived.Deep.RegionHeld3
set_option linter.unusedVariables false
set_option linter.unusedSimpArgs false
set_option maxRecDepth 100000
set_option maxHeartbeats 6400000
namespace Go.Proofs.YtliekocamnklfaaGreatDoor.Addr
open Go.RowKit Go.Shelf Utf Strs
theorem below_grow (w:World) (n:Nat) (os:Array Obj):Below w.heap.size w (Sort.grow (w.drewN n) os):=
  ⟨rfl,rfl,rfl,by simp [Sort.grow],fun k hk=>by simp only [Sort.grow];exact Array.getElem?_append_left hk⟩
theorem formatUint_in (u:Nat) (hu64:u<18446744073709551616) (w:World) (htab:Lib.TabIs Tryz.prog w "internal/strconv.uint64pow10" .u64 Lib.pow10Tab):Calls Tryz.prog 148 #[.int .u64 u,.int .i64 10] w fun e w'=>e=.returned (.string ⟨(Lib.decDigits u).toArray⟩)/\Below w.heap.size w w':=by
  by_cases hs:u<100
  · have q1:decide ((u:Int)<100)=true:=by rw [decide_eq_true_eq];omega
    have q2:decide (u<100)=true:=by rw [decide_eq_true_eq];omega
    go_enter Tryz.func148,Tryz.ntmps148
    go_wp2_with fail
    refine (Tryz.internal_strconv_small u hs w).mono ?_;rintro e w' ⟨rfl,rfl⟩;go_wp2_with fail
    go_ret
    exact ⟨rfl,Below.refl _ _⟩
  · have q1:decide ((u:Int)<100)=false:=by rw [decide_eq_false_iff_not];omega
    have q2:decide (u<100)=false:=by rw [decide_eq_false_iff_not];omega
    have hu1:1<=u:=by omega
    have hnd20:Lib.nDigits u<=20:=by have:=Lib.numDigits_eq u hu1 hu64;split at this <;> omega
    have hH0:=Lib.holds_zero0 w 183 (Lib.nDigits u) (by omega);have hfmt:=Tryz.internal_strconv_formatBase10 w.heap.size 0 24 u (Array.replicate (Lib.nDigits u) 0) (w.alloc (.cells Lib.zeros24 183)) hH0 (by rw [Array.size_replicate];exact Lib.lt_pow_nDigits u) hu64 (by rw [Array.size_replicate];omega);rw [Array.size_replicate] at hfmt;have hal:(Tryz.prog).arrayLen 183=24:=by kernel_rfl
    have hsl:∀ W,(Instr.sliceAt 183 (.pointer (some ⟨w.heap.size,0,none⟩)) none (some (.int .i64 (Lib.nDigits u:Int))) none).run Tryz.prog W=.ok (.slice (some ⟨w.heap.size,0,none⟩) (Lib.nDigits u) 24) W:=fun W=>by
      rw [run_sliceAt_array_h W 183 ⟨w.heap.size,0,none⟩ (by kernel_rfl) .i64 (Lib.nDigits u:Int) (by omega) (by rw [hal];omega)]
      go_simp
    have HH0:=Lib.hid hH0;have HF:=Hid.out (p:=Hid _) hfmt;clear hH0 hal hfmt;go_enter Tryz.func148,Tryz.ntmps148
    go_wp2_with fail
    refine (Tryz.internal_strconv_numDigits u hu1 hu64 _ (Lib.tabIs_alloc htab _)).mono ?_;rintro e w' ⟨rfl,rfl⟩;go_wp2_with fail
    refine (Calls.mono HF.out ?_);rintro e w' ⟨rfl,k,v',dk,rfl,hF⟩;have hcv:(convert 89 9 (.slice (some ⟨w.heap.size,0,none⟩) (Lib.nDigits u) 24)).run Tryz.prog ((Sort.putRow (fun (b:UInt8)=>Value.int .u8 (b.toNat:Int)) (w.alloc (.cells Lib.zeros24 183)) w.heap.size 0 dk).drewN k)=.ok (.string ⟨(Lib.decDigits u).toArray⟩) ((Sort.putRow (fun (b:UInt8)=>Value.int .u8 (b.toNat:Int)) (w.alloc (.cells Lib.zeros24 183)) w.heap.size 0 dk).drewN k):=by
      have h:=run_convert_bytes_back (P:=Tryz.prog) ((Sort.putRow (fun (b:UInt8)=>Value.int .u8 (b.toNat:Int)) (w.alloc (.cells Lib.zeros24 183)) w.heap.size 0 dk).drewN k) 89 9 5 ⟨w.heap.size,0,none⟩ 24 (Lib.decDigits u) Tryz.underlying89 Tryz.underlying5 Tryz.underlying9 (fun j hj=>by
        rw [Lib.row_is_numeral hF j hj,Lib.add_plain,World.cell?_drewN];exact Sort.cell?_putRow (fun (b:UInt8)=>Value.int .u8 (b.toNat:Int)) _ w.heap.size 0 _ dk HH0.out (by rw [hF.size,Array.size_replicate]) j (by rw [hF.size];rw [Lib.decDigits_length] at hj;exact hj))
      rw [Lib.decDigits_length] at h;exact h
    obtain ⟨os,eo⟩:=Lib.fin_at w (.cells Lib.zeros24 183) dk k 0;have HB:Hid (Below w.heap.size w ((Sort.putRow (fun (b:UInt8)=>Value.int .u8 (b.toNat:Int)) (w.alloc (.cells Lib.zeros24 183)) w.heap.size 0 dk).drewN k)):=by
      rw [Hid,eo];exact below_grow w k os
    clear eo hF HF HH0;go_wp2_with fail
    go_ret
    exact ⟨rfl,HB.out⟩
theorem formatUint_any (u:Nat) (hu64:u<18446744073709551616) (w:World) (htab:Lib.TabIs Tryz.prog w "internal/strconv.uint64pow10" .u64 Lib.pow10Tab):Calls Tryz.prog 108 #[.int .u64 u,.int .i64 10] w fun e w'=>e=.returned (.string ⟨(Lib.decDigits u).toArray⟩)/\Below w.heap.size w w':=by
  have hc:=formatUint_in u hu64 w htab;have HC:=Hid.out (p:=Hid _) hc;clear hc;go_enter Tryz.func108,Tryz.ntmps108
  go_wp2_with fail
  refine (Calls.mono HC.out ?_);rintro e w' ⟨rfl,hb⟩;have HB:=Hid.out (p:=Hid _) hb;clear hb;go_wp2_with fail
  go_ret
  exact ⟨rfl,HB.out⟩
end Go.Proofs.YtliekocamnklfaaGreatDoor.Addr
namespace Go.Proofs.YtliekocamnklfaaGreatDoor.Jdec
mutual
def JV.deepN:JV->Nat
  | .mk k _ _ _ _ _ _ kids=>(if k=5∨k=6 then deepNs kids else 0)+1
def deepNs:List JV->Nat
  | []=>0
  | v::t=>max v.deepN (deepNs t)
end
theorem deepNs_cons (v:JV) (t:List JV):deepNs (v::t)=max v.deepN (deepNs t):=by rw [deepNs]
theorem deepNs_nil:deepNs []=0:=by rw [deepNs]
end Go.Proofs.YtliekocamnklfaaGreatDoor.Jdec
namespace Go.Proofs.YtliekocamnklfaaGreatDoor.Utf
open Quote
inductive Txt:List UInt8->Prop where
  | nil:Txt []
  | scal (c:Nat) (l:List UInt8):scalarB c=true->Txt l->Txt (put c++l)
theorem one_of (l:List UInt8) (k c:Nat) (h1:1<=k) (h2:k<=l.length) (h3:sizeAt (byt l 0)=k) (h4:conts l k=true) (h5:val l k=c) (h6:scalarB c=true) (h7:width c=k):one l=(c,k):=by
  unfold one;rw [h3,if_pos,h5];unfold stands;rw [h3,h5];simp [h1,h2,h4,h6,h7]
theorem ofNat_lt {n:Nat} (h:n<256):(UInt8.ofNat n).toNat=n:=by rw [UInt8.toNat_ofNat'];omega
theorem one_put_app (c:Nat) (l:List UInt8) (h:scalarB c=true):one (put c++l)=(c,(put c).length)/\1<=(put c).length:=by
  have hc:c<=1114111:=by unfold scalarB at h;simp only [Bool.and_eq_true,decide_eq_true_eq] at h;exact h.1
  unfold Quote.put;rw [if_pos h];by_cases w1:c<128
  · have hw:width c=1:=by unfold width;rw [if_pos w1]
    rw [if_pos hw];refine ⟨one_of _ 1 c (Nat.le_refl _) (by simp) ?_ ?_ ?_ h hw,by simp⟩
    · show sizeAt (UInt8.ofNat c).toNat=1;rw [ofNat_lt (by omega)];unfold sizeAt;rw [if_pos w1]
    · rfl
    · unfold val;rw [if_pos (by omega)];exact ofNat_lt (by omega)
  by_cases w2:c<2048
  · have hw:width c=2:=by unfold width;rw [if_neg w1,if_pos w2]
    rw [if_neg (by omega),if_pos hw];have b0:byt ([UInt8.ofNat (192+c / 64),UInt8.ofNat (128+c % 64)]++l) 0=192+c / 64:=ofNat_lt (by omega);have b1:byt ([UInt8.ofNat (192+c / 64),UInt8.ofNat (128+c % 64)]++l) 1=128+c % 64:=ofNat_lt (by omega);refine ⟨one_of _ 2 c (by omega) (by simp) ?_ ?_ ?_ h hw,by simp⟩
    · rw [b0];unfold sizeAt;rw [if_neg (by omega),if_neg (by omega),if_pos (by omega)]
    · unfold conts cont;rw [if_neg (by omega),if_pos rfl,b1];simp;omega
    · unfold val;rw [if_neg (by omega),if_pos rfl,b0,b1];omega
  by_cases w3:c<65536
  · have hw:width c=3:=by unfold width;rw [if_neg w1,if_neg w2,if_pos w3]
    rw [if_neg (by omega),if_neg (by omega),if_pos hw];have b0:byt ([UInt8.ofNat (224+c / 4096),UInt8.ofNat (128+c / 64 % 64),UInt8.ofNat (128+c % 64)]++l) 0=224+c / 4096:=ofNat_lt (by omega);have b1:byt ([UInt8.ofNat (224+c / 4096),UInt8.ofNat (128+c / 64 % 64),UInt8.ofNat (128+c % 64)]++l) 1=128+c / 64 % 64:=ofNat_lt (by omega);have b2:byt ([UInt8.ofNat (224+c / 4096),UInt8.ofNat (128+c / 64 % 64),UInt8.ofNat (128+c % 64)]++l) 2=128+c % 64:=ofNat_lt (by omega);refine ⟨one_of _ 3 c (by omega) (by simp) ?_ ?_ ?_ h hw,by simp⟩
    · rw [b0];unfold sizeAt;rw [if_neg (by omega),if_neg (by omega),if_neg (by omega),if_pos (by omega)]
    · unfold conts cont;rw [if_neg (by omega),if_neg (by omega),if_pos rfl,b1,b2];simp;omega
    · unfold val;rw [if_neg (by omega),if_neg (by omega),if_pos rfl,b0,b1,b2];omega
  · have hw:width c=4:=by unfold width;rw [if_neg w1,if_neg w2,if_neg w3]
    rw [if_neg (by omega),if_neg (by omega),if_neg (by omega)];have b0:byt ([UInt8.ofNat (240+c / 262144),UInt8.ofNat (128+c / 4096 % 64),UInt8.ofNat (128+c / 64 % 64),UInt8.ofNat (128+c % 64)]++l) 0=240+c / 262144:=ofNat_lt (by omega);have b1:byt ([UInt8.ofNat (240+c / 262144),UInt8.ofNat (128+c / 4096 % 64),UInt8.ofNat (128+c / 64 % 64),UInt8.ofNat (128+c % 64)]++l) 1=128+c / 4096 % 64:=ofNat_lt (by omega);have b2:byt ([UInt8.ofNat (240+c / 262144),UInt8.ofNat (128+c / 4096 % 64),UInt8.ofNat (128+c / 64 % 64),UInt8.ofNat (128+c % 64)]++l) 2=128+c / 64 % 64:=ofNat_lt (by omega);have b3:byt ([UInt8.ofNat (240+c / 262144),UInt8.ofNat (128+c / 4096 % 64),UInt8.ofNat (128+c / 64 % 64),UInt8.ofNat (128+c % 64)]++l) 3=128+c % 64:=ofNat_lt (by omega);refine ⟨one_of _ 4 c (by omega) (by simp) ?_ ?_ ?_ h hw,by simp⟩
    · rw [b0];unfold sizeAt;rw [if_neg (by omega),if_neg (by omega),if_neg (by omega),if_neg (by omega),if_pos (by omega)]
    · unfold conts cont;rw [if_neg (by omega),if_neg (by omega),if_neg (by omega),b1,b2,b3];simp;omega
    · unfold val;rw [if_neg (by omega),if_neg (by omega),if_neg (by omega),b0,b1,b2,b3];omega
theorem Txt.good {l:List UInt8} (h:Txt l):∀ (n p:Nat),bad n l p=none:=by
  induction h with
  | nil=>
    intro n p
    cases n <;> simp [bad]
  | scal c l hc _ ih=>
    intro n p
    cases n with
    | zero=>rfl
    | succ n=>
      obtain ⟨h1,h2⟩:=one_put_app c l hc;unfold bad;rw [if_neg (by intro e;have:=congrArg List.length e;rw [List.length_append,List.length_nil] at this;omega),h1];simp only
      rw [if_neg (by omega),List.drop_left];exact ih n _
end Go.Proofs.YtliekocamnklfaaGreatDoor.Utf
namespace Go.Proofs.YtliekocamnklfaaGreatDoor.Jdec
open Utf (Txt)
open Go.RowKit Strs
theorem gb_refl (w:World) (r:Option Nat):w.grownBy w r:=⟨rfl,rfl,rfl,Nat.le_refl _,fun _ _ _=>rfl⟩
theorem gb_drew (w:World) (n:Nat) (r:Option Nat):w.grownBy (w.drewN n) r:=⟨rfl,rfl,rfl,Nat.le_refl _,fun _ _ _=>rfl⟩
theorem gb_set (w:World) (b i:Nat) (v:Value):w.grownBy (w.setCell ⟨b,i,none⟩ v) (some b):=⟨rfl,rfl,rfl,by simp [World.setCell],fun k _ hk=>Below.heap_setCell _ _ _ _ (fun e=>hk (by simp [e]))⟩
theorem gb_below {w w':World} (h:Below w.heap.size w w') (r:Option Nat):w.grownBy w' r:=⟨h.os,h.tape,h.output,h.size,fun k hk _=>h.block k hk⟩
structure Psr (w:World) (P:Nat) (s:ByteArray) (k:Nat) (V:Value) (b e:Nat):Prop where
  blk:w.heap[P]?=some (.cells #[.string s,.int .i64 k,V,.int .i64 b,.int .i64 e] 126 (0,0))
section
variable {w w':World} {P:Nat} {s:ByteArray} {k:Nat} {V:Value} {b e:Nat}
end
def VAt (P:Nat) (s:ByteArray) (V:Value) (w':World) (t:JV):Except Er (JV × Nat)->Prop
  | .ok (t',q)=>t=t'/\Psr w' P s q V 0 0
  | .error y=>∃ q,q<=s.size/\Psr w' P s q V y.1 y.2
def VPost (P:Nat) (s:ByteArray) (V:Value) (r:Except Er (JV × Nat)) (w:World) (x:Ending) (w':World):Prop:=
  ∃ (a:Raw) (t:JV),x=.returned a.val/\IsV w' (fun j=>w.heap.size<=j) a t/\w.grownBy w' (some P)/\VAt P s V w' t r
theorem infoVal:(Tryz.prog.info? 29).map (·.size)=some 8:=by kernel_rfl
def Raw.arr (a:Raw):Array Value:=#[.int .i64 a.kind,.bool a.is,.bool a.neg,.string a.dig,.int .i64 a.exp,.string a.str,.slice a.ka a.kn a.kc,.slice a.va a.vn a.vc]
theorem val_ret {F:Func} {p:Tmp} (hr:F.results=#[.cell p 29]) {tm:Array Value} {a:Raw} {R:Ending->World->Prop} {w':World} {b:Nat}
    (hb:w'.heap[b]?=some (.cells a.arr 29 (0,0))) (hp:tm.getD p undef=.pointer (some ⟨b,0,none⟩)) (hR:R (.returned a.val) w') :
    bodyPost Tryz.prog F R Exit.ret { tmps:=tm,defers:=[] } w':=
  bodyPost_ret (results_cell_row hr tm w' b _ _ _ _ hp hb Tryz.underlying29 rfl infoVal) rfl hR
theorem set8 {w:World} {b:Nat} {a:Raw} {T:TypeId} (h:w.heap[b]?=some (.cells a.arr T (0,0))) (c:Raw):((((((((w.setCell ⟨b,0,none⟩ (.int .i64 c.kind)).setCell ⟨b,1,none⟩ (.bool c.is)).setCell ⟨b,2,none⟩ (.bool c.neg)).setCell ⟨b,3,none⟩ (.string c.dig)).setCell ⟨b,4,none⟩ (.int .i64 c.exp)).setCell ⟨b,5,none⟩ (.string c.str)).setCell ⟨b,6,none⟩ (.slice c.ka c.kn c.kc)).setCell ⟨b,7,none⟩ (.slice c.va c.vn c.vc)).heap[b]?=some (.cells c.arr T (0,0)):=by
  have h0:=heap_set_same h (i:=0) (.int .i64 c.kind);have h1:=heap_set_same h0 (i:=1) (.bool c.is);have h2:=heap_set_same h1 (i:=2) (.bool c.neg);have h3:=heap_set_same h2 (i:=3) (.string c.dig);have h4:=heap_set_same h3 (i:=4) (.int .i64 c.exp);have h5:=heap_set_same h4 (i:=5) (.string c.str);have h6:=heap_set_same h5 (i:=6) (.slice c.ka c.kn c.kc);have h7:=heap_set_same h6 (i:=7) (.slice c.va c.vn c.vc);rw [h7];simp [Raw.arr]
theorem gb8 (w:World) (b:Nat) (x0 x1 x2 x3 x4 x5 x6 x7:Value):w.grownBy ((((((((w.setCell ⟨b,0,none⟩ x0).setCell ⟨b,1,none⟩ x1).setCell ⟨b,2,none⟩ x2).setCell ⟨b,3,none⟩ x3).setCell ⟨b,4,none⟩ x4).setCell ⟨b,5,none⟩ x5).setCell ⟨b,6,none⟩ x6).setCell ⟨b,7,none⟩ x7) (some b):=
  ((((((((gb_set _ _ _ _).trans (gb_set _ _ _ _)).trans (gb_set _ _ _ _)).trans (gb_set _ _ _ _)).trans (gb_set _ _ _ _)).trans (gb_set _ _ _ _)).trans (gb_set _ _ _ _)).trans (gb_set _ _ _ _))
theorem val_cells {w:World} {b:Nat} {a:Raw} {T:TypeId} (h:w.heap[b]?=some (.cells a.arr T (0,0))) :
    (w.cell? ⟨b,0,none⟩=some (.int .i64 a.kind)/\w.cell? ⟨b,1,none⟩=some (.bool a.is)/\w.cell? ⟨b,2,none⟩=some (.bool a.neg)/\w.cell? ⟨b,3,none⟩=some (.string a.dig)/\w.cell? ⟨b,4,none⟩=some (.int .i64 a.exp)/\w.cell? ⟨b,5,none⟩=some (.string a.str)/\w.cell? ⟨b,6,none⟩=some (.slice a.ka a.kn a.kc)/\w.cell? ⟨b,7,none⟩=some (.slice a.va a.vn a.vc)) ∧
    (w.frozen? ⟨b,0,none⟩=false/\w.frozen? ⟨b,1,none⟩=false/\w.frozen? ⟨b,2,none⟩=false/\w.frozen? ⟨b,3,none⟩=false/\w.frozen? ⟨b,4,none⟩=false/\w.frozen? ⟨b,5,none⟩=false/\w.frozen? ⟨b,6,none⟩=false/\w.frozen? ⟨b,7,none⟩=false):=
  ⟨⟨cell_of h 0,cell_of h 1,cell_of h 2,cell_of h 3,cell_of h 4,cell_of h 5,cell_of h 6,cell_of h 7⟩,frozen_of h 0,frozen_of h 1,frozen_of h 2,frozen_of h 3,frozen_of h 4,frozen_of h 5,frozen_of h 6,frozen_of h 7⟩
end Go.Proofs.YtliekocamnklfaaGreatDoor.Jdec
