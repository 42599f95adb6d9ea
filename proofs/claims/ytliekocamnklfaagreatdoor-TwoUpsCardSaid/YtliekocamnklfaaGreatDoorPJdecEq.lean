/- strconv.FormatUint, base 10. -/
import Derived.Test.YtliekocamnklfaaGreatDoorPAdF
import Derived.Test.YtliekocamnklfaaGreatDoorPJenE
import Derived.Test.YtliekocamnklfaaGreatDoorPQuoteC
import Derived.Lib.AppendIntMem
import Derived.Deep.RegionHeld3
import Derived.Deep.AppendLies
import Derived.Deep.RegionLaw
import Derived.Maps.OwnSet
import Derived.Maps.OwnOps
import Derived.Deep.CutRange
import Derived.WalkMore
import Derived.Laws.EntriesVeiled
import Derived.Laws.StructEq
set_option linter.unusedVariables false
set_option linter.unusedSimpArgs false
set_option maxRecDepth 100000
set_option maxHeartbeats 6400000
namespace Go.Proofs.YtliekocamnklfaaGreatDoor.Addr
open Go.RowKit Go.Shelf Utf Strs
theorem below_grow (w:World) (n:Nat) (os:Array Obj):Below w.heap.size w (Sort.grow (w.drewN n) os):=
  ⟨rfl,rfl,rfl,by simp [Sort.grow],fun k hk=>by simp only [Sort.grow];exact Array.getElem?_append_left hk⟩
theorem formatUint_in (u:Nat) (hu64:u<18446744073709551616) (w:World) (htab:Lib.TabIs Tryz.prog w "internal/strconv.uint64pow10" .u64 Lib.pow10Tab):Calls Tryz.prog 148 #[.int .u64 u,.int .i64 10] w fun e w'=>e=.returned (.string ⟨(Lib.decDigits u).toArray⟩)/\Below w.heap.size w w':=by
  by_cases hs:u<100
  · have q1:decide ((u:Int)<100)=true:=by rw [decide_eq_true_eq];omega
    have q2:decide (u<100)=true:=by rw [decide_eq_true_eq];omega
    go_enter Tryz.func148,Tryz.ntmps148
    go_wp2_with fail
    refine (Tryz.internal_strconv_small u hs w).mono ?_;rintro e w' ⟨rfl,rfl⟩;go_wp2_with fail
    go_ret
    exact ⟨rfl,Below.refl _ _⟩
  · have q1:decide ((u:Int)<100)=false:=by rw [decide_eq_false_iff_not];omega
    have q2:decide (u<100)=false:=by rw [decide_eq_false_iff_not];omega
    have hu1:1<=u:=by omega
    have hnd20:Lib.nDigits u<=20:=by have:=Lib.numDigits_eq u hu1 hu64;split at this <;> omega
    have hH0:=Lib.holds_zero0 w 183 (Lib.nDigits u) (by omega);have hfmt:=Tryz.internal_strconv_formatBase10 w.heap.size 0 24 u (Array.replicate (Lib.nDigits u) 0) (w.alloc (.cells Lib.zeros24 183)) hH0 (by rw [Array.size_replicate];exact Lib.lt_pow_nDigits u) hu64 (by rw [Array.size_replicate];omega);rw [Array.size_replicate] at hfmt;have hal:(Tryz.prog).arrayLen 183=24:=by kernel_rfl
    have hsl:∀ W,(Instr.sliceAt 183 (.pointer (some ⟨w.heap.size,0,none⟩)) none (some (.int .i64 (Lib.nDigits u:Int))) none).run Tryz.prog W=.ok (.slice (some ⟨w.heap.size,0,none⟩) (Lib.nDigits u) 24) W:=fun W=>by
      rw [run_sliceAt_array_h W 183 ⟨w.heap.size,0,none⟩ (by kernel_rfl) .i64 (Lib.nDigits u:Int) (by omega) (by rw [hal];omega)]
      go_simp
    have HH0:=Lib.hid hH0;have HF:=Hid.out (p:=Hid _) hfmt;clear hH0 hal hfmt;go_enter Tryz.func148,Tryz.ntmps148
    go_wp2_with fail
    refine (Tryz.internal_strconv_numDigits u hu1 hu64 _ (Lib.tabIs_alloc htab _)).mono ?_;rintro e w' ⟨rfl,rfl⟩;go_wp2_with fail
    refine (Calls.mono HF.out ?_);rintro e w' ⟨rfl,k,v',dk,rfl,hF⟩;have hcv:(convert 89 9 (.slice (some ⟨w.heap.size,0,none⟩) (Lib.nDigits u) 24)).run Tryz.prog ((Sort.putRow (fun (b:UInt8)=>Value.int .u8 (b.toNat:Int)) (w.alloc (.cells Lib.zeros24 183)) w.heap.size 0 dk).drewN k)=.ok (.string ⟨(Lib.decDigits u).toArray⟩) ((Sort.putRow (fun (b:UInt8)=>Value.int .u8 (b.toNat:Int)) (w.alloc (.cells Lib.zeros24 183)) w.heap.size 0 dk).drewN k):=by
      have h:=run_convert_bytes_back (P:=Tryz.prog) ((Sort.putRow (fun (b:UInt8)=>Value.int .u8 (b.toNat:Int)) (w.alloc (.cells Lib.zeros24 183)) w.heap.size 0 dk).drewN k) 89 9 5 ⟨w.heap.size,0,none⟩ 24 (Lib.decDigits u) Tryz.underlying89 Tryz.underlying5 Tryz.underlying9 (fun j hj=>by
        rw [Lib.row_is_numeral hF j hj,Lib.add_plain,World.cell?_drewN];exact Sort.cell?_putRow (fun (b:UInt8)=>Value.int .u8 (b.toNat:Int)) _ w.heap.size 0 _ dk HH0.out (by rw [hF.size,Array.size_replicate]) j (by rw [hF.size];rw [Lib.decDigits_length] at hj;exact hj))
      rw [Lib.decDigits_length] at h;exact h
    obtain ⟨os,eo⟩:=Lib.fin_at w (.cells Lib.zeros24 183) dk k 0;have HB:Hid (Below w.heap.size w ((Sort.putRow (fun (b:UInt8)=>Value.int .u8 (b.toNat:Int)) (w.alloc (.cells Lib.zeros24 183)) w.heap.size 0 dk).drewN k)):=by
      rw [Hid,eo];exact below_grow w k os
    clear eo hF HF HH0;go_wp2_with fail
    go_ret
    exact ⟨rfl,HB.out⟩
theorem formatUint_any (u:Nat) (hu64:u<18446744073709551616) (w:World) (htab:Lib.TabIs Tryz.prog w "internal/strconv.uint64pow10" .u64 Lib.pow10Tab):Calls Tryz.prog 108 #[.int .u64 u,.int .i64 10] w fun e w'=>e=.returned (.string ⟨(Lib.decDigits u).toArray⟩)/\Below w.heap.size w w':=by
  have hc:=formatUint_in u hu64 w htab;have HC:=Hid.out (p:=Hid _) hc;clear hc;go_enter Tryz.func108,Tryz.ntmps108
  go_wp2_with fail
  refine (Calls.mono HC.out ?_);rintro e w' ⟨rfl,hb⟩;have HB:=Hid.out (p:=Hid _) hb;clear hb;go_wp2_with fail
  go_ret
  exact ⟨rfl,HB.out⟩
end Go.Proofs.YtliekocamnklfaaGreatDoor.Addr
namespace Go.Proofs.YtliekocamnklfaaGreatDoor.Jdec
mutual
def JV.deepN:JV->Nat
  | .mk k _ _ _ _ _ _ kids=>(if k=5∨k=6 then deepNs kids else 0)+1
def deepNs:List JV->Nat
  | []=>0
  | v::t=>max v.deepN (deepNs t)
end
theorem deepNs_cons (v:JV) (t:List JV):deepNs (v::t)=max v.deepN (deepNs t):=by rw [deepNs]
theorem deepNs_nil:deepNs []=0:=by rw [deepNs]
end Go.Proofs.YtliekocamnklfaaGreatDoor.Jdec
namespace Go.Proofs.YtliekocamnklfaaGreatDoor.Utf
open Quote
inductive Txt:List UInt8->Prop where
  | nil:Txt []
  | scal (c:Nat) (l:List UInt8):scalarB c=true->Txt l->Txt (put c++l)
theorem one_of (l:List UInt8) (k c:Nat) (h1:1<=k) (h2:k<=l.length) (h3:sizeAt (byt l 0)=k) (h4:conts l k=true) (h5:val l k=c) (h6:scalarB c=true) (h7:width c=k):one l=(c,k):=by
  unfold one;rw [h3,if_pos,h5];unfold stands;rw [h3,h5];simp [h1,h2,h4,h6,h7]
theorem ofNat_lt {n:Nat} (h:n<256):(UInt8.ofNat n).toNat=n:=by rw [UInt8.toNat_ofNat'];omega
theorem one_put_app (c:Nat) (l:List UInt8) (h:scalarB c=true):one (put c++l)=(c,(put c).length)/\1<=(put c).length:=by
  have hc:c<=1114111:=by unfold scalarB at h;simp only [Bool.and_eq_true,decide_eq_true_eq] at h;exact h.1
  unfold Quote.put;rw [if_pos h];by_cases w1:c<128
  · have hw:width c=1:=by unfold width;rw [if_pos w1]
    rw [if_pos hw];refine ⟨one_of _ 1 c (Nat.le_refl _) (by simp) ?_ ?_ ?_ h hw,by simp⟩
    · show sizeAt (UInt8.ofNat c).toNat=1;rw [ofNat_lt (by omega)];unfold sizeAt;rw [if_pos w1]
    · rfl
    · unfold val;rw [if_pos (by omega)];exact ofNat_lt (by omega)
  by_cases w2:c<2048
  · have hw:width c=2:=by unfold width;rw [if_neg w1,if_pos w2]
    rw [if_neg (by omega),if_pos hw];have b0:byt ([UInt8.ofNat (192+c / 64),UInt8.ofNat (128+c % 64)]++l) 0=192+c / 64:=ofNat_lt (by omega);have b1:byt ([UInt8.ofNat (192+c / 64),UInt8.ofNat (128+c % 64)]++l) 1=128+c % 64:=ofNat_lt (by omega);refine ⟨one_of _ 2 c (by omega) (by simp) ?_ ?_ ?_ h hw,by simp⟩
    · rw [b0];unfold sizeAt;rw [if_neg (by omega),if_neg (by omega),if_pos (by omega)]
    · unfold conts cont;rw [if_neg (by omega),if_pos rfl,b1];simp;omega
    · unfold val;rw [if_neg (by omega),if_pos rfl,b0,b1];omega
  by_cases w3:c<65536
  · have hw:width c=3:=by unfold width;rw [if_neg w1,if_neg w2,if_pos w3]
    rw [if_neg (by omega),if_neg (by omega),if_pos hw];have b0:byt ([UInt8.ofNat (224+c / 4096),UInt8.ofNat (128+c / 64 % 64),UInt8.ofNat (128+c % 64)]++l) 0=224+c / 4096:=ofNat_lt (by omega);have b1:byt ([UInt8.ofNat (224+c / 4096),UInt8.ofNat (128+c / 64 % 64),UInt8.ofNat (128+c % 64)]++l) 1=128+c / 64 % 64:=ofNat_lt (by omega);have b2:byt ([UInt8.ofNat (224+c / 4096),UInt8.ofNat (128+c / 64 % 64),UInt8.ofNat (128+c % 64)]++l) 2=128+c % 64:=ofNat_lt (by omega);refine ⟨one_of _ 3 c (by omega) (by simp) ?_ ?_ ?_ h hw,by simp⟩
    · rw [b0];unfold sizeAt;rw [if_neg (by omega),if_neg (by omega),if_neg (by omega),if_pos (by omega)]
    · unfold conts cont;rw [if_neg (by omega),if_neg (by omega),if_pos rfl,b1,b2];simp;omega
    · unfold val;rw [if_neg (by omega),if_neg (by omega),if_pos rfl,b0,b1,b2];omega
  · have hw:width c=4:=by unfold width;rw [if_neg w1,if_neg w2,if_neg w3]
    rw [if_neg (by omega),if_neg (by omega),if_neg (by omega)];have b0:byt ([UInt8.ofNat (240+c / 262144),UInt8.ofNat (128+c / 4096 % 64),UInt8.ofNat (128+c / 64 % 64),UInt8.ofNat (128+c % 64)]++l) 0=240+c / 262144:=ofNat_lt (by omega);have b1:byt ([UInt8.ofNat (240+c / 262144),UInt8.ofNat (128+c / 4096 % 64),UInt8.ofNat (128+c / 64 % 64),UInt8.ofNat (128+c % 64)]++l) 1=128+c / 4096 % 64:=ofNat_lt (by omega);have b2:byt ([UInt8.ofNat (240+c / 262144),UInt8.ofNat (128+c / 4096 % 64),UInt8.ofNat (128+c / 64 % 64),UInt8.ofNat (128+c % 64)]++l) 2=128+c / 64 % 64:=ofNat_lt (by omega);have b3:byt ([UInt8.ofNat (240+c / 262144),UInt8.ofNat (128+c / 4096 % 64),UInt8.ofNat (128+c / 64 % 64),UInt8.ofNat (128+c % 64)]++l) 3=128+c % 64:=ofNat_lt (by omega);refine ⟨one_of _ 4 c (by omega) (by simp) ?_ ?_ ?_ h hw,by simp⟩
    · rw [b0];unfold sizeAt;rw [if_neg (by omega),if_neg (by omega),if_neg (by omega),if_neg (by omega),if_pos (by omega)]
    · unfold conts cont;rw [if_neg (by omega),if_neg (by omega),if_neg (by omega),b1,b2,b3];simp;omega
    · unfold val;rw [if_neg (by omega),if_neg (by omega),if_neg (by omega),b0,b1,b2,b3];omega
theorem Txt.good {l:List UInt8} (h:Txt l):∀ (n p:Nat),bad n l p=none:=by
  induction h with
  | nil=>
    intro n p
    cases n <;> simp [bad]
  | scal c l hc _ ih=>
    intro n p
    cases n with
    | zero=>rfl
    | succ n=>
      obtain ⟨h1,h2⟩:=one_put_app c l hc;unfold bad;rw [if_neg (by intro e;have:=congrArg List.length e;rw [List.length_append,List.length_nil] at this;omega),h1];simp only
      rw [if_neg (by omega),List.drop_left];exact ih n _
end Go.Proofs.YtliekocamnklfaaGreatDoor.Utf
namespace Go.Proofs.YtliekocamnklfaaGreatDoor.Jdec
open Utf (Txt)
open Go.RowKit Strs
theorem gb_refl (w:World) (r:Option Nat):w.grownBy w r:=⟨rfl,rfl,rfl,Nat.le_refl _,fun _ _ _=>rfl⟩
theorem gb_drew (w:World) (n:Nat) (r:Option Nat):w.grownBy (w.drewN n) r:=⟨rfl,rfl,rfl,Nat.le_refl _,fun _ _ _=>rfl⟩
theorem gb_set (w:World) (b i:Nat) (v:Value):w.grownBy (w.setCell ⟨b,i,none⟩ v) (some b):=⟨rfl,rfl,rfl,by simp [World.setCell],fun k _ hk=>Below.heap_setCell _ _ _ _ (fun e=>hk (by simp [e]))⟩
theorem gb_below {w w':World} (h:Below w.heap.size w w') (r:Option Nat):w.grownBy w' r:=⟨h.os,h.tape,h.output,h.size,fun k hk _=>h.block k hk⟩
section
variable {w w':World} {P:Nat} {s:ByteArray} {k:Nat} {V:Value} {b e:Nat}
end
theorem infoVal:(Tryz.prog.info? 29).map (·.size)=some 8:=by kernel_rfl
def Raw.arr (a:Raw):Array Value:=#[.int .i64 a.kind,.bool a.is,.bool a.neg,.string a.dig,.int .i64 a.exp,.string a.str,.slice a.ka a.kn a.kc,.slice a.va a.vn a.vc]
theorem val_ret {F:Func} {p:Tmp} (hr:F.results=#[.cell p 29]) {tm:Array Value} {a:Raw} {R:Ending->World->Prop} {w':World} {b:Nat}
    (hb:w'.heap[b]?=some (.cells a.arr 29 (0,0))) (hp:tm.getD p undef=.pointer (some ⟨b,0,none⟩)) (hR:R (.returned a.val) w') :
    bodyPost Tryz.prog F R Exit.ret { tmps:=tm,defers:=[] } w':=
  bodyPost_ret (results_cell_row hr tm w' b _ _ _ _ hp hb Tryz.underlying29 rfl infoVal) rfl hR
theorem set8 {w:World} {b:Nat} {a:Raw} {T:TypeId} (h:w.heap[b]?=some (.cells a.arr T (0,0))) (c:Raw):((((((((w.setCell ⟨b,0,none⟩ (.int .i64 c.kind)).setCell ⟨b,1,none⟩ (.bool c.is)).setCell ⟨b,2,none⟩ (.bool c.neg)).setCell ⟨b,3,none⟩ (.string c.dig)).setCell ⟨b,4,none⟩ (.int .i64 c.exp)).setCell ⟨b,5,none⟩ (.string c.str)).setCell ⟨b,6,none⟩ (.slice c.ka c.kn c.kc)).setCell ⟨b,7,none⟩ (.slice c.va c.vn c.vc)).heap[b]?=some (.cells c.arr T (0,0)):=by
  have h0:=heap_set_same h (i:=0) (.int .i64 c.kind);have h1:=heap_set_same h0 (i:=1) (.bool c.is);have h2:=heap_set_same h1 (i:=2) (.bool c.neg);have h3:=heap_set_same h2 (i:=3) (.string c.dig);have h4:=heap_set_same h3 (i:=4) (.int .i64 c.exp);have h5:=heap_set_same h4 (i:=5) (.string c.str);have h6:=heap_set_same h5 (i:=6) (.slice c.ka c.kn c.kc);have h7:=heap_set_same h6 (i:=7) (.slice c.va c.vn c.vc);rw [h7];simp [Raw.arr]
theorem gb8 (w:World) (b:Nat) (x0 x1 x2 x3 x4 x5 x6 x7:Value):w.grownBy ((((((((w.setCell ⟨b,0,none⟩ x0).setCell ⟨b,1,none⟩ x1).setCell ⟨b,2,none⟩ x2).setCell ⟨b,3,none⟩ x3).setCell ⟨b,4,none⟩ x4).setCell ⟨b,5,none⟩ x5).setCell ⟨b,6,none⟩ x6).setCell ⟨b,7,none⟩ x7) (some b):=
  ((((((((gb_set _ _ _ _).trans (gb_set _ _ _ _)).trans (gb_set _ _ _ _)).trans (gb_set _ _ _ _)).trans (gb_set _ _ _ _)).trans (gb_set _ _ _ _)).trans (gb_set _ _ _ _)).trans (gb_set _ _ _ _))
theorem val_cells {w:World} {b:Nat} {a:Raw} {T:TypeId} (h:w.heap[b]?=some (.cells a.arr T (0,0))) :
    (w.cell? ⟨b,0,none⟩=some (.int .i64 a.kind)/\w.cell? ⟨b,1,none⟩=some (.bool a.is)/\w.cell? ⟨b,2,none⟩=some (.bool a.neg)/\w.cell? ⟨b,3,none⟩=some (.string a.dig)/\w.cell? ⟨b,4,none⟩=some (.int .i64 a.exp)/\w.cell? ⟨b,5,none⟩=some (.string a.str)/\w.cell? ⟨b,6,none⟩=some (.slice a.ka a.kn a.kc)/\w.cell? ⟨b,7,none⟩=some (.slice a.va a.vn a.vc)) ∧
    (w.frozen? ⟨b,0,none⟩=false/\w.frozen? ⟨b,1,none⟩=false/\w.frozen? ⟨b,2,none⟩=false/\w.frozen? ⟨b,3,none⟩=false/\w.frozen? ⟨b,4,none⟩=false/\w.frozen? ⟨b,5,none⟩=false/\w.frozen? ⟨b,6,none⟩=false/\w.frozen? ⟨b,7,none⟩=false):=
  ⟨⟨cell_of h 0,cell_of h 1,cell_of h 2,cell_of h 3,cell_of h 4,cell_of h 5,cell_of h 6,cell_of h 7⟩,frozen_of h 0,frozen_of h 1,frozen_of h 2,frozen_of h 3,frozen_of h 4,frozen_of h 5,frozen_of h 6,frozen_of h 7⟩
theorem infoKid:(Tryz.prog.info? 29).map (fun i=>(i.zero,i.size,i.bytes))=some (some (.agg #[.int .i64 0,.bool false,.bool false,.string ⟨#[]⟩,.int .i64 0,.string ⟨#[]⟩,.slice none 0 0,.slice none 0 0]),8,112):=by kernel_rfl
open Go.Maps
theorem zeroBool (w:World):(zeroValue 4).run Tryz.prog w=.ok (.bool false) w:=by kernel_rfl
theorem plainElem_bool_inv {H:Type} {P:Program} {e:TypeId} (he:P.underlying e=some .bool) {v:Value} {x:Bool} {ps:List MemPlace} (h:plainElem (H:=H) P e v=some (.lit (.bool x),ps)):v=.bool x:=by
  unfold plainElem at h;rw [he] at h;cases v <;> simp at h
  rw [h.1]
theorem keyLaw:Keyed Tryz.prog 9:=string_keyed Tryz.underlying9
def Seen (w:World) (M n:Nat) (ks:List ByteArray):Prop:=
  ∃ D:DataW Unit,w.ownsMap Tryz.prog 9 (plainElem Tryz.prog 4) M n D/\∀ d:ByteArray,D.atKey (.string d.data.toList) (.lit (.bool false))=.lit (.bool (ks.any (fun x=>decide (x=d))))
theorem Seen.made (w:World):Seen (w.alloc (.map #[] 0)) w.heap.size 0 []:=⟨.map [],World.ownsMap_made _ _ _ _,fun d=>rfl⟩
theorem key_of (d:ByteArray) (hd:d.size<=maxLen):keyOf Tryz.prog 9 (.string d)=some (.string d.data.toList):=Go.WideMaps.keyOf_string_mk Tryz.underlying9 hd
theorem Seen.look {w:World} {M n:Nat} {ks:List ByteArray} (h:Seen w M n ks) (d:ByteArray) (hd:d.size<=maxLen):(Instr.lookup 202 (.map (some M)) (.string d) false).run Tryz.prog w=.ok (.bool (ks.any (fun x=>decide (x=d)))) w:=by
  obtain ⟨D,h1,h2⟩:=h;obtain ⟨v,ps,hrun,hv⟩:=h1.lookup keyLaw Tryz.underlying202 (zeroBool w) (plainElem_bool Tryz.underlying4 false) (key_of d hd);rw [h2 d] at hv;rw [hrun,plainElem_bool_inv Tryz.underlying4 hv]
theorem Seen.put {w w':World} {M n:Nat} {ks:List ByteArray} {d:ByteArray} {D:DataW Unit} (h0:w.ownsMap Tryz.prog 9 (plainElem Tryz.prog 4) M n D) (h2:∀ d:ByteArray,D.atKey (.string d.data.toList) (.lit (.bool false))=.lit (.bool (ks.any (fun x=>decide (x=d)))))
    (h1:w'.ownsMap Tryz.prog 9 (plainElem Tryz.prog 4) M (n+1) (D.put (.string d.data.toList) (.lit (.bool true)))):Seen w' M (n+1) (ks++[d]):=by
  refine ⟨_,h1,fun d'=>?_⟩;by_cases e:d=d'
  · subst e;rw [atKey_put_same h0.isMap (by trivial)];simp
  · rw [atKey_put_other,h2 d']
    · simp [e]
    · intro h
      injection h with h
      apply e
      cases d;cases d';simp only [ByteArray.mk.injEq]
      exact (Array.toList_inj.1 h.symm)
def KidsA (w:World) (B:Nat) (A:Nat->Prop) (v:Value) (ts:List JV):Prop:=
  ∃ rs:List Raw,rs.length=ts.length/\w.ownsRow B 29 8 v ts.length (rs.flatMap Raw.cells) ∧
    ∀ i (h:i<rs.length) (h':i<ts.length),IsV w (fun b=>A b/\some b≠v.ownBlock) rs[i] ts[i]
theorem KidsA.turn {w w':World} {B:Nat} {A A':Nat->Prop} {v:Value} {ts:List JV} {row:Option Nat} (h:KidsA w B A v ts) (hg:w.grownBy w' row) (h1:v.ownBlock=none∨v.ownBlock≠row) (h2:∀ b,A b->b<w.heap.size->some b≠row/\A' b):KidsA w' B A' v ts:=by
  obtain ⟨rs,k1,k2,k3⟩:=h;refine ⟨rs,k1,k2.kept hg h1,fun i hi hi'=>(k3 i hi hi').turn ⟨hg.size,fun b hb hlt=>?_⟩⟩;obtain ⟨h3,h4⟩:=h2 b hb.1 hlt;exact ⟨hg.block b hlt h3,h4,hb.2⟩
theorem KidsA.snoc {w w':World} {B:Nat} {A:Nat->Prop} {v v':Value} {ts:List JV} {r:Raw} {t:JV} (rs:List Raw) (h1:rs.length=ts.length) (h2:w.ownsRow B 29 8 v ts.length (rs.flatMap Raw.cells))
    (h3:∀ i (h:i<rs.length) (h':i<ts.length),IsV w (fun b=>A b/\some b≠v.ownBlock) rs[i] ts[i]) (hr:IsV w (fun b=>A b/\some b≠v.ownBlock) r t)
    (hown:w'.ownsRow B 29 8 v' (ts.length+1) (rs.flatMap Raw.cells++r.cells)) (hg:w.grownBy w' v.ownBlock) (hl:v'.ownBlock=v.ownBlock∨v'.ownBlock=some w.heap.size):KidsA w' B A v' (ts++[t]):=by
  have T:Turn w w' (fun b=>A b/\some b≠v.ownBlock) (fun b=>A b/\some b≠v'.ownBlock):=⟨hg.size,fun b hb hlt=>⟨hg.block b hlt hb.2,hb.1,by
    rcases hl with e | e
    · rw [e];exact hb.2
    · rw [e];intro x;injection x with x;omega⟩⟩
  refine ⟨rs++[r],by simp [h1],by simpa using hown,fun i hi hi'=>?_⟩;by_cases hlt:i<rs.length
  · rw [List.getElem_append_left hlt,List.getElem_append_left (by omega)];exact (h3 i hlt (by omega)).turn T
  · have he:i=rs.length:=by simp at hi;omega
    subst he;have e1:(rs++[r])[rs.length]=r:=by simp
    have e2:(ts++[t])[rs.length]'(by simp [h1])=t:=by simp [<-h1]
    rw [e1,e2];exact hr.turn T
theorem rows_ne {w:World} {B B' e e' size size' n n':Nat} {v v':Value} {xs xs':List Value} (h:w.ownsRow B e size v n xs) (h':w.ownsRow B' e' size' v' n' xs') (hne:e≠e'):v.ownBlock=none∨v.ownBlock≠v'.ownBlock:=by
  rcases h.2 with ⟨rfl,_⟩ | ⟨g,cap,cur,rfl,_,hgg,_⟩
  · exact .inl rfl
  · rcases h'.2 with ⟨rfl,_⟩ | ⟨g',cap',cur',rfl,_,hgg',_⟩
    · exact .inr (by simp [Value.ownBlock])
    · refine .inr fun he=>?_;simp only [Value.ownBlock,Option.some.injEq] at he
      subst he;rw [hgg] at hgg';simp only [Option.some.injEq,Obj.cells.injEq] at hgg'
      exact hne hgg'.2.1
section
variable {w w' w7:World} {b M m:Nat} {ok:Prop} {ks:List ByteArray} {vs:List JV} {ka va:Option Addr} {kc vc:Nat}
end
open Go.RowKit Go.Maps Strs
theorem infoStr:(Tryz.prog.info? 9).map (fun i=>(i.zero,i.size,i.bytes))=some (some (.string ⟨#[]⟩),1,16):=by kernel_rfl
def kindOf:JV->Int
  | .mk k _ _ _ _ _ _ _=>k
set_option maxHeartbeats 8000000
inductive Small (N:Nat):JV->Prop where
  | mk (k:Int) (i n:Bool) (d:ByteArray) (e:Int) (s:ByteArray) (ks:List ByteArray) (vs:List JV):ks.length<=N->vs.length<=N->(∀ j (h:j<vs.length),Small N vs[j])->Small N (.mk k i n d e s ks vs)
theorem texts_eq (ks:List ByteArray) (A A':Nat->Prop) (ka ka':Option Addr) (kc kc':Nat) (w:World) (h:IsTexts w A ka ks) (h':IsTexts w A' ka' ks) (hl:ks.length<=4611686018427387904):Calls Tryz.prog 49 #[.slice ka ks.length kc,.slice ka' ks.length kc'] w fun e w'=>e=.returned (.bool true)/\∃ n,w'=w.drewN n:=by
  have H:=Hid.out (p:=Hid _) h;have H':=Hid.out (p:=Hid _) h';clear h h';go_enter Tryz.func49,Tryz.ntmps49
  go_wp2_with fail
  go_loopw [5] (fun p wr=>∃ i n:Nat,p=.int .i64 i/\i<=ks.length/\wr=w.drewN n) (fun p _=>ks.length-(intOf p).toNat)
  case atStart=>exact ⟨0,0,rfl,Nat.zero_le _,rfl⟩
  case round=>
    obtain ⟨i,n,rfl,hi,rfl⟩:=hrel;by_cases hlt:i<ks.length
    · have hne:ks≠[]:=fun e=>by rw [e] at hlt;simp at hlt
      obtain ⟨b,o,rfl,_,_,hc⟩:=H.out.resolve_left hne;obtain ⟨b',o',rfl,_,_,hc'⟩:=H'.out.resolve_left hne;have k2:=hc i hlt;have g2:=hc' i hlt;generalize ks[i]=x at *;have q2:(x.toList != x.toList)=false:=by simp
      clear hc hc';go_wp2_with fail
      go_quiet (fail)
      go_wp2_with fail
      go_roundw
      case rel=>exact ⟨i+1,_,by go_num,by omega,rfl⟩
      case measure=>simp [intOf];omega
    · go_wp2_with fail
      go_ret
      exact ⟨rfl,n,rfl⟩
theorem CellsAt.below {w w':World} {b o:Nat} {r:Raw} (h:CellsAt w b o r) (hb:b<w.heap.size) (g:Below w.heap.size w w'):CellsAt w' b o r:=fun j u hu=>(World.cell?_of_block (g.block b hb)).trans (h j u hu)
theorem CellsAt.eight {w:World} {b o:Nat} {r:Raw} (h:CellsAt w b o r):w.cell? ⟨b,o,none⟩=some (.int .i64 r.kind)/\w.cell? ⟨b,o+1,none⟩=some (.bool r.is)/\w.cell? ⟨b,o+2,none⟩=some (.bool r.neg)/\w.cell? ⟨b,o+3,none⟩=some (.string r.dig)/\w.cell? ⟨b,o+4,none⟩=some (.int .i64 r.exp)/\w.cell? ⟨b,o+5,none⟩=some (.string r.str)/\w.cell? ⟨b,o+6,none⟩=some (.slice r.ka r.kn r.kc)/\w.cell? ⟨b,o+7,none⟩=some (.slice r.va r.vn r.vc):=
  ⟨h 0 _ rfl,h 1 _ rfl,h 2 _ rfl,h 3 _ rfl,h 4 _ rfl,h 5 _ rfl,h 6 _ rfl,h 7 _ rfl⟩
theorem IsV.parts {w:World} {A:Nat->Prop} {r:Raw} {k:Int} {i n:Bool} {d:ByteArray} {e:Int} {s:ByteArray} {ks:List ByteArray} {vs:List JV} (h:IsV w A r (.mk k i n d e s ks vs)):∃ ka kc va vc,r=Raw.mk k i n d e s ka ks.length kc va vs.length vc/\IsTexts w A ka ks/\∃ f:Nat->Raw,(vs=[]∨∃ b o,va=some ⟨b,o,none⟩/\b<w.heap.size/\∀ i,i<vs.length->CellsAt w b (o+i*8) (f i))/\∀ i (h:i<vs.length),IsV w A (f i) vs[i]:=by
  generalize hz:JV.mk k i n d e s ks vs=z at h
  cases h with
  | mk _ keys kids f h1 h2 h3 h4 h5=>
    injection hz with e1 e2 e3 e4 e5 e6 e7 e8
    subst e7 e8;obtain ⟨kd,is,ng,dg,ex,st,ka,kn,kc,va,vn,vc⟩:=r;simp only at h1 h2 e1 e2 e3 e4 e5 e6
    subst e1 e2 e3 e4 e5 e6 h1 h2;refine ⟨ka,kc,va,vc,rfl,h3,f,?_,h5⟩;rcases h4 with h4 | ⟨b,o,q1,_,q3,q4⟩
    · exact .inl h4
    · exact .inr ⟨b,o,q1,q3,q4⟩
theorem IsV.behind {w w':World} {A:Nat->Prop} {r:Raw} {t:JV} (h:IsV w A r t) (g:Below w.heap.size w w'):IsV w' A r t:=h.turn (Turn.below g)
def Alike (t:JV):Prop:=∀ (ra rb:Raw) (A A':Nat->Prop) (w:World),IsV w A ra t->IsV w A' rb t->Calls Tryz.prog 17 #[ra.val,rb.val] w fun e w'=>e=.returned (.bool true)/\Below w.heap.size w w'
theorem same_keep {w w':World} (g:Below w.drew.heap.size w.drew w') {b j:Nat} {v:Value} (h:w.cell? ⟨b,j,none⟩=some v):w'.cell? ⟨b,j,none⟩=some v:=
  (World.cell?_of_block (w:=w.drew) (a:=⟨b,j,none⟩) (g.block b (World.block_lt_of_cell? w _ h))).trans h
theorem same_step (N:Nat) (hN:N<=4611686018427387904) (k:Int) (is ng:Bool) (d:ByteArray) (e:Int) (s:ByteArray) (ks:List ByteArray) (vs:List JV) (hk:ks.length<=N) (hv:vs.length<=N) (IH:∀ j (h:j<vs.length),Alike vs[j]):Alike (.mk k is ng d e s ks vs):=by
  intro ra rb A A' w h h'
  obtain ⟨ka,kc,va,vc,rfl,ht,f,hc,hi⟩:=h.parts;obtain ⟨ka',kc',va',vc',rfl,ht',f',hc',hi'⟩:=h'.parts;have HIH:=Hid.out (p:=Hid _) IH;have HT:Hid (IsTexts w A ka ks):=ht;have HT':Hid (IsTexts w A' ka' ks):=ht';have HC:=Hid.out (p:=Hid _) hc;have HC':=Hid.out (p:=Hid _) hc';have HI:=Hid.out (p:=Hid _) hi;have HI':=Hid.out (p:=Hid _) hi';clear h h' ht ht' hc hc' hi hi' IH
  dsimp only [Raw.val]
  go_enter Tryz.func17,Tryz.ntmps17
  go_wp2_with fail
  obtain ⟨b1,hb1⟩:∃ b1,w.heap.size=b1:=⟨_,rfl⟩;obtain ⟨w2,hw2⟩:∃ w2,(w.alloc (.cells #[.int .i64 k,.bool is,.bool ng,.string d,.int .i64 e,.string s,.slice ka ks.length kc,.slice va vs.length vc] 29)).alloc (.cells #[.int .i64 k,.bool is,.bool ng,.string d,.int .i64 e,.string s,.slice ka' ks.length kc',.slice va' vs.length vc'] 29)=w2:=⟨_,rfl⟩;have B2:Hid (Below w.heap.size w w2):=by rw [<-hw2];exact ((Below.refl _ _).alloc (Nat.le_refl _) _).alloc (by simp) _
  have V1:Hid (w2.heap[b1]?=some (.cells #[.int .i64 k,.bool is,.bool ng,.string d,.int .i64 e,.string s,.slice ka ks.length kc,.slice va vs.length vc] 29 (0,0))):=by rw [<-hw2,<-hb1];exact heap_alloc_old (heap_alloc_new _ _)
  have V2:Hid (w2.heap[b1+1]?=some (.cells #[.int .i64 k,.bool is,.bool ng,.string d,.int .i64 e,.string s,.slice ka' ks.length kc',.slice va' vs.length vc'] 29 (0,0))):=by
    have:=heap_alloc_new (w.alloc (.cells #[.int .i64 k,.bool is,.bool ng,.string d,.int .i64 e,.string s,.slice ka ks.length kc,.slice va vs.length vc] 29)) (.cells #[.int .i64 k,.bool is,.bool ng,.string d,.int .i64 e,.string s,.slice ka' ks.length kc',.slice va' vs.length vc'] 29);rw [show (w.alloc (.cells #[.int .i64 k,.bool is,.bool ng,.string d,.int .i64 e,.string s,.slice ka ks.length kc,.slice va vs.length vc] 29)).heap.size=w.heap.size+1 by simp] at this;rw [<-hw2,<-hb1];exact this
  have HT2:Hid (IsTexts w2 A ka ks):=HT.out.turn (Turn.below B2.out);have HT2':Hid (IsTexts w2 A' ka' ks):=HT'.out.turn (Turn.below B2.out);rw [hw2,hb1];have HB1:=Hid.out (p:=Hid _) hb1;clear hw2 hb1 HT HT';refine (texts_eq ks A A' ka ka' kc kc' w2 HT2.out HT2'.out (by omega)).mono ?_;rintro x w3 ⟨rfl,n3,rfl⟩;have c16:w2.cell? ⟨b1,7,none⟩=some (.slice va vs.length vc):=cell_of V1.out 7;have c26:w2.cell? ⟨b1+1,7,none⟩=some (.slice va' vs.length vc'):=cell_of V2.out 7;have B3:Hid (Below w.heap.size w (w2.drewN n3)):=B2.out.trans (below_drewN _ _ _);have V13:Hid ((w2.drewN n3).heap[b1]?=some (.cells #[.int .i64 k,.bool is,.bool ng,.string d,.int .i64 e,.string s,.slice ka ks.length kc,.slice va vs.length vc] 29 (0,0))):=V1.out;have V23:Hid ((w2.drewN n3).heap[b1+1]?=some (.cells #[.int .i64 k,.bool is,.bool ng,.string d,.int .i64 e,.string s,.slice ka' ks.length kc',.slice va' vs.length vc'] 29 (0,0))):=V2.out;have c1:(w2.drewN n3).cell? ⟨b1,7,none⟩=some (.slice va vs.length vc):=cell_of V13.out 7;have c2:(w2.drewN n3).cell? ⟨b1+1,7,none⟩=some (.slice va' vs.length vc'):=cell_of V23.out 7;clear HT2 HT2' c16 c26 V1 V2 B2;generalize w2.drewN n3=w3 at *;go_wp2_with fail
  go_loopw [5] (fun p wr=>∃ i:Nat,p=.int .i64 i/\i<=vs.length/\Hid (Below w3.heap.size w3 wr)) (fun p _=>vs.length-(intOf p).toNat)
  case atStart=>exact ⟨0,rfl,Nat.zero_le _,Below.refl _ _⟩
  case round=>
    obtain ⟨i,rfl,hi,hB⟩:=hrel;have hs3:b1+1<w3.heap.size:=heap_lt V23.out;have V14:=Hid.out (p:=Hid _) ((hB.out.block b1 (by omega)).trans V13.out);have V24:=Hid.out (p:=Hid _) ((hB.out.block (b1+1) hs3).trans V23.out);have d1:wr.cell? ⟨b1,7,none⟩=some (.slice va vs.length vc):=cell_of V14.out 7;have d2:wr.cell? ⟨b1+1,7,none⟩=some (.slice va' vs.length vc'):=cell_of V24.out 7;by_cases hlt:i<vs.length
    · have hne:vs≠[]:=fun e=>by rw [e] at hlt;simp at hlt
      obtain ⟨g,o,rfl,hg,hcs⟩:=HC.out.resolve_left hne;obtain ⟨g',o',rfl,hg',hcs'⟩:=HC'.out.resolve_left hne;have Bw:Hid (Below w.heap.size w wr):=B3.out.trans (hB.out.mono B3.out.size);have K1:=Hid.out (p:=Hid _) ((hcs i hlt).below hg Bw.out);have K2:=Hid.out (p:=Hid _) ((hcs' i hlt).below hg' Bw.out);have I1:=Hid.out (p:=Hid _) ((HI.out i hlt).behind Bw.out);have I2:=Hid.out (p:=Hid _) ((HI'.out i hlt).behind Bw.out);have hal:=HIH.out i hlt;have HAL:=Hid.out (p:=Hid _) hal;clear hcs hcs' hal;generalize f i=x at *;generalize f' i=y at *;have K1c:CellsAt wr g (o+i*8) x:=K1.out;have K2c:CellsAt wr g' (o'+i*8) y:=K2.out;obtain ⟨u0,u1,u2,u3,u4,u5,u6,u7⟩:=K1c.eight;obtain ⟨v0,v1,v2,v3,v4,v5,v6,v7⟩:=K2c.eight;have hcall:=HAL.out x y A A' wr.drew (I1.out.behind ((Below.refl _ _).drew)) (I2.out.behind ((Below.refl _ _).drew));have HCL:=Hid.out (p:=Hid _) hcall;clear K1 K2 K1c K2c I1 I2 HAL hcall V14 V24;go_wp2_with fail
      go_region_held3 (fun w'=>w'.cell? ⟨b1,7,none⟩=some (.slice (some ⟨g,o,none⟩) vs.length vc)/\w'.cell? ⟨b1+1,7,none⟩=some (.slice (some ⟨g',o',none⟩) vs.length vc')/\w'.cell? ⟨g,o+i*8,none⟩=some (.int .i64 x.kind)/\w'.cell? ⟨g,o+i*8+1,none⟩=some (.bool x.is)/\w'.cell? ⟨g,o+i*8+2,none⟩=some (.bool x.neg)/\w'.cell? ⟨g,o+i*8+3,none⟩=some (.string x.dig)/\w'.cell? ⟨g,o+i*8+4,none⟩=some (.int .i64 x.exp)/\w'.cell? ⟨g,o+i*8+5,none⟩=some (.string x.str)/\w'.cell? ⟨g,o+i*8+6,none⟩=some (.slice x.ka x.kn x.kc)/\w'.cell? ⟨g,o+i*8+7,none⟩=some (.slice x.va x.vn x.vc)/\w'.cell? ⟨g',o'+i*8,none⟩=some (.int .i64 y.kind)/\w'.cell? ⟨g',o'+i*8+1,none⟩=some (.bool y.is)/\w'.cell? ⟨g',o'+i*8+2,none⟩=some (.bool y.neg)/\w'.cell? ⟨g',o'+i*8+3,none⟩=some (.string y.dig)/\w'.cell? ⟨g',o'+i*8+4,none⟩=some (.int .i64 y.exp)/\w'.cell? ⟨g',o'+i*8+5,none⟩=some (.string y.str)/\w'.cell? ⟨g',o'+i*8+6,none⟩=some (.slice y.ka y.kn y.kc)/\w'.cell? ⟨g',o'+i*8+7,none⟩=some (.slice y.va y.vn y.vc)) (go_keep)
        ((go_at_call 17;refine (Calls.mono HCL.out ?_);rintro z w5 ⟨rfl,hb5⟩;have kp:=@same_keep _ _ hb5;have d1n:=kp d1;have d2n:=kp d2;have u0n:=kp u0;have u1n:=kp u1;have u2n:=kp u2;have u3n:=kp u3;have u4n:=kp u4;have u5n:=kp u5;have u6n:=kp u6;have u7n:=kp u7;have v0n:=kp v0;have v1n:=kp v1;have v2n:=kp v2;have v3n:=kp v3;have v4n:=kp v4;have v5n:=kp v5;have v6n:=kp v6;have v7n:=kp v7;have B5:Hid (Below w3.heap.size w3 w5):=(hB.out.drew).trans (hb5.mono (by have:=hB.out.size;exact this));clear kp hb5 d1 d2 u0 u1 u2 u3 u4 u5 u6 u7 v0 v1 v2 v3 v4 v5 v6 v7))
      all_goals
        go_wp2_with fail
        go_roundw
        case rel=>exact ⟨i+1,by go_num,by omega,B5.out⟩
        case measure=>simp [intOf];omega
    · go_wp2_with fail
      go_ret
      exact ⟨rfl,B3.out.trans (hB.out.mono B3.out.size)⟩
theorem same_alike (N:Nat) (hN:N<=4611686018427387904) (t:JV) (h:Small N t):Alike t:=by
  induction h with
  | mk k i n d e s ks vs h1 h2 h3 ih=>exact same_step N hN k i n d e s ks vs h1 h2 ih
end Go.Proofs.YtliekocamnklfaaGreatDoor.Jdec
