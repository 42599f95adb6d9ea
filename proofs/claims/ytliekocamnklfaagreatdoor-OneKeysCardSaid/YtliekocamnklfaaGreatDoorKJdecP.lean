/- quote.Print. -/
import Derived.Test.YtliekocamnklfaaGreatDoorKJenE
import Derived.Test.YtliekocamnklfaaGreatDoorKAdF
import Derived.Test.YtliekocamnklfaaGreatDoorKQuoteC
import Derived.Lib.AppendIntMem
import Derived.Deep.RegionHeld3
import Derived.Deep.AppendLies
import Derived.Deep.RegionLaw
import Derived.Maps.OwnSet
import Derived.Maps.OwnOps
import Derived.Deep.CutRange
import Derived.WalkMore
import Derived.Laws.EntriesVeiled
import Derived.Laws.StructEq
set_option linter.unusedVariables false
set_option linter.unusedSimpArgs false
set_option maxRecDepth 100000
namespace Go.Proofs.YtliekocamnklfaaGreatDoor.Quote
open Go.RowKit Utf Strs
def BB (n:Nat) (W:World) (bs:List UInt8):Prop:=∃ cs,Bl W n n 0 91 cs bs
end Go.Proofs.YtliekocamnklfaaGreatDoor.Quote
set_option maxHeartbeats 6400000
namespace Go.Proofs.YtliekocamnklfaaGreatDoor.Addr
open Go.RowKit Go.Shelf Utf Strs
theorem below_grow (w:World) (n:Nat) (os:Array Obj):Below w.heap.size w (Sort.grow (w.drewN n) os):=
  ⟨rfl,rfl,rfl,by simp [Sort.grow],fun k hk=>by simp only [Sort.grow];exact Array.getElem?_append_left hk⟩
theorem formatUint_in (u:Nat) (hu64:u<18446744073709551616) (w:World) (htab:Lib.TabIs Tryz.prog w "internal/strconv.uint64pow10" .u64 Lib.pow10Tab):Calls Tryz.prog 148 #[.int .u64 u,.int .i64 10] w fun e w'=>e=.returned (.string ⟨(Lib.decDigits u).toArray⟩)/\Below w.heap.size w w':=by
  by_cases hs:u<100
  · have q1:decide ((u:Int)<100)=true:=by rw [decide_eq_true_eq];omega
    have q2:decide (u<100)=true:=by rw [decide_eq_true_eq];omega
    go_enter Tryz.func148,Tryz.ntmps148
    go_wp2_with fail
    refine (Tryz.internal_strconv_small u hs w).mono ?_;rintro e w' ⟨rfl,rfl⟩;go_wp2_with fail
    go_ret
    exact ⟨rfl,Below.refl _ _⟩
  · have q1:decide ((u:Int)<100)=false:=by rw [decide_eq_false_iff_not];omega
    have q2:decide (u<100)=false:=by rw [decide_eq_false_iff_not];omega
    have hu1:1<=u:=by omega
    have hnd20:Lib.nDigits u<=20:=by have:=Lib.numDigits_eq u hu1 hu64;split at this <;> omega
    have hH0:=Lib.holds_zero0 w 183 (Lib.nDigits u) (by omega);have hfmt:=Tryz.internal_strconv_formatBase10 w.heap.size 0 24 u (Array.replicate (Lib.nDigits u) 0) (w.alloc (.cells Lib.zeros24 183)) hH0 (by rw [Array.size_replicate];exact Lib.lt_pow_nDigits u) hu64 (by rw [Array.size_replicate];omega);rw [Array.size_replicate] at hfmt;have hal:(Tryz.prog).arrayLen 183=24:=by kernel_rfl
    have hsl:∀ W,(Instr.sliceAt 183 (.pointer (some ⟨w.heap.size,0,none⟩)) none (some (.int .i64 (Lib.nDigits u:Int))) none).run Tryz.prog W=.ok (.slice (some ⟨w.heap.size,0,none⟩) (Lib.nDigits u) 24) W:=fun W=>by
      rw [run_sliceAt_array_h W 183 ⟨w.heap.size,0,none⟩ (by kernel_rfl) .i64 (Lib.nDigits u:Int) (by omega) (by rw [hal];omega)]
      go_simp
    have HH0:=Lib.hid hH0;have HF:=Hid.out (p:=Hid _) hfmt;clear hH0 hal hfmt;go_enter Tryz.func148,Tryz.ntmps148
    go_wp2_with fail
    refine (Tryz.internal_strconv_numDigits u hu1 hu64 _ (Lib.tabIs_alloc htab _)).mono ?_;rintro e w' ⟨rfl,rfl⟩;go_wp2_with fail
    refine (Calls.mono HF.out ?_);rintro e w' ⟨rfl,k,v',dk,rfl,hF⟩;have hcv:(convert 89 9 (.slice (some ⟨w.heap.size,0,none⟩) (Lib.nDigits u) 24)).run Tryz.prog ((Sort.putRow (fun (b:UInt8)=>Value.int .u8 (b.toNat:Int)) (w.alloc (.cells Lib.zeros24 183)) w.heap.size 0 dk).drewN k)=.ok (.string ⟨(Lib.decDigits u).toArray⟩) ((Sort.putRow (fun (b:UInt8)=>Value.int .u8 (b.toNat:Int)) (w.alloc (.cells Lib.zeros24 183)) w.heap.size 0 dk).drewN k):=by
      have h:=run_convert_bytes_back (P:=Tryz.prog) ((Sort.putRow (fun (b:UInt8)=>Value.int .u8 (b.toNat:Int)) (w.alloc (.cells Lib.zeros24 183)) w.heap.size 0 dk).drewN k) 89 9 5 ⟨w.heap.size,0,none⟩ 24 (Lib.decDigits u) Tryz.underlying89 Tryz.underlying5 Tryz.underlying9 (fun j hj=>by
        rw [Lib.row_is_numeral hF j hj,Lib.add_plain,World.cell?_drewN];exact Sort.cell?_putRow (fun (b:UInt8)=>Value.int .u8 (b.toNat:Int)) _ w.heap.size 0 _ dk HH0.out (by rw [hF.size,Array.size_replicate]) j (by rw [hF.size];rw [Lib.decDigits_length] at hj;exact hj))
      rw [Lib.decDigits_length] at h;exact h
    obtain ⟨os,eo⟩:=Lib.fin_at w (.cells Lib.zeros24 183) dk k 0;have HB:Hid (Below w.heap.size w ((Sort.putRow (fun (b:UInt8)=>Value.int .u8 (b.toNat:Int)) (w.alloc (.cells Lib.zeros24 183)) w.heap.size 0 dk).drewN k)):=by
      rw [Hid,eo];exact below_grow w k os
    clear eo hF HF HH0;go_wp2_with fail
    go_ret
    exact ⟨rfl,HB.out⟩
theorem formatUint_any (u:Nat) (hu64:u<18446744073709551616) (w:World) (htab:Lib.TabIs Tryz.prog w "internal/strconv.uint64pow10" .u64 Lib.pow10Tab):Calls Tryz.prog 108 #[.int .u64 u,.int .i64 10] w fun e w'=>e=.returned (.string ⟨(Lib.decDigits u).toArray⟩)/\Below w.heap.size w w':=by
  have hc:=formatUint_in u hu64 w htab;have HC:=Hid.out (p:=Hid _) hc;clear hc;go_enter Tryz.func108,Tryz.ntmps108
  go_wp2_with fail
  refine (Calls.mono HC.out ?_);rintro e w' ⟨rfl,hb⟩;have HB:=Hid.out (p:=Hid _) hb;clear hb;go_wp2_with fail
  go_ret
  exact ⟨rfl,HB.out⟩
end Go.Proofs.YtliekocamnklfaaGreatDoor.Addr
namespace Go.Proofs.YtliekocamnklfaaGreatDoor.Jdec
mutual
def JV.deepN:JV->Nat
  | .mk k _ _ _ _ _ _ kids=>(if k=5∨k=6 then deepNs kids else 0)+1
def deepNs:List JV->Nat
  | []=>0
  | v::t=>max v.deepN (deepNs t)
end
theorem deepNs_cons (v:JV) (t:List JV):deepNs (v::t)=max v.deepN (deepNs t):=by rw [deepNs]
theorem deepNs_nil:deepNs []=0:=by rw [deepNs]
end Go.Proofs.YtliekocamnklfaaGreatDoor.Jdec
namespace Go.Proofs.YtliekocamnklfaaGreatDoor.Utf
open Quote
end Go.Proofs.YtliekocamnklfaaGreatDoor.Utf
namespace Go.Proofs.YtliekocamnklfaaGreatDoor.Jdec
open Go.RowKit Strs
theorem gb_drew (w:World) (n:Nat) (r:Option Nat):w.grownBy (w.drewN n) r:=⟨rfl,rfl,rfl,Nat.le_refl _,fun _ _ _=>rfl⟩
theorem gb_set (w:World) (b i:Nat) (v:Value):w.grownBy (w.setCell ⟨b,i,none⟩ v) (some b):=⟨rfl,rfl,rfl,by simp [World.setCell],fun k _ hk=>Below.heap_setCell _ _ _ _ (fun e=>hk (by simp [e]))⟩
theorem gb_below {w w':World} (h:Below w.heap.size w w') (r:Option Nat):w.grownBy w' r:=⟨h.os,h.tape,h.output,h.size,fun k hk _=>h.block k hk⟩
section
variable {w w':World} {P:Nat} {s:ByteArray} {k:Nat} {V:Value} {b e:Nat}
end
theorem infoVal:(Tryz.prog.info? 29).map (·.size)=some 8:=by kernel_rfl
def Raw.arr (a:Raw):Array Value:=#[.int .i64 a.kind,.bool a.is,.bool a.neg,.string a.dig,.int .i64 a.exp,.string a.str,.slice a.ka a.kn a.kc,.slice a.va a.vn a.vc]
theorem val_ret {F:Func} {p:Tmp} (hr:F.results=#[.cell p 29]) {tm:Array Value} {a:Raw} {R:Ending->World->Prop} {w':World} {b:Nat}
    (hb:w'.heap[b]?=some (.cells a.arr 29 (0,0))) (hp:tm.getD p undef=.pointer (some ⟨b,0,none⟩)) (hR:R (.returned a.val) w') :
    bodyPost Tryz.prog F R Exit.ret { tmps:=tm,defers:=[] } w':=
  bodyPost_ret (results_cell_row hr tm w' b _ _ _ _ hp hb Tryz.underlying29 rfl infoVal) rfl hR
theorem set8 {w:World} {b:Nat} {a:Raw} {T:TypeId} (h:w.heap[b]?=some (.cells a.arr T (0,0))) (c:Raw):((((((((w.setCell ⟨b,0,none⟩ (.int .i64 c.kind)).setCell ⟨b,1,none⟩ (.bool c.is)).setCell ⟨b,2,none⟩ (.bool c.neg)).setCell ⟨b,3,none⟩ (.string c.dig)).setCell ⟨b,4,none⟩ (.int .i64 c.exp)).setCell ⟨b,5,none⟩ (.string c.str)).setCell ⟨b,6,none⟩ (.slice c.ka c.kn c.kc)).setCell ⟨b,7,none⟩ (.slice c.va c.vn c.vc)).heap[b]?=some (.cells c.arr T (0,0)):=by
  have h0:=heap_set_same h (i:=0) (.int .i64 c.kind);have h1:=heap_set_same h0 (i:=1) (.bool c.is);have h2:=heap_set_same h1 (i:=2) (.bool c.neg);have h3:=heap_set_same h2 (i:=3) (.string c.dig);have h4:=heap_set_same h3 (i:=4) (.int .i64 c.exp);have h5:=heap_set_same h4 (i:=5) (.string c.str);have h6:=heap_set_same h5 (i:=6) (.slice c.ka c.kn c.kc);have h7:=heap_set_same h6 (i:=7) (.slice c.va c.vn c.vc);rw [h7];simp [Raw.arr]
theorem gb8 (w:World) (b:Nat) (x0 x1 x2 x3 x4 x5 x6 x7:Value):w.grownBy ((((((((w.setCell ⟨b,0,none⟩ x0).setCell ⟨b,1,none⟩ x1).setCell ⟨b,2,none⟩ x2).setCell ⟨b,3,none⟩ x3).setCell ⟨b,4,none⟩ x4).setCell ⟨b,5,none⟩ x5).setCell ⟨b,6,none⟩ x6).setCell ⟨b,7,none⟩ x7) (some b):=
  ((((((((gb_set _ _ _ _).trans (gb_set _ _ _ _)).trans (gb_set _ _ _ _)).trans (gb_set _ _ _ _)).trans (gb_set _ _ _ _)).trans (gb_set _ _ _ _)).trans (gb_set _ _ _ _)).trans (gb_set _ _ _ _))
theorem val_cells {w:World} {b:Nat} {a:Raw} {T:TypeId} (h:w.heap[b]?=some (.cells a.arr T (0,0))) :
    (w.cell? ⟨b,0,none⟩=some (.int .i64 a.kind)/\w.cell? ⟨b,1,none⟩=some (.bool a.is)/\w.cell? ⟨b,2,none⟩=some (.bool a.neg)/\w.cell? ⟨b,3,none⟩=some (.string a.dig)/\w.cell? ⟨b,4,none⟩=some (.int .i64 a.exp)/\w.cell? ⟨b,5,none⟩=some (.string a.str)/\w.cell? ⟨b,6,none⟩=some (.slice a.ka a.kn a.kc)/\w.cell? ⟨b,7,none⟩=some (.slice a.va a.vn a.vc)) ∧
    (w.frozen? ⟨b,0,none⟩=false/\w.frozen? ⟨b,1,none⟩=false/\w.frozen? ⟨b,2,none⟩=false/\w.frozen? ⟨b,3,none⟩=false/\w.frozen? ⟨b,4,none⟩=false/\w.frozen? ⟨b,5,none⟩=false/\w.frozen? ⟨b,6,none⟩=false/\w.frozen? ⟨b,7,none⟩=false):=
  ⟨⟨cell_of h 0,cell_of h 1,cell_of h 2,cell_of h 3,cell_of h 4,cell_of h 5,cell_of h 6,cell_of h 7⟩,frozen_of h 0,frozen_of h 1,frozen_of h 2,frozen_of h 3,frozen_of h 4,frozen_of h 5,frozen_of h 6,frozen_of h 7⟩
theorem infoKid:(Tryz.prog.info? 29).map (fun i=>(i.zero,i.size,i.bytes))=some (some (.agg #[.int .i64 0,.bool false,.bool false,.string ⟨#[]⟩,.int .i64 0,.string ⟨#[]⟩,.slice none 0 0,.slice none 0 0]),8,112):=by kernel_rfl
open Go.Maps
theorem zeroBool (w:World):(zeroValue 4).run Tryz.prog w=.ok (.bool false) w:=by kernel_rfl
theorem plainElem_bool_inv {H:Type} {P:Program} {e:TypeId} (he:P.underlying e=some .bool) {v:Value} {x:Bool} {ps:List MemPlace} (h:plainElem (H:=H) P e v=some (.lit (.bool x),ps)):v=.bool x:=by
  unfold plainElem at h;rw [he] at h;cases v <;> simp at h
  rw [h.1]
theorem keyLaw:Keyed Tryz.prog 9:=string_keyed Tryz.underlying9
def Seen (w:World) (M n:Nat) (ks:List ByteArray):Prop:=
  ∃ D:DataW Unit,w.ownsMap Tryz.prog 9 (plainElem Tryz.prog 4) M n D/\∀ d:ByteArray,D.atKey (.string d.data.toList) (.lit (.bool false))=.lit (.bool (ks.any (fun x=>decide (x=d))))
theorem Seen.made (w:World):Seen (w.alloc (.map #[] 0)) w.heap.size 0 []:=⟨.map [],World.ownsMap_made _ _ _ _,fun d=>rfl⟩
theorem key_of (d:ByteArray) (hd:d.size<=maxLen):keyOf Tryz.prog 9 (.string d)=some (.string d.data.toList):=Go.WideMaps.keyOf_string_mk Tryz.underlying9 hd
theorem Seen.look {w:World} {M n:Nat} {ks:List ByteArray} (h:Seen w M n ks) (d:ByteArray) (hd:d.size<=maxLen):(Instr.lookup 202 (.map (some M)) (.string d) false).run Tryz.prog w=.ok (.bool (ks.any (fun x=>decide (x=d)))) w:=by
  obtain ⟨D,h1,h2⟩:=h;obtain ⟨v,ps,hrun,hv⟩:=h1.lookup keyLaw Tryz.underlying202 (zeroBool w) (plainElem_bool Tryz.underlying4 false) (key_of d hd);rw [h2 d] at hv;rw [hrun,plainElem_bool_inv Tryz.underlying4 hv]
theorem Seen.put {w w':World} {M n:Nat} {ks:List ByteArray} {d:ByteArray} {D:DataW Unit} (h0:w.ownsMap Tryz.prog 9 (plainElem Tryz.prog 4) M n D) (h2:∀ d:ByteArray,D.atKey (.string d.data.toList) (.lit (.bool false))=.lit (.bool (ks.any (fun x=>decide (x=d)))))
    (h1:w'.ownsMap Tryz.prog 9 (plainElem Tryz.prog 4) M (n+1) (D.put (.string d.data.toList) (.lit (.bool true)))):Seen w' M (n+1) (ks++[d]):=by
  refine ⟨_,h1,fun d'=>?_⟩;by_cases e:d=d'
  · subst e;rw [atKey_put_same h0.isMap (by trivial)];simp
  · rw [atKey_put_other,h2 d']
    · simp [e]
    · intro h
      injection h with h
      apply e
      cases d;cases d';simp only [ByteArray.mk.injEq]
      exact (Array.toList_inj.1 h.symm)
section
variable {w w' w7:World} {b M m:Nat} {ok:Prop} {ks:List ByteArray} {vs:List JV} {ka va:Option Addr} {kc vc:Nat}
end
open Go.RowKit Go.Maps Strs
theorem infoStr:(Tryz.prog.info? 9).map (fun i=>(i.zero,i.size,i.bytes))=some (some (.string ⟨#[]⟩),1,16):=by kernel_rfl
def kindOf:JV->Int
  | .mk k _ _ _ _ _ _ _=>k
end Go.Proofs.YtliekocamnklfaaGreatDoor.Jdec
