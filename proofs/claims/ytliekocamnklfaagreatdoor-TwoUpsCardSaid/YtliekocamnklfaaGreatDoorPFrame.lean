/- Small facts on the bits of ints. -/
import Derived.Test.YtliekocamnklfaaGreatDoorProg
import Derived.Test.YtliekocamnklfaaGreatDoorPShelf
import Derived.Laws.BitsAllLaws
import Derived.WalkKit
import Derived.Below
import Derived.Lib.Builder
import Derived.BigQuiet
import Derived.Deep.QuietTactic
import Derived.OwnWalk
import Derived.Laws.AppendOwn
import Derived.Laws.OwnMore
import Derived.Laws.Externs
import Derived.Lib.UnsafeStr
import Derived.Lib.AppendStr
import Derived.RegionTactic
import Derived.Outline
import Derived.Shelf.Strings.SlTrimAscii
set_option linter.unusedVariables false
set_option linter.unusedSimpArgs false
set_option maxRecDepth 100000
namespace Go.Proofs.YtliekocamnklfaaGreatDoor.Bits
open Go.RowKit
theorem and192:∀ n:Nat,n<256->(bits .and .i64 (n:Int) 192 != 128)=!(decide (128<=n) && decide (n<192)):=by decide +kernel
theorem and31:∀ n:Nat,n<256->bits .and .i64 (n:Int) 31=((n % 32:Nat):Int):=by decide +kernel
theorem and15:∀ n:Nat,n<256->bits .and .i64 (n:Int) 15=((n % 16:Nat):Int):=by decide +kernel
theorem and7:∀ n:Nat,n<256->bits .and .i64 (n:Int) 7=((n % 8:Nat):Int):=by decide +kernel
theorem and63:∀ n:Nat,n<256->bits .and .i64 (n:Int) 63=((n % 64:Nat):Int):=by decide +kernel
theorem ofInt64 (a:Nat) (ha:a<2 ^ 64):(BitVec.ofInt 64 (a:Int)).toNat=a:=by
  rw [BitVec.ofInt_natCast,BitVec.toNat_ofNat];exact Nat.mod_eq_of_lt (by omega)
theorem wrap_i64_nat (n:Nat) (h:n<9223372036854775808):IntKind.i64.wrap (n:Int)=n:=by
  simp [IntKind.wrap,IntKind.bits,IntKind.signed];omega
theorem or_nat (a b:Nat) (ha:a<9223372036854775808) (hb:b<9223372036854775808):bits .or .i64 (a:Int) (b:Int)=((a ||| b:Nat):Int):=by
  show IntKind.i64.wrap ((BitVec.ofInt 64 (a:Int) ||| BitVec.ofInt 64 (b:Int)).toNat:Int)=_;rw [BitVec.toNat_or,ofInt64 _ (by omega),ofInt64 _ (by omega)];exact wrap_i64_nat _ (by have:=Nat.or_lt_two_pow (n:=63) (x:=a) (y:=b) (by omega) (by omega);omega)
theorem and_nat (a b:Nat) (ha:a<9223372036854775808) (hb:b<9223372036854775808):bits .and .i64 (a:Int) (b:Int)=((a &&& b:Nat):Int):=by
  show IntKind.i64.wrap ((BitVec.ofInt 64 (a:Int) &&& BitVec.ofInt 64 (b:Int)).toNat:Int)=_;rw [BitVec.toNat_and,ofInt64 _ (by omega),ofInt64 _ (by omega)];exact wrap_i64_nat _ (by have:=Nat.and_le_left (n:=a) (m:=b);omega)
theorem or_add64 (c x:Nat) (hx:x<64):c*64 ||| x=c*64+x:=by
  have:=Nat.shiftLeft_add_eq_or_of_lt (i:=6) (b:=x) (by omega) c;rw [Nat.shiftLeft_eq] at this;exact this.symm
theorem or_step (c x:Nat) (hc:c<1099511627776) (hx:x<256):bits .or .i64 (wrap64 ((c:Int)*64)) (bits .and .i64 (x:Int) 63)=((c*64+x % 64:Nat):Int):=by
  rw [and63 x hx,IntWalk.wrap64_in _ (by omega)];have e:((c:Int)*64)=((c*64:Nat):Int):=by omega
  rw [e,or_nat _ _ (by omega) (by omega),or_add64 _ _ (by omega)]
theorem scalar2 (a b:Nat) (ha:a<256) (hb:b<256):bits .or .i64 (wrap64 (bits .and .i64 (a:Int) 31*64)) (bits .and .i64 (b:Int) 63)=((a % 32*64+b % 64:Nat):Int):=by
  rw [and31 a ha];exact or_step _ _ (by omega) hb
theorem scalar3 (a b c:Nat) (ha:a<256) (hb:b<256) (hc:c<256):bits .or .i64 (wrap64 (bits .or .i64 (wrap64 (bits .and .i64 (a:Int) 15*64)) (bits .and .i64 (b:Int) 63)*64)) (bits .and .i64 (c:Int) 63)=(((a % 16*64+b % 64)*64+c % 64:Nat):Int):=by
  rw [and15 a ha,or_step _ _ (by omega) hb];exact or_step _ _ (by omega) hc
theorem scalar4 (a b c d:Nat) (ha:a<256) (hb:b<256) (hc:c<256) (hd:d<256):bits .or .i64 (wrap64 (bits .or .i64 (wrap64 (bits .or .i64 (wrap64 (bits .and .i64 (a:Int) 7*64)) (bits .and .i64 (b:Int) 63)*64)) (bits .and .i64 (c:Int) 63)*64)) (bits .and .i64 (d:Int) 63)=((((a % 8*64+b % 64)*64+c % 64)*64+d % 64:Nat):Int):=by
  rw [and7 a ha,or_step _ _ (by omega) hb,or_step _ _ (by omega) hc];exact or_step _ _ (by omega) hd
end Go.Proofs.YtliekocamnklfaaGreatDoor.Bits
namespace Go.Proofs.YtliekocamnklfaaGreatDoor
open Go.RowKit
structure Keeps (B b:Nat) (w w':World):Prop where
  below:Below B w w'
  block:∀ k,k<w.heap.size->k≠b->(∀ c fr,w.heap[k]?≠some (.cells c 5 fr))->w'.heap[k]?=w.heap[k]?
theorem Keeps.refl (B b:Nat) (w:World):Keeps B b w w:=⟨Below.refl _ _,fun _ _ _ _=>rfl⟩
theorem Keeps.trans {B b:Nat} {x y z:World} (h:Keeps B b x y) (k:Keeps B b y z):Keeps B b x z:=
  ⟨h.below.trans k.below,fun i hi hb hn=>by
    have e:=h.block i hi hb hn;rw [<-e];exact k.block i (Nat.lt_of_lt_of_le hi h.below.size) hb (fun c fr=>by rw [e];exact hn c fr)⟩
theorem Keeps.alloc {B b:Nat} {x w:World} (h:Keeps B b x w) (hB:B<=w.heap.size) (o:Obj):Keeps B b x (w.alloc o):=
  h.trans ⟨(Below.refl _ _).alloc hB _,fun k hk _ _=>Below.heap_alloc _ _ _ hk⟩
theorem Keeps.setCell {B b:Nat} {x w:World} (h:Keeps B b x w) {p:Addr} (hp:p.block=b) (hB:B<=b) (u:Value):Keeps B b x (w.setCell p u):=
  h.trans ⟨(Below.refl _ _).setCell (by omega) _,fun k _ hb _=>Below.heap_setCell _ _ _ _ (by omega)⟩
theorem Keeps.drewN {B b:Nat} {x w:World} (h:Keeps B b x w) (n:Nat):Keeps B b x (w.drewN n):=⟨⟨h.below.os,h.below.tape,h.below.output,h.below.size,h.below.block⟩,h.block⟩
theorem Keeps.grown {B b:Nat} {x w w':World} {row:Option Nat} (h:Keeps B b x w) (hg:w.grownBy w' row) (hB:B<=w.heap.size) (hr:∀ k,row=some k->B<=k)
    (hrow:∀ k,row=some k->∃ c fr,w.heap[k]?=some (.cells c 5 fr)):Keeps B b x w':=
  h.trans ⟨(Below.refl _ _).grown hg hB hr,fun k hk _ hn=>hg.block k hk (fun e=>by obtain ⟨c,fr,hc⟩:=hrow k e.symm;exact hn c fr hc)⟩
theorem Keeps.of_below {B b:Nat} {w w':World} (h:Below w.heap.size w w') (hB:B<=w.heap.size):Keeps B b w w':=
  ⟨h.mono hB,fun k hk _ _=>h.block k hk⟩
theorem below_drewN (B:Nat) (w:World) (n:Nat):Below B w (w.drewN n):=⟨rfl,rfl,rfl,Nat.le_refl _,fun _ _=>rfl⟩
theorem heap_alloc_new (w:World) (o:Obj):(w.alloc o).heap[w.heap.size]?=some o:=by
  show (w.heap.push o)[w.heap.size]?=_;simp
theorem heap_alloc_old {w:World} {o o':Obj} {k:Nat} (h:w.heap[k]?=some o'):(w.alloc o).heap[k]?=some o':=
  (Below.heap_alloc w o k (Array.getElem?_eq_some_iff.1 h).1).trans h
theorem heap_set_same {w:World} {b i:Nat} {c:Array Value} {e:TypeId} {fr:Nat × Nat} (h:w.heap[b]?=some (.cells c e fr)) (v:Value):(w.setCell ⟨b,i,none⟩ v).heap[b]?=some (.cells (c.setIfInBounds i v) e fr):=by
  simp [World.setCell,Array.getElem?_modify,h]
theorem heap_set_other {w:World} {b i k:Nat} {o:Obj} (h:w.heap[k]?=some o) (hk:k≠b) (v:Value) :
    (w.setCell ⟨b,i,none⟩ v).heap[k]?=some o:=(Below.heap_setCell w _ v k hk).trans h
theorem heap_lt {w:World} {k:Nat} {o:Obj} (h:w.heap[k]?=some o):k<w.heap.size:=(Array.getElem?_eq_some_iff.1 h).1
theorem cell_of {w:World} {b:Nat} {cs:Array Value} {T:TypeId} {fr:Nat × Nat} (hb:w.heap[b]?=some (.cells cs T fr)) (j:Nat):w.cell? ⟨b,j,none⟩=cs[j]?:=by
  simp [World.cell?,hb]
theorem frozen_of {w:World} {b:Nat} {cs:Array Value} {T:TypeId} (hb:w.heap[b]?=some (.cells cs T (0,0))) (j:Nat):w.frozen? ⟨b,j,none⟩=false:=by
  simp [World.frozen?,hb]
theorem shape_of {w:World} {b:Nat} {cs:Array Value} {T:TypeId} {fr:Nat × Nat} (hb:w.heap[b]?=some (.cells cs T fr)):w.shape? b=some (T,cs.size):=by
  simp [World.shape?,hb]
structure Bl (w:World) (B b o:Nat) (T:TypeId) (cs:Array Value) (bs:List UInt8):Prop where
  hB:B<=b
  blk:w.heap[b]?=some (.cells cs T (0,0))
  size:o+1<cs.size
  ptr:cs[o]?=some (.pointer none)∨cs[o]?=some (.pointer (some ⟨b,o,none⟩))
  buf:∃ v,cs[o+1]?=some v/\w.ownsRow B 5 1 v bs.length (Lib.byteCells bs)
  ne:T≠5
  lies:liesAt Tryz.prog Tryz.prog.depth T (cs.size / Tryz.prog.cellsOf T) o 91 1=true
def Beside (o:Nat) (cs cs':Array Value):Prop:=cs'.size=cs.size/\∀ j,j≠o->j≠o+1->cs'[j]?=cs[j]?
theorem Beside.refl (o:Nat) (cs:Array Value):Beside o cs cs:=⟨rfl,fun _ _ _=>rfl⟩
theorem Beside.trans {o:Nat} {a b c:Array Value} (h:Beside o a b) (k:Beside o b c):Beside o a c:=
  ⟨k.1.trans h.1,fun j h1 h2=>(k.2 j h1 h2).trans (h.2 j h1 h2)⟩
theorem Beside.set0 (o:Nat) (cs:Array Value) (v:Value):Beside o cs (cs.setIfInBounds o v):=
  ⟨by simp,fun j h1 _=>by rw [Array.getElem?_setIfInBounds_ne (by omega)]⟩
theorem Beside.set1 (o:Nat) (cs:Array Value) (v:Value):Beside o cs (cs.setIfInBounds (o+1) v):=
  ⟨by simp,fun j _ h2=>by rw [Array.getElem?_setIfInBounds_ne (by omega)]⟩
theorem Bl.lt {w:World} {B b o:Nat} {T:TypeId} {cs:Array Value} {bs:List UInt8} (h:Bl w B b o T cs bs):b<w.heap.size:=heap_lt h.blk
theorem Bl.stays {w w':World} {B b o:Nat} {T:TypeId} {cs:Array Value} {bs:List UInt8} (h:Bl w B b o T cs bs) (hb:Below w.heap.size w w'):Bl w' B b o T cs bs:=by
  obtain ⟨v,hv,ho⟩:=h.buf;refine ⟨h.hB,(hb.block b h.lt).trans h.blk,h.size,h.ptr,⟨v,hv,?_⟩,h.ne,h.lies⟩;exact ho.kept (row:=none) ⟨hb.os,hb.tape,hb.output,hb.size,fun k hk _=>hb.block k hk⟩ (by cases v.ownBlock <;> simp)
def Wrote (w:World) (B b o:Nat) (T:TypeId) (cs:Array Value) (bs:List UInt8) (w':World):Prop:=
  ∃ cs',Bl w' B b o T cs' bs/\cs'[o]?=some (.pointer (some ⟨b,o,none⟩))/\Beside o cs cs'/\Keeps B b w w'
theorem copyCheck_any (B b o:Nat) (T:TypeId) (cs:Array Value) (bs:List UInt8) (w:World) (h:Bl w B b o T cs bs):Calls Tryz.prog 228 #[.pointer (some ⟨b,o,none⟩)] w fun e w'=>e=.returned (.tuple #[])/\Wrote w B b o T cs bs w':=by
  obtain ⟨j,hj,hjs⟩:=Option.map_eq_some_iff.1 (show (Tryz.prog.info? 91).map (fun i=>i.size)=some 2 by kernel_rfl);have HJ:=Hid.out (p:=Hid _) hj;clear hj;have HJS:=Hid.out (p:=Hid _) hjs;clear hjs;have c0:=cell_of h.blk o;have sh:=shape_of h.blk;have fz:=frozen_of h.blk o;have H:Hid (Bl w B b o T cs bs):=h;have hsz:=h.size;have hlies:Hid _:=h.lies;rcases h.ptr with hp | hp
  · rw [hp] at c0;clear h hp;go_enter Tryz.func228,Tryz.ntmps228
    go_wp2
    rw [Lib.run_to_unsafe w ⟨b,o,none⟩ (by kernel_rfl) (by kernel_rfl) HJ (by rw [HJS];decide) sh (by simp only;omega)];simp only [Result.andThen]
    rw [Oper.upon_value]
    go_wp2
    rw [run_callFunc_extern Tryz.func270 (by kernel_rfl) (by kernel_rfl) (by kernel_rfl) (e:=Extern.AbiNoEscape.same) (by kernel_rfl)];rw [Lib.run_noEscape];simp only [Result.andThen]
    rw [Oper.upon_value]
    go_wp2
    rw [Lib.run_from_unsafe w ⟨b,o,none⟩ (by kernel_rfl) (by kernel_rfl) HJ sh hlies.out];simp only [Result.andThen]
    rw [Oper.upon_value]
    go_wp2
    go_end0
    have h:=H.out;have hset:(cs.setIfInBounds o (.pointer (some ⟨b,o,none⟩)))[o]?=some (.pointer (some ⟨b,o,none⟩)):=by
      rw [Array.getElem?_setIfInBounds_self_of_lt (by omega)]
    obtain ⟨v,hv,ho⟩:=h.buf;have hne:=Lib.ownBlock_ne ho h.blk h.ne;refine ⟨rfl,_,⟨h.hB,heap_set_same h.blk _,by simpa using h.size,.inr hset,⟨v,?_,?_⟩,h.ne,by simpa using h.lies⟩,hset,Beside.set0 _ _ _,(Keeps.refl B b w).setCell (p:=⟨b,o,none⟩) rfl h.hB _⟩
    · rw [Array.getElem?_setIfInBounds_ne (by omega)];exact hv
    · exact ho.kept (row:=some b) ⟨rfl,rfl,rfl,by simp [World.setCell],fun k _ hk=>Below.heap_setCell _ _ _ _ (fun e=>hk (by simp [e]))⟩ (Or.inr hne)
  · rw [hp] at c0;have HP:=Hid.out (p:=Hid _) hp;clear h hp;go_enter Tryz.func228,Tryz.ntmps228
    go_wp2
    rw [Lib.run_neq_ptr_same w _ (by kernel_rfl) HJ]
    go_wp2
    go_end0
    exact ⟨rfl,cs,H.out,HP,Beside.refl _ _,Keeps.refl _ _ _⟩
theorem infoByte:(Tryz.prog.info? 5).map (fun i=>(i.zero,i.size,i.bytes))=some (some (.int .u8 0),1,1):=by kernel_rfl
theorem wrote_of {w w1 w2:World} {B b o:Nat} {T:TypeId} {cs cs1:Array Value} {bs bs':List UInt8} {v':Value} (h1:Bl w1 B b o T cs1 bs) (hp:cs1[o]?=some (.pointer (some ⟨b,o,none⟩))) (hbe:Beside o cs cs1)
    (hk:Keeps B b w w2) (hb2:w2.heap[b]?=some (.cells cs1 T (0,0))) (hown:w2.ownsRow B 5 1 v' bs'.length (Lib.byteCells bs')) :
    Wrote w B b o T cs bs' (w2.setCell ⟨b,o+1,none⟩ v'):=by
  have hsz:=h1.size;have hne:=Lib.ownBlock_ne hown hb2 h1.ne;refine ⟨cs1.setIfInBounds (o+1) v',⟨h1.hB,heap_set_same hb2 _,by simpa using h1.size,.inr ?_,⟨v',?_,?_⟩,h1.ne,by simpa using h1.lies⟩,?_,hbe.trans (Beside.set1 _ _ _),hk.setCell (p:=⟨b,o+1,none⟩) rfl h1.hB _⟩
  · rw [Array.getElem?_setIfInBounds_ne (by omega)];exact hp
  · rw [Array.getElem?_setIfInBounds_self_of_lt (by omega)]
  · exact hown.kept (row:=some b) ⟨rfl,rfl,rfl,by simp [World.setCell],fun k _ hk=>Below.heap_setCell _ _ _ _ (fun e=>hk (by simp [e]))⟩ (Or.inr hne)
  · rw [Array.getElem?_setIfInBounds_ne (by omega)];exact hp
theorem own_row {w:World} {B:Nat} {v:Value} {n:Nat} {xs:List Value} (h:w.ownsRow B 5 1 v n xs) (k:Nat) (hk:v.ownBlock=some k):∃ c fr,w.heap[k]?=some (.cells c 5 fr):=by
  rcases h.2 with ⟨rfl,_⟩ | ⟨g,cap,cur,rfl,_,hg,_⟩
  · simp [Value.ownBlock] at hk
  · simp only [Value.ownBlock,Option.some.injEq] at hk
    subst hk;exact ⟨_,_,hg⟩
theorem writeByte_any (B b o:Nat) (T:TypeId) (cs:Array Value) (bs:List UInt8) (c:UInt8) (w:World) (h:Bl w B b o T cs bs) (hlen:bs.length+1<=140737488355328) (hBw:B<=w.heap.size):Calls Tryz.prog 245 #[.pointer (some ⟨b,o,none⟩),.int .u8 c.toNat] w fun e w'=>e=.returned .nilIface/\Wrote w B b o T cs (bs++[c]) w':=by
  obtain ⟨i0,hi,hz0,hz1,hz2⟩:=info_parts infoByte;have HI:=Hid.out (p:=Hid _) hi;clear hi;go_enter Tryz.func245,Tryz.ntmps245
  go_wp2_with fail
  refine (copyCheck_any B b o T cs bs w h).mono ?_;rintro e w1 ⟨rfl,cs1,h1,hp1,hbe,hk1⟩;have hsz:o+1<cs1.size:=h1.size;obtain ⟨v,hv,hown⟩:=h1.buf;have hne:=Lib.ownBlock_ne hown h1.blk h1.ne;have c1:w1.cell? ⟨b,o+1,none⟩=some v:=by rw [cell_of h1.blk];exact hv
  have hb1:=hk1.below.size;have HK:=Hid.out (p:=Hid _) hk1;clear hk1;have H1:=Hid.out (p:=Hid _) h1;clear h1;have HP:=Hid.out (p:=Hid _) hp1;clear hp1;have HB:=Hid.out (p:=Hid _) hbe;clear hbe;have HN:=Hid.out (p:=Hid _) hne;clear hne hv;go_wp2_with (at_builtin;refine wpList_append_own _ rfl _ _ 89 rfl B 5 i0 (.int .u8 0) 1 1 Tryz.underlying89 HI hz0 hz1 hz2 rfl (by decide) _ _ _ rfl (hown.alloc _) ⟨w1.heap.size,0,none⟩ 1 1 [.int .u8 c.toNat] rfl rfl ?c1 ?c2 ?c3 ?c4 ?c5 ?_)
  case c1=>
    intro j u hj
    match j,hj with
    | 0,hj=>simp at hj;subst hj;simp [Addr.add]
  case c2=>intro u hu;simp at hu;subst hu;rfl
  case c3=>unfold maxLen;omega
  case c4=>omega
  case c5=>simp;omega
  intro v' w2 hown' hgrow _
  have hlt:b<w1.heap.size:=H1.out.lt;have hb2:w2.heap[b]?=some (.cells cs1 T (0,0)):=by
    rw [hgrow.block b (by simp;omega) (fun e=>HN.out e.symm),Lib.alloc_old w1 _ b hlt];exact H1.out.blk
  have d1:w2.cell? ⟨b,o+1,none⟩=some v:=by rw [cell_of hb2,<-cell_of H1.out.blk];exact c1
  have f1:w2.frozen? ⟨b,o+1,none⟩=false:=frozen_of hb2 _;have hkk:Hid (Keeps B b w w2):=(HK.out.alloc (by omega) _).grown hgrow (by simp;omega) (fun k hk=>(hown.lt k hk).1) (fun k hk=>by
    obtain ⟨c,fr,hc⟩:=own_row hown k hk;exact ⟨c,fr,heap_alloc_old hc⟩)
  have HB2:=Hid.out (p:=Hid _) hb2;clear hb2;have hown2:Hid (w2.ownsRow B 5 1 v' (bs++[c]).length (Lib.byteCells (bs++[c]))):=by simpa [Hid,Lib.byteCells] using hown'
  obtain ⟨g,cap,rfl⟩:∃ g cap,v'=.slice (some ⟨g,0,none⟩) (bs.length+1) cap:=by
    rcases hown'.2 with ⟨_,h0⟩ | ⟨g,cap,cur,hv,_⟩
    · omega
    · exact ⟨g,cap,hv⟩
  clear hown' hgrow hown c1;go_wp2_with fail
  go_ret
  exact ⟨rfl,wrote_of H1.out HP.out HB.out hkk.out HB2.out hown2.out⟩
theorem writeString_any (B b o:Nat) (T:TypeId) (cs:Array Value) (bs:List UInt8) (s:ByteArray) (w:World) (h:Bl w B b o T cs bs) (hlen:bs.length+s.size<=140737488355328) (hBw:B<=w.heap.size):Calls Tryz.prog 186 #[.pointer (some ⟨b,o,none⟩),.string s] w fun e w'=>e=.returned (.tuple #[.int .i64 s.size,.nilIface])/\Wrote w B b o T cs (bs++s.data.toList) w':=by
  obtain ⟨i0,hi,hz0,hz1,hz2⟩:=info_parts infoByte;have HI:=Hid.out (p:=Hid _) hi;clear hi;go_enter Tryz.func186,Tryz.ntmps186
  go_wp2_with fail
  refine (copyCheck_any B b o T cs bs w h).mono ?_;rintro e w1 ⟨rfl,cs1,h1,hp1,hbe,hk1⟩;have hsz:o+1<cs1.size:=h1.size;obtain ⟨v,hv,hown⟩:=h1.buf;have hne:=Lib.ownBlock_ne hown h1.blk h1.ne;have c1:w1.cell? ⟨b,o+1,none⟩=some v:=by rw [cell_of h1.blk];exact hv
  have hb1:=hk1.below.size;have HK:=Hid.out (p:=Hid _) hk1;clear hk1;have H1:=Hid.out (p:=Hid _) h1;clear h1;have HP:=Hid.out (p:=Hid _) hp1;clear hp1;have HB:=Hid.out (p:=Hid _) hbe;clear hbe;have HN:=Hid.out (p:=Hid _) hne;clear hne hv;go_wp2_with (at_builtin;refine Lib.wpList_append_own_string _ rfl _ _ 89 9 rfl B 5 i0 Tryz.underlying89 Tryz.underlying9 HI hz0 hz1 hz2 _ _ _ rfl hown s rfl ?c3 ?c4 ?c5 ?_)
  case c3=>unfold maxLen;omega
  case c4=>omega
  case c5=>omega
  intro v' w2 hown' hgrow _
  have hlt:b<w1.heap.size:=H1.out.lt;have hb2:w2.heap[b]?=some (.cells cs1 T (0,0)):=by
    rw [hgrow.block b hlt (fun e=>HN.out e.symm)];exact H1.out.blk
  have d1:w2.cell? ⟨b,o+1,none⟩=some v:=by rw [cell_of hb2,<-cell_of H1.out.blk];exact c1
  have f1:w2.frozen? ⟨b,o+1,none⟩=false:=frozen_of hb2 _;have hkk:Hid (Keeps B b w w2):=HK.out.grown hgrow (by omega) (fun k hk=>(hown.lt k hk).1) (fun k hk=>own_row hown k hk);have HB2:=Hid.out (p:=Hid _) hb2;clear hb2;have hown2:Hid (w2.ownsRow B 5 1 v' (bs++s.data.toList).length (Lib.byteCells (bs++s.data.toList))):=by
    have e:Lib.byteCells (bs++s.data.toList)=Lib.byteCells bs++Lib.strCells s:=by simp [Lib.byteCells,Lib.strCells]
    rw [Hid,e]
    simpa using hown'
  obtain ⟨ao,n',cap,rfl⟩:∃ ao n' cap,v'=.slice ao n' cap:=by
    rcases hown'.2 with ⟨hv,_⟩ | ⟨g,cap,cur,hv,_⟩
    · exact ⟨_,_,_,hv⟩
    · exact ⟨_,_,_,hv⟩
  clear hown' hgrow hown c1;go_wp2_with fail
  go_ret2
  exact ⟨rfl,wrote_of H1.out HP.out HB.out hkk.out HB2.out hown2.out⟩
theorem string_any (B b o:Nat) (T:TypeId) (cs:Array Value) (l:List UInt8) (w:World) (h:Bl w B b o T cs l) (hBw:B<=w.heap.size):Calls Tryz.prog 188 #[.pointer (some ⟨b,o,none⟩)] w fun e w'=>e=.returned (.string ⟨l.toArray⟩)/\Keeps B b w w'/\w'.heap[b]?=some (.cells cs T (0,0)):=by
  obtain ⟨v,hv,hown⟩:=h.buf;have hlt:=h.lt;have hne:=Lib.ownBlock_ne hown h.blk h.ne;have cB:w.cell? ⟨b,o+1,none⟩=some v:=by rw [cell_of h.blk];exact hv
  have H1:=Hid.out (p:=Hid _) h.blk;have cellsByte:Tryz.prog.cellsOf 5=1:=by kernel_rfl
  by_cases hl:l=[]
  · subst hl;have hUS:∀ W q,(Builtin.unsafeString_ #[216,3] 9 #[.pointer q,.int .i64 0]).run Tryz.prog W=.ok (.string .empty) W:=fun W q=>Lib.run_unsafeString_none W _ _ _ q;rcases hown.2 with ⟨rfl,_⟩ | ⟨g,cap,cur,rfl,hbg,hg,_,_,_,_⟩
    · have c1:w.drew.cell? ⟨b,o+1,none⟩=some (.slice none 0 0):=cB;have hSD:(Builtin.unsafeSliceData_ #[89] 216 #[.slice none 0 0]).run Tryz.prog w.drew=.ok (.pointer none) w.drew:=rfl;clear h hv hown hne cB cellsByte;go_enter Tryz.func188,Tryz.ntmps188
      go_wp2
      go_region
      all_goals (go_wp2;go_ret;exact ⟨rfl,(Keeps.refl _ _ _).drewN 1,H1.out⟩)
    · by_cases hc0:cap=0
      · subst hc0;have c1:w.drew.cell? ⟨b,o+1,none⟩=some (.slice (some ⟨g,0,none⟩) 0 0):=cB;have hSD:(Builtin.unsafeSliceData_ #[89] 216 #[.slice (some ⟨g,0,none⟩) 0 0]).run Tryz.prog w.drew=.ok (.pointer (some ⟨w.drew.heap.size,0,none⟩)) (w.drew.alloc (.view ⟨g,0,none⟩ 5)):=
          Lib.run_unsafeSliceData_zero w.drew _ _ 5 (by kernel_rfl) ⟨g,0,none⟩ 0 (5,cur.size) (by have hg':w.drew.heap[g]?=some (.cells cur 5 (0,0)):=hg;simp [World.shape?,hg'])
        have c2:(w.drew.alloc (.view ⟨g,0,none⟩ 5)).cell? ⟨b,o+1,none⟩=some (.slice (some ⟨g,0,none⟩) 0 0):=by
          have:(w.drew.alloc (.view ⟨g,0,none⟩ 5)).heap[b]?=_:=(Lib.alloc_old w.drew _ b hlt).trans H1.out;rw [cell_of this];exact hv
        have c3:(w.alloc (.view ⟨g,0,none⟩ 5)).drew.cell? ⟨b,o+1,none⟩=some (.slice (some ⟨g,0,none⟩) 0 0):=c2;have c0:w.cell? ⟨b,o+1,none⟩=some (.slice (some ⟨g,0,none⟩) 0 0):=c1;clear h hv hown hne cB cellsByte;go_enter Tryz.func188,Tryz.ntmps188
        go_wp2
        go_region
        all_goals (go_wp2;go_ret;exact ⟨rfl,((Keeps.refl B b w).alloc hBw _).drewN 1,heap_alloc_old H1.out⟩)
      · have c1:w.drew.cell? ⟨b,o+1,none⟩=some (.slice (some ⟨g,0,none⟩) 0 cap):=cB;have hSD:(Builtin.unsafeSliceData_ #[89] 216 #[.slice (some ⟨g,0,none⟩) 0 cap]).run Tryz.prog w.drew=.ok (.pointer (some ⟨g,0,none⟩)) w.drew:=
          Lib.run_unsafeSliceData_row _ _ _ _ _ _ hc0
        clear h hv hown hne cB cellsByte hc0;go_enter Tryz.func188,Tryz.ntmps188
        go_wp2
        go_region
        all_goals (go_wp2;go_ret;exact ⟨rfl,(Keeps.refl _ _ _).drewN 1,H1.out⟩)
  · have hl0:l.length≠0:=by simpa using hl
    obtain ⟨g,cap,cur,rfl,hbg,hg,hnc,hcm,hcs,htake⟩:∃ g cap cur,v=.slice (some ⟨g,0,none⟩) l.length cap/\B<=g/\w.heap[g]?=some (.cells cur 5 (0,0))/\l.length<=cap/\cap<=maxLen/\cur.size=cap*1/\cur.toList.take (l.length*1)=Lib.byteCells l:=by
      rcases hown.2 with ⟨_,hz⟩ | ⟨g,cap,cur,hv,r⟩
      · exact absurd hz hl0
      · exact ⟨g,cap,cur,hv,r⟩
    have c1:w.drew.cell? ⟨b,o+1,none⟩=some (.slice (some ⟨g,0,none⟩) l.length cap):=cB;have hSD:(Builtin.unsafeSliceData_ #[89] 216 #[.slice (some ⟨g,0,none⟩) l.length cap]).run Tryz.prog w.drew=.ok (.pointer (some ⟨g,0,none⟩)) w.drew:=
      Lib.run_unsafeSliceData_row _ _ _ _ _ _ (by omega)
    have hUS:(Builtin.unsafeString_ #[216,3] 9 #[.pointer (some ⟨g,0,none⟩),.int .i64 l.length]).run Tryz.prog w.drew=.ok (.string ⟨l.toArray⟩) (w.drew.freeze ⟨g,0,none⟩ l.length):=by
      refine Lib.run_unsafeString_row w.drew 216 3 9 5 (by kernel_rfl) cellsByte g cur.size (by have hg':w.drew.heap[g]?=some (.cells cur 5 (0,0)):=hg;simp [World.shape?,hg']) l hl (by omega) (by unfold maxLen at hcm;omega) ?_;intro j x hx
      have:=hown.cells (g:=g) rfl j (.int .u8 x.toNat) (by simp [Lib.byteCells,hx]);exact this
    have hgb:g≠b:=fun e=>by simp [Value.ownBlock,e] at hne
    have hk:Hid (Keeps B b w (w.drew.freeze ⟨g,0,none⟩ l.length)/\(w.drew.freeze ⟨g,0,none⟩ l.length).heap[b]?=some (.cells cs T (0,0))):=by
      have hfr:∀ k,k≠g->(w.drew.freeze ⟨g,0,none⟩ l.length).heap[k]?=w.heap[k]?:=by
        intro k hk
        unfold World.freeze;rw [if_neg hl0];show (w.heap.modify g _)[k]?=_;rw [Array.getElem?_modify,if_neg (by omega)]
      refine ⟨⟨Lib.below_freeze (Below.drew (Below.refl B w)) (p:=⟨g,0,none⟩) hbg _,fun k _ _ hn=>hfr k (fun e=>?_)⟩,(hfr b (fun e=>hgb e.symm)).trans H1.out⟩;subst e;exact hn _ _ hg
    clear h hv hown hne cB cellsByte hg htake;go_enter Tryz.func188,Tryz.ntmps188
    go_wp2
    go_region
    all_goals (go_wp2;go_ret;exact ⟨rfl,hk.out⟩)
end Go.Proofs.YtliekocamnklfaaGreatDoor
namespace Go.Proofs.YtliekocamnklfaaGreatDoor.Strs
open Go.RowKit
theorem isEmpty_size (a:ByteArray):a.toList.isEmpty=decide (a.size=0):=by
  rw [Lib.toList_data,Lib.size_eq];cases a.data.toList <;> simp
def zidx:Option Nat->Int
  | none=>-1
  | some i=>i
theorem zidx_succ (o:Option Nat):(if zidx o == -1 then (-1:Int) else zidx o+1)=zidx (o.map (·+1)):=by
  cases o with
  | none=>rfl
  | some i=>
    have:(((i:Nat):Int) == -1)=false:=by rw [beq_eq_false_iff_ne];omega
    show (if ((i:Nat):Int) == -1 then (-1:Int) else (i:Int)+1)=((i+1:Nat):Int);rw [this];simp
theorem indexByte_find (c:UInt8):∀ l:List UInt8,Lib.indexByte l c=zidx (l.findIdx? (· == c))
  | []=>rfl
  | b::l=>by
    rw [Lib.indexByte,indexByte_find c l,List.findIdx?_cons];cases h:(b == c)
    · simp only [Bool.false_eq_true,if_false];exact zidx_succ _
    · rfl
theorem indexAny_find (cs:List UInt8):∀ l:List UInt8,Lib.indexAny l cs=zidx (l.findIdx? (cs.contains ·))
  | []=>rfl
  | b::l=>by
    rw [Lib.indexAny,indexAny_find cs l,List.findIdx?_cons];cases h:(cs.contains b)
    · simp only [Bool.false_eq_true,if_false];exact zidx_succ _
    · rfl
theorem indexByte_any (s:ByteArray) (c:Nat) (w:World) (hc:c<256):Calls Tryz.prog 104 #[.string s,.int .u8 c] w fun e w'=>e=.returned (.int .i64 (zidx (s.data.toList.findIdx? (· == UInt8.ofNat c))))/\w=w':=by
  refine (Tryz.strings_IndexByte s c w).mono ?_;rintro e w' ⟨rfl,rfl⟩;refine ⟨?_,rfl⟩;rw [indexByte_find]
  rfl
theorem str_data (l:List UInt8):(⟨l.toArray⟩:ByteArray).data.toList=l:=by simp
theorem trimLeft_any (s:ByteArray) (c:UInt8) (hc:c.toNat<128) (w:World):Calls Tryz.prog 263 #[.string s,.string ⟨#[c]⟩] w fun e w'=>∃ d:ByteArray,e=.returned (.string d)/\d.data.toList=s.data.toList.dropWhile (· == c)/\w=w':=by
  refine (Tryz.strings_TrimLeft_one s c hc w).mono ?_;rintro e w' ⟨rfl,rfl⟩;exact ⟨_,rfl,str_data _,rfl⟩
theorem trimRight_any (s:ByteArray) (c:UInt8) (hc:c.toNat<128) (w:World) (hs:s.size<=9223372036854775807):Calls Tryz.prog 109 #[.string s,.string ⟨#[c]⟩] w fun e w'=>∃ d:ByteArray,e=.returned (.string d)/\d.data.toList=(s.data.toList.reverse.dropWhile (· == c)).reverse/\w=w':=by
  refine (Tryz.strings_TrimRight_one s c hc w hs).mono ?_;rintro e w' ⟨rfl,rfl⟩;exact ⟨_,rfl,str_data _,rfl⟩
theorem trimRightS_any (s cs:ByteArray) (w:World) (hs:s.size<=9223372036854775807) (hcs:cs.size<4294967281) (ha:cs.data.toList.all (fun b=>decide (b.toNat<128))=true):Calls Tryz.prog 109 #[.string s,.string cs] w fun e w'=>∃ d:ByteArray,e=.returned (.string d)/\d.data.toList=(s.data.toList.reverse.dropWhile (cs.data.toList.contains ·)).reverse/\Below w.heap.size w w':=by
  refine (Any.strings_TrimRight_laid Tryz.lays162 (by kernel_rfl) s cs w hs hcs (ascii_of_all ha)).mono ?_;rintro e w' ⟨rfl,hb⟩;exact ⟨_,rfl,str_data _,hb⟩
theorem indexAny_any (s cs:ByteArray) (w:World) (hs:s.size<4294967281) (hcs:cs.size<4294967281) (hsa:∀ c∈s.data.toList,c.toNat<128) (ha:cs.data.toList.all (fun b=>decide (b.toNat<128))=true):Calls Tryz.prog 261 #[.string s,.string cs] w fun e w'=>e=.returned (.int .i64 (zidx (s.data.toList.findIdx? (cs.data.toList.contains ·))))/\Below w.heap.size w w':=by
  refine (Tryz.strings_IndexAny_laid s cs w hs hcs (fun j b hb=>hsa b (List.mem_of_getElem? hb)) (ascii_of_all ha)).mono ?_;rintro e w' ⟨rfl,hb⟩;exact ⟨by rw [indexAny_find],hb⟩
theorem cut1_any (s:ByteArray) (c:UInt8) (w:World) :
    Calls Tryz.prog 260 #[.string s,.string ⟨#[c]⟩] w fun e w'=>∃ (d:ByteArray) (g:Bool),e=.returned (.tuple #[.string d,.bool g]) ∧
      g=(s.data.toList.head? == some c)/\d.data.toList=(if s.data.toList.head? == some c then s.data.toList.drop 1 else s.data.toList)/\w=w':=by
  refine (Tryz.strings_CutPrefix s ⟨#[c]⟩ w).mono ?_;rintro e w' ⟨rfl,rfl⟩;have h:Lib.hasPrefix s.data.toList (⟨#[c]⟩:ByteArray).data.toList=(s.data.toList.head? == some c):=by
    show List.isPrefixOf [c] s.data.toList=_
    cases s.data.toList with
    | nil=>rfl
    | cons b l=>
      show (c == b && true)=(some b == some c);rw [Bool.and_true];show _=(b == c);exact BEq.comm
  refine ⟨_,_,rfl,h,?_,rfl⟩;rw [str_data,Lib.trimPrefix,h]
  rfl
theorem hasPrefix_any (s p:ByteArray) (w:World):Calls Tryz.prog 184 #[.string s,.string p] w fun e w'=>e=.returned (.bool (p.data.toList.isPrefixOf s.data.toList))/\w=w':=by
  refine (Tryz.strings_HasPrefix s p w).mono ?_;rintro e w' ⟨rfl,rfl⟩;exact ⟨rfl,rfl⟩
theorem clone_any (s:ByteArray) (w:World) (hs:s.size<=281474976710656):Calls Tryz.prog 264 #[.string s] w fun e w'=>e=.returned (.string s)/\Below w.heap.size w w':=by
  go_enter Tryz.func264,Tryz.ntmps264
  go_wp2_with fail
  refine (Tryz.stringslite_Clone s w hs).mono ?_;rintro e w' ⟨rfl,hb⟩;go_wp2_with fail
  go_ret
  exact ⟨rfl,hb⟩
end Go.Proofs.YtliekocamnklfaaGreatDoor.Strs
