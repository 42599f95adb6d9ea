/- one.object, one.list, one.text, one.number. -/
import Derived.Test.YtliekocamnklfaaGreatDoorKOnH
import Derived.Test.YtliekocamnklfaaGreatDoorKOkP
set_option linter.unusedVariables false
set_option linter.unusedSimpArgs false
set_option maxRecDepth 100000
set_option maxHeartbeats 8000000
namespace Go.Proofs.YtliekocamnklfaaGreatDoor.Jdec
open Go.RowKit Strs
variable {w0:World} {bw:Nat} {blk:Obj} {key:ByteArray} {x:Raw} {TA TB:Option Nat} {vk:Value} {lk:List ByteArray} {vv:Value} {lv:List Raw} {w:World}
theorem Mid.grow {w':World} (h:Mid w0 bw blk key x TA TB vk lk vv lv w) (hb:Below w.heap.size w w'):Mid w0 bw blk key x TA TB vk lk vv lv w':=
  have far:∀ v:Value,v.ownBlock=none∨v.ownBlock≠none:=fun v=>by by_cases h:v.ownBlock=none <;> simp [h]
  ⟨h.keys.kept (gb_below hb none) (far _),h.kids.kept (gb_below hb none) (far _),(hb.block _ h.lt).trans h.own,h.below.trans (hb.mono (Nat.le_of_lt h.lt)),fun p hp=>(hb.block _ (heap_lt (h.ta p hp))).trans (h.ta p hp),fun p hp=>⟨(hb.block _ (heap_lt (h.tb p hp).1)).trans (h.tb p hp).1,(h.tb p hp).2⟩⟩
theorem Mid.put {j:Nat} {u:Value} {blk':Obj} (h:Mid w0 bw blk key x none none vk lk vv lv w) (hb:(w.setCell ⟨bw,j,none⟩ u).heap[bw]?=some blk'):Mid w0 bw blk' key x none none vk lk vv lv (w.setCell ⟨bw,j,none⟩ u):=by
  have far:∀ {v:Value} {e m n xs},w.ownsRow (bw+1) e m v n xs->v.ownBlock=none∨v.ownBlock≠some bw:=fun {v e m n xs} hr=>by
    by_cases hn:v.ownBlock=some bw
    · have:=(hr.lt bw hn).1;omega
    · exact .inr hn
  exact ⟨h.keys.kept (gb_set _ _ _ _) (far h.keys),h.kids.kept (gb_set _ _ _ _) (far h.kids),hb,h.below.grown (gb_set _ _ _ _) (Nat.le_of_lt h.lt) (fun k hk=>by injection hk with hk;omega),fun p hp=>(by cases hp),fun p hp=>(by cases hp)⟩
theorem Mid.appK {p:Nat} {c0:Array Value} (h:Mid w0 bw blk key x (some p) TB vk lk vv lv w) (hb:blk=.cells c0 29 (0,0)) (hl:lk.length<=3000):∃ ka kc w',(Builtin.append_ #[26,26] 26 #[vk,.slice (some ⟨p,0,none⟩) 1 1]).run Tryz.prog w=.ok (.slice ka (lk++[key]).length kc) w'/\Mid w0 bw blk key x none TB (.slice ka (lk++[key]).length kc) (lk++[key]) vv lv w'/\(∀ (q:Nat) (c:Array Value) (e:TypeId) (r:Nat × Nat),w.heap[q]?=some (.cells c e r)->9≠e->w'.heap[q]?=some (.cells c e r)):=by
  obtain ⟨i0,hi,hz0,hz1,hz2⟩:=info_parts infoStr;have hp:=h.ta p rfl
  obtain ⟨v',w',hr,ho,hg,_⟩:=run_append_own (P:=Tryz.prog) w (bw+1) 26 26 9 i0 (.string ⟨#[]⟩) 1 16 Tryz.underlying26 hi hz0 hz1 hz2 rfl (by decide) vk lk.length (lk.map Value.string) h.keys ⟨p,0,none⟩ 1 1 [.string key] rfl (fun j u hu=>by
      match j,hu with
      | 0,hu=>injection hu with hu;subst hu;simp [Addr.add,World.cell?,hp]) (fun u hu=>by rw [List.mem_singleton.1 hu];rfl) (by unfold maxLen;omega) (by omega) h.lt
  obtain ⟨ka,kc,w2,hr2,hm⟩:=h.appA hb hl;rw [hr] at hr2;injection hr2 with e1 e2
  subst e1 e2;exact ⟨ka,kc,w',hr,hm,fun q c e r hq hne=>(hg.block q (heap_lt hq) (row_stray h.keys hq hne)).trans hq⟩
theorem Mid.isC {w0 wr:World} {bw:Nat} {ka va:Option Addr} {kc vc:Nat} {lk:List ByteArray} {lv:List Raw} {blk:Obj} {key:ByteArray} {x:Raw} {C:Nat->Prop} (h:Mid w0 bw blk key x none none (.slice ka lk.length kc) lk (.slice va lv.length vc) lv wr) (hC:∀ b,bw<b->C b) (ts:List JV) (hl:lv.length=ts.length) (hv:∀ j (h:j<ts.length),IsV wr C (lv.getD j Raw.zero) ts[j]):IsV wr C (Raw.mk 6 false false ⟨#[]⟩ 0 ⟨#[]⟩ ka lk.length kc va lv.length vc) (.mk 6 false false ⟨#[]⟩ 0 ⟨#[]⟩ lk ts):=by
  refine .mk (Raw.mk 6 false false ⟨#[]⟩ 0 ⟨#[]⟩ ka lk.length kc va lv.length vc) lk ts (fun j=>lv.getD j Raw.zero) rfl hl ?_ ?_ hv
  · rcases row_form h.keys with ⟨h0,_⟩ | ⟨g,rfl,hB,hg,_⟩
    · exact .inl (List.length_eq_zero_iff.1 h0)
    · refine .inr ⟨g,0,rfl,hC _ hB,hg,fun j hj=>?_⟩;rw [Nat.zero_add,h.keys.cellAt j (by simpa using hj)];simp [hj]
  · rcases row_form h.kids with ⟨h0,_⟩ | ⟨g,rfl,hB,hg,_⟩
    · exact .inl (List.length_eq_zero_iff.1 (by rw [<-hl];exact h0))
    · refine .inr ⟨g,0,rfl,hC _ hB,hg,fun j hj p u hu=>?_⟩;have hj':j<lv.length:=by omega
      have e1:lv.getD j Raw.zero=lv[j]:=by simp [List.getD,hj']
      rw [e1] at hu;have hp:p<8:=(List.getElem?_eq_some_iff.1 hu).1;rw [Nat.zero_add,h.kids.cellAt (j*8+p) (by omega)];exact flat_cells_at lv j hj' p u hu
end Go.Proofs.YtliekocamnklfaaGreatDoor.Jdec
namespace Go.Proofs.YtliekocamnklfaaGreatDoor.One
open Go.RowKit Strs Jdec Save Go.Proofs.YtliekocamnklfaaGreatDoor.Addr
theorem box8 {w:World} {b:Nat} {a:Raw} (V:Hid (w.heap[b]?=some (.cells a.arr 29 (0,0)))) (c:Raw):∃ w1,((((((((w.setCell ⟨b,0,none⟩ (.int .i64 c.kind)).setCell ⟨b,1,none⟩ (.bool c.is)).setCell ⟨b,2,none⟩ (.bool c.neg)).setCell ⟨b,3,none⟩ (.string c.dig)).setCell ⟨b,4,none⟩ (.int .i64 c.exp)).setCell ⟨b,5,none⟩ (.string c.str)).setCell ⟨b,6,none⟩ (.slice c.ka c.kn c.kc)).setCell ⟨b,7,none⟩ (.slice c.va c.vn c.vc))=w1/\Hid (w1.heap[b]?=some (.cells c.arr 29 (0,0)))/\Hid (∀ k o,k≠b->w.heap[k]?=some o->w1.heap[k]?=some o)/\Hid (∀ w0:World,w0.heap.size<=b->Below w0.heap.size w0 w->Below w0.heap.size w0 w1):=
  ⟨_,rfl,set8 V.out c,fun k o hk ho=>((gb8 _ _ _ _ _ _ _ _ _ _).block _ (heap_lt ho) (fun e=>by injection e with e;exact hk e)).trans ho,fun w0 hb h=>below8 h hb _ _ _ _ _ _ _ _⟩
def ValP (t:JV) (A:Nat->Prop) (w:World) (e:Ending) (w':World):Prop:=∃ rr:Raw,e=.returned rr.val/\IsV w' A rr t/\Below w.heap.size w w'
theorem ValP.to {t:JV} {A:Nat->Prop} {w w':World} {e:Ending} (h:ValP t A w e w'):∃ rr:Raw,e=.returned rr.val/\Hid (IsV w' A rr t)/\Hid (Below w.heap.size w w'):=h
theorem otext_any (s:ByteArray) (w:World):Calls Tryz.prog 46 #[.string s] w fun e w'=>e=.returned (strR s).val/\Below w.heap.size w w':=by
  obtain ⟨w2,hw2,V2,B2⟩:=own8 w Raw.zero
  dsimp only [Raw.zero] at hw2
  obtain ⟨⟨r0,r1,r2,r3,r4,r5,r6,r7⟩,g0,g1,g2,g3,g4,g5,g6,g7⟩:=val_cells V2.out;go_enter Tryz.func46,Tryz.ntmps46
  go_wp2_with fail
  refine val_ret (a:=strR s) (b:=w.heap.size) rfl (set8 V2.out (strR s)) rfl ?_;exact ⟨rfl,below8 B2.out (Nat.le_refl _) _ _ _ _ _ _ _ _⟩
theorem olist_any (va:Option Addr) (vn vc:Nat) (w:World):Calls Tryz.prog 45 #[.slice va vn vc] w fun e w'=>e=.returned (lstR va vn vc).val/\Hid (Below w.heap.size w w'):=by
  obtain ⟨w2,hw2,V2,B2⟩:=own8 w Raw.zero
  dsimp only [Raw.zero] at hw2
  obtain ⟨⟨r0,r1,r2,r3,r4,r5,r6,r7⟩,g0,g1,g2,g3,g4,g5,g6,g7⟩:=val_cells V2.out;go_enter Tryz.func45,Tryz.ntmps45
  go_wp2_with fail
  refine val_ret (a:=lstR va vn vc) (b:=w.heap.size) rfl (set8 V2.out (lstR va vn vc)) rfl ?_;exact ⟨rfl,below8 B2.out (Nat.le_refl _) _ _ _ _ _ _ _ _⟩
def numR (n:Nat):Raw:=⟨3,false,false,⟨(ofN n).1.toArray⟩,((ofN n).2:Nat),⟨#[]⟩,none,0,0,none,0,0⟩
theorem numR_is (w:World) (A:Nat->Prop) (n:Nat):IsV w A (numR n) (numV n):=.mk (numR n) [] [] (fun _=>Raw.zero) rfl rfl (.inl rfl) (.inl rfl) (fun i h=>absurd h (Nat.not_lt_zero _))
theorem onumber_any (n:Nat) (hn:n<18446744073709551616) (w:World) (T:Jdec.Pow10 w):Calls Tryz.prog 48 #[.int .u64 n] w fun e w'=>e=.returned (One.numR n).val/\Below w.heap.size w w':=by
  obtain ⟨w2,hw2,V2,B2⟩:=own8 w Raw.zero;have HO:=Hid.out (p:=Hid _) (Save.of_any n hn w2 (T.stays B2.out)).out
  dsimp only [Raw.zero] at hw2
  go_enter Tryz.func48,Tryz.ntmps48
  go_wp2_with fail
  refine (Calls.mono HO.out ?_);rintro z w3 hz;obtain ⟨d,x,rfl,hd,B3⟩:=hz.to;have V3:=hst V2 B3;have B03:=bel B2 B3;clear hz hw2;obtain ⟨⟨r0,r1,r2,r3,r4,r5,r6,r7⟩,g0,g1,g2,g3,g4,g5,g6,g7⟩:=val_cells V3.out;go_wp2_with fail
  obtain ⟨h1,h2⟩:=hd.out;subst h1 h2;refine val_ret (a:=One.numR n) (b:=w.heap.size) rfl (set8 V3.out (One.numR n)) rfl ?_;exact ⟨rfl,below8 B03.out (Nat.le_refl _) _ _ _ _ _ _ _ _⟩
/-! ## one.object -/
abbrev Fd:=ByteArray × Raw × JV
def FdsAt (w:World) (fb:Nat) (F:List Fd):Prop:=∀ i (h:i<F.length),w.cell? ⟨fb,i*9,none⟩=some (.string F[i].1)/\CellsAt w fb (i*9+1) F[i].2.1
theorem fld_new (w:World) (k:ByteArray) (r:Raw):∃ w1,w.alloc (.cells #[.string k,.int .i64 r.kind,.bool r.is,.bool r.neg,.string r.dig,.int .i64 r.exp,.string r.str,.slice r.ka r.kn r.kc,.slice r.va r.vn r.vc] 60)=w1/\Hid (w1.heap[w.heap.size]?=some (.cells #[.string k,.int .i64 r.kind,.bool r.is,.bool r.neg,.string r.dig,.int .i64 r.exp,.string r.str,.slice r.ka r.kn r.kc,.slice r.va r.vn r.vc] 60 (0,0)))/\Hid (Below w.heap.size w w1):=
  ⟨_,rfl,heap_alloc_new _ _,(Below.refl _ _).alloc (Nat.le_refl _) _⟩
def ObR (w0:World) (bw:Nat) (lk:List ByteArray) (lv:List Raw) (wr:World):Prop:=
  ∃ ka kc va vc,Mid w0 bw (.cells (Raw.mk 6 false false ⟨#[]⟩ 0 ⟨#[]⟩ ka lk.length kc va lv.length vc).arr 29 (0,0)) ⟨#[]⟩ Raw.zero none none (.slice ka lk.length kc) lk (.slice va lv.length vc) lv wr
theorem object_any (F:List Fd) (fb fc:Nat) (A:Nat->Prop) (w:World) (hfb:F≠[]->fb<w.heap.size) (hF:FdsAt w fb F) (hI:∀ x∈F,IsV w A x.2.1 x.2.2) (hn:F.length<=10) (hA:∀ b,w.heap.size<=b->A b) (fa:Option Addr) (hfa:F≠[]->fa=some ⟨fb,0,none⟩):Calls Tryz.prog 44 #[.slice fa F.length fc] w (ValP (objectOf (F.map (·.1)) (F.map (·.2.2))) A w):=by
  obtain ⟨w2,hw2,V2,B2⟩:=own8 w Raw.zero;obtain ⟨wz,hwz,VZ,BZ⟩:=own8 w2 Raw.zero;obtain ⟨w3,hw3,V3,K3,D3⟩:=box8 VZ (Raw.mk 6 false false ⟨#[]⟩ 0 ⟨#[]⟩ none 0 0 none 0 0);have hs2:=B2.out.size;have hl2:=heap_lt V2.out;have V23:Hid (w3.heap[w.heap.size]?=some (.cells Raw.zero.arr 29 (0,0))):=K3.out _ _ (by omega) (hst V2 BZ).out;have B03:Hid (Below w.heap.size w w3):=D3.out w hs2 (bel B2 BZ).out;have HFD:=Hid.out (p:=Hid _) hF;have HFB:=Hid.out (p:=Hid _) hfb;have HFA:=Hid.out (p:=Hid _) hfa;have HL:Hid (∀ x∈F,IsV w (fun b=>A b/\b<w.heap.size) x.2.1 x.2.2):=fun x hx=>(hI x hx).turn (Turn.mono w fun b h hb=>⟨h,hb⟩);have HA:=Hid.out (p:=Hid _) hA;have HN:=Hid.out (p:=Hid _) hn;have HS:Hid (w.heap.size<w2.heap.size):=hl2;have O3:Hid (ObR w3 w2.heap.size [] [] w3):=⟨none,0,none,0,World.ownsRow_nil _ _ _ _,World.ownsRow_nil _ _ _ _,V3.out,Below.refl _ _,fun p hp=>(by cases hp),fun p hp=>(by cases hp)⟩;clear hF hI hA hfb hfa
  dsimp only [Raw.zero] at hw2 hwz
  dsimp only at hw3
  obtain ⟨⟨r0,r1,r2,r3,r4,r5,r6,r7⟩,g0,g1,g2,g3,g4,g5,g6,g7⟩:=val_cells VZ.out;go_enter Tryz.func44,Tryz.ntmps44
  go_wp2_with fail
  clear hw2 hw3 hwz r0 r1 r2 r3 r4 r5 r6 r7 g0 g1 g2 g3 g4 g5 g6 g7
  go_loopw [9] (fun p wr=>∃ i:Nat,p=.int .i64 i/\i<=F.length/\Hid (ObR w3 w2.heap.size ((F.take i).map (·.1)) ((F.take i).map (·.2.1)) wr)) (fun p _=>F.length-(intOf p).toNat)
  case atStart=>exact ⟨0,rfl,Nat.zero_le _,O3.out⟩
  case round=>
    obtain ⟨i,rfl,hi,hO⟩:=hrel;obtain ⟨ka,kc,va,vc,hM⟩:=hO.out;have B3r:=Hid.out (p:=Hid _) (B03.out.trans (hM.below.mono (by omega)));by_cases hlt:i<F.length
    · have hne:F≠[]:=fun e=>by rw [e] at hlt;simp at hlt
      obtain rfl:=HFA.out hne;have hfbl:=HFB.out hne;obtain ⟨c1,c2⟩:=HFD.out i hlt;have c1:=(World.cell?_of_block (B3r.out.block fb hfbl)).trans c1;have K1:CellsAt wr fb (i*9+1) F[i].2.1:=fun j u hu=>(World.cell?_of_block (B3r.out.block fb hfbl)).trans (c2 j u hu);have tk:F.take (i+1)=F.take i++[F[i]]:=by rw [List.take_add_one,List.getElem?_eq_getElem hlt];rfl
      have hlk:((F.take i).map (·.1)).length=i:=by rw [List.length_map,List.length_take];omega
      have hlv:((F.take i).map (·.2.1)).length=i:=by rw [List.length_map,List.length_take];omega
      have HTK:Hid ((F.take (i+1)).map (·.1)=(F.take i).map (·.1)++[F[i].1]/\(F.take (i+1)).map (·.2.1)=(F.take i).map (·.2.1)++[F[i].2.1]):=by rw [Hid,tk,List.map_append,List.map_append];exact ⟨rfl,rfl⟩
      generalize hlke:(F.take i).map (·.1)=lk at *;generalize hlve:(F.take i).map (·.2.1)=lv at *;obtain ⟨y,hy⟩:∃ y,F[i].1=y:=⟨_,rfl⟩;obtain ⟨z,hz⟩:∃ z,F[i].2.1=z:=⟨_,rfl⟩;rw [hy] at c1 HTK;rw [hz] at K1 HTK;rw [hlk,hlv] at hM;obtain ⟨w4,hw4,V4,B4⟩:=fld_new wr y z;have M4:=(hM.again y z).grow B4.out;obtain ⟨w5,hw5⟩:∃ w',w4.alloc (.cells #[.string y] 9)=w':=⟨_,rfl⟩;have M5:=M4.allocA;rw [hw5] at M5;obtain ⟨ka',kc',w6,hr6,M6,S6⟩:=M5.appK rfl (by omega);obtain ⟨w7,hw7⟩:∃ w',w6.setCell ⟨w2.heap.size,6,none⟩ (.slice ka' (i+1) kc')=w':=⟨_,rfl⟩;have hl1:(lk++[y]).length=i+1:=by simp [hlk]
      rw [hl1] at hr6 M6;have M7:=M6.put (set6 (ka':=ka') (kn':=i+1) (kc':=kc') M6.own);rw [hw7] at M7;obtain ⟨w8,hw8⟩:∃ w',w7.alloc (.cells #[.int .i64 z.kind,.bool z.is,.bool z.neg,.string z.dig,.int .i64 z.exp,.string z.str,.slice z.ka z.kn z.kc,.slice z.va z.vn z.vc] 29)=w':=⟨_,rfl⟩;have M8:=M7.allocB;rw [show w7.alloc (.cells z.arr 29)=w8 from hw8] at M8;obtain ⟨va',vc',w9,hr9,M9⟩:=M8.appB (by omega);obtain ⟨w10,hw10⟩:∃ w',w9.setCell ⟨w2.heap.size,7,none⟩ (.slice va' (i+1) vc')=w':=⟨_,rfl⟩;have hl2':(lv++[z]).length=i+1:=by simp [hlv]
      rw [hl2'] at hr9 M9;have M10:=M9.put (set7 (va':=va') (vn':=i+1) (vc':=vc') M9.own);rw [hw10] at M10;have HO:Hid (ObR w3 w2.heap.size ((F.take (i+1)).map (·.1)) ((F.take (i+1)).map (·.2.1)) w10):=by
        rw [Hid,HTK.out.1,HTK.out.2];refine ⟨ka',kc',va',vc',?_⟩;rw [hl1,hl2'];exact M10.again ⟨#[]⟩ Raw.zero
      have V5:w5.heap[wr.heap.size]?=w4.heap[wr.heap.size]?:=by rw [<-hw5];exact Below.heap_alloc _ _ _ (heap_lt V4.out)
      have V6:=S6 _ _ _ _ (V5.trans V4.out) (by decide);have hbw:=hM.lt;have V7:Hid (w7.heap[wr.heap.size]?=some (.cells #[.string y,.int .i64 z.kind,.bool z.is,.bool z.neg,.string z.dig,.int .i64 z.exp,.string z.str,.slice z.ka z.kn z.kc,.slice z.va z.vn z.vc] 60 (0,0))):=by rw [Hid,<-hw7,Below.heap_setCell _ _ _ _ (by show wr.heap.size≠w2.heap.size;omega)];exact V6
      have HR6:=Hid.out (p:=Hid _) hr6;have HR9:=Hid.out (p:=Hid _) hr9;have x6r:wr.cell? ⟨w2.heap.size,6,none⟩=some (.slice ka i kc):=cell_of hM.own 6;have x6:w4.cell? ⟨w2.heap.size,6,none⟩=some (.slice ka i kc):=cell_of M4.own 6;have y6:w6.cell? ⟨w2.heap.size,6,none⟩=some (.slice ka i kc):=cell_of M6.own 6;have f6:w6.frozen? ⟨w2.heap.size,6,none⟩=false:=frozen_of M6.own 6;have x7:w7.cell? ⟨w2.heap.size,7,none⟩=some (.slice va i vc):=cell_of M7.own 7;have y7:w9.cell? ⟨w2.heap.size,7,none⟩=some (.slice va i vc):=cell_of M9.own 7;have f7:w9.frozen? ⟨w2.heap.size,7,none⟩=false:=frozen_of M9.own 7;have a0:=cell_of V4.out 0;have b1:w7.cell? ⟨wr.heap.size,1,none⟩=some (.int .i64 z.kind):=cell_of V7.out 1;have b2:w7.cell? ⟨wr.heap.size,2,none⟩=some (.bool z.is):=cell_of V7.out 2;have b3:w7.cell? ⟨wr.heap.size,3,none⟩=some (.bool z.neg):=cell_of V7.out 3;have b4:w7.cell? ⟨wr.heap.size,4,none⟩=some (.string z.dig):=cell_of V7.out 4;have b5:w7.cell? ⟨wr.heap.size,5,none⟩=some (.int .i64 z.exp):=cell_of V7.out 5;have b6:w7.cell? ⟨wr.heap.size,6,none⟩=some (.string z.str):=cell_of V7.out 6;have b7:w7.cell? ⟨wr.heap.size,7,none⟩=some (.slice z.ka z.kn z.kc):=cell_of V7.out 7;have b8:w7.cell? ⟨wr.heap.size,8,none⟩=some (.slice z.va z.vn z.vc):=cell_of V7.out 8;obtain ⟨k0,k1,k2,k3,k4,k5,k6,k7⟩:=K1.eight;have k1:wr.cell? ⟨fb,i*9+2,none⟩=some (.bool z.is):=k1;have k2:wr.cell? ⟨fb,i*9+3,none⟩=some (.bool z.neg):=k2;have k3:wr.cell? ⟨fb,i*9+4,none⟩=some (.string z.dig):=k3;have k4:wr.cell? ⟨fb,i*9+5,none⟩=some (.int .i64 z.exp):=k4;have k5:wr.cell? ⟨fb,i*9+6,none⟩=some (.string z.str):=k5;have k6:wr.cell? ⟨fb,i*9+7,none⟩=some (.slice z.ka z.kn z.kc):=k6;have k7:wr.cell? ⟨fb,i*9+8,none⟩=some (.slice z.va z.vn z.vc):=k7;clear hM M4 M5 M6 M7 M8 M9 M10 S6 V5 V6 hr6 hr9 K1 tk hlke hlve hlk hlv hl1 hl2' hy hz c2;go_wp2_with (at_builtin;first
        | refine Jdec.wpList_append_run (.slice ka i kc) (.slice (some ⟨w4.heap.size,0,none⟩) 1 1) 26 HR6.out rfl _ _ rfl rfl rfl ?_
        | refine Jdec.wpList_append_run (.slice va i vc) (.slice (some ⟨w7.heap.size,0,none⟩) 1 1) 27 HR9.out rfl _ _ rfl rfl rfl ?_)
      go_roundw
      case rel=>exact ⟨i+1,by go_num,by omega,HO.out⟩
      case measure=>simp [intOf];omega
    · obtain rfl:i=F.length:=by omega
      rw [List.take_length] at hM;have hl1:(F.map (·.1)).length=F.length:=List.length_map _;have hl2':(F.map (·.2.1)).length=F.length:=List.length_map _;have HI:Hid (IsV wr (fun b=>A b/\b≠w.heap.size) (Raw.mk 6 false false ⟨#[]⟩ 0 ⟨#[]⟩ ka (F.map (·.1)).length kc va (F.map (·.2.1)).length vc) (objectOf (F.map (·.1)) (F.map (·.2.2)))):=by
        refine hM.isC (fun b hb=>⟨HA.out b (by omega),by omega⟩) _ (by simp) fun j hj=>?_;have hj':j<F.length:=by simpa using hj
        have e1:(F.map (·.2.1)).getD j Raw.zero=F[j].2.1:=by simp [List.getD,hj']
        have e2:(F.map (·.2.2))[j]=F[j].2.2:=by simp
        rw [e1,e2];exact ((HL.out F[j] (List.getElem_mem hj')).behind B3r.out).turn (Turn.mono _ fun b hb _=>⟨hb.1,by omega⟩)
      have VR:Hid (wr.heap[w2.heap.size]?=some (.cells (Raw.mk 6 false false ⟨#[]⟩ 0 ⟨#[]⟩ ka F.length kc va F.length vc).arr 29 (0,0))):=by
        have:=hM.own;rw [hl1,hl2'] at this;exact this
      rw [hl1,hl2'] at HI;have Z2:Hid (wr.heap[w.heap.size]?=some (.cells Raw.zero.arr 29 (0,0))):=(hM.below.block _ hl2).trans V23.out;obtain ⟨⟨x0,x1,x2,x3,x4,x5,x6,x7⟩,_⟩:=val_cells VR.out;obtain ⟨⟨r0,r1,r2,r3,r4,r5,r6,r7⟩,g0,g1,g2,g3,g4,g5,g6,g7⟩:=val_cells Z2.out;clear hM hl1 hl2';go_wp2_with fail
      refine val_ret (a:=Raw.mk 6 false false ⟨#[]⟩ 0 ⟨#[]⟩ ka F.length kc va F.length vc) (b:=w.heap.size) rfl (set8 Z2.out (Raw.mk 6 false false ⟨#[]⟩ 0 ⟨#[]⟩ ka F.length kc va F.length vc)) rfl ?_;refine ⟨_,rfl,HI.out.turn ⟨(gb8 _ _ _ _ _ _ _ _ _ _).size,fun k hk hl=>⟨(gb8 _ _ _ _ _ _ _ _ _ _).block _ hl (fun e=>by injection e with e;exact hk.2 e),hk.1⟩⟩,below8 B3r.out (Nat.le_refl _) _ _ _ _ _ _ _ _⟩
end Go.Proofs.YtliekocamnklfaaGreatDoor.One
