/- save.text, save.object, num.Of. -/
import Derived.Test.YtliekocamnklfaaGreatDoorPTk
import Derived.Test.YtliekocamnklfaaGreatDoorPJenK
import Derived.Test.YtliekocamnklfaaGreatDoorPJenM
import Derived.Lib.Bytealg
import Derived.Laws.OwnMore
import Derived.OwnWalk
import Derived.Deep.RegionHeld3
import Derived.Laws.StructEq
import Derived.Maps.AppendAt
set_option linter.unusedVariables false
set_option linter.unusedSimpArgs false
set_option maxRecDepth 100000
set_option maxHeartbeats 4000000
namespace Go.Proofs.YtliekocamnklfaaGreatDoor.Save
open Go.RowKit Go.Shelf Utf Strs Go.Proofs.YtliekocamnklfaaGreatDoor.Addr
open Jdec (Raw JV IsV IsTexts Turn gb_set gb8 set8 val_ret val_cells own_new)
def strR (s:ByteArray):Raw:=⟨4,false,false,⟨#[]⟩,0,s,none,0,0,none,0,0⟩
def objR (ka:Option Addr) (kn kc:Nat) (va:Option Addr) (vn vc:Nat):Raw:=⟨6,false,false,⟨#[]⟩,0,⟨#[]⟩,ka,kn,kc,va,vn,vc⟩
theorem strR_is (w:World) (A:Nat->Prop) (s:ByteArray):IsV w A (strR s) (strV s):=IsV.bare w A 4 false false ⟨#[]⟩ 0 s none none 0 0
theorem infoNum:(Tryz.prog.info? 25).map (·.size)=some 3:=by kernel_rfl
theorem num_ret {F:Func} {p:Tmp} (hr:F.results=#[.cell p 25]) {tm:Array Value} {x y z:Value} {R:Ending->World->Prop} {w':World} {b:Nat}
    (hb:w'.heap[b]?=some (.cells #[x,y,z] 25 (0,0))) (hp:tm.getD p undef=.pointer (some ⟨b,0,none⟩)) (hR:R (.returned (.agg #[x,y,z])) w') :
    bodyPost Tryz.prog F R Exit.ret { tmps:=tm,defers:=[] } w':=
  bodyPost_ret (results_cell_row hr tm w' b _ _ _ _ hp hb Tryz.underlying25 rfl infoNum) rfl hR
theorem num_new (w:World):∃ w1,w.alloc (.cells #[.bool false,.string ⟨#[]⟩,.int .i64 0] 25)=w1/\Hid (w1.heap[w.heap.size]?=some (.cells #[.bool false,.string ⟨#[]⟩,.int .i64 0] 25 (0,0)))/\Hid (Below w.heap.size w w1):=
  ⟨_,rfl,heap_alloc_new _ _,(Below.refl _ _).alloc (Nat.le_refl _) _⟩
theorem set3n {w:World} {b:Nat} {x y z:Value} {T:TypeId} (h:w.heap[b]?=some (.cells #[x,y,z] T (0,0))) (a c d:Value):(((w.setCell ⟨b,0,none⟩ a).setCell ⟨b,1,none⟩ c).setCell ⟨b,2,none⟩ d).heap[b]?=some (.cells #[a,c,d] T (0,0)):=by
  rw [heap_set_same (heap_set_same (heap_set_same h (i:=0) a) (i:=1) c) (i:=2) d];simp
theorem ofD_empty {n:Nat} {q:ByteArray} (hq:(⟨(Lib.trimRightB (Lib.decDigits n) 48).toArray⟩:ByteArray)=q) (b:Bool) (hb:q.toList.isEmpty=b):(b=true->ofD n=[])/\(b=false->ofD n≠[]):=by
  rw [ByteArray.toList_eq,<-hq] at hb;simp only [] at hb
  unfold ofD
  cases b with
  | true=>exact ⟨fun _=>List.isEmpty_iff.1 hb,fun h=>by cases h⟩
  | false=>exact ⟨(fun h=>by cases h),fun _ e=>by rw [e] at hb;cases hb⟩
def OfPost (n:Nat) (w:World) (e:Ending) (w':World):Prop:=e=.returned (.agg #[.bool false,.string ⟨(ofN n).1.toArray⟩,.int .i64 ((ofN n).2:Nat)])/\Below w.heap.size w w'
theorem OfPost.to {n:Nat} {w w':World} {e:Ending} (h:OfPost n w e w'):∃ (d:ByteArray) (x:Nat),e=.returned (.agg #[.bool false,.string d,.int .i64 x])/\Hid ((⟨(ofN n).1.toArray⟩:ByteArray)=d/\(ofN n).2=x)/\Hid (Below w.heap.size w w'):=⟨_,_,h.1,⟨rfl,rfl⟩,h.2⟩
theorem of_any (n:Nat) (hn:n<18446744073709551616) (w:World) (htab:Jdec.Pow10 w):Hid (Calls Tryz.prog 65 #[.int .u64 n] w (OfPost n w)):=by
  show Calls _ _ _ _ _;obtain ⟨w1,hw1,V1,B1⟩:=num_new w;have HT:=Hid.out (p:=Hid _) (htab.stays B1.out);have HF:=Hid.out (p:=Hid _) (formatUint_any n hn w1 HT.out);obtain ⟨d,hd⟩:∃ d:ByteArray,(⟨(Lib.decDigits n).toArray⟩:ByteArray)=d:=⟨_,rfl⟩;obtain ⟨q,hq⟩:∃ q:ByteArray,(⟨(Lib.trimRightB (Lib.decDigits n) 48).toArray⟩:ByteArray)=q:=⟨_,rfl⟩;have hl:=digits_le 19 n (by omega);have hds:d.size=(Lib.decDigits n).length:=by rw [<-hd,Lib.size_mk]
  have hqs:q.size=(ofD n).length:=by rw [<-hq,Lib.size_mk];rfl
  have hle:(ofD n).length<=(Lib.decDigits n).length:=by
    have:=congrArg List.length (trim_split (Lib.decDigits n) 48);rw [List.length_append] at this;unfold ofD;omega
  rw [hd] at HF;have HTR:Hid (∀ W:World,Calls Tryz.prog 109 #[.string d,.string ⟨#[48]⟩] W fun e w'=>e=.returned (.string q)/\W=w'):=fun W=>by
    have:=Tryz.strings_TrimRight_one d 48 (by decide) W (by omega);rw [show d.data.toList=Lib.decDigits n by rw [<-hd],hq] at this;exact this.mono fun e w' h=>⟨h.1,h.2.symm⟩
  obtain ⟨x,hx⟩:∃ x:Nat,x=d.size-q.size:=⟨_,rfl⟩;have hx2:(d.size:Int)-(q.size:Int)=(x:Int):=by omega
  have hx3:IntKind.i64.wrap (x:Int)=(x:Int):=IntWalk.i64_in _ (by omega);obtain ⟨b,hb⟩:∃ b,q.toList.isEmpty=b:=⟨_,rfl⟩;have HE:=Hid.out (p:=Hid _) (ofD_empty hq b hb);have HQ:Hid (ofN n=if b=true then ([],0) else (q.data.toList,x)):=by
    unfold ofN Hid
    cases b with
    | true=>rw [if_pos (HE.out.1 rfl),if_pos rfl]
    | false=>
      rw [if_neg (HE.out.2 rfl),if_neg (by decide)];refine Prod.ext ?_ ?_
      · show ofD n=_;rw [<-hq];rfl
      · show (Lib.decDigits n).length-(ofD n).length=x;omega
  clear hd hq hds hqs hle hl hx HE htab;obtain ⟨⟨z0,z1,z2⟩,f0,f1,f2⟩:(w1.cell? ⟨w.heap.size,0,none⟩=some (.bool false)/\w1.cell? ⟨w.heap.size,1,none⟩=some (.string ⟨#[]⟩)/\w1.cell? ⟨w.heap.size,2,none⟩=some (.int .i64 0))/\w1.frozen? ⟨w.heap.size,0,none⟩=false/\w1.frozen? ⟨w.heap.size,1,none⟩=false/\w1.frozen? ⟨w.heap.size,2,none⟩=false:=⟨⟨cell_of V1.out 0,cell_of V1.out 1,cell_of V1.out 2⟩,frozen_of V1.out 0,frozen_of V1.out 1,frozen_of V1.out 2⟩;clear z0 z1 z2 f0 f1 f2;go_enter Tryz.func65,Tryz.ntmps65
  go_wp2_with fail
  refine (Calls.mono HF.out ?_);rintro z w2 ⟨rfl,h2⟩;have B2:Hid (Below w.heap.size w w2):=B1.out.trans (h2.mono B1.out.size);have V2:Hid (w2.heap[w.heap.size]?=some (.cells #[.bool false,.string ⟨#[]⟩,.int .i64 0] 25 (0,0))):=(h2.block _ (heap_lt V1.out)).trans V1.out;clear h2 hw1;go_wp2_with fail
  refine (Calls.mono (HTR.out w2) ?_);rintro z w3 ⟨rfl,rfl⟩;have z0:=cell_of V2.out 0;have z1:=cell_of V2.out 1;have z2:=cell_of V2.out 2;have f0:=frozen_of V2.out 0;have f1:=frozen_of V2.out 1;have f2:=frozen_of V2.out 2
  cases b with
  | true=>
    go_wp2_with fail
    refine num_ret (b:=w.heap.size) rfl (set3n V2.out _ _ _) rfl ?_;refine ⟨?_,B2.out.grown (((gb_set _ _ _ _).trans (gb_set _ _ _ _)).trans (gb_set _ _ _ _)) B2.out.size (fun x hx=>by injection hx with hx;omega)⟩;rw [HQ.out];rfl
  | false=>
    go_wp2_with fail
    refine num_ret (b:=w.heap.size) rfl (set3n V2.out _ _ _) rfl ?_;refine ⟨?_,B2.out.grown (((gb_set _ _ _ _).trans (gb_set _ _ _ _)).trans (gb_set _ _ _ _)) B2.out.size (fun x hx=>by injection hx with hx;omega)⟩;rw [HQ.out];rfl
open Jdec (Raw JV IsV IsTexts Turn gb_set gb_below gb_refl gb8 set8 val_ret val_cells own_new KidsA infoKid flat_cells_len flat_cells_at listOf objectOf row_setCells setL_mid)
/-! ## strings.Join -/
theorem bel {w a b:World} (h:Hid (Below w.heap.size w a)) (e:Hid (Below a.heap.size a b)):Hid (Below w.heap.size w b):=h.out.trans (e.out.mono h.out.size)
theorem hst {w a:World} {b:Nat} {o:Obj} (h:Hid (w.heap[b]?=some o)) (e:Hid (Below w.heap.size w a)):Hid (a.heap[b]?=some o):=(e.out.block _ (heap_lt h.out)).trans h.out
/-! ## Rows of values -/
theorem KidsA.nil (w:World) (B:Nat) (C:Nat->Prop):KidsA w B C (.slice none 0 0) []:=⟨[],rfl,World.ownsRow_nil _ _ _ _,fun i h=>absurd h (Nat.not_lt_zero _)⟩
theorem KidsA.form {w:World} {B:Nat} {C:Nat->Prop} {v:Value} {ts:List JV} (h:KidsA w B C v ts):∃ a c,v=.slice a ts.length c/\ts.length<=c/\(ts=[]∨∃ g,a=some ⟨g,0,none⟩):=by
  obtain ⟨rs,h1,h2,h3⟩:=h;rcases h2.2 with ⟨rfl,h0⟩ | ⟨g,cap,cur,rfl,_,_,hc,_⟩
  · exact ⟨none,0,by rw [h0],by omega,.inl (List.length_eq_zero_iff.1 h0)⟩
  · exact ⟨_,_,rfl,hc,.inr ⟨g,rfl⟩⟩
theorem KidsA.lt {w:World} {B:Nat} {C:Nat->Prop} {v:Value} {ts:List JV} (h:KidsA w B C v ts):∀ k,v.ownBlock=some k->B<=k/\k<w.heap.size:=by
  obtain ⟨rs,h1,h2,h3⟩:=h;exact fun k hk=>h2.lt k hk
theorem KidsA.below {w w':World} {B:Nat} {C C':Nat->Prop} {v:Value} {ts:List JV} (h:KidsA w B C v ts) (hb:Below w.heap.size w w') (hC:∀ b,C b->b<w.heap.size->C' b):KidsA w' B C' v ts:=
  h.turn (gb_below hb none) (by cases v.ownBlock <;> simp) (fun b h1 h2=>⟨by simp,hC b h1 h2⟩)
theorem cells_one (r:Raw):∀ u∈r.cells,u.oneCell'=true:=by
  intro u hu
  simp only [Raw.cells,List.mem_cons,List.mem_nil_iff,or_false] at hu
  rcases hu with rfl | rfl | rfl | rfl | rfl | rfl | rfl | rfl <;> rfl
theorem cell_add (b o j:Nat):(⟨b,o,none⟩:Addr).add j=⟨b,o+j,none⟩:=by unfold Addr.add;split <;> simp_all
theorem app_kids {w:World} {B:Nat} {C:Nat->Prop} {v:Value} {ts:List JV} (h:KidsA w B C v ts) (b:Nat) (r:Raw) (t:JV) (hb:w.heap[b]?=some (.cells r.arr 29 (0,0)))
    (hr:IsV w (fun x=>C x/\some x≠v.ownBlock) r t) (hn:ts.length<=3000) (hB:B<=w.heap.size) :
    ∃ a c w',(Builtin.append_ #[27,27] 27 #[v,.slice (some ⟨b,0,none⟩) 1 1]).run Tryz.prog w=.ok (.slice a (ts.length+1) c) w'/\KidsA w' B C (.slice a (ts.length+1) c) (ts++[t])/\w.grownBy w' v.ownBlock/\((Value.slice a (ts.length+1) c).ownBlock=v.ownBlock∨(Value.slice a (ts.length+1) c).ownBlock=some w.heap.size):=by
  obtain ⟨i0,hi,hz0,hz1,hz2⟩:=info_parts infoKid;obtain ⟨rs,h1,h2,h3⟩:=h;obtain ⟨v',w',hrun,hown,hg,_,hl⟩:=run_append_own_at (P:=Tryz.prog) w B 27 27 29 i0 _ 8 _ Tryz.underlying27 hi hz0 hz1 hz2 rfl (by decide) v ts.length (rs.flatMap Raw.cells) h2 ⟨b,0,none⟩ 1 1 r.cells rfl
    (fun j u hu=>by rw [cell_add,Nat.zero_add,cell_of hb,<-hu];simp [Raw.arr,Raw.cells]) (cells_one r) (by unfold maxLen;omega) (by omega) hB
  have hk:=KidsA.snoc rs h1 h2 h3 hr hown hg hl;obtain ⟨a,c,rfl,_⟩:=KidsA.form hk;rw [List.length_append,List.length_singleton] at hk hrun hl;exact ⟨a,c,w',hrun,hk,hg,hl⟩
end Go.Proofs.YtliekocamnklfaaGreatDoor.Save
namespace Go.Proofs.YtliekocamnklfaaGreatDoor.One
open Go.RowKit Strs Jdec Save
theorem res2o {F:Func} {p q:Tmp} (hr:F.results=#[.cell p 29,.tmp q]) (tm:Array Value) {w':World} {b:Nat} {a:Raw}
    (hb:w'.heap[b]?=some (.cells a.arr 29 (0,0))) (hp:tm.getD p undef=.pointer (some ⟨b,0,none⟩)) :
    (results F tm).run Tryz.prog w'=.ok (.tuple #[a.val,tm.getD q undef]) w':=by
  have hp':tm[p]?.getD undef=.pointer (some ⟨b,0,none⟩):=by simpa using hp
  have hl:=run_loadVar_row (P:=Tryz.prog) w' b _ 29 _ _ _ hb Tryz.underlying29 rfl infoVal;simp [results,hr,hp',asAddr,hl]
  rfl
theorem fin2 {F:Func} {p q:Tmp} (hr:F.results=#[.cell p 29,.tmp q]) {tm:Array Value} {a:Raw} {w':World} {b:Nat} {R:Ending->World->Prop}
    (hb:w'.heap[b]?=some (.cells a.arr 29 (0,0))) (hp:tm.getD p undef=.pointer (some ⟨b,0,none⟩)) (hR:R (.returned (.tuple #[a.val,tm.getD q undef])) w') :
    bodyPost Tryz.prog F R Exit.ret { tmps:=tm,defers:=[] } w':=bodyPost_ret (res2o hr tm hb hp) rfl hR
theorem zero_is (w:World) (A:Nat->Prop):IsV w A Raw.zero .zero:=.mk Raw.zero [] [] (fun _=>Raw.zero) rfl rfl (.inl rfl) (.inl rfl) (fun i h=>absurd h (Nat.not_lt_zero _))
theorem below8 {w w':World} {b:Nat} (h:Below w.heap.size w w') (hb:w.heap.size<=b) (x0 x1 x2 x3 x4 x5 x6 x7:Value):Below w.heap.size w ((((((((w'.setCell ⟨b,0,none⟩ x0).setCell ⟨b,1,none⟩ x1).setCell ⟨b,2,none⟩ x2).setCell ⟨b,3,none⟩ x3).setCell ⟨b,4,none⟩ x4).setCell ⟨b,5,none⟩ x5).setCell ⟨b,6,none⟩ x6).setCell ⟨b,7,none⟩ x7):=
  h.grown (gb8 _ _ _ _ _ _ _ _ _ _) (h.size) (fun k e=>by injection e with e;omega)
def GetP (t:JV) (x:ByteArray) (A:Nat->Prop) (w:World) (e:Ending) (w':World):Prop:=∃ rr:Raw,e=.returned (.tuple #[rr.val,.bool (look t x).isSome])/\IsV w' A rr (got t x)/\Below w.heap.size w w'
theorem GetP.to {t:JV} {x:ByteArray} {A:Nat->Prop} {w w':World} {e:Ending} (h:GetP t x A w e w'):∃ rr:Raw,e=.returned (.tuple #[rr.val,.bool (look t x).isSome])/\Hid (IsV w' A rr (got t x))/\Hid (Below w.heap.size w w'):=h
theorem get_is (t:JV) (hg:GoodQ t) (hm:t.mass<=3000) (ra:Raw) (A:Nat->Prop) (w:World) (hi:IsV w A ra t) (x:ByteArray):Calls Tryz.prog 137 #[ra.val,.string x] w (GetP t x A w):=by
  cases t with
  | mk k is ng d e s ks vs=>
  obtain ⟨ka,kc,va,vc,rfl,ht,f,hc,hv⟩:=hi.parts;have hbo:k=6->ks.length=vs.length:=by cases hg with | mk _ _ _ _ _ _ _ _ o _=>exact o.both
  rw [mass_mk] at hm;have hvl:=masses_len vs;obtain ⟨w2,hw2,V2,B2⟩:=own_new w (Raw.mk k is ng d e s ka ks.length kc va vs.length vc);obtain ⟨w3,hw3,V3,B3⟩:=own_new w2 Raw.zero;have V2:Hid (w2.heap[w.heap.size]?=some (.cells (Raw.mk k is ng d e s ka ks.length kc va vs.length vc).arr 29 (0,0))):=V2.out;have V3:Hid (w3.heap[w2.heap.size]?=some (.cells Raw.zero.arr 29 (0,0))):=V3.out;have hs2:=B2.out.size;have V23:Hid (w3.heap[w.heap.size]?=some (.cells (Raw.mk k is ng d e s ka ks.length kc va vs.length vc).arr 29 (0,0))):=(B3.out.block _ (heap_lt V2.out)).trans V2.out;have B03:Hid (Below w.heap.size w w3):=B2.out.trans (B3.out.mono hs2);have HS2:=Hid.out (p:=Hid _) hs2
  dsimp only [Raw.zero] at hw2 hw3
  unfold Raw.val;obtain ⟨⟨x0,x1,x2,x3,x4,x5,x6,x7⟩,_⟩:=val_cells V23.out;obtain ⟨⟨r0,r1,r2,r3,r4,r5,r6,r7⟩,g0,g1,g2,g3,g4,g5,g6,g7⟩:=val_cells V3.out;by_cases h6:k=6
  case neg=>
    have nk:(k != 6)=true:=by rw [bne_iff_ne];exact h6
    have HN:Hid (look (.mk k is ng d e s ks vs) x=none):=look_ne h6;clear h6 hbo hm hvl ht hc hv hi hg hs2;go_enter Tryz.func137,Tryz.ntmps137
    go_wp2_with fail
    refine fin2 (a:=Raw.zero) (b:=w2.heap.size) rfl (set8 V3.out Raw.zero) rfl ?_;refine ⟨Raw.zero,by rw [HN.out];rfl,?_,below8 B03.out HS2.out _ _ _ _ _ _ _ _⟩;rw [got,HN.out];exact zero_is _ _
  case pos=>
  subst h6;have hkl:=hbo rfl;have nk:((6:Int) != 6)=false:=by decide
  have hmin:(if (ks.length:Int)<=vs.length then (ks.length:Int) else vs.length)=vs.length:=by rw [hkl];simp
  have hmin2:min (ks.length:Int) (vs.length:Int)=vs.length:=by rw [hkl];simp
  have HK:=Hid.out (p:=Hid _) hkl;have HT:=Hid.out (p:=Hid _) ht;have HC:=Hid.out (p:=Hid _) hc;have HV:=Hid.out (p:=Hid _) hv;have HVL:Hid (vs.length<=3000):=by rw [Hid];omega
  clear hbo hm hvl ht hc hv hi hg hs2 hkl;go_enter Tryz.func137,Tryz.ntmps137
  go_wp2_with fail
  go_loopw [18] (fun p wr=>w3=wr/\∃ i:Nat,p=.int .i64 i/\i<=vs.length/\Hid (∀ j (hj:j<ks.length),j<i->ks[j]≠x)) (fun p _=>vs.length-(intOf p).toNat)
  case atStart=>exact ⟨rfl,0,rfl,Nat.zero_le _,fun j _ h=>absurd h (Nat.not_lt_zero _)⟩
  case round=>
    obtain ⟨rfl,i,rfl,hi,hA⟩:=hrel;have hvl:=HVL.out;by_cases hlt:i<vs.length
    · have hlk:i<ks.length:=by rw [HK.out];exact hlt
      have hne:ks≠[]:=fun e=>by rw [e] at hlk;simp at hlk
      have hnv:vs≠[]:=fun e=>by rw [e] at hlt;simp at hlt
      obtain ⟨kb,ko,rfl,_,hkb,hkc⟩:=HT.out.resolve_left hne;obtain ⟨g,o,rfl,hgb,hcs⟩:=HC.out.resolve_left hnv;have c1:=(World.cell?_of_block (B03.out.block kb hkb)).trans (hkc i hlk);have K1:=Hid.out (p:=Hid _) ((hcs i hlt).below hgb B03.out);have I1:=Hid.out (p:=Hid _) (HV.out i hlt);obtain ⟨b,hb⟩:∃ b,(ks[i].toList == x.toList)=b:=⟨_,rfl⟩;have HL:Hid (b=true->look (.mk 6 is ng d e s ks vs) x=some vs[i]):=fun h=>by
        rw [look_mk];exact lookL_at ks vs x i hlk hlt (by rw [h,beq_iff_eq,ByteArray.toList_eq,ByteArray.toList_eq] at hb;exact ByteArray.ext (Array.toList_inj.1 hb)) hA.out
      have HM:Hid (b=false->∀ j (hj:j<ks.length),j<i+1->ks[j]≠x):=fun h j hj hji=>by
        by_cases e:j=i
        · subst e;intro e
          rw [e,h] at hb;simp at hb
        · exact hA.out j hj (by omega)
      clear hkc hcs;generalize ks[i]=y at *;generalize f i=z at *;have K1c:CellsAt w3 g (o+i*8) z:=K1.out;obtain ⟨u0,u1,u2,u3,u4,u5,u6,u7⟩:=K1c.eight;clear K1c;cases b
      case false=>
        have M:=Hid.out (p:=Hid _) (HM.out rfl);clear HM HL;go_wp2_with fail
        go_roundw
        case rel=>exact ⟨trivial,i+1,by go_num,by omega,M.out⟩
        case measure=>simp [intOf];omega
      case true=>
        have L:=Hid.out (p:=Hid _) (HL.out rfl);clear HM HL;go_wp2_with fail
        refine fin2 (a:=z) (b:=w2.heap.size) rfl (set8 V3.out z) rfl ?_;refine ⟨z,by rw [L.out];rfl,?_,below8 B03.out HS2.out _ _ _ _ _ _ _ _⟩;rw [got_of L.out];exact I1.out.behind (below8 B03.out HS2.out _ _ _ _ _ _ _ _)
    · have HN:Hid (look (.mk 6 is ng d e s ks vs) x=none):=by
        rw [Hid,look_mk];exact lookL_no ks vs x fun j hj _=>hA.out j hj (by have:=HK.out;omega)
      go_wp2_with fail
      refine fin2 (a:=Raw.zero) (b:=w2.heap.size) rfl (set8 V3.out Raw.zero) rfl ?_;refine ⟨Raw.zero,by rw [HN.out];rfl,?_,below8 B03.out HS2.out _ _ _ _ _ _ _ _⟩;rw [got,HN.out];exact zero_is _ _
theorem low {w:World} {A:Nat->Prop} {r:Raw} {t:JV} (h:IsV w A r t):IsV w (fun b=>b<w.heap.size) r t:=h.turn (Turn.mono w fun b _ hb=>hb)
theorem low8 {w:World} {n b:Nat} {r:Raw} {t:JV} (h:IsV w (fun b=>b<n) r t) (hb:n<=b) (x0 x1 x2 x3 x4 x5 x6 x7:Value):IsV ((((((((w.setCell ⟨b,0,none⟩ x0).setCell ⟨b,1,none⟩ x1).setCell ⟨b,2,none⟩ x2).setCell ⟨b,3,none⟩ x3).setCell ⟨b,4,none⟩ x4).setCell ⟨b,5,none⟩ x5).setCell ⟨b,6,none⟩ x6).setCell ⟨b,7,none⟩ x7) (fun b=>b<n) r t:=
  h.turn ⟨(gb8 _ _ _ _ _ _ _ _ _ _).size,fun k hk hl=>⟨(gb8 _ _ _ _ _ _ _ _ _ _).block _ hl (fun e=>by injection e with e;omega),hk⟩⟩
theorem high8 {w:World} {n b:Nat} {r:Raw} {t:JV} (h:IsV w (fun b=>n<=b) r t) (hb:b<n) (m:Nat) (hm:m<=n) (x0 x1 x2 x3 x4 x5 x6 x7:Value):IsV ((((((((w.setCell ⟨b,0,none⟩ x0).setCell ⟨b,1,none⟩ x1).setCell ⟨b,2,none⟩ x2).setCell ⟨b,3,none⟩ x3).setCell ⟨b,4,none⟩ x4).setCell ⟨b,5,none⟩ x5).setCell ⟨b,6,none⟩ x6).setCell ⟨b,7,none⟩ x7) (fun b=>m<=b) r t:=
  h.turn ⟨(gb8 _ _ _ _ _ _ _ _ _ _).size,fun k hk hl=>⟨(gb8 _ _ _ _ _ _ _ _ _ _).block _ hl (fun e=>by injection e with e;omega),by omega⟩⟩
theorem texts_one (w:World) (x:ByteArray):∃ w1,w.alloc (.cells #[.string x] 9)=w1/\Hid (w1.cell? ⟨w.heap.size,0,none⟩=some (.string x))/\Hid (Below w.heap.size w w1):=
  ⟨_,rfl,cell_of (heap_alloc_new w (.cells #[.string x] 9 (0,0))) 0,(Below.refl _ _).alloc (Nat.le_refl _) _⟩
theorem at_is (t:JV) (hg:GoodQ t) (hm:t.mass<=3000) (ra:Raw) (A:Nat->Prop) (w:World) (hi:IsV w A ra t) (x:ByteArray) (pb:Nat) (hp:w.cell? ⟨pb,0,none⟩=some (.string x)):Calls Tryz.prog 99 #[ra.val,.slice (some ⟨pb,0,none⟩) 1 1] w (GetP t x (fun b=>w.heap.size<=b) w):=by
  obtain ⟨w2,hw2,V2,B2⟩:=own_new w ra;obtain ⟨w3,hw3,V3,B3⟩:=own_new w2 Raw.zero;have V2:Hid (w2.heap[w.heap.size]?=some (.cells ra.arr 29 (0,0))):=V2.out;have V3:Hid (w3.heap[w2.heap.size]?=some (.cells Raw.zero.arr 29 (0,0))):=V3.out;have hs2:=B2.out.size;have V23:Hid (w3.heap[w.heap.size]?=some (.cells ra.arr 29 (0,0))):=(B3.out.block _ (heap_lt V2.out)).trans V2.out;have B03:Hid (Below w.heap.size w w3):=B2.out.trans (B3.out.mono hs2);have hpb:pb<w.heap.size:=Lib.lt_of_cell hp;have c3:=Hid.out (p:=Hid _) ((World.cell?_of_block (B03.out.block pb hpb)).trans hp);have HS2:=Hid.out (p:=Hid _) hs2;have hl2:=heap_lt V2.out;have hl3:=heap_lt V3.out;have hgt:=get_is t hg hm ra (fun b=>b<w.heap.size) w3 ((low hi).behind B03.out) x;have HG:=Hid.out (p:=Hid _) hgt;have HGG:=Hid.out (p:=Hid _) hg;clear hgt hp hi
  dsimp only [Raw.zero] at hw2 hw3
  unfold Raw.val;obtain ⟨⟨x0,x1,x2,x3,x4,x5,x6,x7⟩,f0,f1,f2,f3,f4,f5,f6,f7⟩:=val_cells V23.out;obtain ⟨⟨r0,r1,r2,r3,r4,r5,r6,r7⟩,g0,g1,g2,g3,g4,g5,g6,g7⟩:=val_cells V3.out;go_enter Tryz.func99,Tryz.ntmps99
  go_wp2_with fail
  go_loopw [12] (fun p wr=>∃ i:Nat,p=.int .i64 i/\((i=0/\w3=wr)∨(i=1/\∃ rr:Raw,Hid (wr.heap[w.heap.size]?=some (.cells rr.arr 29 (0,0)))/\Hid (wr.heap[w2.heap.size]?=some (.cells Raw.zero.arr 29 (0,0)))/\Hid (IsV wr (fun b=>b<w.heap.size) rr (got t x))/\Hid ((look t x).isSome=true)/\Hid (Below w.heap.size w wr)))) (fun p _=>1-(intOf p).toNat)
  case atStart=>exact ⟨0,rfl,.inl ⟨rfl,rfl⟩⟩
  case round=>
    obtain ⟨i,rfl,⟨rfl,rfl⟩ | ⟨rfl,rr,V,Z,I,L,B⟩⟩:=hrel
    · have c4:=c3.out;go_wp2_with fail
      refine (Calls.mono HG.out ?_);rintro z w4 hz;obtain ⟨rr,rfl,hr,B4⟩:=hz.to;obtain ⟨ok,hok⟩:∃ b,(look t x).isSome=b:=⟨_,rfl⟩;rw [hok];have HOK:=Hid.out (p:=Hid _) hok;obtain ⟨w5,hw5,V5,B5⟩:=own_new w4 rr;have V5:Hid (w5.heap[w4.heap.size]?=some (.cells rr.arr 29 (0,0))):=V5.out;have B35:Hid (Below w3.heap.size w3 w5):=B4.out.trans (B5.out.mono B4.out.size);have V25:Hid (w5.heap[w.heap.size]?=some (.cells ra.arr 29 (0,0))):=(B35.out.block _ (heap_lt V23.out)).trans V23.out;have V35:Hid (w5.heap[w2.heap.size]?=some (.cells Raw.zero.arr 29 (0,0))):=(B35.out.block _ hl3).trans V3.out;have B05:Hid (Below w.heap.size w w5):=B03.out.trans (B35.out.mono B03.out.size);clear hz hok x0 x1 x2 x3 x4 x5 x6 x7 f0 f1 f2 f3 f4 f5 f6 f7 r0 r1 r2 r3 r4 r5 r6 r7 g0 g1 g2 g3 g4 g5 g6 g7 hw2 hw3;unfold Raw.val;obtain ⟨⟨x0,x1,x2,x3,x4,x5,x6,x7⟩,f0,f1,f2,f3,f4,f5,f6,f7⟩:=val_cells V25.out;obtain ⟨⟨r0,r1,r2,r3,r4,r5,r6,r7⟩,g0,g1,g2,g3,g4,g5,g6,g7⟩:=val_cells V35.out;obtain ⟨⟨y0,y1,y2,y3,y4,y5,y6,y7⟩,_⟩:=val_cells V5.out;cases ok
      case false=>
        have HN:Hid (look t x=none):=Option.isSome_eq_false_iff.1 HOK.out |> Option.isNone_iff_eq_none.1;go_wp2_with fail
        refine fin2 (a:=Raw.zero) (b:=w2.heap.size) rfl (set8 V35.out Raw.zero) rfl ?_;refine ⟨Raw.zero,by rw [HN.out];rfl,?_,below8 B05.out HS2.out _ _ _ _ _ _ _ _⟩;rw [got,HN.out];exact zero_is _ _
      case true=>
        have V6:Hid (_=_):=set8 V25.out rr;go_wp2_with fail
        go_roundw
        case rel=>
          refine ⟨1,by go_num,.inr ⟨rfl,rr,V6.out,?_,?_,HOK.out,below8 B05.out (Nat.le_refl _) _ _ _ _ _ _ _ _⟩⟩
          · exact ((gb8 _ _ _ _ _ _ _ _ _ _).block _ (heap_lt V35.out) (fun e=>by injection e with e;omega)).trans V35.out
          · exact low8 (hr.out.behind B5.out) (Nat.le_refl _) _ _ _ _ _ _ _ _
        case measure=>simp [intOf]
    · have HCP:=Hid.out (p:=Hid _) (copy_any (got t x) (got_good HGG.out L.out) (by have:=got_mass t x;omega) rr _ wr I.out);clear x0 x1 x2 x3 x4 x5 x6 x7 f0 f1 f2 f3 f4 f5 f6 f7 r0 r1 r2 r3 r4 r5 r6 r7 g0 g1 g2 g3 g4 g5 g6 g7 hw2 hw3;obtain ⟨⟨x0,x1,x2,x3,x4,x5,x6,x7⟩,_⟩:=val_cells V.out;unfold Raw.val at HCP;go_wp2_with fail
      refine (Calls.mono HCP.out ?_);rintro z w7 hz;obtain ⟨r7,rfl,hr7,B7⟩:=hz.to;have Z7:Hid (w7.heap[w2.heap.size]?=some (.cells Raw.zero.arr 29 (0,0))):=hst Z B7;have B07:Hid (Below w.heap.size w w7):=bel B B7;have hZ:=heap_lt Z.out;clear hz x0 x1 x2 x3 x4 x5 x6 x7;unfold Raw.val;obtain ⟨⟨r0,r1,r2,r3,r4,r5,r6,r7'⟩,g0,g1,g2,g3,g4,g5,g6,g7⟩:=val_cells Z7.out;go_wp2_with fail
      refine fin2 (a:=r7) (b:=w2.heap.size) rfl (set8 Z7.out r7) rfl ?_;refine ⟨r7,by rw [L.out];rfl,?_,below8 B07.out HS2.out _ _ _ _ _ _ _ _⟩;exact high8 (hr7.out.isV _ fun b hb=>hb.1) hZ _ (by have:=B.out.size;omega) _ _ _ _ _ _ _ _
theorem tget_is (t:JV) (hg:GoodQ t) (hm:t.mass<=3000) (ra:Raw) (A:Nat->Prop) (w:World) (hi:IsV w A ra t) (x:ByteArray):Calls Tryz.prog 43 #[ra.val,.string x] w (GetP t x (fun b=>w.heap.size<=b) w):=by
  obtain ⟨w2,hw2,V2,B2⟩:=own_new w ra;obtain ⟨w3,hw3,V3,B3⟩:=own_new w2 Raw.zero;obtain ⟨w4,hw4,c4,B4⟩:=texts_one w3 x;have V2:Hid (w2.heap[w.heap.size]?=some (.cells ra.arr 29 (0,0))):=V2.out;have V3:Hid (w3.heap[w2.heap.size]?=some (.cells Raw.zero.arr 29 (0,0))):=V3.out;have V23:=hst V2 B3;have B03:=bel B2 B3;have B04:=bel B03 B4;have HA:=Hid.out (p:=Hid _) (at_is t hg hm ra A w4 (hi.behind B04.out) x w3.heap.size c4.out);have HS2:=Hid.out (p:=Hid _) B2.out.size;have V34:=hst V3 B4
  dsimp only [Raw.zero] at hw2 hw3
  unfold Raw.val at HA ⊢;obtain ⟨⟨x0,x1,x2,x3,x4,x5,x6,x7⟩,_⟩:=val_cells V23.out;go_enter Tryz.func43,Tryz.ntmps43
  go_wp2_with fail
  refine (Calls.mono HA.out ?_);rintro z w5 hz;obtain ⟨rr,rfl,hr,B5⟩:=hz.to;obtain ⟨ok,hok⟩:∃ b,(look t x).isSome=b:=⟨_,rfl⟩;rw [hok];have HOK:=Hid.out (p:=Hid _) hok;have V35:=hst V34 B5;have B05:=bel B04 B5;have hl:=heap_lt V34.out;clear hz hok x0 x1 x2 x3 x4 x5 x6 x7 hw2 hw3 hw4;unfold Raw.val;obtain ⟨⟨r0,r1,r2,r3,r4,r5,r6,r7⟩,g0,g1,g2,g3,g4,g5,g6,g7⟩:=val_cells V35.out;go_wp2_with fail
  refine fin2 (a:=rr) (b:=w2.heap.size) rfl (set8 V35.out rr) rfl ?_;refine ⟨rr,by rw [HOK.out];rfl,?_,below8 B05.out HS2.out _ _ _ _ _ _ _ _⟩;exact high8 hr.out hl _ (by have:=B04.out.size;omega) _ _ _ _ _ _ _ _
end Go.Proofs.YtliekocamnklfaaGreatDoor.One
