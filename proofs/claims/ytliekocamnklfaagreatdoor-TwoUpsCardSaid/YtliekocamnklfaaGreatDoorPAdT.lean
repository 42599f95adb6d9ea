/- addr.keyed. -/
import Derived.Test.YtliekocamnklfaaGreatDoorPAdM
import Derived.Test.YtliekocamnklfaaGreatDoorPAdF
set_option linter.unusedVariables false
set_option linter.unusedSimpArgs false
set_option maxRecDepth 100000
namespace Go.Proofs.YtliekocamnklfaaGreatDoor.Addr
open Go.RowKit Go.Shelf Utf Strs Lex
open Jdec (gb_refl gb_drew gb_set gb_below)
def withKey (a:Adr) (k:Int × Nat × ByteArray):Adr:={ a with key:=k.1,place:=k.2.1,word:=k.2.2 }
theorem two_set {W:World} {b:Nat} {a:Adr} {pa:Option Addr} {pc:Nat} (h:W.heap[b]?=some (.cells (arrA pa pc a) 67 (0,0))) (h4:a.key=0) (n:Nat) (hw:a.word=⟨#[]⟩):((W.setCell ⟨b,3,none⟩ (.int .i64 1)).setCell ⟨b,4,none⟩ (.int .u64 n)).heap[b]?=some (.cells (arrA pa pc (withKey a (1,n,⟨#[]⟩))) 67 (0,0)):=by
  rw [heap_set_same (heap_set_same h _)];simp [arrA,withKey,hw]
open Jdec (gb_refl gb_drew gb_set gb_below IsTexts infoStr)
def RowT (w:World) (B:Nat) (v:Value) (l:List ByteArray):Prop:=w.ownsRow B 9 1 v l.length (l.map Value.string)
theorem RowT.form {w:World} {B:Nat} {v:Value} {l:List ByteArray} (h:RowT w B v l):∃ a c,v=.slice a l.length c:=by
  rcases h.2 with ⟨h1,h2⟩ | ⟨g,cap,cur,hv,_⟩
  · exact ⟨none,0,by rw [h1,h2]⟩
  · exact ⟨_,_,hv⟩
theorem RowT.nil (w:World) (B:Nat):RowT w B (.slice none 0 0) []:=World.ownsRow_nil _ _ _ _
theorem RowT.texts {w:World} {B:Nat} {a:Option Addr} {c:Nat} {l:List ByteArray} (h:RowT w B (.slice a l.length c) l):IsTexts w (fun b=>B<=b) a l:=by
  by_cases hl:l=[]
  · exact .inl hl
  right
  have h':w.ownsRow B 9 1 (.slice a l.length c) l.length (l.map Value.string):=h;rcases h'.2 with ⟨_,e2⟩ | ⟨g,cap,cur,hv,_⟩
  · exact absurd (List.length_eq_zero_iff.1 e2) hl
  · injection hv with e1 _ _
    subst e1;have hb:=h'.lt g (by simp [Value.ownBlock]);refine ⟨g,0,rfl,hb.1,hb.2,fun i hi=>?_⟩;have:=h'.cellAt i (by omega);rw [Nat.zero_add,this];simp [hi]
theorem RowT.kept {w w':World} {B:Nat} {v:Value} {l:List ByteArray} {r:Option Nat} (h:RowT w B v l) (hg:w.grownBy w' r) (hn:v.ownBlock=none∨v.ownBlock≠r):RowT w' B v l:=World.ownsRow.kept h hg hn
theorem RowT.stays {w w':World} {B:Nat} {v:Value} {l:List ByteArray} (h:RowT w B v l) (hb:Below w.heap.size w w'):RowT w' B v l:=h.kept (gb_below hb none) (by cases v.ownBlock <;> simp)
theorem RowT.ne {w:World} {B:Nat} {v:Value} {l:List ByteArray} (h:RowT w B v l) {b:Nat} (hb:b<B):v.ownBlock≠some b:=fun e=>by
  have:=(World.ownsRow.lt h b e).1;omega
theorem app_one (w:World) (B:Nat) (v:Value) (l:List ByteArray) (x:ByteArray) (h:RowT w B v l) (hl:l.length<=1048576) (hB:B<=w.heap.size) :
    ∃ g cap w',(Builtin.append_ #[26,26] 26 #[v,.slice (some ⟨w.heap.size,0,none⟩) 1 1]).run Tryz.prog (w.alloc (.cells #[.string x] 9))=.ok (.slice (some ⟨g,0,none⟩) (l.length+1) cap) w' ∧
      Hid (RowT w' B (.slice (some ⟨g,0,none⟩) (l.length+1) cap) (l++[x]))/\Hid (w.grownBy w' v.ownBlock)/\Hid (B<=g/\g<w'.heap.size):=by
  obtain ⟨i0,hi,hz0,hz1,hz2⟩:=info_parts infoStr;have h':w.ownsRow B 9 1 v l.length (l.map Value.string):=h;have hsz:(w.alloc (.cells #[.string x] 9 (0,0))).heap.size=w.heap.size+1:=by simp
  obtain ⟨v',w',hr,ho,hg,_⟩:=run_append_own (P:=Tryz.prog) (w.alloc (.cells #[.string x] 9 (0,0))) B 26 26 9 i0 (.string ⟨#[]⟩) 1 16 Tryz.underlying26 hi hz0 hz1 hz2 rfl (by decide) v l.length (l.map Value.string) (h'.alloc _) ⟨w.heap.size,0,none⟩ 1 1 [.string x] rfl (World.news_of_block (cs:=#[.string x]) (t:=9) (fr:=(0,0)) (heap_alloc_new w _)) (fun u hu=>by simp at hu;subst hu;rfl) (by unfold maxLen;omega) (by omega) (by omega);obtain ⟨g,c,rfl⟩:∃ g c,v'=.slice (some ⟨g,0,none⟩) (l.length+1) c:=by
    rcases ho.2 with ⟨rfl,e0⟩ | ⟨g,cap,cur,rfl,_⟩
    · omega
    · exact ⟨_,_,rfl⟩
  have hgg:=ho.lt g (by simp [Value.ownBlock]);refine ⟨g,c,w',hr,?_,⟨hg.os,hg.tape,hg.output,Nat.le_trans (by omega) hg.size,fun k hk hne=>(hg.block k (by omega) hne).trans (Below.heap_alloc _ _ _ hk)⟩,hgg⟩;unfold Hid RowT;rw [List.length_append,List.map_append];exact ho
theorem wpList_append_run {P:Program} {w w':World} {ops:Array Oper} {rest:List Oper} {o:Oper} {a:Act} {Q:Exit->Act->World->Prop} {v':Value} (v1 v2:Value) (t:TypeId) (hr:(Builtin.append_ #[t,t] o.type #[v1,v2]).run P w=.ok v' w') (hgd:o.guard=none) (s x:Operand)
    (ho:o.op=.call { callee:=.builtin .append,args:=#[s,x],argTypes:=#[t,t] }) (hs:a.eval s=v1) (hx:a.eval x=v2) (h:wpList P ops Q rest (a.put o.dst v') w'):wpList P ops Q (o::rest) a w:=by
  refine wpList_plain hgd fun K hK=>?_;unfold Oper.wp;simp [execOp,ho,resolve,invoke,builtin,hs,hx,hr,Result.andThen]
  exact hK _ _ h
def adr0 (ks:List ByteArray) (ty nm:ByteArray):Adr:=⟨ks,ty,nm,0,0,⟨#[]⟩⟩
def zeroA:Adr:=adr0 [] ⟨#[]⟩ ⟨#[]⟩
theorem setA {w:World} {b:Nat} {pa:Option Addr} {pc:Nat} {a:Adr} {T:TypeId} (h:w.heap[b]?=some (.cells (arrA pa pc a) T (0,0))) (pa':Option Addr) (pc':Nat) (c:Adr):((((((w.setCell ⟨b,0,none⟩ (.slice pa' c.path.length pc')).setCell ⟨b,1,none⟩ (.string c.type)).setCell ⟨b,2,none⟩ (.string c.name)).setCell ⟨b,3,none⟩ (.int .i64 c.key)).setCell ⟨b,4,none⟩ (.int .u64 c.place)).setCell ⟨b,5,none⟩ (.string c.word)).heap[b]?=some (.cells (arrA pa' pc' c) T (0,0)):=by
  have h0:=heap_set_same h (i:=0) (.slice pa' c.path.length pc');have h1:=heap_set_same h0 (i:=1) (.string c.type);have h2:=heap_set_same h1 (i:=2) (.string c.name);have h3:=heap_set_same h2 (i:=3) (.int .i64 c.key);have h4:=heap_set_same h3 (i:=4) (.int .u64 c.place);have h5:=heap_set_same h4 (i:=5) (.string c.word);rw [h5];simp [arrA]
theorem gb6 (w:World) (b:Nat) (x0 x1 x2 x3 x4 x5:Value):w.grownBy ((((((w.setCell ⟨b,0,none⟩ x0).setCell ⟨b,1,none⟩ x1).setCell ⟨b,2,none⟩ x2).setCell ⟨b,3,none⟩ x3).setCell ⟨b,4,none⟩ x4).setCell ⟨b,5,none⟩ x5) (some b):=
  ((((((gb_set _ _ _ _).trans (gb_set _ _ _ _)).trans (gb_set _ _ _ _)).trans (gb_set _ _ _ _)).trans (gb_set _ _ _ _)).trans (gb_set _ _ _ _))
theorem adr_frozen {w:World} {b:Nat} {pa:Option Addr} {pc:Nat} {a:Adr} (h:w.heap[b]?=some (.cells (arrA pa pc a) 67 (0,0))):w.frozen? ⟨b,0,none⟩=false/\w.frozen? ⟨b,1,none⟩=false/\w.frozen? ⟨b,2,none⟩=false/\w.frozen? ⟨b,3,none⟩=false/\w.frozen? ⟨b,4,none⟩=false/\w.frozen? ⟨b,5,none⟩=false:=
  ⟨frozen_of h 0,frozen_of h 1,frozen_of h 2,frozen_of h 3,frozen_of h 4,frozen_of h 5⟩
def APost (r:Option Adr) (w:World) (e:Ending) (w':World):Prop:=
  ∃ pa pc,e=.returned (.tuple #[wordsA pa pc (r.getD zeroA),.int .i64 (if r.isSome then 0 else 3)])/\IsTexts w' (fun b=>w.heap.size<=b) pa (r.getD zeroA).path/\Below w.heap.size w w'
structure TabsP (w:World):Prop where
  t:Tabs w
  p:Jdec.Pow10 w
  e:ErrT w
theorem TabsP.stays {w w':World} (T:TabsP w) (h:Below w.heap.size w w'):TabsP w':=⟨T.t.stays h,T.p.stays h,T.e.stays h⟩
theorem zero_new (w:World):∃ w1,w.alloc (.cells #[.slice none 0 0,.string ⟨#[]⟩,.string ⟨#[]⟩,.int .i64 0,.int .u64 0,.string ⟨#[]⟩] 67)=w1/\Hid (w1.heap[w.heap.size]?=some (.cells (arrA none 0 zeroA) 67 (0,0)))/\Hid (Below w.heap.size w w1)/\Hid (w1.heap.size=w.heap.size+1):=
  ⟨_,rfl,heap_alloc_new _ _,(Below.refl _ _).alloc (Nat.le_refl _) _,by simp [Hid]⟩
set_option maxHeartbeats 4000000
def NPst (r:Option Nat) (w:World) (e:Ending) (w':World):Prop:=
  ∃ n:Nat,e=.returned (.tuple #[.int .u64 n,.bool r.isSome])/\(∀ m,r=some m->n=m)/\w=w'
theorem number_loop (s:ByteArray) (w:World) (h0:0<s.size) (hs:s.size<=20) (hno:noughts s.data.toList=false) (b1 b2:Bool) (hb1:((s[0].toNat:Int) == 48)=b1) (hb2:decide ((1:Int)<(s.size:Int))=b2) (hb2':decide (1<s.size)=b2) (hbb:(b1 && b2)=false):Calls Tryz.prog 113 #[.string s] w (NPst (numB s.data.toList) w):=by
  have hl:s.data.toList.length=s.size:=by simp
  have HL:=Hid.out (p:=Hid _) hl;have qn:s≠ByteArray.empty:=fun e=>by rw [e] at h0;exact absurd h0 (by decide)
  have t0:((s.size:Int) == 0)=false:=by rw [beq_eq_false_iff_ne];omega
  have t1:decide ((20:Int)<(s.size:Int))=false:=by rw [decide_eq_false_iff_not];omega
  have t1':decide (20<s.size)=false:=by rw [decide_eq_false_iff_not];omega
  have HN:Hid (numB s.data.toList=numR 0 s.data.toList):=by rw [Hid,numB,hno];rfl
  clear hl hno;cases b1 <;> cases b2
  case true.true=>cases hbb
  all_goals
    clear hbb;go_enter Tryz.func113,Tryz.ntmps113
    go_wp2_with fail
    go_loopw [4,5] (fun p4 p5 wr=>w=wr/\∃ (i:Nat) (a:Int),p4=.int .u64 a/\p5=.int .i64 i/\i<=s.size/\Hid (∃ n:Nat,a=(n:Int)/\n<=18446744073709551615/\numR 0 s.data.toList=numR n (s.data.toList.drop i))) (fun _ p _=>s.size-(intOf p).toNat)
    case atStart=>exact ⟨rfl,0,0,rfl,rfl,Nat.zero_le _,0,rfl,by omega,rfl⟩
    case round=>
      obtain ⟨rfl,i,a,rfl,rfl,hi,hN⟩:=hrel;by_cases hlt:i<s.size
      · have hlen:i<s.data.toList.length:=by rw [HL.out];exact hlt
        have hdr:s.data.toList.drop i=s[i]::s.data.toList.drop (i+1):=by rw [<-List.getElem_cons_drop hlen];rfl
        have HDR:=Hid.out (p:=Hid _) hdr;have hsi:Hid (s[i].toNat<256):=UInt8.toNat_lt _;clear hdr;by_cases c1:s[i].toNat<48
        · have d1:decide ((s[i].toNat:Int)<48)=true:=by rw [decide_eq_true_eq];omega
          have d1':decide (s[i].toNat<48)=true:=by rw [decide_eq_true_eq];omega
          have HF:Hid (numB s.data.toList=none):=by
            obtain ⟨n,_,_,h⟩:=hN.out;rw [Hid,HN.out,h,HDR.out,numR,if_neg (by omega)]
          clear c1;go_wp2_with fail
          go_ret2
          exact ⟨0,by rw [HF.out] <;> rfl,(fun m h=>by rw [HF.out] at h;cases h),rfl⟩
        have d1:decide ((s[i].toNat:Int)<48)=false:=by rw [decide_eq_false_iff_not];omega
        have d1':decide (s[i].toNat<48)=false:=by rw [decide_eq_false_iff_not];omega
        by_cases c2:57<s[i].toNat
        · have d2:decide ((57:Int)<(s[i].toNat:Int))=true:=by rw [decide_eq_true_eq];omega
          have d2':decide (57<s[i].toNat)=true:=by rw [decide_eq_true_eq];omega
          have HF:Hid (numB s.data.toList=none):=by
            obtain ⟨n,_,_,h⟩:=hN.out;rw [Hid,HN.out,h,HDR.out,numR,if_neg (by omega)]
          clear c1 c2;go_wp2_with fail
          go_ret2
          exact ⟨0,by rw [HF.out] <;> rfl,(fun m h=>by rw [HF.out] at h;cases h),rfl⟩
        have d2:decide ((57:Int)<(s[i].toNat:Int))=false:=by rw [decide_eq_false_iff_not];omega
        have d2':decide (57<s[i].toNat)=false:=by rw [decide_eq_false_iff_not];omega
        obtain ⟨d,hd⟩:∃ d:Int,(s[i].toNat:Int)-48=d:=⟨_,rfl⟩;have hd1:IntKind.u8.wrap d=d:=by rw [IntKind.wrap_u8];omega
        have hd2:IntKind.u64.wrap d=d:=by rw [IntKind.wrap_u64];omega
        obtain ⟨q,hq⟩:∃ q:Int,IntKind.u64.wrap (18446744073709551615-d)=q:=⟨_,rfl⟩;obtain ⟨t,ht⟩:∃ t:Int,IntKind.u64.wrap (q.tdiv 10)=t:=⟨_,rfl⟩;obtain ⟨z,hz⟩:∃ z:Int,IntKind.u64.wrap (IntKind.u64.wrap (a*10)+d)=z:=⟨_,rfl⟩;have hsi':=hsi.out;have hqv:q=18446744073709551615-d:=by rw [<-hq,IntKind.wrap_u64];omega
        have htv:t=(18446744073709551615-d) / 10:=by
          rw [<-ht,hqv,Int.tdiv_eq_ediv_of_nonneg (by omega),IntKind.wrap_u64];omega
        obtain ⟨n,han,hnm,hnr⟩:=hN.out;have hstep:numR 0 s.data.toList=if 18446744073709551615<n*10+(s[i].toNat-48) then none else numR (n*10+(s[i].toNat-48)) (s.data.toList.drop (i+1)):=by
          rw [hnr,HDR.out,numR,if_pos (by omega)]
        by_cases hb:t<a
        · have d3:decide (t<a)=true:=by rw [decide_eq_true_eq];exact hb
          have HF:Hid (numB s.data.toList=none):=by rw [Hid,HN.out,hstep,if_pos (by omega)]
          clear c1 c2 hqv htv han hnm hnr hstep hsi' hb hz;go_wp2_with fail
          go_ret2
          exact ⟨0,by rw [HF.out] <;> rfl,(fun m h=>by rw [HF.out] at h;cases h),rfl⟩
        · have d3:decide (t<a)=false:=by rw [decide_eq_false_iff_not];exact hb
          have HF:Hid (∃ n:Nat,z=(n:Int)/\n<=18446744073709551615/\numR 0 s.data.toList=numR n (s.data.toList.drop (i+1))):=by
            refine ⟨n*10+(s[i].toNat-48),?_,by omega,by rw [hstep,if_neg (by omega)]⟩;rw [<-hz,IntKind.wrap_u64,IntKind.wrap_u64];omega
          clear c1 c2 hqv htv han hnm hnr hstep hsi' hb;go_wp2_with fail
          go_roundw
          case rel=>exact ⟨trivial,i+1,z,rfl,by go_num,by omega,HF.out⟩
          case measure=>simp [intOf];omega
      · obtain rfl:i=s.size:=by omega
        obtain ⟨n,rfl,_,hnr⟩:=hN.out;have HF:Hid (numB s.data.toList=some n):=by
          rw [Hid,HN.out,hnr,List.drop_of_length_le (by rw [HL.out];exact Nat.le_refl _)];rfl
        clear hnr;go_wp2_with fail
        go_ret2
        exact ⟨n,by rw [HF.out] <;> rfl,(fun m h=>by rw [HF.out] at h;injection h),rfl⟩
theorem number_any (s:ByteArray) (w:World) (hs:s.size<=1048576):Calls Tryz.prog 113 #[.string s] w (NPst (numB s.data.toList) w):=by
  have hl:s.data.toList.length=s.size:=by simp
  by_cases h0:s.size=0
  · have HF:Hid (numB s.data.toList=none):=by
      rw [Hid,List.length_eq_zero_iff.1 (hl.trans h0)];rfl
    have t0:((s.size:Int) == 0)=true:=by rw [h0];rfl
    have t0':s=ByteArray.empty:=by
      have:=Jdec.str_back s;rw [List.length_eq_zero_iff.1 (hl.trans h0)] at this;exact this.symm
    subst t0';clear h0 hl;go_enter Tryz.func113,Tryz.ntmps113
    go_wp2_with fail
    go_ret2
    exact ⟨0,by rw [HF.out] <;> rfl,(fun m h=>by rw [HF.out] at h;cases h),rfl⟩
  have h0':0<s.size:=by omega
  have qn:s≠ByteArray.empty:=fun e=>by rw [e] at h0';exact absurd h0' (by decide)
  by_cases h20:20<s.size
  · have HF:Hid (numB s.data.toList=none):=numB_long (by omega);have t0:((s.size:Int) == 0)=false:=by rw [beq_eq_false_iff_ne];omega
    have t1:decide ((20:Int)<(s.size:Int))=true:=by rw [decide_eq_true_eq];omega
    have t1':decide (20<s.size)=true:=by rw [decide_eq_true_eq];omega
    clear h0 hl h20;go_enter Tryz.func113,Tryz.ntmps113
    go_wp2_with fail
    go_ret2
    exact ⟨0,by rw [HF.out] <;> rfl,(fun m h=>by rw [HF.out] at h;cases h),rfl⟩
  have hna:=noughts_at h0'
  cases hno:noughts s.data.toList with
  | false=>exact number_loop s w h0' (by omega) hno _ _ rfl (by rw [decide_eq_decide];omega) rfl (by rw [<-hna,hno])
  | true=>
    rw [hno] at hna;have h1:=hna.symm;rw [Bool.and_eq_true,decide_eq_true_eq] at h1;have t1:((s[0].toNat:Int) == 48)=true:=h1.1;have t2:decide ((1:Int)<(s.size:Int))=true:=by rw [decide_eq_true_eq];omega
    have t3:decide (1<s.size)=true:=by rw [decide_eq_true_eq];omega
    have t0:((s.size:Int) == 0)=false:=by rw [beq_eq_false_iff_ne];omega
    have t4:decide ((20:Int)<(s.size:Int))=false:=by rw [decide_eq_false_iff_not];omega
    have t4':decide (20<s.size)=false:=by rw [decide_eq_false_iff_not];omega
    have HF:Hid (numB s.data.toList=none):=by rw [Hid,numB,hno];rfl
    clear hna hno h1 h20 hl;go_enter Tryz.func113,Tryz.ntmps113
    go_wp2_with fail
    go_ret2
    exact ⟨0,by rw [HF.out] <;> rfl,(fun m h=>by rw [HF.out] at h;cases h),rfl⟩
def lists (ps:List ByteArray):List (List UInt8):=ps.map fun p=>p.data.toList
def PtPost (s:ByteArray) (w:World) (e:Ending) (w':World):Prop:=
  ∃ pa pc ps,e=.returned (.slice pa ps.length pc)/\lists ps=partsB s.data.toList/\RowT w' w.heap.size (.slice pa ps.length pc) ps/\Below w.heap.size w w'/\(∀ x∈ps,x.size<=s.size)/\ps.length<=s.size+1
def PtInv (s:ByteArray) (a i:Nat) (ps:List ByteArray):Prop:=
  ps.length<=i/\(∀ x∈ps,x.size<=s.size)/\(i=s.size+1/\lists ps=partsB s.data.toList∨a<=i/\i<=s.size/\lists ps++partsB (s.data.toList.drop a)=partsB s.data.toList/\∀ c∈(s.data.toList.drop a).take (i-a),c≠46)
theorem ext_take (s:ByteArray) (a i:Nat) (h:a<=i):(s.extract a i).data.toList=(s.data.toList.drop a).take (i-a):=by
  rw [ByteArray.data_extract,Array.toList_extract,List.extract_eq_take_drop]
theorem pt_put {s:ByteArray} {a i:Nat} {ps:List ByteArray} (h:PtInv s a i ps) (hi:i<=s.size) (hd:i=s.size∨s.data.toList[i]?=some 46):PtInv s (i+1) (i+1) (ps++[s.extract a i]):=by
  obtain ⟨h1,h2,h3⟩:=h;rcases h3 with ⟨h3,_⟩ | ⟨h3,h4,h5,h6⟩
  · omega
  have hl:s.data.toList.length=s.size:=by simp
  have hx:=ext_take s a i h3;have hes:(s.extract a i).size<=s.size:=by rw [ByteArray.size_extract];omega
  refine ⟨by rw [List.length_append,List.length_singleton];omega,?_,?_⟩
  · intro x hx
    rcases List.mem_append.1 hx with hx | hx
    · exact h2 x hx
    · rw [List.mem_singleton.1 hx];exact hes
  have hlp:lists (ps++[s.extract a i])=lists ps++[(s.extract a i).data.toList]:=by simp [lists]
  rcases hd with rfl | hd
  · left
    refine ⟨rfl,?_⟩;have hall:(s.data.toList.drop a).take (s.size-a)=s.data.toList.drop a:=List.take_of_length_le (by rw [List.length_drop];omega);rw [hall] at h6 hx;rw [hlp,hx,<-h5,partsB_end _ h6]
  · right
    have hlt:i<s.data.toList.length:=by
      obtain ⟨h,_⟩:=List.getElem?_eq_some_iff.1 hd;exact h
    refine ⟨Nat.le_refl _,by omega,?_,by simp⟩;have hsp:s.data.toList.drop a=(s.data.toList.drop a).take (i-a)++46::s.data.toList.drop (i+1):=by
      conv=>lhs;rw [<-List.take_append_drop (i-a) (s.data.toList.drop a)]
      congr 1
      rw [List.drop_drop,show a+(i-a)=i by omega,<-List.getElem_cons_drop hlt]
      congr 1
      have:=List.getElem?_eq_getElem hlt;rw [hd] at this;injection this with this
      exact this.symm
    rw [hlp,hx,<-h5];conv=>rhs;rw [hsp,partsB_at _ _ h6]
    simp
theorem pt_on {s:ByteArray} {a i:Nat} {ps:List ByteArray} (h:PtInv s a i ps) (hi:i<s.size) (hd:s.data.toList[i]?≠some 46):PtInv s a (i+1) ps:=by
  obtain ⟨h1,h2,h3⟩:=h;have hl:s.data.toList.length=s.size:=by simp
  rcases h3 with ⟨h3,_⟩ | ⟨h3,h4,h5,h6⟩
  · omega
  refine ⟨by omega,h2,.inr ⟨by omega,by omega,h5,?_⟩⟩;intro c hc
  rw [show i+1-a=(i-a)+1 by omega,List.take_add_one,List.mem_append] at hc;rcases hc with hc | hc
  · exact h6 c hc
  · rw [List.getElem?_drop,show a+(i-a)=i by omega] at hc;intro e
    subst e;exact hd (by simpa using hc)
theorem byte_at {s:ByteArray} {i:Nat} (h:i<s.size) (c:UInt8):s.data.toList[i]?=some c↔s[i].toNat=c.toNat:=by
  have hl:i<s.data.toList.length:=by simpa using h
  rw [List.getElem?_eq_getElem hl];have:s.data.toList[i]=s[i]:=rfl;rw [this];constructor
  · intro h;injection h with h;rw [h]
  · intro h;rw [UInt8.toNat_inj.1 h]
theorem parts_any (s:ByteArray) (w:World) (hs:s.size<=1000000):Calls Tryz.prog 112 #[.string s] w (PtPost s w):=by
  go_enter Tryz.func112,Tryz.ntmps112
  go_wp2_with fail
  go_loopw [3,4,5] (fun p3 p4 p5 wr=>∃ (ps:List ByteArray) (pa:Option Addr) (pc a i:Nat),p3=.slice pa ps.length pc/\p4=.int .i64 a/\p5=.int .i64 i/\i<=s.size+1/\a<=i/\Hid (PtInv s a i ps)/\Hid (RowT wr w.heap.size (.slice pa ps.length pc) ps)/\Hid (Below w.heap.size w wr)) (fun _ _ p _=>s.size+1-(intOf p).toNat)
  case atStart=>exact ⟨[],none,0,0,0,rfl,rfl,rfl,by omega,Nat.le_refl _,⟨Nat.le_refl _,(fun x hx=>by cases hx),.inr ⟨Nat.le_refl _,Nat.zero_le _,rfl,by simp⟩⟩,RowT.nil _ _,Below.refl _ _⟩
  case round=>
    obtain ⟨ps,pa,pc,a,i,rfl,rfl,rfl,hi,hai,hI,hR,hB⟩:=hrel;by_cases hle:i<=s.size
    · have t0:decide ((i:Int)<=(s.size:Int))=true:=by rw [decide_eq_true_eq];omega
      have t0':decide (i<=s.size)=true:=by rw [decide_eq_true_eq];omega
      have hpl:ps.length<=i:=hI.out.1;have hwr:=hB.out.size;obtain ⟨x,hx⟩:∃ x,s.extract a i=x:=⟨_,rfl⟩;have hsl:∀ wx,(Instr.slice 9 (.string s) (some (.int .i64 a)) (some (.int .i64 i)) none).run Tryz.prog wx=.ok (.string x) wx:=fun wx=>by
        rw [run_slice_string (P:=Tryz.prog) wx 9 s .i64 .i64 a i Tryz.underlying9 (by omega) (by omega) (by omega),Int.toNat_natCast,Int.toNat_natCast,hx]
      obtain ⟨g,cap,w2,hr,R2,G2,hg2⟩:=app_one wr w.heap.size (.slice pa ps.length pc) ps x hR.out (by omega) hwr;have HR:=Hid.out (p:=Hid _) hr;have B2:Hid (Below w.heap.size w w2):=hB.out.grown G2.out hwr (fun k hk=>(World.ownsRow.lt hR.out k hk).1);by_cases hend:i=s.size∨s.data.toList[i]?=some 46
      · have HP:Hid (PtInv s (i+1) (i+1) (ps++[x])):=by rw [<-hx];exact pt_put hI.out hle hend
        have HRW:Hid (RowT w2 w.heap.size (.slice (some ⟨g,0,none⟩) (ps++[x]).length cap) (ps++[x])):=by
          rw [List.length_append,List.length_singleton];exact R2.out
        have hlen:(ps++[x]).length=ps.length+1:=by simp
        have hcase:(i=s.size)∨(i<s.size/\∃ h:i<s.size,s[i].toNat=46):=by
          by_cases h:i=s.size
          · exact .inl h
          · have h':i<s.size:=by omega
            exact .inr ⟨h',h',(byte_at h' 46).1 (hend.resolve_left h)⟩
        clear hr hx hend hpl t0';rcases hcase with rfl | ⟨hlt,_,hc⟩
        · have t1:((s.size:Int) == (s.size:Int))=true:=by simp
          go_wp2_with (at_builtin;refine wpList_append_run (.slice pa ps.length pc) (.slice (some ⟨wr.heap.size,0,none⟩) 1 1) 26 HR.out rfl _ _ rfl rfl rfl ?_)
          go_roundw
          case rel=>exact ⟨ps++[x],some ⟨g,0,none⟩,cap,s.size+1,s.size+1,by rw [hlen],by go_num,by go_num,by omega,Nat.le_refl _,HP.out,HRW.out,B2.out⟩
          case measure=>simp [intOf]
        · have t1:((i:Int) == (s.size:Int))=false:=by rw [beq_eq_false_iff_ne];omega
          have t2:((s[i].toNat:Int) == 46)=true:=by rw [hc];rfl
          clear hc;go_wp2_with (at_builtin;refine wpList_append_run (.slice pa ps.length pc) (.slice (some ⟨wr.heap.size,0,none⟩) 1 1) 26 HR.out rfl _ _ rfl rfl rfl ?_)
          go_roundw
          case rel=>exact ⟨ps++[x],some ⟨g,0,none⟩,cap,i+1,i+1,by rw [hlen],by go_num,by go_num,by omega,Nat.le_refl _,HP.out,HRW.out,B2.out⟩
          case measure=>simp [intOf];omega
      · have hlt:i<s.size:=by
          rcases Nat.lt_or_ge i s.size with h | h
          · exact h
          · exact absurd (.inl (by omega)) hend
        have HP:Hid (PtInv s a (i+1) ps):=pt_on hI.out hlt (fun e=>hend (.inr e));have t1:((i:Int) == (s.size:Int))=false:=by rw [beq_eq_false_iff_ne];omega
        have t2:((s[i].toNat:Int) == 46)=false:=by
          rw [beq_eq_false_iff_ne];intro e
          exact hend (.inr ((byte_at hlt 46).2 (by have:(46:UInt8).toNat=46:=rfl;omega)))
        clear hr hx hend hpl t0' HR R2 G2 B2 hsl hg2;go_wp2_with fail
        go_roundw
        case rel=>exact ⟨ps,pa,pc,a,i+1,rfl,rfl,by go_num,by omega,by omega,HP.out,hR.out,hB.out⟩
        case measure=>simp [intOf];omega
    · have hi1:i=s.size+1:=by omega
      have t0:decide ((i:Int)<=(s.size:Int))=false:=by rw [decide_eq_false_iff_not];omega
      have t0':decide (i<=s.size)=false:=by rw [decide_eq_false_iff_not];omega
      have HP:Hid (lists ps=partsB s.data.toList/\(∀ x∈ps,x.size<=s.size)/\ps.length<=s.size+1):=by
        obtain ⟨h1,h2,h3⟩:=hI.out;rcases h3 with ⟨_,h3⟩ | ⟨_,h3,_⟩
        · exact ⟨h3,h2,by omega⟩
        · omega
      clear hi1 hle;go_wp2_with fail
      go_ret
      exact ⟨pa,pc,ps,rfl,HP.out.1,hR.out,hB.out,HP.out.2⟩
def RPost (r:Option Adr) (w:World) (e:Ending) (w':World):Prop:=
  ∃ pa pc,e=.returned (.tuple #[wordsA pa pc (r.getD zeroA),.bool r.isSome])/\IsTexts w' (fun b=>w.heap.size<=b) pa (r.getD zeroA).path/\Below w.heap.size w w'
/-! ## Behind the key: pieces -/
end Go.Proofs.YtliekocamnklfaaGreatDoor.Addr
