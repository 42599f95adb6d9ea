/- From a row's condition to the tables' cells. -/
import Derived.Test.YtliekocamnklfaaGreatDoorRows
import Derived.Test.YtliekocamnklfaaGreatDoorPAdT
import Derived.Lib.LaidTab
import Derived.OpenShut
import Derived.Shelf.Vars
set_option linter.unusedVariables false
set_option linter.unusedSimpArgs false
set_option maxRecDepth 100000
namespace Go.Proofs.YtliekocamnklfaaGreatDoor.TabTu
open Go.RowKit Go.ChangeShapes Go.Proofs.YtliekocamnklfaaGreatDoor
structure LaidAt (w:World) (n:String) (d:DataW Unit):Prop where
  it:∃ g t cs fuel p,Tryz.prog.globalNamed n=some g/\(Tryz.prog.globals[g]?).map (·.type)=some t/\w.var? Tryz.prog n=some cs/\DataW.trod (fun _=>()) Tryz.prog w 0 (fun _=>true) false fuel t cs.toList=some (d,p)
theorem laid_at {w:World}:∀ {l:List (String × DataW Unit)} {ps:List MemPlace},DataW.LaidVars Tryz.prog w l ps->∀ n d,(n,d)∈l->LaidAt w n d
  | [],_,_,n,d,h=>by cases h
  | (m,e)::r,ps,⟨g,t,cs,fuel,p,q,h1,h2,h3,h4,h5,_⟩,n,d,h=>by
    rcases List.mem_cons.1 h with h | h
    · injection h with ha hb;subst ha hb;exact ⟨g,t,cs,fuel,p,h1,h2,h3,h4⟩
    · exact laid_at h5 n d h
def nm (i:Nat):String:=Rows.twoUpsRow.named.getD i ""
theorem gSizes:Tryz.prog.globalNamed (nm 0)=some 5:=by kernel_rfl
theorem gSteps:Tryz.prog.globalNamed (nm 6)=some 2:=by kernel_rfl
theorem sizes_dec:∀ n,n<256->(([1,1,1,1,1,1,1,1,1,1,1,1,1,1,1,1,0,0,0,0,0,0,0,0,2,2,2,2,3,3,4,0]:List Int).getD (n / 8) 0)=(Utf.sizeAt n:Int):=by decide +kernel
theorem sizes_of {w:World} (h:LaidAt w (nm 0) (Lib.tabData .i64 [1,1,1,1,1,1,1,1,1,1,1,1,1,1,1,1,0,0,0,0,0,0,0,0,2,2,2,2,3,3,4,0])):Utf.Sizes w:=by
  obtain ⟨g,t,cs,fuel,p,h1,h2,h3,h4⟩:=h.it;obtain rfl:=Option.some.inj (gSizes.symm.trans h1);obtain rfl:=Option.some.inj ((show (Tryz.prog.globals[5]?).map (·.type)=some 251 by kernel_rfl).symm.trans h2);have hc:=Lib.cells_of_tab Tryz.underlying251 Tryz.underlying3 (by kernel_rfl) (by kernel_rfl) h4;have hT:Lib.TabIs Tryz.prog w (nm 0) .i64 [1,1,1,1,1,1,1,1,1,1,1,1,1,1,1,1,0,0,0,0,0,0,0,0,2,2,2,2,3,3,4,0]:=by
    unfold Lib.TabIs;rw [h3,<-hc]
  refine ⟨fun n hn=>?_⟩;rw [hT.cell gSizes (n / 8) (by simp;omega),sizes_dec n hn]
def stepRow:List (List Int):=[[1,9,2,3,9,9,9],[9,9,2,3,9,9,9],[9,9,9,9,4,6,9],[9,9,3,3,4,6,9],[9,9,5,5,9,9,9],[9,9,5,5,9,6,9],[7,7,8,8,9,9,9],[9,9,8,8,9,9,9],[9,9,8,8,9,9,9]]
theorem steps_dec:∀ st,st<9->∀ sg,sg<7->((stepRow.getD st []).getD sg 0)=(Num.step st sg:Int):=by decide +kernel
theorem stepRow_len:∀ st,st<9->(stepRow.getD st []).length=7:=by decide
theorem getD_some {l:List Int} {i:Nat} (h:i<l.length):l[i]?=some (l.getD i 0):=by simp [List.getD_eq_getElem?_getD,h]
theorem steps_of {w:World} (h:LaidAt w (nm 6) (.agg (stepRow.map (Lib.tabData .i64)))):Num.Steps w:=by
  obtain ⟨g,t,cs,fuel,p,h1,h2,h3,h4⟩:=h.it;obtain rfl:=Option.some.inj (gSteps.symm.trans h1);obtain rfl:=Option.some.inj ((show (Tryz.prog.globals[2]?).map (·.type)=some 238 by kernel_rfl).symm.trans h2);obtain ⟨xs,m,_,hx,hl,hn,hget⟩:=DataW.trod_array Tryz.underlying238 h4;have hce:Tryz.prog.cellsOf 237=7:=by kernel_rfl
  injection hx with hx1 hx2
  injection hx1 with hx1
  refine ⟨fun st sg hst hsg=>?_⟩;have h5:=hget st hst;obtain ⟨y,hy⟩:∃ y,xs[st]?=some y:=⟨_,List.getElem?_eq_getElem (by omega)⟩;have h6:y.1=Lib.tabData .i64 (stepRow.getD st []):=by
    have:=congrArg (·[st]?) hx1;simp only [List.getElem?_map,hy,Option.map_some] at this
    have hs:stepRow[st]?=some (stepRow.getD st []):=by
      rw [List.getD_eq_getElem?_getD,List.getElem?_eq_getElem (show st<stepRow.length from hst)];rfl
    rw [hs] at this;exact (Option.some.inj this).symm
  rw [hy,hce] at h5;have hc:=Lib.cells_of_tab Tryz.underlying237 Tryz.underlying3 (by kernel_rfl) hce (p:=y.2) (zs:=stepRow.getD st []) (by rw [h5,<-h6]);rw [World.var?_cell gSteps h3 (st*7+sg)];have h7:=congrArg (·[sg]?) hc;simp only [List.getElem?_take,List.getElem?_drop,hsg,if_true,List.getElem?_map] at h7
  have h8:=getD_some (l:=stepRow.getD st []) (i:=sg) (by rw [stepRow_len st hst];exact hsg);rw [h8,steps_dec st hst sg hsg] at h7
  simpa using h7
theorem maxL_of {w:World} (h:w.ShapedOpen Tryz.prog):Lex.MaxL w:=
  ⟨cell_of_shapedOpen_int (g:=0) (t:=3) (zero:=#[.int .i64 0]) h (of_decide_eq_true (by kernel_rfl)) (by kernel_rfl) rfl (by kernel_rfl) (by kernel_rfl) Tryz.underlying3⟩
theorem gDbl:Tryz.prog.globalNamed (nm 10)=some 10:=by kernel_rfl
theorem dbl_of {w:World} (h:LaidAt w (nm 10) (.agg (Lex.doubles.map fun b=>.lit (.string b)))):Lex.Dbl w:=by
  obtain ⟨g,t,cs,fuel,p,h1,h2,h3,h4⟩:=h.it;obtain rfl:=Option.some.inj (gDbl.symm.trans h1);obtain rfl:=Option.some.inj ((show (Tryz.prog.globals[10]?).map (·.type)=some 293 by kernel_rfl).symm.trans h2);obtain ⟨xs,m,_,hx,hl,hn,hget⟩:=DataW.trod_array Tryz.underlying293 h4;have hce:Tryz.prog.cellsOf 9=1:=by kernel_rfl
  injection hx with hx1 hx2
  injection hx1 with hx1
  have key:∀ i (hi:i<6),w.cell? ⟨10,i,none⟩=some (.string ⟨(Lex.doubles[i]'hi).toArray⟩):=by
    intro i hi
    have h5:=hget i hi;obtain ⟨y,hy⟩:∃ y,xs[i]?=some y:=⟨_,List.getElem?_eq_getElem (by omega)⟩;have h6:y.1=.lit (.string (Lex.doubles[i]'hi)):=by
      have:=congrArg (·[i]?) hx1;simp only [List.getElem?_map,hy,Option.map_some] at this
      rw [List.getElem?_eq_getElem (show i<Lex.doubles.length from hi)] at this;exact (Option.some.inj this).symm
    rw [hy,hce] at h5;obtain ⟨s,hs1,hs2,_⟩:=DataW.trod_string Tryz.underlying9 h5;rw [World.var?_cell gDbl h3 i];have h7:=congrArg (·[0]?) hs1;simp only [List.getElem?_take,List.getElem?_drop,Nat.mul_one,Nat.add_zero] at h7
    have h8:s.data.toList=Lex.doubles[i]'hi:=by
      rw [hs2] at h6;injection h6 with h6
      injection h6
    rw [<-h8]
    simpa using h7
  exact ⟨key 0 (by decide),key 1 (by decide),key 2 (by decide),key 3 (by decide),key 4 (by decide),key 5 (by decide)⟩
theorem gPow:Tryz.prog.globalNamed (nm 3)=some 1:=by kernel_rfl
theorem pow_of {w:World} (h:LaidAt w (nm 3) (Lib.tabData .u64 Lib.pow10Tab)):Jdec.Pow10 w:=by
  obtain ⟨g,t,cs,fuel,p,h1,h2,h3,h4⟩:=h.it;obtain rfl:=Option.some.inj (gPow.symm.trans h1);obtain rfl:=Option.some.inj ((show (Tryz.prog.globals[1]?).map (·.type)=some 222 by kernel_rfl).symm.trans h2);have hc:=Lib.cells_of_tab Tryz.underlying222 Tryz.underlying32 (by kernel_rfl) (by kernel_rfl) h4;show w.var? Tryz.prog (nm 3)=_;rw [h3,<-hc]
theorem trod_iface {H:Type} {enc:TypeId × Value->H} {P:Program} {w:World} {base:Nat} {spare:Nat->Bool} {held:Bool} {fuel:Nat} {t:TypeId} {cs:List Value} {x:DataW H × List MemPlace} {ms:Array (String × TypeId)}
    (ht:P.underlying t=some (.interface ms)) (h:DataW.trod enc P w base spare held fuel t cs=some x):cs=[.nilIface]∨∃ te pe,cs=[.iface te pe]:=by
  cases fuel with
  | zero=>simp [DataW.trod] at h
  | succ m=>
    unfold DataW.trod at h;rw [ht] at h;split at h <;> simp_all
theorem gErr:Tryz.prog.globalNamed (nm 2)=some 4:=by kernel_rfl
theorem errT_of {w:World} {d:DataW Unit} (h:LaidAt w (nm 2) d):Addr.ErrT w:=by
  obtain ⟨g,t,cs,fuel,p,h1,h2,h3,h4⟩:=h.it;obtain rfl:=Option.some.inj (gErr.symm.trans h1);obtain rfl:=Option.some.inj ((show (Tryz.prog.globals[4]?).map (·.type)=some 140 by kernel_rfl).symm.trans h2);have hc:w.cell? ⟨4,0,none⟩=cs[0]?:=World.var?_cell gErr h3 0;have hl:cs[0]?=cs.toList[0]?:=by simp
  rcases trod_iface Tryz.underlying140 h4 with he | ⟨te,pe,he⟩
  · rw [hl,he] at hc;exact ⟨_,hc,.inl rfl⟩
  · rw [hl,he] at hc;exact ⟨_,hc,.inr ⟨te,pe,rfl⟩⟩
theorem tabsP {w:World} (h:laidMetH Tryz.prog Rows.twoUpsRow.laid w) (hs:w.ShapedOpen Tryz.prog):Addr.TabsP w:=by
  obtain ⟨ps,hv,_⟩:=(show laidMet Tryz.prog Rows.twoUpsRow.laid w from h);have l2:=laid_at hv _ _ (.tail _ (.tail _ (.head _)));have l4:=laid_at hv _ _ (.tail _ (.tail _ (.tail _ (.tail _ (.head _)))));have l6:=laid_at hv _ _ (.tail _ (.tail _ (.tail _ (.tail _ (.tail _ (.tail _ (.head _)))))));have l7:=laid_at hv _ _ (.tail _ (.tail _ (.tail _ (.tail _ (.tail _ (.tail _ (.tail _ (.head _))))))));have l8:=laid_at hv _ _ (.tail _ (.tail _ (.tail _ (.tail _ (.tail _ (.tail _ (.tail _ (.tail _ (.head _)))))))));exact ⟨⟨sizes_of l6,steps_of l7,maxL_of hs,dbl_of l8⟩,pow_of l2,errT_of l4⟩
end Go.Proofs.YtliekocamnklfaaGreatDoor.TabTu
