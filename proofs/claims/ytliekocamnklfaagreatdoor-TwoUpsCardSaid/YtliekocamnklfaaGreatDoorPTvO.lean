/- tabulariumlaw20.TwoUps. (Written by gen/tvo.py.) -/
import Derived.Test.YtliekocamnklfaaGreatDoorPTvN
import Derived.Test.YtliekocamnklfaaGreatDoorPTvM
import Derived.Test.YtliekocamnklfaaGreatDoorPOnY
set_option linter.unusedVariables false
set_option linter.unusedSimpArgs false
set_option maxRecDepth 100000
set_option maxHeartbeats 8000000
namespace Go.Proofs.YtliekocamnklfaaGreatDoor.One
open Go.RowKit Strs Jdec Save Go.Proofs.YtliekocamnklfaaGreatDoor.Addr
theorem twoUps_any (ra:Raw) (t:JV) (w:World) (T:TabsP w) (hi:IsV w (fun _=>True) ra t) (hh:Held rb t):Calls Tryz.prog 5 #[ra.val] w (BoolP true w):=by
  obtain ⟨w2,hw2,V2,B2⟩:=own8 w ra;have H1:=Hid.out (p:=Hid _) (wakes20 w2);have HG:Hid (∀ w',Below w.heap.size w w'->Calls Tryz.prog 13 #[ra.val] w' fun e w''=>e=.returned (.bool (decide (t.room 1 400<0)))/\Below w'.heap.size w' w''):=fun w' h=>great_any rb (by decide) t hh ra _ w' (hi.behind h);have HI:Hid (∀ w',Below w.heap.size w w'->Hid (IsV w' (fun _=>True) ra t)):=fun w' h=>hi.behind h;have HT:Hid (∀ w',Below w.heap.size w w'->TabsP w'):=fun w' h=>T.stays h;obtain ⟨G,hG⟩:∃ G,decide (t.room 1 400<0)=G:=⟨_,rfl⟩;rw [hG] at HG;have HGG:=Hid.out (p:=Hid _) hG;clear hi hh T hG;unfold Raw.val at HG ⊢;obtain ⟨⟨x0,x1,x2,x3,x4,x5,x6,x7⟩,_⟩:=val_cells V2.out;go_enter Tryz.func5,Tryz.ntmps5
  go_wp2_with fail
  refine (Calls.mono H1.out ?_);rintro z w3 hz;obtain ⟨rfl,E3⟩:=hz.to;have B3:=bel B2 E3;have V3:=hst V2 E3;have H2:=Hid.out (p:=Hid _) (HG.out w3 B3.out);clear hz H1 HG x0 x1 x2 x3 x4 x5 x6 x7 hw2;obtain ⟨⟨x0,x1,x2,x3,x4,x5,x6,x7⟩,_⟩:=val_cells V3.out;go_wp2_with fail
  refine (Calls.mono H2.out ?_);rintro z w4 ⟨rfl,hb4⟩;have E4:=Hid.out (p:=Hid _) hb4;have B4:=bel B3 E4;have V4:=hst V3 E4;clear hb4 H2 x0 x1 x2 x3 x4 x5 x6 x7;cases G
  case true=>
    go_wp2_with fail
    go_ret
    exact ⟨rfl,B4.out⟩
  obtain ⟨hf,hm,hd⟩:=great_no t (of_decide_eq_false HGG.out);have HF:Hid (Fine t/\t.mass<=400/\t.deepN<=1000):=⟨hf,hm,by omega⟩;clear hf hm hd;obtain ⟨⟨x0,x1,x2,x3,x4,x5,x6,x7⟩,_⟩:=val_cells V4.out;by_cases hq:TwoQ t
  case pos=>
    have HQ:=Hid.out (p:=Hid _) hq;have H3:=Hid.out (p:=Hid _) (dup_yes t hq HF.out.1 (by have:=HF.out.2.1;omega) ra _ w4 (HI.out w4 B4.out).out (HT.out w4 B4.out));clear hq;unfold Raw.val at H3;go_wp2_with fail
    refine (Calls.mono H3.out ?_);rintro z w5 hz;obtain ⟨z0,rfl,I0,E5⟩:=hz.to;obtain ⟨w6,hw6,V6,E6⟩:=own8 w5 z0;have B6:=bel (bel B4 E5) E6;have V46:=hst (hst V4 E5) E6;have I6:=kp I0 E6;have HS:Hid (∀ W,Below w6.heap.size w6 W->W.heap[w5.heap.size]?=some (.cells z0.arr 29 (0,0))/\W.heap[w.heap.size]?=some (.cells ra.arr 29 (0,0))):=fun W hW=>⟨(hW.block _ (heap_lt V6.out)).trans V6.out,(hW.block _ (heap_lt V46.out)).trans V46.out⟩;clear hz H3 x0 x1 x2 x3 x4 x5 x6 x7;unfold Raw.val
    go_upto_region 6 with (fail)
    clear hw6
    go_cut [18] from 5 (fun p18 wx=>p18=.bool false/\Hid (Below w6.heap.size w6 wx))
    case first=>
      refine wp_region_held_drew (S:=(fun W=>W.heap[w5.heap.size]?=some (.cells z0.arr 29 (0,0))/\W.heap[w.heap.size]?=some (.cells ra.arr 29 (0,0)))) (by kernel_rfl) ?_ (fun hHeld=>?_)
      · exact HS.out _ (Below.refl _ _).drew
      obtain ⟨wd,hwd⟩:∃ x,w6.drew=x:=⟨_,rfl⟩;have D:Hid (Below w6.heap.size w6 wd):=by rw [<-hwd];exact (Below.refl _ _).drew
      rw [hwd] at hHeld ⊢;clear hwd
      repeat' first
        | (refine tkT 0 (v:=.agg #[.int .i64 ra.kind,.bool ra.is,.bool ra.neg,.string ra.dig,.int .i64 ra.exp,.string ra.str,.slice ra.ka ra.kn ra.kc,.slice ra.va ra.vn ra.vc]) (by decide +kernel) ?_ (hy:=by (intro w hs;obtain ⟨⟨e0,e1,e2,e3,e4,e5,e6,e7⟩,_⟩:=val_cells hs.2;clear hs;go_simp <;> with_reducible rfl)))
        | (refine tkT 2 (v:=.agg #[.int .i64 ra.kind,.bool ra.is,.bool ra.neg,.string ra.dig,.int .i64 ra.exp,.string ra.str,.slice ra.ka ra.kn ra.kc,.slice ra.va ra.vn ra.vc]) (by decide +kernel) ?_ (hy:=by (intro w hs;obtain ⟨⟨e0,e1,e2,e3,e4,e5,e6,e7⟩,_⟩:=val_cells hs.2;clear hs;go_simp <;> with_reducible rfl)))
        | (refine tkT 4 (by decide +kernel) ?_)
        | (refine rdT [1] (by decide +kernel) (by simp) ?_;try simp only [nz])
        | (refine rdT [3] (by decide +kernel) (by simp) ?_;try simp only [nz])
        | exact AllReadyH.nil
        | refine consT ?_ ?_
        | (refine (⟨fun K hK=>?_⟩:Tag 1 _)
           try simp only [nz]
           go_simp
           have HC:=saysT (dright_any t HF.out.1 (by have:=HF.out.2.1;omega) ra _ _ (HI.out _ (bel B6 D).out).out (HT.out _ (bel B6 D).out)) HQ.out;unfold Raw.val at HC
           go_at_call 21;refine (Calls.mono HC ?_)
           rintro z q hz;obtain ⟨rfl,E⟩:=hz.to;clear hz HC;replace D:=bel D E;(try replace DA:=bel DA E);(try replace I6:=kp I6 E);clear hHeld;refine hK.out _ _ ?_ (fun hHeld=>?_)
           · exact HS.out _ D.out
           clear hK K
           try simp only [nz])
        | (refine (⟨fun K hK=>?_⟩:Tag 3 _)
           try simp only [nz]
           go_simp
           have HC:=saysT (rtwo_right t HF.out.1 (by have:=HF.out.2.1;omega) HF.out.2.2 ra _ _ (HI.out _ (bel B6 D).out).out) HQ.out;unfold Raw.val at HC
           go_at_call 22;refine (Calls.mono HC ?_)
           rintro z q hz;obtain ⟨rfl,E⟩:=hz.to;clear hz HC;replace D:=bel D E;(try replace DA:=bel DA E);(try replace I6:=kp I6 E);clear hHeld;refine hK.out _ _ ?_ (fun hHeld=>?_)
           · exact HS.out _ D.out
           clear hK K
           try simp only [nz])
        | (refine dnT (by decide +kernel) ?_
           clear hHeld;go_wp2_with fail
           go_meet
           exact ⟨rfl,D⟩)
    case rest=>
    obtain ⟨rfl,E7⟩:=hcut;have B7:=bel B6 E7;have V7:=hst V46 E7;have H4:=Hid.out (p:=Hid _) (saysT (rtwo_right t HF.out.1 (by have:=HF.out.2.1;omega) HF.out.2.2 ra _ wc (HI.out wc B7.out).out) HQ.out);obtain ⟨⟨x0,x1,x2,x3,x4,x5,x6,x7⟩,_⟩:=val_cells V7.out;unfold Raw.val at H4;go_wp2_with fail
    refine (Calls.mono H4.out ?_);rintro z w8 hz;obtain ⟨rfl,E8⟩:=hz.to;have B8:=bel B7 E8;have I8:=kp (kp I6 E7) E8;have HS8:Hid (∀ W,Below w8.heap.size w8 W->W.heap[w5.heap.size]?=some (.cells z0.arr 29 (0,0))/\W.heap[w.heap.size]?=some (.cells ra.arr 29 (0,0))):=fun W hW=>HS.out W ((bel E7 E8).out.trans (hW.mono (bel E7 E8).out.size));clear hz H4 x0 x1 x2 x3 x4 x5 x6 x7;go_wp2_with fail
    refine wp_region_held_drew (S:=(fun W=>W.heap[w5.heap.size]?=some (.cells z0.arr 29 (0,0))/\W.heap[w.heap.size]?=some (.cells ra.arr 29 (0,0)))) (by kernel_rfl) ?_ (fun hHeld=>?_)
    · exact HS8.out _ (Below.refl _ _).drew
    obtain ⟨wd,hwd⟩:∃ x,w8.drew=x:=⟨_,rfl⟩;have D:Hid (Below w8.heap.size w8 wd):=by rw [<-hwd];exact (Below.refl _ _).drew
    rw [hwd] at hHeld ⊢;clear hwd;have I8:=kp I8 D
    repeat' first
      | (refine tkT 0 (by decide +kernel) ?_)
      | (refine tkT 1 (by decide +kernel) ?_)
      | (refine tkT 2 (by decide +kernel) ?_)
      | (refine tkT 3 (v:=.agg #[.int .i64 z0.kind,.bool z0.is,.bool z0.neg,.string z0.dig,.int .i64 z0.exp,.string z0.str,.slice z0.ka z0.kn z0.kc,.slice z0.va z0.vn z0.vc]) (by decide +kernel) ?_ (hy:=by (intro w hs;obtain ⟨⟨e0,e1,e2,e3,e4,e5,e6,e7⟩,_⟩:=val_cells hs.1;clear hs;go_simp <;> with_reducible rfl)))
      | (refine tkT 4 (v:=.agg #[.int .i64 ra.kind,.bool ra.is,.bool ra.neg,.string ra.dig,.int .i64 ra.exp,.string ra.str,.slice ra.ka ra.kn ra.kc,.slice ra.va ra.vn ra.vc]) (by decide +kernel) ?_ (hy:=by (intro w hs;obtain ⟨⟨e0,e1,e2,e3,e4,e5,e6,e7⟩,_⟩:=val_cells hs.2;clear hs;go_simp <;> with_reducible rfl)))
      | (refine tkT 7 (by decide +kernel) ?_)
      | (refine tkT 8 (by decide +kernel) ?_)
      | (refine tkT 9 (v:=.agg #[.int .i64 z0.kind,.bool z0.is,.bool z0.neg,.string z0.dig,.int .i64 z0.exp,.string z0.str,.slice z0.ka z0.kn z0.kc,.slice z0.va z0.vn z0.vc]) (by decide +kernel) ?_ (hy:=by (intro w hs;obtain ⟨⟨e0,e1,e2,e3,e4,e5,e6,e7⟩,_⟩:=val_cells hs.1;clear hs;go_simp <;> with_reducible rfl)))
      | (refine tkT 11 (by decide +kernel) ?_)
      | (refine tkT 12 (by decide +kernel) ?_)
      | (refine rdT [5] (by decide +kernel) (by simp) ?_;try simp only [nz])
      | (refine rdT [6] (by decide +kernel) (by simp) ?_;try simp only [nz])
      | (refine rdT [10] (by decide +kernel) (by simp) ?_;try simp only [nz])
      | exact AllReadyH.nil
      | refine consT ?_ ?_
      | (refine (⟨fun K hK=>?_⟩:Tag 5 _)
         try simp only [nz]
         go_simp
         have HC:=rup2_any t HQ.out HF.out.1 (by have:=HF.out.2.1;omega) ra _ _ (HI.out _ (bel B8 D).out).out;unfold Raw.val at HC
         go_at_call 23;refine (Calls.mono HC ?_)
         rintro z q hz;obtain ⟨z1,rfl,I1,E⟩:=hz.to;clear hz HC;unfold Raw.val;replace D:=bel D E;(try replace DA:=bel DA E);(try replace I1:=kp I1 E);(try replace I8:=kp I8 E);clear hHeld;refine hK.out _ _ ?_ (fun hHeld=>?_)
         · exact HS8.out _ D.out
         clear hK K
         try simp only [nz])
      | (refine (⟨fun K hK=>?_⟩:Tag 6 _)
         try simp only [nz]
         go_simp
         have HC:=same_val (up2_fine HF.out.1 HQ.out) (by have:=up2_mass HQ.out;have:=HF.out.2.1;omega) I8 I1;unfold Raw.val at HC
         go_at_call 17;refine (Calls.mono HC ?_)
         rintro z q hz;obtain ⟨rfl,E⟩:=hz.to;clear hz HC;replace D:=bel D E;(try replace DA:=bel DA E);(try replace I1:=kp I1 E);(try replace I8:=kp I8 E);clear hHeld;refine hK.out _ _ ?_ (fun hHeld=>?_)
         · exact HS8.out _ D.out
         clear hK K
         try simp only [nz])
      | (refine (⟨fun K hK=>?_⟩:Tag 10 _)
         try simp only [nz]
         go_simp
         have HC:=saysT (right_is 6000 (by decide) (up2J t) (held_of (up2_fine HF.out.1 HQ.out) (by have:=up2_mass HQ.out;have:=HF.out.2.1;omega)) (by have:=(up2_good HQ.out).2;omega) z0 _ _ I8.out) (up2_good HQ.out);unfold Raw.val at HC
         go_at_call 24;refine (Calls.mono HC ?_)
         rintro z q hz;obtain ⟨rfl,E⟩:=hz.to;clear hz HC;replace D:=bel D E;(try replace DA:=bel DA E);(try replace I1:=kp I1 E);(try replace I8:=kp I8 E);clear hHeld;refine hK.out _ _ ?_ (fun hHeld=>?_)
         · exact HS8.out _ D.out
         clear hK K
         try simp only [nz])
      | (refine dnT (by decide +kernel) ?_
         clear hHeld;go_wp2_with fail
         go_ret
         exact ⟨rfl,(bel B8 D).out⟩)
  case neg=>
    have HQ:=Hid.out (p:=Hid _) hq;have H3:=Hid.out (p:=Hid _) (dup_no t hq HF.out.1 (by have:=HF.out.2.1;omega) ra _ w4 (HI.out w4 B4.out).out (HT.out w4 B4.out));clear hq;unfold Raw.val at H3;go_wp2_with fail
    refine (Calls.mono H3.out ?_);rintro z w5 hz;obtain ⟨z0,rfl,I0,E5⟩:=hz.to;obtain ⟨w6,hw6,V6,E6⟩:=own8 w5 z0;have B6:=bel (bel B4 E5) E6;have V46:=hst (hst V4 E5) E6;have I6:=kp I0 E6;have HS:Hid (∀ W,Below w6.heap.size w6 W->W.heap[w.heap.size]?=some (.cells ra.arr 29 (0,0))):=fun W hW=>(hW.block _ (heap_lt V46.out)).trans V46.out;clear hz H3 x0 x1 x2 x3 x4 x5 x6 x7;unfold Raw.val
    go_upto_region 6 with (fail)
    clear hw6
    go_cut [18] from 5 (fun p18 wx=>p18=.bool false/\Hid (Below w6.heap.size w6 wx))
    case first=>
      refine wp_region_held_drew (S:=(fun W=>W.heap[w.heap.size]?=some (.cells ra.arr 29 (0,0)))) (by kernel_rfl) ?_ (fun hHeld=>?_)
      · exact HS.out _ (Below.refl _ _).drew
      obtain ⟨wd,hwd⟩:∃ x,w6.drew=x:=⟨_,rfl⟩;have D:Hid (Below w6.heap.size w6 wd):=by rw [<-hwd];exact (Below.refl _ _).drew
      rw [hwd] at hHeld ⊢;clear hwd
      repeat' first
        | (refine tkT 0 (v:=.agg #[.int .i64 ra.kind,.bool ra.is,.bool ra.neg,.string ra.dig,.int .i64 ra.exp,.string ra.str,.slice ra.ka ra.kn ra.kc,.slice ra.va ra.vn ra.vc]) (by decide +kernel) ?_ (hy:=by (intro w hs;obtain ⟨⟨e0,e1,e2,e3,e4,e5,e6,e7⟩,_⟩:=val_cells hs;clear hs;go_simp <;> with_reducible rfl)))
        | (refine tkT 2 (v:=.agg #[.int .i64 ra.kind,.bool ra.is,.bool ra.neg,.string ra.dig,.int .i64 ra.exp,.string ra.str,.slice ra.ka ra.kn ra.kc,.slice ra.va ra.vn ra.vc]) (by decide +kernel) ?_ (hy:=by (intro w hs;obtain ⟨⟨e0,e1,e2,e3,e4,e5,e6,e7⟩,_⟩:=val_cells hs;clear hs;go_simp <;> with_reducible rfl)))
        | (refine tkT 4 (by decide +kernel) ?_)
        | (refine rdT [1] (by decide +kernel) (by simp) ?_;try simp only [nz])
        | (refine rdT [3] (by decide +kernel) (by simp) ?_;try simp only [nz])
        | exact AllReadyH.nil
        | refine consT ?_ ?_
        | (refine (⟨fun K hK=>?_⟩:Tag 1 _)
           try simp only [nz]
           go_simp
           have HC:=saysF (dright_any t HF.out.1 (by have:=HF.out.2.1;omega) ra _ _ (HI.out _ (bel B6 D).out).out (HT.out _ (bel B6 D).out)) HQ.out;unfold Raw.val at HC
           go_at_call 21;refine (Calls.mono HC ?_)
           rintro z q hz;obtain ⟨rfl,E⟩:=hz.to;clear hz HC;replace D:=bel D E;(try replace DA:=bel DA E);(try replace I6:=kp I6 E);clear hHeld;refine hK.out _ _ ?_ (fun hHeld=>?_)
           · exact HS.out _ D.out
           clear hK K
           try simp only [nz])
        | (refine (⟨fun K hK=>?_⟩:Tag 3 _)
           try simp only [nz]
           go_simp
           have HC:=saysF (rtwo_right t HF.out.1 (by have:=HF.out.2.1;omega) HF.out.2.2 ra _ _ (HI.out _ (bel B6 D).out).out) HQ.out;unfold Raw.val at HC
           go_at_call 22;refine (Calls.mono HC ?_)
           rintro z q hz;obtain ⟨rfl,E⟩:=hz.to;clear hz HC;replace D:=bel D E;(try replace DA:=bel DA E);(try replace I6:=kp I6 E);clear hHeld;refine hK.out _ _ ?_ (fun hHeld=>?_)
           · exact HS.out _ D.out
           clear hK K
           try simp only [nz])
        | (refine dnT (by decide +kernel) ?_
           clear hHeld;go_wp2_with fail
           go_meet
           exact ⟨rfl,D⟩)
    case rest=>
    obtain ⟨rfl,E7⟩:=hcut;have B7:=bel B6 E7;have V7:=hst V46 E7;have H4:=Hid.out (p:=Hid _) (saysF (rtwo_right t HF.out.1 (by have:=HF.out.2.1;omega) HF.out.2.2 ra _ wc (HI.out wc B7.out).out) HQ.out);obtain ⟨⟨x0,x1,x2,x3,x4,x5,x6,x7⟩,_⟩:=val_cells V7.out;unfold Raw.val at H4;go_wp2_with fail
    refine (Calls.mono H4.out ?_);rintro z w8 hz;obtain ⟨rfl,E8⟩:=hz.to;have B8:=bel B7 E8;have V8:=hst (hst V6 E7) E8;have H5:=Hid.out (p:=Hid _) (same_val zero_fine (by rw [zero_mass];decide) (kp (kp I6 E7) E8) (Hid.out (p:=Hid _) (zero_is w8 (fun _=>True))));clear hz H4 x0 x1 x2 x3 x4 x5 x6 x7;obtain ⟨⟨x0,x1,x2,x3,x4,x5,x6,x7⟩,_⟩:=val_cells V8.out;unfold Raw.val Raw.zero at H5;go_wp2_with fail
    refine (Calls.mono H5.out ?_);rintro z w9 hz;obtain ⟨rfl,E9⟩:=hz.to;go_wp2_with fail
    go_ret
    exact ⟨rfl,(bel B8 E9).out⟩
theorem twoUps_arg (u0:Value) (x0:JV) (w:World) (w0:∃ ra:Raw,u0=ra.val/\IsV w (fun _=>True) ra x0/\Held rb x0) (T:TabsP w):Calls Tryz.prog 5 #[u0] w (BoolP true w):=by
  obtain ⟨ra,rfl,hi,hh⟩:=w0;exact twoUps_any ra x0 w T hi hh
end Go.Proofs.YtliekocamnklfaaGreatDoor.One
