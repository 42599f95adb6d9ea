/- tabulariumlaw19.OneKeeps. (Written by gen/onz.py.) -/
import Derived.Test.YtancjnedgddobaaGreatDoorHOnY
set_option linter.unusedVariables false
set_option linter.unusedSimpArgs false
set_option maxRecDepth 100000
set_option maxHeartbeats 8000000
namespace Go.Proofs.YtancjnedgddobaaGreatDoor.One
open Go.RowKit Strs Jdec Save Go.Proofs.YtancjnedgddobaaGreatDoor.Addr
theorem field_kids (r:Raw):∀ w,Sem.run Tryz.prog (Instr.field 38 (.agg #[.int .i64 r.kind,.bool r.is,.bool r.neg,.string r.dig,.int .i64 r.exp,.string r.str,.slice r.ka r.kn r.kc,.slice r.va r.vn r.vc]) 5) w=.ok (.slice r.va r.vn r.vc) w:=fun _=>by kernel_rfl
theorem kid_first {w:World} {A:Nat->Prop} {r:Raw} {v:JV} {vs:List JV} (h:Hid (IsV w A r (listOf (v::vs)))):∃ (g o:Nat) (z:Raw),r.va=some ⟨g,o,none⟩/\r.vn=(v::vs).length/\Hid (CellsAt w g o z)/\Hid (IsV w A z v):=by
  obtain ⟨g,o,z,h1,h2,h3,h4⟩:=kid_list h 0 (by simp);exact ⟨g,o,z,h1,h2,by rw [Nat.zero_mul,Nat.add_zero] at h3;exact h3,h4⟩
theorem rof_val {t:JV} (hg:GoodQ t) (hm:t.mass<=3000) {ra:Raw} {A:Nat->Prop} {w:World} (hi:Hid (IsV w A ra t)) (x:ByteArray) {v:JV} (hv:got t x=v):Calls Tryz.prog 32 #[ra.val,.string x] w (ValP v A w):=by
  subst hv;exact (rof_any t hg hm ra A w hi.out x).mono fun e w' h=>h
theorem root_good {t:JV} (hq:OneQ t):GoodQ (rootV (got t kRes)):=
  GoodQ.kids (GoodQ.kids (up_good hq).1 (listOf [rootV (got t kRes)]) (by show _∈[_,_,_,_];simp)) _ (by show _∈[_];simp)
theorem root_mass (t:JV):(rootV (got t kRes)).mass<=(upJ t).mass:=
  Nat.le_trans (mass_kid (t:=listOf [rootV (got t kRes)]) (by show _∈[_];simp)) (mass_kid (t:=upJ t) (by show _∈[_,_,_,_];simp))
theorem oneKeeps_any (ra:Raw) (t:JV) (w:World) (T:TabsP w) (hi:IsV w (fun _=>True) ra t) (hh:Held rb t):Calls Tryz.prog 8 #[ra.val] w (BoolP true w):=by
  obtain ⟨w2,hw2,V2,B2⟩:=own8 w ra;have H1:=Hid.out (p:=Hid _) (wakes19 w2 (T.stays B2.out));have HG:Hid (∀ w',Below w.heap.size w w'->Calls Tryz.prog 22 #[ra.val] w' fun e w''=>e=.returned (.bool (decide (t.room 1 400<0)))/\Below w'.heap.size w' w''):=fun w' h=>great_any rb (by decide) t hh ra _ w' (hi.behind h);have HI:Hid (∀ w',Below w.heap.size w w'->Hid (IsV w' (fun _=>True) ra t)):=fun w' h=>hi.behind h;have HT:Hid (∀ w',Below w.heap.size w w'->TabsP w'):=fun w' h=>T.stays h;obtain ⟨G,hG⟩:∃ G,decide (t.room 1 400<0)=G:=⟨_,rfl⟩;rw [hG] at HG;have HGG:=Hid.out (p:=Hid _) hG;clear hi hh T hG;unfold Raw.val at HG ⊢;obtain ⟨⟨x0,x1,x2,x3,x4,x5,x6,x7⟩,_⟩:=val_cells V2.out;go_enter Tryz.func8,Tryz.ntmps8
  go_wp2_with fail
  refine (Calls.mono H1.out ?_);rintro z w3 hz;obtain ⟨rfl,E3⟩:=hz.to;have B3:=bel B2 E3;have V3:=hst V2 E3;have H2:=Hid.out (p:=Hid _) (HG.out w3 B3.out);clear hz H1 HG x0 x1 x2 x3 x4 x5 x6 x7 hw2;obtain ⟨⟨x0,x1,x2,x3,x4,x5,x6,x7⟩,_⟩:=val_cells V3.out;go_wp2_with fail
  refine (Calls.mono H2.out ?_);rintro z w4 ⟨rfl,hb4⟩;have E4:=Hid.out (p:=Hid _) hb4;have B4:=bel B3 E4;have V4:=hst V3 E4;clear hb4 H2 x0 x1 x2 x3 x4 x5 x6 x7;cases G
  case true=>
    go_wp2_with fail
    go_ret
    exact ⟨rfl,B4.out⟩
  obtain ⟨hf,hm,hd⟩:=great_no t (of_decide_eq_false HGG.out);have HF:Hid (Fine t/\t.mass<=400/\t.deepN<=1000):=⟨hf,hm,by omega⟩;clear hf hm hd;obtain ⟨⟨x0,x1,x2,x3,x4,x5,x6,x7⟩,_⟩:=val_cells V4.out;have H3:=Hid.out (p:=Hid _) (rone_right t HF.out.1 (by have:=HF.out.2.1;omega) HF.out.2.2 ra _ w4 (HI.out w4 B4.out).out);by_cases hq:OneQ t
  case neg=>
    have H4:=Hid.out (p:=Hid _) (isF H3.out hq);clear H3 hq;unfold Raw.val at H4;go_wp2_with fail
    refine (Calls.mono H4.out ?_);rintro z w5 hz;obtain ⟨rfl,E5⟩:=hz.to;go_wp2_with fail
    go_ret
    exact ⟨rfl,(bel B4 E5).out⟩
  have HQ:=Hid.out (p:=Hid _) hq;have H4:=Hid.out (p:=Hid _) (isT H3.out hq);clear H3 hq;unfold Raw.val at H4;go_wp2_with fail
  refine (Calls.mono H4.out ?_);rintro z w5 hz;obtain ⟨rfl,E5⟩:=hz.to;have B5:=bel B4 E5;have V5:=hst V4 E5;have H5:=Hid.out (p:=Hid _) (up_any HQ.out HF.out.1 (by have:=HF.out.2.1;omega) (HI.out w5 B5.out) (HT.out w5 B5.out));clear hz H4 x0 x1 x2 x3 x4 x5 x6 x7;obtain ⟨⟨x0,x1,x2,x3,x4,x5,x6,x7⟩,_⟩:=val_cells V5.out;unfold Raw.val at H5;go_wp2_with fail
  refine (Calls.mono H5.out ?_);rintro z w6 hz;obtain ⟨z0,rfl,I0,E6⟩:=hz.to;obtain ⟨w7,hw7,V7,E7⟩:=own8 w6 z0;have B7:=bel (bel B5 E6) E7;have V57:=hst (hst V5 E6) E7;have I7:=kp I0 E7;have UG:Hid (GoodQ (upJ t)/\(upJ t).mass<=3000):=⟨(up_good HQ.out).1,by have:=up_mass t;have:=HF.out.2.1;omega⟩;have TG:Hid (GoodQ t/\t.mass<=3000):=⟨HQ.out.1.1,by have:=HF.out.2.1;omega⟩;have RG:Hid (GoodQ (rootV (got t kRes))/\(rootV (got t kRes)).mass<=3000):=⟨root_good HQ.out,by have:=root_mass t;have:=UG.out.2;omega⟩;have H6:=Hid.out (p:=Hid _) (rof_val UG.out.1 UG.out.2 I7 kMod (up_modules t));clear hz H5 x0 x1 x2 x3 x4 x5 x6 x7;obtain ⟨⟨x0,x1,x2,x3,x4,x5,x6,x7⟩,_⟩:=val_cells V7.out;unfold Raw.val kMod at H6;unfold Raw.val;go_wp2_with fail
  refine (Calls.mono H6.out ?_);rintro z w8 hz;obtain ⟨z1,rfl,I1,E8⟩:=hz.to;obtain ⟨g1,o1,y1,hva,hvn,_,_⟩:=kid_first I1;simp only [List.length_cons,List.length_nil,Nat.zero_add] at hvn
  have B8:=bel B7 E8;have V8:=hst V7 E8;have V58:=hst V57 E8;have I8:=kp I7 E8;have hfl:=field_kids z1;rw [hva,hvn] at hfl;clear hz H6 x0 x1 x2 x3 x4 x5 x6 x7 I1 hw7;unfold Raw.val;go_wp2_with fail
  clear hfl hvn hva;have HS:Hid (∀ W,Below w8.heap.size w8 W->W.heap[w6.heap.size]?=some (.cells z0.arr 38 (0,0))/\W.heap[w.heap.size]?=some (.cells ra.arr 38 (0,0))):=fun W hW=>⟨(hW.block _ (heap_lt V8.out)).trans V8.out,(hW.block _ (heap_lt V58.out)).trans V58.out⟩;refine wp_region_held_drew (S:=(fun W=>W.heap[w6.heap.size]?=some (.cells z0.arr 38 (0,0))/\W.heap[w.heap.size]?=some (.cells ra.arr 38 (0,0)))) (by kernel_rfl) ?_ (fun hHeld=>?_)
  · exact HS.out _ (Below.refl _ _).drew
  obtain ⟨wd,hwd⟩:∃ x,w8.drew=x:=⟨_,rfl⟩;have D:Hid (Below w8.heap.size w8 wd):=by rw [<-hwd];exact (Below.refl _ _).drew
  rw [hwd] at hHeld ⊢;clear hwd;have I8:=kp I8 D
  repeat' first
    | (refine tkT 0 (v:=.agg #[.int .i64 z0.kind,.bool z0.is,.bool z0.neg,.string z0.dig,.int .i64 z0.exp,.string z0.str,.slice z0.ka z0.kn z0.kc,.slice z0.va z0.vn z0.vc]) (by decide +kernel) ?_ (hy:=by (intro w hs;obtain ⟨⟨e0,e1,e2,e3,e4,e5,e6,e7⟩,_⟩:=val_cells hs.1;clear hs;go_simp <;> with_reducible rfl)))
    | (refine tkT 6 (v:=.agg #[.int .i64 ra.kind,.bool ra.is,.bool ra.neg,.string ra.dig,.int .i64 ra.exp,.string ra.str,.slice ra.ka ra.kn ra.kc,.slice ra.va ra.vn ra.vc]) (by decide +kernel) ?_ (hy:=by (intro w hs;obtain ⟨⟨e0,e1,e2,e3,e4,e5,e6,e7⟩,_⟩:=val_cells hs.2;clear hs;go_simp <;> with_reducible rfl)))
    | (refine tkT 2 (v:=.slice (some ⟨g1,o1,none⟩) 1 z1.vc) (by decide +kernel) ?_ (hy:=by (intro w hs;clear hs;rw [<-HVA.out.1,<-show z1.vn=1 from HVA.out.2];kernel_rfl)))
    | (refine tkT 3 (by decide +kernel) ?_)
    | (refine tkT 9 (by decide +kernel) ?_)
    | (refine tkT 10 (v:=.agg #[.int .i64 z0.kind,.bool z0.is,.bool z0.neg,.string z0.dig,.int .i64 z0.exp,.string z0.str,.slice z0.ka z0.kn z0.kc,.slice z0.va z0.vn z0.vc]) (by decide +kernel) ?_ (hy:=by (intro w hs;obtain ⟨⟨e0,e1,e2,e3,e4,e5,e6,e7⟩,_⟩:=val_cells hs.1;clear hs;go_simp <;> with_reducible rfl)))
    | (refine tkT 12 (v:=.agg #[.int .i64 ra.kind,.bool ra.is,.bool ra.neg,.string ra.dig,.int .i64 ra.exp,.string ra.str,.slice ra.ka ra.kn ra.kc,.slice ra.va ra.vn ra.vc]) (by decide +kernel) ?_ (hy:=by (intro w hs;obtain ⟨⟨e0,e1,e2,e3,e4,e5,e6,e7⟩,_⟩:=val_cells hs.2;clear hs;go_simp <;> with_reducible rfl)))
    | (refine tkT 15 (by decide +kernel) ?_)
    | (refine tkT 16 (by decide +kernel) ?_)
    | (refine rdT [1] (by decide +kernel) (by simp) ?_;try simp only [nz])
    | (refine rdT [4] (by decide +kernel) (by simp) ?_;try simp only [nz])
    | (refine rdT [5] (by decide +kernel) (by simp) ?_;try simp only [nz])
    | (refine rdT [7] (by decide +kernel) (by simp) ?_;try simp only [nz])
    | (refine rdT [8] (by decide +kernel) (by simp) ?_;try simp only [nz])
    | (refine rdT [11] (by decide +kernel) (by simp) ?_;try simp only [nz])
    | (refine rdT [13] (by decide +kernel) (by simp) ?_;try simp only [nz])
    | (refine rdT [14] (by decide +kernel) (by simp) ?_;try simp only [nz])
    | exact AllReadyH.nil
    | refine consT ?_ ?_
    | (refine (⟨fun K hK=>?_⟩:Tag 1 _)
       try simp only [nz]
       go_simp
       have HC:=rof_val UG.out.1 UG.out.2 I8 kMod (up_modules t);unfold Raw.val at HC
       go_at_call 32;refine (Calls.mono HC ?_)
       rintro z q hz;obtain ⟨z1,rfl,I1,E⟩:=hz.to;obtain ⟨g1,o1,y1,hva,hvn,KK,IK⟩:=kid_first I1;simp only [List.length_cons,List.length_nil] at hvn;have HVA:=Hid.out (p:=Hid _) (And.intro hva hvn);clear hz HC hva hvn I1;unfold Raw.val;replace D:=bel D E;(try replace DA:=bel DA E);(try replace I8:=kp I8 E);(try replace I2:=kp I2 E);(try replace I3:=kp I3 E);(try replace IK:=kp IK E);(try replace I4:=kp I4 E);(try replace I5:=kp I5 E);clear hHeld;refine hK.out _ _ ?_ (fun hHeld=>?_)
       · exact HS.out _ D.out
       clear hK K
       try simp only [nz])
    | (refine (⟨fun K hK=>?_⟩:Tag 4 _)
       try simp only [nz]
       obtain ⟨u0,u1,u2,u3,u4,u5,u6,u7⟩:=KK.out.eight
       go_simp
       clear u0 u1 u2 u3 u4 u5 u6 u7 KK;clear hHeld;refine hK.out _ _ ?_ (fun hHeld=>?_)
       · exact HS.out _ D.out
       clear hK K
       try simp only [nz])
    | (refine (⟨fun K hK=>?_⟩:Tag 5 _)
       try simp only [nz]
       go_simp
       have HC:=rof_val RG.out.1 RG.out.2 IK kRes (root_res (got t kRes));unfold Raw.val at HC
       go_at_call 32;refine (Calls.mono HC ?_)
       rintro z q hz;obtain ⟨z2,rfl,I2,E⟩:=hz.to;clear hz HC;unfold Raw.val;replace D:=bel D E;(try replace DA:=bel DA E);(try replace I8:=kp I8 E);(try replace I2:=kp I2 E);(try replace I3:=kp I3 E);(try replace IK:=kp IK E);(try replace I4:=kp I4 E);(try replace I5:=kp I5 E);clear hHeld;refine hK.out _ _ ?_ (fun hHeld=>?_)
       · exact HS.out _ D.out
       clear hK K
       try simp only [nz])
    | (refine (⟨fun K hK=>?_⟩:Tag 7 _)
       try simp only [nz]
       go_simp
       have HC:=rof_val TG.out.1 TG.out.2 (HI.out _ (bel B8 D).out) kRes rfl;unfold Raw.val at HC
       go_at_call 32;refine (Calls.mono HC ?_)
       rintro z q hz;obtain ⟨z3,rfl,I3,E⟩:=hz.to;clear hz HC;unfold Raw.val;replace D:=bel D E;(try replace DA:=bel DA E);(try replace I8:=kp I8 E);(try replace I2:=kp I2 E);(try replace I3:=kp I3 E);(try replace IK:=kp IK E);(try replace I4:=kp I4 E);(try replace I5:=kp I5 E);clear hHeld;refine hK.out _ _ ?_ (fun hHeld=>?_)
       · exact HS.out _ D.out
       clear hK K
       try simp only [nz])
    | (refine (⟨fun K hK=>?_⟩:Tag 8 _)
       try simp only [nz]
       go_simp
       have HC:=same_val (got_fine HF.out.1 kRes) (by have:=got_mass t kRes;have:=HF.out.2.1;omega) I2 I3;unfold Raw.val at HC
       go_at_call 26;refine (Calls.mono HC ?_)
       rintro z q hz;obtain ⟨rfl,E⟩:=hz.to;clear hz HC;replace D:=bel D E;(try replace DA:=bel DA E);(try replace I8:=kp I8 E);(try replace I2:=kp I2 E);(try replace I3:=kp I3 E);(try replace IK:=kp IK E);(try replace I4:=kp I4 E);(try replace I5:=kp I5 E);clear hHeld;refine hK.out _ _ ?_ (fun hHeld=>?_)
       · exact HS.out _ D.out
       clear hK K
       try simp only [nz])
    | (refine (⟨fun K hK=>?_⟩:Tag 11 _)
       try simp only [nz]
       go_simp
       have HC:=rof_val UG.out.1 UG.out.2 I8 kSer (up_serial t);unfold Raw.val at HC
       go_at_call 32;refine (Calls.mono HC ?_)
       rintro z q hz;obtain ⟨z4,rfl,I4,E⟩:=hz.to;clear hz HC;unfold Raw.val;replace D:=bel D E;(try replace DA:=bel DA E);(try replace I8:=kp I8 E);(try replace I2:=kp I2 E);(try replace I3:=kp I3 E);(try replace IK:=kp IK E);(try replace I4:=kp I4 E);(try replace I5:=kp I5 E);clear hHeld;refine hK.out _ _ ?_ (fun hHeld=>?_)
       · exact HS.out _ D.out
       clear hK K
       try simp only [nz])
    | (refine (⟨fun K hK=>?_⟩:Tag 13 _)
       try simp only [nz]
       go_simp
       have HC:=rof_val TG.out.1 TG.out.2 (HI.out _ (bel B8 D).out) kSer rfl;unfold Raw.val at HC
       go_at_call 32;refine (Calls.mono HC ?_)
       rintro z q hz;obtain ⟨z5,rfl,I5,E⟩:=hz.to;clear hz HC;unfold Raw.val;replace D:=bel D E;(try replace DA:=bel DA E);(try replace I8:=kp I8 E);(try replace I2:=kp I2 E);(try replace I3:=kp I3 E);(try replace IK:=kp IK E);(try replace I4:=kp I4 E);(try replace I5:=kp I5 E);clear hHeld;refine hK.out _ _ ?_ (fun hHeld=>?_)
       · exact HS.out _ D.out
       clear hK K
       try simp only [nz])
    | (refine (⟨fun K hK=>?_⟩:Tag 14 _)
       try simp only [nz]
       go_simp
       have HC:=same_val (got_fine HF.out.1 kSer) (by have:=got_mass t kSer;have:=HF.out.2.1;omega) I4 I5;unfold Raw.val at HC
       go_at_call 26;refine (Calls.mono HC ?_)
       rintro z q hz;obtain ⟨rfl,E⟩:=hz.to;clear hz HC;replace D:=bel D E;(try replace DA:=bel DA E);(try replace I8:=kp I8 E);(try replace I2:=kp I2 E);(try replace I3:=kp I3 E);(try replace IK:=kp IK E);(try replace I4:=kp I4 E);(try replace I5:=kp I5 E);clear hHeld;refine hK.out _ _ ?_ (fun hHeld=>?_)
       · exact HS.out _ D.out
       clear hK K
       try simp only [nz])
    | (refine dnT (by decide +kernel) ?_
       clear hHeld;go_wp2_with fail
       go_ret
       exact ⟨rfl,(bel B8 D).out⟩)
theorem oneKeeps_arg (u0:Value) (x0:JV) (w:World) (w0:∃ ra:Raw,u0=ra.val/\IsV w (fun _=>True) ra x0/\Held rb x0) (T:TabsP w):Calls Tryz.prog 8 #[u0] w (BoolP true w):=by
  obtain ⟨ra,rfl,hi,hh⟩:=w0;exact oneKeeps_any ra x0 w T hi hh
end Go.Proofs.YtancjnedgddobaaGreatDoor.One
