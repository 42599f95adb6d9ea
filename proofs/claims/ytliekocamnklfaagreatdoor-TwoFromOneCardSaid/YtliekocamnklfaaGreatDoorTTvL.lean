/- tabulariumlaw20.wakes. -/
import Derived.Test.YtliekocamnklfaaGreatDoorTTvE
import Derived.Test.YtliekocamnklfaaGreatDoorTTvJ
import Derived.Test.YtliekocamnklfaaGreatDoorTSvF
set_option linter.unusedVariables false
set_option linter.unusedSimpArgs false
set_option maxRecDepth 100000
set_option maxHeartbeats 4000000
namespace Go.Proofs.YtliekocamnklfaaGreatDoor.One
open Go.RowKit Strs Jdec Save Go.Proofs.YtliekocamnklfaaGreatDoor.Addr
theorem prov_1:provB ⟨#[97,119,115,95,116,104,105,110,103]⟩=⟨#[97,119,115]⟩:=by decide +kernel
theorem prov_2:provB ⟨#[120]⟩=⟨#[120]⟩:=by decide +kernel
theorem prov_3:provB ⟨#[95,121]⟩=⟨#[95,121]⟩:=by decide +kernel
theorem wakes20 (w:World):Calls Tryz.prog 19 #[] w (BoolP true w):=by
  have h1:∀ w',_:=fun w'=>dprov_any ⟨#[97,119,115,95,116,104,105,110,103]⟩ (by decide) w';have h2:∀ w',_:=fun w'=>dprov_any ⟨#[120]⟩ (by decide) w';have h3:∀ w',_:=fun w'=>dprov_any ⟨#[95,121]⟩ (by decide) w';rw [prov_1] at h1;rw [prov_2] at h2;rw [prov_3] at h3;have H1:=Hid.out (p:=Hid _) h1;have H2:=Hid.out (p:=Hid _) h2;have H3:=Hid.out (p:=Hid _) h3;clear h1 h2 h3;go_enter Tryz.func19,Tryz.ntmps19
  go_wp2_with fail
  refine (Calls.mono (H1.out _) ?_);rintro z w2 ⟨rfl,hb2⟩;have B2:=Hid.out (p:=Hid _) hb2;clear hb2;go_wp2_with fail
  refine (Calls.mono (H2.out _) ?_);rintro z w3 ⟨rfl,hb3⟩;have B3:=bel B2 (Hid.out (p:=Hid _) hb3);clear hb3;go_wp2_with fail
  refine (Calls.mono (H3.out _) ?_);rintro z w4 ⟨rfl,hb4⟩;have B4:=bel B3 (Hid.out (p:=Hid _) hb4);clear hb4;go_wp2_with fail
  go_ret
  exact ⟨rfl,B4.out⟩
set_option maxHeartbeats 16000000
theorem saysT {f:FuncId} {args:Array Value} {w:World} {Q:Prop} (h:Calls Tryz.prog f args w (IsPost Q w)) (hq:Q):Calls Tryz.prog f args w (BoolP true w):=
  h.mono fun e w' k=>by
    obtain ⟨b,h1,h2,h3⟩:=k;rw [h2.2 hq] at h1;exact ⟨h1,h3⟩
theorem saysF {f:FuncId} {args:Array Value} {w:World} {Q:Prop} (h:Calls Tryz.prog f args w (IsPost Q w)) (hq:¬ Q):Calls Tryz.prog f args w (BoolP false w):=
  h.mono fun e w' k=>by
    obtain ⟨b,h1,h2,h3⟩:=k
    cases b with
    | false=>exact ⟨h1,h3⟩
    | true=>exact absurd (h2.1 rfl) hq
theorem saysB {f:FuncId} {args:Array Value} {w:World} {Q:Prop} (h:Calls Tryz.prog f args w (IsPost Q w)):∃ b,Calls Tryz.prog f args w (BoolP b w):=by
  by_cases hq:Q
  · exact ⟨true,saysT h hq⟩
  · exact ⟨false,saysF h hq⟩
theorem of_val {t:JV} (hg:GoodQ t) (hm:t.mass<=3000) {ra:Raw} {A:Nat->Prop} {w:World} (hi:Hid (IsV w A ra t)) (x:ByteArray) {v:JV} (hv:got t x=v):Calls Tryz.prog 26 #[ra.val,.string x] w (ValP v A w):=by
  subst hv;exact (rof_any t hg hm ra A w hi.out x).mono fun e w' h=>h
theorem whole_val {t:JV} (hg:GoodQ t) {n:Nat} (hn:wholeJ t=some n) {ra:Raw} {A:Nat->Prop} {w:World} (hi:Hid (IsV w A ra t)):Calls Tryz.prog 25 #[ra.val] w fun e w'=>e=.returned (.tuple #[.int .u64 n,.bool true])/\Below w.heap.size w w':=
  (rwholeJ_any t hg ra A w hi.out).mono fun e w' h=>by
    obtain ⟨m,h1,h2,h3⟩:=h;rw [hn] at h1;rw [h2 n hn] at h1;exact ⟨h1,h3⟩
theorem kids_len {w:World} {A:Nat->Prop} {r:Raw} {vs:List JV} (h:Hid (IsV w A r (listOf vs))):r.vn=vs.length:=by
  obtain ⟨ka,kc,va,vc,rfl,_,_,_,_⟩:=h.out.parts
  rfl
theorem one_two (t:JV):got (up2J (upJ t)) kMod=listOf [mod3 (rootV (got t kRes))]:=by rw [up2_modules,up_modules];rfl
theorem one_two_ser (t:JV):got (up2J (upJ t)) kSer=got t kSer:=by rw [up2_serial,up_serial]
theorem twoFromOne_any (ra:Raw) (t:JV) (w:World) (T:TabsP w) (hi:IsV w (fun _=>True) ra t) (hh:Held rb t):Calls Tryz.prog 6 #[ra.val] w (BoolP true w):=by
  obtain ⟨w2,hw2,V2,B2⟩:=own8 w ra;have H1:=Hid.out (p:=Hid _) (wakes20 w2);have HG:Hid (∀ w',Below w.heap.size w w'->Calls Tryz.prog 13 #[ra.val] w' fun e w''=>e=.returned (.bool (decide (t.room 1 400<0)))/\Below w'.heap.size w' w''):=fun w' h=>great_any rb (by decide) t hh ra _ w' (hi.behind h);have HI:Hid (∀ w',Below w.heap.size w w'->Hid (IsV w' (fun _=>True) ra t)):=fun w' h=>hi.behind h;have HT:Hid (∀ w',Below w.heap.size w w'->TabsP w'):=fun w' h=>T.stays h;obtain ⟨G,hG⟩:∃ G,decide (t.room 1 400<0)=G:=⟨_,rfl⟩;rw [hG] at HG;have HGG:=Hid.out (p:=Hid _) hG;clear hi hh T hG;unfold Raw.val at HG ⊢;obtain ⟨⟨x0,x1,x2,x3,x4,x5,x6,x7⟩,_⟩:=val_cells V2.out;go_enter Tryz.func6,Tryz.ntmps6
  go_wp2_with fail
  refine (Calls.mono H1.out ?_);rintro z w3 hz;obtain ⟨rfl,E3⟩:=hz.to;have B3:=bel B2 E3;have V3:=hst V2 E3;have H2:=Hid.out (p:=Hid _) (HG.out w3 B3.out);clear hz H1 HG x0 x1 x2 x3 x4 x5 x6 x7 hw2;obtain ⟨⟨x0,x1,x2,x3,x4,x5,x6,x7⟩,_⟩:=val_cells V3.out;go_wp2_with fail
  refine (Calls.mono H2.out ?_);rintro z w4 ⟨rfl,hb4⟩;have E4:=Hid.out (p:=Hid _) hb4;have B4:=bel B3 E4;have V4:=hst V3 E4;clear hb4 H2 x0 x1 x2 x3 x4 x5 x6 x7;cases G
  case true=>
    go_wp2_with fail
    go_ret
    exact ⟨rfl,B4.out⟩
  obtain ⟨hf,hm,hd⟩:=great_no t (of_decide_eq_false HGG.out);have HF:Hid (Fine t/\t.mass<=400/\t.deepN<=1000):=⟨hf,hm,by omega⟩;clear hf hm hd;obtain ⟨⟨x0,x1,x2,x3,x4,x5,x6,x7⟩,_⟩:=val_cells V4.out;by_cases hq:OneQ t
  case neg=>
    have H3:=Hid.out (p:=Hid _) (oup_no t hq HF.out.1 (by have:=HF.out.2.1;omega) ra _ w4 (HI.out w4 B4.out).out (HT.out w4 B4.out));have HQ:=Hid.out (p:=Hid _) hq;clear hq;unfold Raw.val at H3;go_wp2_with fail
    refine (Calls.mono H3.out ?_);rintro z w5 hz;obtain ⟨z0,rfl,I0,E5⟩:=hz.to;obtain ⟨w6,hw6,V6,E6⟩:=own8 w5 z0;have B6:=bel (bel B4 E5) E6;have V46:=hst (hst V4 E5) E6;obtain ⟨b,H4⟩:=saysB (dright_any t HF.out.1 (by have:=HF.out.2.1;omega) ra _ w6 (HI.out w6 B6.out).out (HT.out w6 B6.out));have H4:=Hid.out (p:=Hid _) H4;clear hz H3 x0 x1 x2 x3 x4 x5 x6 x7;obtain ⟨⟨x0,x1,x2,x3,x4,x5,x6,x7⟩,_⟩:=val_cells V46.out;unfold Raw.val at H4 ⊢;go_wp2_with fail
    refine (Calls.mono H4.out ?_);rintro z w7 hz;obtain ⟨rfl,E7⟩:=hz.to;have B7:=bel B6 E7;have V7:=hst V46 E7;have H5:=Hid.out (p:=Hid _) (saysF (rone_right t HF.out.1 (by have:=HF.out.2.1;omega) HF.out.2.2 ra _ w7 (HI.out w7 B7.out).out) HQ.out);clear hz H4 x0 x1 x2 x3 x4 x5 x6 x7 hw6;obtain ⟨⟨x0,x1,x2,x3,x4,x5,x6,x7⟩,_⟩:=val_cells V7.out;unfold Raw.val at H5;cases b
    case false=>
      go_wp2_with fail
      go_ret
      exact ⟨rfl,B7.out⟩
    go_wp2_with fail
    refine (Calls.mono H5.out ?_);rintro z w8 hz;obtain ⟨rfl,E8⟩:=hz.to;go_wp2_with fail
    go_ret
    exact ⟨rfl,(bel B7 E8).out⟩
  have hum:=up_mass t;have h2q:=up_two hq;have hu2m:=up2_mass h2q;have huf:=up_fine (t:=t) HF.out.1;obtain ⟨n,hn⟩:=Option.isSome_iff_exists.1 (one_parts hq.2).2.2.1;have hgs:GoodQ (got t kSer):=got_good hq.1.1 ((one_parts hq.2).1 kSer (by simp));have UG:Hid (Fine (upJ t)/\(upJ t).mass<=3000/\TwoQ (upJ t)):=⟨huf,by have:=HF.out.2.1;omega,h2q⟩;have TG:Hid (GoodQ t/\t.mass<=3000/\GoodQ (got t kSer)/\wholeJ (got t kSer)=some n):=⟨hq.1.1,by have:=HF.out.2.1;omega,hgs,hn⟩;have DG:Hid (GoodQ (up2J (upJ t))/\(up2J (upJ t)).mass<=3000):=⟨(up2_good h2q).1,by have:=HF.out.2.1;omega⟩;have H3:=Hid.out (p:=Hid _) (oup_yes t hq HF.out.1 TG.out.2.1 ra _ w4 (HI.out w4 B4.out).out (HT.out w4 B4.out));clear hq hum h2q hu2m huf hn hgs;unfold Raw.val at H3;go_wp2_with fail
  refine (Calls.mono H3.out ?_);rintro z w5 hz;obtain ⟨z0,rfl,I0,E5⟩:=hz.to;obtain ⟨w6,hw6,V6,E6⟩:=own8 w5 z0;have B6:=bel (bel B4 E5) E6;have V46:=hst (hst V4 E5) E6;have I6:=kp I0 E6;have H4:=Hid.out (p:=Hid _) (dup_yes (upJ t) UG.out.2.2 UG.out.1 UG.out.2.1 z0 _ w6 I6.out (HT.out w6 B6.out));clear hz H3 x0 x1 x2 x3 x4 x5 x6 x7 I0;obtain ⟨⟨x0,x1,x2,x3,x4,x5,x6,x7⟩,_⟩:=val_cells V6.out;unfold Raw.val at H4 ⊢;go_wp2_with fail
  refine (Calls.mono H4.out ?_);rintro z w7 hz;obtain ⟨z1,rfl,I1,E7⟩:=hz.to;obtain ⟨w8,hw8,V8,E8⟩:=own8 w7 z1;have B8:=bel (bel B6 E7) E8;have V48:=hst (hst V46 E7) E8;have V68:=hst (hst V6 E7) E8;have I68:=kp (kp I6 E7) E8;have I8:=kp I1 E8;have H5:=Hid.out (p:=Hid _) (of_val TG.out.1 TG.out.2.1 (HI.out w8 B8.out) kSer rfl);clear hz H4 x0 x1 x2 x3 x4 x5 x6 x7 I1 hw6 I6;obtain ⟨⟨x0,x1,x2,x3,x4,x5,x6,x7⟩,_⟩:=val_cells V48.out;unfold Raw.val kSer at H5;unfold Raw.val;go_wp2_with fail
  refine (Calls.mono H5.out ?_);rintro z w9 hz;obtain ⟨z2,rfl,I2,E9⟩:=hz.to;have H6:=Hid.out (p:=Hid _) (whole_val TG.out.2.2.1 TG.out.2.2.2 I2);clear hz H5 x0 x1 x2 x3 x4 x5 x6 x7 hw8;unfold Raw.val at H6 ⊢;go_wp2_with fail
  refine (Calls.mono H6.out ?_);rintro z w10 ⟨rfl,hb10⟩;have E10:=bel E9 (Hid.out (p:=Hid _) hb10);have B10:=bel B8 E10;have V10:=hst V8 E10;have V610:=hst V68 E10;have I610:=kp I68 E10;have I10:=kp I8 E10;have H7:=Hid.out (p:=Hid _) (of_val DG.out.1 DG.out.2 I10 kSer (one_two_ser t));clear hb10 H6 I2;obtain ⟨⟨x0,x1,x2,x3,x4,x5,x6,x7⟩,_⟩:=val_cells V10.out;unfold Raw.val kSer at H7;go_wp2_with fail
  refine (Calls.mono H7.out ?_);rintro z w11 hz;obtain ⟨z3,rfl,I3,E11⟩:=hz.to;have H8:=Hid.out (p:=Hid _) (whole_val TG.out.2.2.1 TG.out.2.2.2 I3);clear hz H7 x0 x1 x2 x3 x4 x5 x6 x7;unfold Raw.val at H8 ⊢;go_wp2_with fail
  refine (Calls.mono H8.out ?_);rintro z w12 ⟨rfl,hb12⟩;have E12:=bel E11 (Hid.out (p:=Hid _) hb12);have B12:=bel B10 E12;have V12:=hst V10 E12;have V612:=hst V610 E12;have I612:=kp I610 E12;have I12:=kp I10 E12;have H9:=Hid.out (p:=Hid _) (saysT (dright_any (upJ t) UG.out.1 UG.out.2.1 z0 _ w12 I612.out (HT.out w12 B12.out)) UG.out.2.2);clear hb12 H8 I3;obtain ⟨⟨x0,x1,x2,x3,x4,x5,x6,x7⟩,_⟩:=val_cells V612.out;unfold Raw.val at H9;have hnn:(n == n)=true:=by simp
  go_wp2_with fail
  refine (Calls.mono H9.out ?_);rintro z w13 hz;obtain ⟨rfl,E13⟩:=hz.to;have B13:=bel B12 E13;have V13:=hst V12 E13;have H10:=Hid.out (p:=Hid _) (of_val DG.out.1 DG.out.2 (kp I12 E13) kMod (one_two t));clear hz H9 x0 x1 x2 x3 x4 x5 x6 x7;obtain ⟨⟨x0,x1,x2,x3,x4,x5,x6,x7⟩,_⟩:=val_cells V13.out;unfold Raw.val kMod at H10;go_wp2_with fail
  refine (Calls.mono H10.out ?_);rintro z w14 hz;obtain ⟨z4,rfl,I4,E14⟩:=hz.to;have hfl:=kids_field z4;have hvn:=kids_len I4;simp only [List.length_cons,List.length_nil,Nat.zero_add] at hvn
  rw [hvn] at hfl;have B14:=bel B13 E14;clear hz H10 x0 x1 x2 x3 x4 x5 x6 x7 I4;unfold Raw.val;rw [hvn];go_wp2_with fail
  go_ret
  exact ⟨rfl,B14.out⟩
theorem twoFromOne_arg (u0:Value) (x0:JV) (w:World) (w0:∃ ra:Raw,u0=ra.val/\IsV w (fun _=>True) ra x0/\Held rb x0) (T:TabsP w):Calls Tryz.prog 6 #[u0] w (BoolP true w):=by
  obtain ⟨ra,rfl,hi,hh⟩:=w0;exact twoFromOne_any ra x0 w T hi hh
end Go.Proofs.YtliekocamnklfaaGreatDoor.One
