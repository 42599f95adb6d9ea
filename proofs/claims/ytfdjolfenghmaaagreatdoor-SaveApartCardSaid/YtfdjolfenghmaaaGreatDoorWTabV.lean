/- save.Save; tabulariumlaw23.wakes; SaveApart's walk. -/
import Derived.Test.YtfdjolfenghmaaaGreatDoorWSvI
import Derived.Test.YtfdjolfenghmaaaGreatDoorRows
import Derived.Test.YtfdjolfenghmaaaGreatDoorWAdV
import Derived.Lib.LaidTab
import Derived.OpenShut
import Derived.Shelf.Vars
set_option linter.unusedVariables false
set_option linter.unusedSimpArgs false
set_option maxRecDepth 100000
set_option maxHeartbeats 16000000
namespace Go.Proofs.YtfdjolfenghmaaaGreatDoor.Save
open Go.RowKit Go.Shelf Utf Strs Go.Proofs.YtfdjolfenghmaaaGreatDoor.Addr Go.Proofs.YtfdjolfenghmaaaGreatDoor.State
open Jdec (Raw JV IsV IsTexts Turn gb_set gb_below gb_refl gb8 set8 val_ret val_cells own_new listOf objectOf)
def SaveP (s : Sta) (w : World) (e : Ending) (w' : World) : Prop := ∃ t : ByteArray, e = .returned (.tuple #[.string t, .int .i64 0]) /\ t.data.toList = (saveV s).print false 0 /\ Below w.heap.size w w'
theorem rightS_valid {s : Sta} (h : rightS s = true) : Utf.validB s.lin.data.toList = true := by
  have := rightS_lin h
  rwa [valid_neg] at this
theorem save_any (s : Sta) (ra : Option Addr) (rc : Nat) (w : World) (h : RecsAt w ra s.recs) (hcp : Caps w ra s.recs) (hr : rightS s = true) (hn : s.recs.length <= 30) (hl : s.lin.size <= 1000) (hs : s.serial < 18446744073709551616) (T : TabsA w) : Hid (Calls Tryz.prog 7 #[.agg #[.int .u64 s.serial, .string s.lin, .slice ra s.recs.length rc]] w (SaveP s w)) := by
  show Calls _ _ _ _ _;have hg := rightS_good hr h.s;have HQ := hZz (save_good hg (rightS_valid hr) (by omega));have HF := hZz (save_fine hg (by omega) (by omega));have HM := hZz (save_mass hg hn);obtain ⟨w1, hw1, V1, B1⟩ := sta_new w ra rc s;have HTR := tree_any s ra rc w1 (h.stays B1.out) (Caps.stays hcp B1.out) hr hn hl hs (T.stays B1.out);have HT : Hid (∀ W, Below w1.heap.size w1 W -> TabsA W) := fun W hb => (T.stays B1.out).stays hb;obtain ⟨x0, x1, x2⟩ := sta_cells V1.out;clear h hcp hr hn hl hs T hg;go_enter Tryz.func7, Tryz.ntmps7
  go_wp2_with fail
  refine (Calls.mono HTR.out ?_);rintro z w2 ⟨x, rfl, hx, hb2⟩;unfold Raw.val;obtain ⟨z3, hz3, Vz3, Bz3⟩ := own_new w2 Raw.zero
  dsimp only [Raw.zero] at hz3
  obtain ⟨w3, hw3⟩ : ∃ w3, ((((((((z3.setCell ⟨w2.heap.size, 0, none⟩ (.int .i64 x.kind)).setCell ⟨w2.heap.size, 1, none⟩ (.bool x.is)).setCell ⟨w2.heap.size, 2, none⟩ (.bool x.neg)).setCell ⟨w2.heap.size, 3, none⟩ (.string x.dig)).setCell ⟨w2.heap.size, 4, none⟩ (.int .i64 x.exp)).setCell ⟨w2.heap.size, 5, none⟩ (.string x.str)).setCell ⟨w2.heap.size, 6, none⟩ (.slice x.ka x.kn x.kc)).setCell ⟨w2.heap.size, 7, none⟩ (.slice x.va x.vn x.vc)) = w3 := ⟨_, rfl⟩;have V3 : Hid (w3.heap[w2.heap.size]? = some (.cells x.arr 46 (0, 0))) := by rw [<-hw3]; exact set8 Vz3.out x
  have B3 : Hid (Below w2.heap.size w2 w3) := by rw [<-hw3]; exact Bz3.out.grown (gb8 _ _ _ _ _ _ _ _ _ _) Bz3.out.size (fun y hy => by injection hy with hy; omega)
  have C2 : Hid (Below w1.heap.size w1 w2) := hb2;have C3 := bel C2 B3;have HX3 : Hid (IsV w3 (fun b => w1.heap.size <= b) x (saveV s)) := hx.turn (Turn.below B3.out);have HPR := hZz (Jdec.print_any (saveV s) HQ.out HF.out HM.out (save_deep s) x (fun b => w1.heap.size <= b) w3 (HT.out w3 C3.out).t.z (HT.out w3 C3.out).p HX3.out);unfold Raw.val at HPR;obtain ⟨⟨a0, a1, a2, a3, a4, a5, a6, a7⟩, g0, g1, g2, g3, g4, g5, g6, g7⟩ := val_cells Vz3.out;obtain ⟨⟨c0, c1, c2, c3, c4, c5, c6, c7⟩, _⟩ := val_cells V3.out;clear hx hb2 HTR x0 x1 x2 hw1;go_wp2_with fail
  refine (Calls.mono HPR.out ?_);rintro z w4 hz;obtain ⟨t, rfl, ht, hb4⟩ := hz.to;clear hz HPR a0 a1 a2 a3 a4 a5 a6 a7 g0 g1 g2 g3 g4 g5 g6 g7 c0 c1 c2 c3 c4 c5 c6 c7 hz3 hw3;go_wp2_with fail
  go_ret2
  exact ⟨t, rfl, ht.out, B1.out.trans ((C3.out.trans (hb4.out.mono C3.out.size)).mono B1.out.size)⟩
/-! ## The example -/
def wakeS : Sta := ⟨2, ⟨#[108]⟩, []⟩
theorem ofN_2 : ofN 2 = ([50], 0) := by
  unfold ofN ofD;rw [Lib.decDigits_one (by omega)]
  rfl
theorem ofN_4 : ofN 4 = ([52], 0) := by
  unfold ofN ofD;rw [Lib.decDigits_one (by omega)]
  rfl
theorem wake_print0 : (objectOf [kLin, kRes, kSer, kVer] [strV ⟨#[108]⟩, listOf [], .mk 3 false false ⟨#[50]⟩ 0 ⟨#[]⟩ [] [], .mk 3 false false ⟨#[52]⟩ 0 ⟨#[]⟩ [] []]).print false 0 = [123, 34, 108, 105, 110, 101, 97, 103, 101, 34, 58, 34, 108, 34, 44, 34, 114, 101, 115, 111, 117, 114, 99, 101, 115, 34, 58, 91, 93, 44, 34, 115, 101, 114, 105, 97, 108, 34, 58, 50, 44, 34, 118, 101, 114, 115, 105, 111, 110, 34, 58, 52, 125] := by
  rfl
theorem wake_print : (saveV wakeS).print false 0 = [123, 34, 108, 105, 110, 101, 97, 103, 101, 34, 58, 34, 108, 34, 44, 34, 114, 101, 115, 111, 117, 114, 99, 101, 115, 34, 58, 91, 93, 44, 34, 115, 101, 114, 105, 97, 108, 34, 58, 50, 44, 34, 118, 101, 114, 115, 105, 111, 110, 34, 58, 52, 125] := by
  have e : saveV wakeS = objectOf [kLin, kRes, kSer, kVer] [strV ⟨#[108]⟩, listOf [], .mk 3 false false ⟨#[50]⟩ 0 ⟨#[]⟩ [] [], .mk 3 false false ⟨#[52]⟩ 0 ⟨#[]⟩ [] []] := by
    unfold saveV numV;rw [show wakeS.serial = 2 from rfl, ofN_2, ofN_4]
    rfl
  rw [e];exact wake_print0
theorem wake_right : rightS wakeS = true := (rightS_iff wakeS).2 ⟨by decide, ⟨fun j hj => absurd hj (Nat.not_lt_zero _), fun j hj => absurd hj (Nat.not_lt_zero _)⟩⟩
theorem wakes23 (w : World) (T : TabsA w) : Hid (Calls Tryz.prog 4 #[] w fun e w' => e = .returned (.bool true) /\ Below w.heap.size w w') := by
  show Calls _ _ _ _ _;have HS := save_any wakeS none 0 w ⟨.inl rfl, by decide, fun r hr => by cases hr⟩ (fun i hi => absurd hi (Nat.not_lt_zero _)) wake_right (by decide) (by decide) (by decide) T;unfold wakeS at HS;go_enter Tryz.func4, Tryz.ntmps4
  go_wp2_with fail
  refine (Calls.mono HS.out ?_);rintro z w2 ⟨t, rfl, ht, hb⟩;have HB : Hid (Below w.heap.size w w2) := hb;have e1 : t.toList = [123, 34, 108, 105, 110, 101, 97, 103, 101, 34, 58, 34, 108, 34, 44, 34, 114, 101, 115, 111, 117, 114, 99, 101, 115, 34, 58, 91, 93, 44, 34, 115, 101, 114, 105, 97, 108, 34, 58, 50, 44, 34, 118, 101, 114, 115, 105, 111, 110, 34, 58, 52, 125] := by
    rw [ByteArray.toList_eq, ht]; exact wake_print
  clear ht hb HS;go_wp2_with fail
  go_ret
  exact ⟨rfl, HB.out⟩
/-! ## The law -/
theorem saveApart_any (s t : Sta) (ra rb : Option Addr) (rc rd : Nat) (w : World) (T : TabsA w) (h : StaIn w ra s) (h' : StaIn w rb t) (hcs : Caps w ra s.recs) (hct : Caps w rb t.recs) (hs : s.serial < 18446744073709551616) (ht : t.serial < 18446744073709551616) : Calls Tryz.prog 3 #[.agg #[.int .u64 s.serial, .string s.lin, .slice ra s.recs.length rc], .agg #[.int .u64 t.serial, .string t.lin, .slice rb t.recs.length rd]] w fun e w' => e = .returned (.bool true) /\ Below w.heap.size w w' := by
  obtain ⟨w1, hw1, V1, B1⟩ := sta_new w ra rc s;obtain ⟨w2, hw2, V2, B2⟩ := sta_new w1 rb rd t;have hl1 := heap_lt V1.out;have hl2 := heap_lt V2.out;have B02 : Hid (Below w.heap.size w w2) := B1.out.trans (B2.out.mono (by omega));have HSB : Hid (∀ W, Below w2.heap.size w2 W -> W.heap[w.heap.size]? = some (.cells (staArr ra rc s) 25 (0, 0))) := fun W hb => (hb.block _ (by omega)).trans ((B2.out.block _ hl1).trans V1.out);have HTB : Hid (∀ W, Below w2.heap.size w2 W -> W.heap[w1.heap.size]? = some (.cells (staArr rb rd t) 25 (0, 0))) := fun W hb => (hb.block _ hl2).trans V2.out;have HBW : Hid (∀ W, Below w2.heap.size w2 W -> Below w.heap.size w W) := fun W hb => B02.out.trans (hb.mono B02.out.size);have HT : Hid (∀ W, Below w2.heap.size w2 W -> TabsA W) := fun W hb => T.stays (HBW.out W hb);have HS1 : Hid (∀ W, Below w2.heap.size w2 W -> StaIn W ra s /\ Caps W ra s.recs) := fun W hb => ⟨h.stays (HBW.out W hb), Caps.stays hcs (HBW.out W hb)⟩;have HS2 : Hid (∀ W, Below w2.heap.size w2 W -> StaIn W rb t /\ Caps W rb t.recs) := fun W hb => ⟨h'.stays (HBW.out W hb), Caps.stays hct (HBW.out W hb)⟩;have HWK := wakes23 w2 (HT.out w2 (Below.refl _ _));have HSN : Hid (s.serial < 18446744073709551616 /\ t.serial < 18446744073709551616) := ⟨hs, ht⟩;clear T h h' hcs hct hs ht hl1 hl2;go_enter Tryz.func3, Tryz.ntmps3
  go_wp2_with fail
  refine (Calls.mono HWK.out ?_);rintro z w3 ⟨rfl, hb⟩;have C3 : Hid (Below w2.heap.size w2 w3) := hb;clear hb HWK hw1 hw2;have HGS := gs_ok s ra rc w3 (HS1.out w3 C3.out).1;obtain ⟨x0, x1, x2⟩ := sta_cells (HSB.out w3 C3.out);obtain ⟨y0, y1, y2⟩ := sta_cells (HTB.out w3 C3.out);go_wp2_with fail
  refine (Calls.mono HGS.out ?_);rintro z w4 hz;obtain ⟨g, rfl, hg, hb⟩ := hz.to;have C4 := bel C3 hb;clear hz hb HGS x0 x1 x2 y0 y1 y2;cases g
  case true =>
    go_wp2_with fail
    go_ret
    exact ⟨rfl, HBW.out _ C4.out⟩
  have HZ1 := hZz (hg.out rfl);clear hg;have HGT := gs_ok t rb rd w4 (HS2.out w4 C4.out).1;obtain ⟨y0, y1, y2⟩ := sta_cells (HTB.out w4 C4.out);go_wp2_with fail
  refine (Calls.mono HGT.out ?_);rintro z w5 hz;obtain ⟨g, rfl, hg, hb⟩ := hz.to;have C5 := bel C4 hb;clear hz hb HGT y0 y1 y2;cases g
  case true =>
    go_wp2_with fail
    go_ret
    exact ⟨rfl, HBW.out _ C5.out⟩
  have HZ2 := hZz (hg.out rfl);clear hg;have HR1 : Hid (∀ W, Below w2.heap.size w2 W -> RecsAt W ra s.recs) := fun W hb => ⟨(HS1.out W hb).1.t, by have := HZ1.out.1; omega, HZ1.out.2.2⟩;have HR2 : Hid (∀ W, Below w2.heap.size w2 W -> RecsAt W rb t.recs) := fun W hb => ⟨(HS2.out W hb).1.t, by have := HZ2.out.1; omega, HZ2.out.2.2⟩;obtain ⟨rs, hrs⟩ : ∃ b, rightS s = b := ⟨_, rfl⟩;have HRR := rr_ok s ra rc w5 (HR1.out w5 C5.out) (by have := HZ1.out.2.1; omega) rs hrs;have HRS := hZz hrs;obtain ⟨x0, x1, x2⟩ := sta_cells (HSB.out w5 C5.out);clear hrs;go_wp2_with fail
  refine (Calls.mono HRR.out ?_);rintro z w6 ⟨rfl, hb⟩;have C6 := bel C5 hb;clear hb HRR x0 x1 x2;cases rs
  case false =>
    go_wp2_with fail
    go_ret
    exact ⟨rfl, HBW.out _ C6.out⟩
  obtain ⟨rt, hrt⟩ : ∃ b, rightS t = b := ⟨_, rfl⟩;have HRR := rr_ok t rb rd w6 (HR2.out w6 C6.out) (by have := HZ2.out.2.1; omega) rt hrt;have HRT := hZz hrt;obtain ⟨y0, y1, y2⟩ := sta_cells (HTB.out w6 C6.out);clear hrt;go_wp2_with fail
  refine (Calls.mono HRR.out ?_);rintro z w7 ⟨rfl, hb⟩;have C7 := bel C6 hb;clear hb HRR y0 y1 y2;cases rt
  case false =>
    go_wp2_with fail
    go_ret
    exact ⟨rfl, HBW.out _ C7.out⟩
  have HA1 := save_any s ra rc w7 (HR1.out w7 C7.out) (HS1.out w7 C7.out).2 HRS.out HZ1.out.1 HZ1.out.2.1 HSN.out.1 (HT.out w7 C7.out);obtain ⟨x0, x1, x2⟩ := sta_cells (HSB.out w7 C7.out);go_wp2_with fail
  refine (Calls.mono HA1.out ?_);rintro z w8 ⟨t1, rfl, ht1, hb⟩;have C8 := bel C7 hb;have HT1 := hZz ht1;clear hb HA1 x0 x1 x2 ht1;have HA2 := save_any t rb rd w8 (HR2.out w8 C8.out) (HS2.out w8 C8.out).2 HRT.out HZ2.out.1 HZ2.out.2.1 HSN.out.2 (HT.out w8 C8.out);obtain ⟨y0, y1, y2⟩ := sta_cells (HTB.out w8 C8.out);go_wp2_with fail
  refine (Calls.mono HA2.out ?_);rintro z w9 ⟨t2, rfl, ht2, hb⟩;have C9 := bel C8 hb;have HT2 := hZz ht2;clear hb HA2 y0 y1 y2 ht2;obtain ⟨sb, hsb⟩ : ∃ b, sameSta s t = b := ⟨_, rfl⟩;have HSM := sm_ok s t ra rb rc rd w9 (HR1.out w9 C9.out) (HR2.out w9 C9.out) sb hsb;have HGS := rightS_good HRS.out HZ1.out.2.2;have HGT := rightS_good HRT.out HZ2.out.2.2;have heq : (t1.toList == t2.toList) = sb := by
    have h1 := save_apart HGS HGT (rightS_valid HRS.out) (rightS_valid HRT.out) (by have := HSN.out.1; omega) (by have := HSN.out.2; omega);rw [ByteArray.toList_eq, ByteArray.toList_eq, HT1.out, HT2.out]
    cases sb with
    | true => rw [beq_iff_eq]; exact h1.2 ((sameSta_iff _ _).1 hsb)
    | false =>
      rw [beq_eq_false_iff_ne];intro e
      have := (sameSta_iff _ _).2 (h1.1 e);rw [hsb] at this; cases this
  obtain ⟨x0, x1, x2⟩ := sta_cells (HSB.out w9 C9.out);obtain ⟨y0, y1, y2⟩ := sta_cells (HTB.out w9 C9.out);clear hsb HGS HGT;go_wp2_with fail
  refine (Calls.mono HSM.out ?_);rintro z w10 ⟨rfl, hb⟩;have C10 := bel C9 hb;clear hb HSM x0 x1 x2 y0 y1 y2;go_wp2_with fail
  go_ret
  exact ⟨by simp, HBW.out _ C10.out⟩
theorem saveApart_arg (v : Value) (s : Sta) (u : Value) (t : Sta) (w : World) (h : StaArgC w v s) (h' : StaArgC w u t) (T : TabsA w) : Calls Tryz.prog 3 #[v, u] w fun e w' => e = .returned (.bool true) /\ Below w.heap.size w w' := by
  obtain ⟨ra, rc, rfl, h1, _, h3, _, h5⟩ := h;obtain ⟨rb, rd, rfl, k1, _, k3, _, k5⟩ := h';exact saveApart_any s t ra rb rc rd w T h1 k1 h5 k5 h3 k3
end Go.Proofs.YtfdjolfenghmaaaGreatDoor.Save
namespace Go.Proofs.YtfdjolfenghmaaaGreatDoor.TabV
open Go.RowKit Go.ChangeShapes Go.Proofs.YtfdjolfenghmaaaGreatDoor
structure LaidAt (w : World) (n : String) (d : DataW Unit) : Prop where
  it : ∃ g t cs fuel p, Tryz.prog.globalNamed n = some g /\ (Tryz.prog.globals[g]?).map (·.type) = some t /\ w.var? Tryz.prog n = some cs /\ DataW.trod (fun _ => ()) Tryz.prog w 0 (fun _ => true) false fuel t cs.toList = some (d, p)
theorem laid_at {w : World} : ∀ {l : List (String × DataW Unit)} {ps : List MemPlace}, DataW.LaidVars Tryz.prog w l ps -> ∀ n d, (n, d) ∈ l -> LaidAt w n d
  | [], _, _, n, d, h => by cases h
  | (m, e) :: r, ps, ⟨g, t, cs, fuel, p, q, h1, h2, h3, h4, h5, _⟩, n, d, h => by
    rcases List.mem_cons.1 h with h | h
    · injection h with ha hb; subst ha hb; exact ⟨g, t, cs, fuel, p, h1, h2, h3, h4⟩
    · exact laid_at h5 n d h
def nm (i : Nat) : String := Rows.saveApartRow.named.getD i ""
theorem gSizes : Tryz.prog.globalNamed (nm 0) = some 0 := by kernel_rfl
theorem gSteps : Tryz.prog.globalNamed (nm 1) = some 8 := by kernel_rfl
theorem sizes_dec : ∀ n, n < 256 -> (([1, 1, 1, 1, 1, 1, 1, 1, 1, 1, 1, 1, 1, 1, 1, 1, 0, 0, 0, 0, 0, 0, 0, 0, 2, 2, 2, 2, 3, 3, 4, 0] : List Int).getD (n / 8) 0) = (Utf.sizeAt n : Int) := by decide +kernel
theorem sizes_of {w : World} (h : LaidAt w (nm 0) (Lib.tabData .i64 [1, 1, 1, 1, 1, 1, 1, 1, 1, 1, 1, 1, 1, 1, 1, 1, 0, 0, 0, 0, 0, 0, 0, 0, 2, 2, 2, 2, 3, 3, 4, 0])) : Utf.Sizes w := by
  obtain ⟨g, t, cs, fuel, p, h1, h2, h3, h4⟩ := h.it;obtain rfl := Option.some.inj (gSizes.symm.trans h1);obtain rfl := Option.some.inj ((show (Tryz.prog.globals[0]?).map (·.type) = some 138 by kernel_rfl).symm.trans h2);have hc := Lib.cells_of_tab Tryz.underlying138 Tryz.underlying3 (by kernel_rfl) (by kernel_rfl) h4;have hT : Lib.TabIs Tryz.prog w (nm 0) .i64 [1, 1, 1, 1, 1, 1, 1, 1, 1, 1, 1, 1, 1, 1, 1, 1, 0, 0, 0, 0, 0, 0, 0, 0, 2, 2, 2, 2, 3, 3, 4, 0] := by
    unfold Lib.TabIs; rw [h3, <-hc]
  refine ⟨fun n hn => ?_⟩;rw [hT.cell gSizes (n / 8) (by simp; omega), sizes_dec n hn]
def stepRow : List (List Int) := [[1, 9, 2, 3, 9, 9, 9], [9, 9, 2, 3, 9, 9, 9], [9, 9, 9, 9, 4, 6, 9], [9, 9, 3, 3, 4, 6, 9], [9, 9, 5, 5, 9, 9, 9], [9, 9, 5, 5, 9, 6, 9], [7, 7, 8, 8, 9, 9, 9], [9, 9, 8, 8, 9, 9, 9], [9, 9, 8, 8, 9, 9, 9]]
theorem steps_dec : ∀ st, st < 9 -> ∀ sg, sg < 7 -> ((stepRow.getD st []).getD sg 0) = (Num.step st sg : Int) := by decide +kernel
theorem stepRow_len : ∀ st, st < 9 -> (stepRow.getD st []).length = 7 := by decide
theorem getD_some {l : List Int} {i : Nat} (h : i < l.length) : l[i]? = some (l.getD i 0) := by simp [List.getD_eq_getElem?_getD, h]
theorem steps_of {w : World} (h : LaidAt w (nm 1) (.agg (stepRow.map (Lib.tabData .i64)))) : Num.Steps w := by
  obtain ⟨g, t, cs, fuel, p, h1, h2, h3, h4⟩ := h.it;obtain rfl := Option.some.inj (gSteps.symm.trans h1);obtain rfl := Option.some.inj ((show (Tryz.prog.globals[8]?).map (·.type) = some 202 by kernel_rfl).symm.trans h2);obtain ⟨xs, m, _, hx, hl, hn, hget⟩ := DataW.trod_array Tryz.underlying202 h4;have hce : Tryz.prog.cellsOf 201 = 7 := by kernel_rfl
  injection hx with hx1 hx2
  injection hx1 with hx1
  refine ⟨fun st sg hst hsg => ?_⟩;have h5 := hget st hst;obtain ⟨y, hy⟩ : ∃ y, xs[st]? = some y := ⟨_, List.getElem?_eq_getElem (by omega)⟩;have h6 : y.1 = Lib.tabData .i64 (stepRow.getD st []) := by
    have := congrArg (·[st]?) hx1;simp only [List.getElem?_map, hy, Option.map_some] at this
    have hs : stepRow[st]? = some (stepRow.getD st []) := by
      rw [List.getD_eq_getElem?_getD, List.getElem?_eq_getElem (show st < stepRow.length from hst)]; rfl
    rw [hs] at this;exact (Option.some.inj this).symm
  rw [hy, hce] at h5;have hc := Lib.cells_of_tab Tryz.underlying201 Tryz.underlying3 (by kernel_rfl) hce (p := y.2) (zs := stepRow.getD st []) (by rw [h5, <-h6]);rw [World.var?_cell gSteps h3 (st * 7 + sg)];have h7 := congrArg (·[sg]?) hc;simp only [List.getElem?_take, List.getElem?_drop, hsg, if_true, List.getElem?_map] at h7
  have h8 := getD_some (l := stepRow.getD st []) (i := sg) (by rw [stepRow_len st hst]; exact hsg);rw [h8, steps_dec st hst sg hsg] at h7
  simpa using h7
theorem maxL_of {w : World} (h : w.ShapedOpen Tryz.prog) : Lex.MaxL w :=
  ⟨cell_of_shapedOpen_int (g := 1) (t := 3) (zero := #[.int .i64 0]) h (of_decide_eq_true (by kernel_rfl)) (by kernel_rfl) rfl (by kernel_rfl) (by kernel_rfl) Tryz.underlying3⟩
theorem gDbl : Tryz.prog.globalNamed (nm 5) = some 7 := by kernel_rfl
theorem dbl_of {w : World} (h : LaidAt w (nm 5) (.agg (Lex.doubles.map fun b => .lit (.string b)))) : Lex.Dbl w := by
  obtain ⟨g, t, cs, fuel, p, h1, h2, h3, h4⟩ := h.it;obtain rfl := Option.some.inj (gDbl.symm.trans h1);obtain rfl := Option.some.inj ((show (Tryz.prog.globals[7]?).map (·.type) = some 199 by kernel_rfl).symm.trans h2);obtain ⟨xs, m, _, hx, hl, hn, hget⟩ := DataW.trod_array Tryz.underlying199 h4;have hce : Tryz.prog.cellsOf 9 = 1 := by kernel_rfl
  injection hx with hx1 hx2
  injection hx1 with hx1
  have key : ∀ i (hi : i < 6), w.cell? ⟨7, i, none⟩ = some (.string ⟨(Lex.doubles[i]'hi).toArray⟩) := by
    intro i hi
    have h5 := hget i hi;obtain ⟨y, hy⟩ : ∃ y, xs[i]? = some y := ⟨_, List.getElem?_eq_getElem (by omega)⟩;have h6 : y.1 = .lit (.string (Lex.doubles[i]'hi)) := by
      have := congrArg (·[i]?) hx1;simp only [List.getElem?_map, hy, Option.map_some] at this
      rw [List.getElem?_eq_getElem (show i < Lex.doubles.length from hi)] at this;exact (Option.some.inj this).symm
    rw [hy, hce] at h5;obtain ⟨s, hs1, hs2, _⟩ := DataW.trod_string Tryz.underlying9 h5;rw [World.var?_cell gDbl h3 i];have h7 := congrArg (·[0]?) hs1;simp only [List.getElem?_take, List.getElem?_drop, Nat.mul_one, Nat.add_zero] at h7
    have h8 : s.data.toList = Lex.doubles[i]'hi := by
      rw [hs2] at h6;injection h6 with h6
      injection h6
    rw [<-h8]
    simpa using h7
  exact ⟨key 0 (by decide), key 1 (by decide), key 2 (by decide), key 3 (by decide), key 4 (by decide), key 5 (by decide)⟩
theorem gPow : Tryz.prog.globalNamed (nm 6) = some 2 := by kernel_rfl
theorem pow_of {w : World} (h : LaidAt w (nm 6) (Lib.tabData .u64 Lib.pow10Tab)) : Jdec.Pow10 w := by
  obtain ⟨g, t, cs, fuel, p, h1, h2, h3, h4⟩ := h.it;obtain rfl := Option.some.inj (gPow.symm.trans h1);obtain rfl := Option.some.inj ((show (Tryz.prog.globals[2]?).map (·.type) = some 142 by kernel_rfl).symm.trans h2);have hc := Lib.cells_of_tab Tryz.underlying142 Tryz.underlying22 (by kernel_rfl) (by kernel_rfl) h4;show w.var? Tryz.prog (nm 6) = _;rw [h3, <-hc]
theorem tabsA {w : World} (h : laidMetH Tryz.prog Rows.saveApartRow.laid w) (hs : w.ShapedOpen Tryz.prog) : Addr.TabsA w := by
  obtain ⟨ps, hv, _⟩ := (show laidMet Tryz.prog Rows.saveApartRow.laid w from h);have l2 := laid_at hv _ _ (.tail _ (.tail _ (.head _)));have l6 := laid_at hv _ _ (.tail _ (.tail _ (.tail _ (.tail _ (.head _)))));have l7 := laid_at hv _ _ (.tail _ (.tail _ (.tail _ (.tail _ (.tail _ (.head _))))));have l8 := laid_at hv _ _ (.tail _ (.tail _ (.tail _ (.tail _ (.tail _ (.tail _ (.head _)))))));exact ⟨⟨sizes_of l6, steps_of l7, maxL_of hs, dbl_of l8⟩, pow_of l2⟩
end Go.Proofs.YtfdjolfenghmaaaGreatDoor.TabV
