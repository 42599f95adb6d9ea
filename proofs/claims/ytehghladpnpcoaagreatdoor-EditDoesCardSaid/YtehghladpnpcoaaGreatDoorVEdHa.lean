/- tabulariumref26.Do: what is told of a command that is wrong. -/
import Derived.Test.YtehghladpnpcoaaGreatDoorVEdA
import Derived.Test.YtehghladpnpcoaaGreatDoorVEdO
import Derived.Test.YtehghladpnpcoaaGreatDoorVYb
set_option linter.unusedVariables false
set_option linter.unusedSimpArgs false
set_option maxRecDepth 100000
set_option maxHeartbeats 64000000
namespace Go.Proofs.YtehghladpnpcoaaGreatDoor.State.Edit
open Go.RowKit Go.Shelf Go.Proofs.YtehghladpnpcoaaGreatDoor.Utf Go.Proofs.YtehghladpnpcoaaGreatDoor.Strs Go.Proofs.YtehghladpnpcoaaGreatDoor.Addr Go.Proofs.YtehghladpnpcoaaGreatDoor.State
open Go.Proofs.YtehghladpnpcoaaGreatDoor.Jdec (IsTexts Turn infoStr gb_set gb_below gb_refl)
theorem rdo_ret (s : Sta) (x : Int) (w' : World) (tm : Array Value) (b : Nat) (a : Option Addr) (c : Nat) (Q : Ending → World → Prop) (hb : w'.heap[b]? = some (.cells (staArr a c s) 25 (0, 0))) (h2 : tm[4]? = some (.pointer (some ⟨b, 0, none⟩))) (h3 : tm[5]? = some (.int .i64 x)) (hq : Q (.returned (.tuple #[staV a c s, .int .i64 x])) w') : bodyPost Tryz.prog Tryz.f24 Q Exit.ret { tmps := tm, defers := [] } w' := by
  obtain ⟨c0, c1, c2⟩ := sta_cells hb
  refine bodyPost_ret (v := .tuple #[staV a c s, .int .i64 x]) ?_ rfl hq
  simp [results, Tryz.results24, go_sem, h2, h3, c0, c1, c2, staV]
theorem recs_old {w : World} {ra : Option Addr} {l : List Rec} (h : IsRecs w (fun _ => True) ra l) : IsRecs w (fun b => b < w.heap.size) ra l := h.turn (Turn.mono _ (fun _ _ h => h))
theorem turn_old {n : Nat} {w w' : World} (hn : n ≤ w.heap.size) (hb : Below w.heap.size w w') : Turn w w' (fun b => b < n) (fun b => b < n) := ⟨hb.size, fun b hb1 hl => ⟨hb.block b hl, hb1⟩⟩
theorem rbad_ret {s : Sta} {c : Cmd} {w W : World} {xb : Nat} {ra : Option Addr} {rc : Nat} {x : Int} (hz : W.heap[xb]? = some (.cells (staArr none 0 ⟨0, ⟨#[]⟩, []⟩) 25 (0, 0))) (hb : Below w.heap.size w W) (hx : w.heap.size ≤ xb) (hxe : errC s c = x) (he : x ≠ 0) (hg : Good s.recs) (h : RecsAt W ra s.recs) (hcl : IsRecs W (fun b => b < w.heap.size) ra s.recs) (hc : s.recs.length ≤ rc) (tm : Array Value) (h2 : tm[4]? = some (.pointer (some ⟨xb, 0, none⟩))) (h3 : tm[5]? = some (.int .i64 x)) : bodyPost Tryz.prog Tryz.f24 (EdPost s c w) Exit.ret { tmps := tm, defers := [] } (((W.setCell ⟨xb, 0, none⟩ (.int .u64 s.serial)).setCell ⟨xb, 1, none⟩ (.string s.lin)).setCell ⟨xb, 2, none⟩ (.slice ra s.recs.length rc)) := by
  have hg6 : W.grownBy (((W.setCell ⟨xb, 0, none⟩ (.int .u64 s.serial)).setCell ⟨xb, 1, none⟩ (.string s.lin)).setCell ⟨xb, 2, none⟩ (.slice ra s.recs.length rc)) (some xb) := ((gb_set _ _ _ _).trans (gb_set _ _ _ _)).trans (gb_set _ _ _ _)
  subst hxe
  refine rdo_ret s _ _ _ xb ra rc _ (set3 (t := s) hz) h2 h3 ⟨ra, rc, s, rfl, ⟨fun _ => rfl, fun e => absurd e he, rfl, fun e => absurd e he, hg⟩, ⟨?_, h.n, h.s⟩, ⟨hc, Nat.le_succ _⟩, hb.grown hg6 hb.size (fun k hk => by injection hk with hk; omega)⟩
  exact hcl.turn ⟨hg6.size, fun b hb1 hl => ⟨hg6.block b hl (fun e => by injection e with e; omega), trivial⟩⟩
theorem ru_new {A : Nat → Prop} {s : Sta} {r : Rec} {w w' : World} {e : Ending} (hg : Good s.recs) (hr : recB r = true) (hs : Small r) (hno : ∀ x ∈ s.recs, x.a ≠ r.a) (h : RuPost A s r w e w') : ∃ (l : List Rec) (a' : Option Addr) (c' : Nat), e = .returned (.agg #[.int .u64 s.serial, .string s.lin, .slice a' l.length c']) ∧ Hid (Good l) ∧ Hid (∀ x, x ∈ l ↔ x = r ∨ x ∈ s.recs ∧ x.a ≠ r.a) ∧ Hid (IsRecs w' (fun b => A b ∨ w.heap.size ≤ b) a' l) ∧ Hid (l.length ≤ c' ∧ l.length ≤ s.recs.length + 1) ∧ Hid (Below w.heap.size w w') := by
  obtain ⟨hb, l2, hl, k, hB, a', c', e1, hI, hc⟩ := h
  obtain rfl : l2 = s.recs := by
    rcases hl with ⟨j, hj, ej, _⟩ | ⟨_, e⟩
    · exact absurd ej (hno _ (List.getElem_mem hj))
    · exact e
  have hne : ∀ x ∈ s.recs, printA x.a ≠ printA r.a := fun x hx e => hno x hx (adr_eq (hg.r x hx) (hg.s x hx) hs.p e)
  have hP := behind_place hg hB hne
  have hN : Next s.recs (printA r.a) k k := .inr ⟨fun ⟨hk, e⟩ => hne _ (List.getElem_mem hk) e, rfl⟩
  have hle := hB.n
  refine ⟨putR s.recs r k k, a', c', e1, good_put hg hr hs hP hN, mem_put hg hr hs hP hN, hI, ⟨hc, ?_⟩, hb⟩
  rw [putR, List.length_append, List.length_cons, List.length_take, List.length_drop]; omega
theorem rdo0 (s : Sta) (ra : Option Addr) (rc : Nat) (k : CAt) (c : Cmd) (w : World) (h : RecsAt w ra s.recs) (hcp : s.recs.length ≤ rc) (hg : Good s.recs) (hc : CmdAt w k c) (hn : s.recs.length ≤ 2999) (hsn : s.serial < 18446744073709551616) (hrc : rightC c = false) : Hid (Calls Tryz.prog 24 #[.agg #[.int .u64 s.serial, .string s.lin, .slice ra s.recs.length rc], .agg #[.int .i64 c.kind, .slice k.pf c.fr.path.length k.fc, .string c.fr.type, .string c.fr.name, .int .i64 c.fr.key, .int .u64 c.fr.place, .string c.fr.word, .slice k.pt c.ad.path.length k.tc, .string c.ad.type, .string c.ad.name, .int .i64 c.ad.key, .int .u64 c.ad.place, .string c.ad.word, .slice k.p.pa c.r.a.path.length k.p.pc, .string c.r.a.type, .string c.r.a.name, .int .i64 c.r.a.key, .int .u64 c.r.a.place, .string c.r.a.word, .string c.r.prov, .string c.r.id, .slice k.p.ta c.r.attrs.length k.p.tc]] w (EdPost s c w)) := by
  show Calls _ _ _ _ _
  obtain ⟨w1, hw1, V1, B1⟩ := sta_new w ra rc s
  obtain ⟨w2, hw2, V2, B2⟩ := cmd_new w1 k c
  obtain ⟨w3, hw3, V3, B3, Z3⟩ := zsta_new w2
  have hl1 := heap_lt V1.out
  have hl2 := heap_lt V2.out
  have hs1 := B1.out.size
  have hs2 := B2.out.size
  have hs3 : w3.heap.size = w2.heap.size + 1 := Z3.out
  have B03 : Hid (Below w.heap.size w w3) := (B1.out.trans (B2.out.mono hs1)).trans (B3.out.mono (by omega))
  have HSZ : Hid (w.heap.size < w1.heap.size ∧ w1.heap.size < w2.heap.size ∧ w3.heap.size = w2.heap.size + 1) := ⟨hl1, hl2, hs3⟩
  have HSB : Hid (∀ W, Below w3.heap.size w3 W → W.heap[w.heap.size]? = some (.cells (staArr ra rc s) 25 (0, 0))) := fun W hb => (hb.block _ (by omega)).trans ((B3.out.block _ (by omega)).trans ((B2.out.block _ hl1).trans V1.out))
  have HCB : Hid (∀ W, Below w3.heap.size w3 W → W.heap[w1.heap.size]? = some (.cells (cmdArr k c) 44 (0, 0))) := fun W hb => (hb.block _ (by omega)).trans ((B3.out.block _ hl2).trans V2.out)
  have HZB : Hid (∀ W, Below w3.heap.size w3 W → W.heap[w2.heap.size]? = some (.cells (staArr none 0 ⟨0, ⟨#[]⟩, []⟩) 25 (0, 0))) := fun W hb => (hb.block _ (by omega)).trans V3.out
  have HBW : Hid (∀ W, Below w3.heap.size w3 W → Below w.heap.size w W) := fun W hb => B03.out.trans (hb.mono B03.out.size)
  have HRA : Hid (∀ W, Below w3.heap.size w3 W → RecsAt W ra s.recs) := fun W hb => ⟨h.t.turn ⟨(HBW.out W hb).size, fun b _ hl => ⟨(HBW.out W hb).block b hl, trivial⟩⟩, h.n, h.s⟩
  have HRL : Hid (∀ W, Below w3.heap.size w3 W → IsRecs W (fun b => b < w.heap.size) ra s.recs) := fun W hb => (recs_old h.t).turn (turn_old (Nat.le_refl _) (HBW.out W hb))
  have HCM : Hid (∀ W, Below w3.heap.size w3 W → CmdAt W k c) := fun W hb => hc.stays (HBW.out W hb)
  have HRC : Hid (∀ W, Below w3.heap.size w3 W → IsRec W (fun b => b < w.heap.size) k.p c.r) := fun W hb => (hc.r.turn (Turn.mono _ (fun _ _ h => h))).turn (turn_old (Nat.le_refl _) (HBW.out W hb))
  have HPT : Hid (∀ W, Below w3.heap.size w3 W → IsTexts W (fun b => b < w.heap.size) k.pt c.ad.path) := fun W hb => (hc.t.t.turn (Turn.mono _ (fun _ _ h => h))).turn (turn_old (Nat.le_refl _) (HBW.out W hb))
  have HCS : Hid (SmallC c) := hc.small
  have KR := rright26_any k c w3 (HCM.out w3 (Below.refl _ _))
  rw [hrc] at KR
  have HKR := hdQ KR
  have HG := hdQ hg
  have HCP := hdQ hcp
  have HN := hdQ hn
  have HSN := hdQ hsn
  have HE : Hid (errC s c = 1) := by rw [Hid, errC, if_pos hrc]
  have LD := cmd_load (HCB.out w3 (Below.refl _ _))
  clear h hg hc hn hsn hcp hrc KR hl1 hl2 hs1 hs2 hs3
  go_enter Tryz.func24, Tryz.ntmps24
  go_wp2_with (refine wpList_load_run LD.out rfl _ rfl rfl ?_)
  refine (Calls.mono HKR.out ?_)
  rintro z w4 ⟨rfl, hb⟩
  have C4 : Hid (Below w3.heap.size w3 w4) := hb
  clear hb HKR LD hw1 hw2 hw3
  obtain ⟨x0, x1, x2⟩ := sta_cells (HSB.out w4 C4.out)
  have zf0 := frozen_of (HZB.out w4 C4.out) 0
  have zf1 := frozen_of (HZB.out w4 C4.out) 1
  have zf2 := frozen_of (HZB.out w4 C4.out) 2
  obtain ⟨zc0, zc1, zc2⟩ := sta_cells (HZB.out w4 C4.out)
  go_wp2_with fail
  exact rbad_ret (HZB.out w4 C4.out) (HBW.out w4 C4.out) (by have := HSZ.out; omega) HE.out (by decide) HG.out (HRA.out w4 C4.out) (HRL.out w4 C4.out) HCP.out _ rfl rfl
end Go.Proofs.YtehghladpnpcoaaGreatDoor.State.Edit
set_option linter.unusedVariables false
set_option linter.unusedSimpArgs false
set_option maxRecDepth 100000
set_option maxHeartbeats 64000000
namespace Go.Proofs.YtehghladpnpcoaaGreatDoor.State.Edit
open Go.RowKit Go.Shelf Go.Proofs.YtehghladpnpcoaaGreatDoor.Utf Go.Proofs.YtehghladpnpcoaaGreatDoor.Strs Go.Proofs.YtehghladpnpcoaaGreatDoor.Addr Go.Proofs.YtehghladpnpcoaaGreatDoor.State
open Go.Proofs.YtehghladpnpcoaaGreatDoor.Jdec (IsTexts Turn infoStr gb_set gb_below gb_refl)
theorem rdo2 (s : Sta) (ra : Option Addr) (rc : Nat) (k : CAt) (c : Cmd) (w : World) (h : RecsAt w ra s.recs) (hcp : s.recs.length ≤ rc) (hg : Good s.recs) (hc : CmdAt w k c) (hn : s.recs.length ≤ 2999) (hsn : s.serial < 18446744073709551616) (hrc : rightC c = true) (kk : c.kind = 2) : Hid (Calls Tryz.prog 24 #[.agg #[.int .u64 s.serial, .string s.lin, .slice ra s.recs.length rc], .agg #[.int .i64 c.kind, .slice k.pf c.fr.path.length k.fc, .string c.fr.type, .string c.fr.name, .int .i64 c.fr.key, .int .u64 c.fr.place, .string c.fr.word, .slice k.pt c.ad.path.length k.tc, .string c.ad.type, .string c.ad.name, .int .i64 c.ad.key, .int .u64 c.ad.place, .string c.ad.word, .slice k.p.pa c.r.a.path.length k.p.pc, .string c.r.a.type, .string c.r.a.name, .int .i64 c.r.a.key, .int .u64 c.r.a.place, .string c.r.a.word, .string c.r.prov, .string c.r.id, .slice k.p.ta c.r.attrs.length k.p.tc]] w (EdPost s c w)) := by
  show Calls _ _ _ _ _
  obtain ⟨w1, hw1, V1, B1⟩ := sta_new w ra rc s
  obtain ⟨w2, hw2, V2, B2⟩ := cmd_new w1 k c
  obtain ⟨w3, hw3, V3, B3, Z3⟩ := zsta_new w2
  have hl1 := heap_lt V1.out
  have hl2 := heap_lt V2.out
  have hs1 := B1.out.size
  have hs2 := B2.out.size
  have hs3 : w3.heap.size = w2.heap.size + 1 := Z3.out
  have B03 : Hid (Below w.heap.size w w3) := (B1.out.trans (B2.out.mono hs1)).trans (B3.out.mono (by omega))
  have HSZ : Hid (w.heap.size < w1.heap.size ∧ w1.heap.size < w2.heap.size ∧ w3.heap.size = w2.heap.size + 1) := ⟨hl1, hl2, hs3⟩
  have HSB : Hid (∀ W, Below w3.heap.size w3 W → W.heap[w.heap.size]? = some (.cells (staArr ra rc s) 25 (0, 0))) := fun W hb => (hb.block _ (by omega)).trans ((B3.out.block _ (by omega)).trans ((B2.out.block _ hl1).trans V1.out))
  have HCB : Hid (∀ W, Below w3.heap.size w3 W → W.heap[w1.heap.size]? = some (.cells (cmdArr k c) 44 (0, 0))) := fun W hb => (hb.block _ (by omega)).trans ((B3.out.block _ hl2).trans V2.out)
  have HZB : Hid (∀ W, Below w3.heap.size w3 W → W.heap[w2.heap.size]? = some (.cells (staArr none 0 ⟨0, ⟨#[]⟩, []⟩) 25 (0, 0))) := fun W hb => (hb.block _ (by omega)).trans V3.out
  have HBW : Hid (∀ W, Below w3.heap.size w3 W → Below w.heap.size w W) := fun W hb => B03.out.trans (hb.mono B03.out.size)
  have HRA : Hid (∀ W, Below w3.heap.size w3 W → RecsAt W ra s.recs) := fun W hb => ⟨h.t.turn ⟨(HBW.out W hb).size, fun b _ hl => ⟨(HBW.out W hb).block b hl, trivial⟩⟩, h.n, h.s⟩
  have HRL : Hid (∀ W, Below w3.heap.size w3 W → IsRecs W (fun b => b < w.heap.size) ra s.recs) := fun W hb => (recs_old h.t).turn (turn_old (Nat.le_refl _) (HBW.out W hb))
  have HCM : Hid (∀ W, Below w3.heap.size w3 W → CmdAt W k c) := fun W hb => hc.stays (HBW.out W hb)
  have HRC : Hid (∀ W, Below w3.heap.size w3 W → IsRec W (fun b => b < w.heap.size) k.p c.r) := fun W hb => (hc.r.turn (Turn.mono _ (fun _ _ h => h))).turn (turn_old (Nat.le_refl _) (HBW.out W hb))
  have HPT : Hid (∀ W, Below w3.heap.size w3 W → IsTexts W (fun b => b < w.heap.size) k.pt c.ad.path) := fun W hb => (hc.t.t.turn (Turn.mono _ (fun _ _ h => h))).turn (turn_old (Nat.le_refl _) (HBW.out W hb))
  have HCS : Hid (SmallC c) := hc.small
  have KR := rright26_any k c w3 (HCM.out w3 (Below.refl _ _))
  rw [hrc] at KR
  have HKR := hdQ KR
  have HG := hdQ hg
  have HCP := hdQ hcp
  have HN := hdQ hn
  have HSN := hdQ hsn
  have HE : Hid (errC s c = if hasB s.recs c.fr = true then (if s.serial = 18446744073709551615 then 13 else 0) else 12) := by
    rw [Hid, errC, hrc, thereC, kk]; cases hasB s.recs c.fr <;> simp
  have HD : Hid (errC s c = 0 → ∀ l, Good l → (∀ x, x ∈ l ↔ x ∈ s.recs ∧ x.a ≠ c.fr) → Done s c ⟨s.serial + 1, s.lin, l⟩) := fun e l hl hm => ⟨fun h => absurd e h, fun _ => rfl, rfl, fun _ x => by rw [memC, if_neg (by rw [kk]; decide), if_pos kk]; exact hm x, hl⟩
  have t1 : (c.kind == 1) = false := by rw [kk]; rfl
  have u1 : (c.kind != 1) = true := by rw [kk]; rfl
  have t2 : (c.kind == 2) = true := by rw [kk]; rfl
  have u2 : (c.kind != 2) = false := by rw [kk]; rfl
  have t3 : (c.kind == 3) = false := by rw [kk]; rfl
  have u3 : (c.kind != 3) = true := by rw [kk]; rfl
  clear kk
  have LD := cmd_load (HCB.out w3 (Below.refl _ _))
  clear h hg hc hn hsn hcp hrc KR hl1 hl2 hs1 hs2 hs3
  go_enter Tryz.func24, Tryz.ntmps24
  go_wp2_with (refine wpList_load_run LD.out rfl _ rfl rfl ?_)
  refine (Calls.mono HKR.out ?_)
  rintro z w4 ⟨rfl, hb⟩
  have C4 : Hid (Below w3.heap.size w3 w4) := hb
  clear hb HKR LD hw1 hw2 hw3
  have HF1 := rf_ok s ra rc c.fr k.pf k.fc w4 (HRA.out w4 C4.out) ((HCM.out w4 C4.out).f)
  obtain ⟨x0, x1, x2⟩ := sta_cells (HSB.out w4 C4.out)
  obtain ⟨y0, y1, y2, y3, y4, y5, y6, y7, y8, y9, y10, y11, y12, y13, y14, y15, y16, y17, y18, y19, y20, y21⟩ := cmd_cells (HCB.out w4 C4.out)
  go_wp2_with fail
  refine (Calls.mono HF1.out ?_)
  rintro z w5 hz
  obtain ⟨hb, hz⟩ := rfound _ _ _ _ _ hz
  have C5 : Hid (Below w3.heap.size w3 w5) := C4.out.trans (hb.out.mono C4.out.size)
  clear hb HF1 x0 x1 x2 y0 y1 y2 y3 y4 y5 y6 y7 y8 y9 y10 y11 y12 y13 y14 y15 y16 y17 y18 y19 y20 y21
  rcases hz with ⟨i, hi, rfl, hia⟩ | ⟨rfl, hno⟩
  case inr =>
    have HE12 : Hid (errC s c = 12) := by rw [Hid, HE.out, (hasB_not _ _).2 hno.out]; rfl
    obtain ⟨x0, x1, x2⟩ := sta_cells (HSB.out w5 C5.out)
    obtain ⟨y0, y1, y2, y3, y4, y5, y6, y7, y8, y9, y10, y11, y12, y13, y14, y15, y16, y17, y18, y19, y20, y21⟩ := cmd_cells (HCB.out w5 C5.out)
    have zf0 := frozen_of (HZB.out w5 C5.out) 0
    have zf1 := frozen_of (HZB.out w5 C5.out) 1
    have zf2 := frozen_of (HZB.out w5 C5.out) 2
    obtain ⟨zc0, zc1, zc2⟩ := sta_cells (HZB.out w5 C5.out)
    go_wp2_with fail
    exact rbad_ret (HZB.out w5 C5.out) (HBW.out w5 C5.out) (by have := HSZ.out; omega) HE12.out (by decide) HG.out (HRA.out w5 C5.out) (HRL.out w5 C5.out) HCP.out _ rfl rfl
  have HHF : Hid (hasB s.recs c.fr = true) := (hasB_iff _ _).2 ⟨_, List.getElem_mem hi, hia.out⟩
  have ii1 : decide (((i : Nat) : Int) < 0) = false := by rw [dfQ]; omega
  have ii2 : decide (0 ≤ ((i : Nat) : Int)) = true := by rw [dtQ]; omega
  rcases Nat.eq_or_lt_of_le (Nat.le_of_lt_succ HSN.out) with hmx | hmx
  case inl =>
    have hmx2 : ((s.serial : Int) == 18446744073709551615) = true := by rw [hmx]; rfl
    have HE13 : Hid (errC s c = 13) := by rw [Hid, HE.out, HHF.out]; simp [hmx]
    clear hmx
    obtain ⟨x0, x1, x2⟩ := sta_cells (HSB.out w5 C5.out)
    obtain ⟨y0, y1, y2, y3, y4, y5, y6, y7, y8, y9, y10, y11, y12, y13, y14, y15, y16, y17, y18, y19, y20, y21⟩ := cmd_cells (HCB.out w5 C5.out)
    have zf0 := frozen_of (HZB.out w5 C5.out) 0
    have zf1 := frozen_of (HZB.out w5 C5.out) 1
    have zf2 := frozen_of (HZB.out w5 C5.out) 2
    obtain ⟨zc0, zc1, zc2⟩ := sta_cells (HZB.out w5 C5.out)
    go_wp2_with fail
    exact rbad_ret (HZB.out w5 C5.out) (HBW.out w5 C5.out) (by have := HSZ.out; omega) HE13.out (by decide) HG.out (HRA.out w5 C5.out) (HRL.out w5 C5.out) HCP.out _ rfl rfl
  have hmx2 : ((s.serial : Int) == 18446744073709551615) = false := by rw [bnQ]; omega
  have HE0 : Hid (errC s c = 0) := by rw [Hid, HE.out, HHF.out]; simp; omega
  obtain ⟨q, hq⟩ : ∃ q : Int, ((s.serial + 1 : Nat) : Int) = q := ⟨_, rfl⟩
  have hwr := tick_wrap hmx hq
  have HQ := hdQ hq
  clear hmx hq
  obtain ⟨z7, hz7, Vz7, Bz7, Zz7⟩ := zrec_new w5
  obtain ⟨w7, ht7⟩ : ∃ w7, (((((((((z7.setCell ⟨w5.heap.size, 0, none⟩ (.slice k.p.pa c.r.a.path.length k.p.pc)).setCell ⟨w5.heap.size, 1, none⟩ (.string c.r.a.type)).setCell ⟨w5.heap.size, 2, none⟩ (.string c.r.a.name)).setCell ⟨w5.heap.size, 3, none⟩ (.int .i64 c.r.a.key)).setCell ⟨w5.heap.size, 4, none⟩ (.int .u64 c.r.a.place)).setCell ⟨w5.heap.size, 5, none⟩ (.string c.r.a.word)).setCell ⟨w5.heap.size, 6, none⟩ (.string c.r.prov)).setCell ⟨w5.heap.size, 7, none⟩ (.string c.r.id)).setCell ⟨w5.heap.size, 8, none⟩ (.slice k.p.ta c.r.attrs.length k.p.tc)) = w7 := ⟨_, rfl⟩
  have Gt7 : Hid (z7.grownBy w7 (some w5.heap.size)) := by rw [← ht7]; exact (((((((((gb_set _ _ _ _).trans (gb_set _ _ _ _)).trans (gb_set _ _ _ _)).trans (gb_set _ _ _ _)).trans (gb_set _ _ _ _)).trans (gb_set _ _ _ _)).trans (gb_set _ _ _ _)).trans (gb_set _ _ _ _)).trans (gb_set _ _ _ _))
  have V7 : Hid (w7.heap[w5.heap.size]? = some (.cells (recArr k.p c.r) 38 (0, 0))) := by rw [← ht7]; exact set9 Vz7.out k.p c.r
  have B7 : Hid (Below w5.heap.size w5 w7) := Bz7.out.grown Gt7.out Bz7.out.size (fun x hx => by injection hx with hx; omega)
  obtain ⟨fz70, fz71, fz72, fz73, fz74, fz75, fz76, fz77, fz78⟩ := rec_frozen Vz7.out
  obtain ⟨cz70, cz71, cz72, cz73, cz74, cz75, cz76, cz77, cz78⟩ := rec_cells Vz7.out
  have C7 : Hid (Below w3.heap.size w3 w7) := C5.out.trans (B7.out.mono C5.out.size)
  obtain ⟨z8, hz8, Vz8, Bz8, Zz8⟩ := zsta_new w7
  obtain ⟨w8, ht8⟩ : ∃ w8, (((z8.setCell ⟨w7.heap.size, 0, none⟩ (.int .u64 s.serial)).setCell ⟨w7.heap.size, 1, none⟩ (.string s.lin)).setCell ⟨w7.heap.size, 2, none⟩ (.slice ra s.recs.length rc)) = w8 := ⟨_, rfl⟩
  have Gt8 : Hid (z8.grownBy w8 (some w7.heap.size)) := by rw [← ht8]; exact (((gb_set _ _ _ _).trans (gb_set _ _ _ _)).trans (gb_set _ _ _ _))
  have V8 : Hid (w8.heap[w7.heap.size]? = some (.cells (staArr ra rc s) 25 (0, 0))) := by rw [← ht8]; exact set3 (t := s) Vz8.out
  have B8 : Hid (Below w7.heap.size w7 w8) := Bz8.out.grown Gt8.out Bz8.out.size (fun x hx => by injection hx with hx; omega)
  have fz80 := frozen_of Vz8.out 0
  have fz81 := frozen_of Vz8.out 1
  have fz82 := frozen_of Vz8.out 2
  obtain ⟨cz80, cz81, cz82⟩ := sta_cells Vz8.out
  have C8 : Hid (Below w3.heap.size w3 w8) := C7.out.trans (B8.out.mono C7.out.size)
  have V78 : Hid (w8.heap[w5.heap.size]? = some (.cells (recArr k.p c.r) 38 (0, 0))) := (B8.out.block _ (heap_lt V7.out)).trans V7.out
  have hs78 : w5.heap.size < w7.heap.size := heap_lt V7.out
  have hs80 : w7.heap.size < w8.heap.size := heap_lt V8.out
  have HS4 : Hid (w3.heap.size ≤ w5.heap.size ∧ w5.heap.size < w7.heap.size ∧ w7.heap.size < w8.heap.size) := ⟨C5.out.size, hs78, hs80⟩
  obtain ⟨x0, x1, x2⟩ := sta_cells (HSB.out w5 C5.out)
  obtain ⟨y0, y1, y2, y3, y4, y5, y6, y7, y8, y9, y10, y11, y12, y13, y14, y15, y16, y17, y18, y19, y20, y21⟩ := cmd_cells (HCB.out w5 C5.out)
  obtain ⟨xx0, xx1, xx2⟩ := sta_cells (HSB.out w7 C7.out)
  obtain ⟨rb, ro, hra, _, hrb, f, hcf⟩ := (HRL.out w8 C8.out).resolve_left (by intro e; rw [e] at hi; simp at hi)
  obtain ⟨hcr, hir⟩ := hcf i hi
  have hsm : Small s.recs[i] := (HRA.out w8 C8.out).s _ (List.getElem_mem hi)
  have hmem : s.recs[i] ∈ s.recs := List.getElem_mem hi
  obtain ⟨r, hr⟩ : ∃ r, s.recs[i] = r := ⟨_, rfl⟩
  obtain ⟨p, hp⟩ : ∃ p, f i = p := ⟨_, rfl⟩
  rw [hr] at hcr hir hsm hmem hia
  rw [hp] at hcr hir
  have HIR : Hid (IsRec w8 (fun b => b < w.heap.size) p r) := hir
  have HMEM : Hid (r ∈ s.recs ∧ Small r ∧ r.a = c.fr) := ⟨hmem, hsm, hia.out⟩
  obtain ⟨z0, z1, z2, z3, z4, z5, z6, z7, z8⟩ := recs_nine hcr
  obtain ⟨g0, g1, g2, g3, g4, g5, g6, g7, g8⟩ := rec_frozen V78.out
  obtain ⟨m0, m1, m2, m3, m4, m5, m6, m7, m8⟩ := rec_cells V78.out
  obtain ⟨x0, x1, x2⟩ := sta_cells (HSB.out w8 C8.out)
  obtain ⟨y0, y1, y2, y3, y4, y5, y6, y7, y8, y9, y10, y11, y12, y13, y14, y15, y16, y17, y18, y19, y20, y21⟩ := cmd_cells (HCB.out w8 C8.out)
  subst hra
  obtain ⟨w9, hw9⟩ : ∃ w9, (((((((((w8.setCell ⟨w5.heap.size, 0, none⟩ (.slice p.pa r.a.path.length p.pc)).setCell ⟨w5.heap.size, 1, none⟩ (.string r.a.type)).setCell ⟨w5.heap.size, 2, none⟩ (.string r.a.name)).setCell ⟨w5.heap.size, 3, none⟩ (.int .i64 r.a.key)).setCell ⟨w5.heap.size, 4, none⟩ (.int .u64 r.a.place)).setCell ⟨w5.heap.size, 5, none⟩ (.string r.a.word)).setCell ⟨w5.heap.size, 6, none⟩ (.string r.prov)).setCell ⟨w5.heap.size, 7, none⟩ (.string r.id)).setCell ⟨w5.heap.size, 8, none⟩ (.slice p.ta r.attrs.length p.tc)) = w9 := ⟨_, rfl⟩
  have V9 : Hid (w9.heap[w5.heap.size]? = some (.cells (recArr p r) 38 (0, 0))) := by rw [← hw9]; exact set9 V78.out p r
  have G9 : Hid (w8.grownBy w9 (some w5.heap.size)) := by rw [← hw9]; exact gb9 _ _ _ _ _ _ _ _ _ _ _
  have C9 : Hid (Below w3.heap.size w3 w9) := C8.out.grown G9.out C8.out.size (fun k hk => by injection hk with hk; have := HS4.out; omega)
  obtain ⟨n0, n1, n2, n3, n4, n5, n6, n7, n8, n9, n10, n11, n12, n13, n14, n15, n16, n17, n18, n19, n20, n21⟩ := cmd_cells (HCB.out w9 C9.out)
  obtain ⟨h0, h1, h2, h3, h4, h5, h6, h7, h8⟩ := rec_frozen V9.out
  obtain ⟨o0, o1, o2, o3, o4, o5, o6, o7, o8⟩ := rec_cells V9.out
  obtain ⟨w10, hw10⟩ : ∃ w10, ((((((w9.setCell ⟨w5.heap.size, 0, none⟩ (.slice k.pt c.ad.path.length k.tc)).setCell ⟨w5.heap.size, 1, none⟩ (.string c.ad.type)).setCell ⟨w5.heap.size, 2, none⟩ (.string c.ad.name)).setCell ⟨w5.heap.size, 3, none⟩ (.int .i64 c.ad.key)).setCell ⟨w5.heap.size, 4, none⟩ (.int .u64 c.ad.place)).setCell ⟨w5.heap.size, 5, none⟩ (.string c.ad.word)) = w10 := ⟨_, rfl⟩
  have V10 : Hid (w10.heap[w5.heap.size]? = some (.cells (recArr ⟨k.pt, k.tc, p.ta, p.tc⟩ (moved r c.ad)) 38 (0, 0))) := by rw [← hw10]; exact set6 V9.out k.pt k.tc c.ad
  have G10 : Hid (w9.grownBy w10 (some w5.heap.size)) := by rw [← hw10]; exact gb6 _ _ _ _ _ _ _ _
  have C10 : Hid (Below w3.heap.size w3 w10) := C9.out.grown G10.out C9.out.size (fun k hk => by injection hk with hk; have := HS4.out; omega)
  obtain ⟨u0, u1, u2⟩ := sta_cells (HSB.out w10 C10.out)
  obtain ⟨v0, v1, v2, v3, v4, v5, v6, v7, v8, v9, v10, v11, v12, v13, v14, v15, v16, v17, v18, v19, v20, v21⟩ := cmd_cells (HCB.out w10 C10.out)
  have HDR := rd_ok (fun b => b < w.heap.size) s (some ⟨rb, ro, none⟩) rc c.fr k.pf k.fc w10 (HRA.out w10 C10.out) HCP.out (HRL.out w10 C10.out) ((HCM.out w10 C10.out).f) ⟨r, HMEM.out.1, HMEM.out.2.2⟩
  have V8b : Hid (w10.heap[w7.heap.size]? = some (.cells (staArr (some ⟨rb, ro, none⟩) rc s) 25 (0, 0))) := (G10.out.block _ (by have := G9.out.size; have := HS4.out; omega) (fun e => by injection e with e; have := HS4.out; omega)).trans ((G9.out.block _ (by have := HS4.out; omega) (fun e => by injection e with e; have := HS4.out; omega)).trans V8.out)
  have hs810 : Hid (w8.heap.size ≤ w10.heap.size) := Nat.le_trans G9.out.size G10.out.size
  have HI10 : Hid (∀ W, Below w10.heap.size w10 W → IsRec W (fun b => b < w.heap.size ∨ w8.heap.size ≤ b) ⟨k.pt, k.tc, p.ta, p.tc⟩ (moved r c.ad)) := fun W hb => by
    have t : Turn w8 W (fun b => b < w.heap.size) (fun b => b < w.heap.size ∨ w8.heap.size ≤ b) := ⟨Nat.le_trans hs810.out hb.size, fun b hb1 hl => ⟨by rw [hb.block b (by have := hs810.out; omega), G10.out.block b (by have := G9.out.size; omega) (fun e => by injection e with e; have := HS4.out; have := HSZ.out; omega), G9.out.block b hl (fun e => by injection e with e; have := HS4.out; have := HSZ.out; omega)], .inl hb1⟩⟩
    exact ⟨(HPT.out W (C10.out.trans (hb.mono C10.out.size))).turn (Turn.mono _ (fun b hb _ => .inl hb)), (HIR.out.turn t).attrs⟩
  clear hcr hir hsm hmem hr hp hcf hrb
  go_wp2_with fail
  refine (Calls.mono HDR.out ?_)
  rintro z w11 hz
  obtain ⟨i2, hi2, l1, a1, c1, rfl, e1, el, hI1, hc1, hb11⟩ := hz.to
  have C11 : Hid (Below w3.heap.size w3 w11) := C10.out.trans (hb11.out.mono C10.out.size)
  have V8c : Hid (w11.heap[w7.heap.size]? = some (.cells (staArr (some ⟨rb, ro, none⟩) rc s) 25 (0, 0))) := (hb11.out.block _ (heap_lt V8b.out)).trans V8b.out
  have V10c : Hid (w11.heap[w5.heap.size]? = some (.cells (recArr ⟨k.pt, k.tc, p.ta, p.tc⟩ (moved r c.ad)) 38 (0, 0))) := (hb11.out.block _ (heap_lt V10.out)).trans V10.out
  have HDL : Hid (Good l1 ∧ (∀ x, x ∈ l1 ↔ x ∈ s.recs ∧ x.a ≠ c.fr) ∧ l1.length ≤ s.recs.length) := by
    have el' := el.out
    subst el'
    exact ⟨good_drop HG.out i2, fun x => by rw [mem_drop HG.out hi2, e1.out], (dropR_sub _ _).length_le⟩
  have hb11s : Hid (w10.heap.size ≤ w11.heap.size) := hb11.out.size
  have hb11h : Hid (Below w10.heap.size w10 w11) := hb11.out
  have bf0 := frozen_of V8c.out 0
  have bf1 := frozen_of V8c.out 1
  have bf2 := frozen_of V8c.out 2
  obtain ⟨b0, b1, b2⟩ := sta_cells V8c.out
  obtain ⟨w12, hw12⟩ : ∃ w12, (((w11.setCell ⟨w7.heap.size, 0, none⟩ (.int .u64 s.serial)).setCell ⟨w7.heap.size, 1, none⟩ (.string s.lin)).setCell ⟨w7.heap.size, 2, none⟩ (.slice a1 l1.length c1)) = w12 := ⟨_, rfl⟩
  have V12 : Hid (w12.heap[w7.heap.size]? = some (.cells (staArr a1 c1 ⟨s.serial, s.lin, l1⟩) 25 (0, 0))) := by rw [← hw12]; exact set3 (t := ⟨s.serial, s.lin, l1⟩) V8c.out
  have G12 : Hid (w11.grownBy w12 (some w7.heap.size)) := by rw [← hw12]; exact ((gb_set _ _ _ _).trans (gb_set _ _ _ _)).trans (gb_set _ _ _ _)
  have C12 : Hid (Below w3.heap.size w3 w12) := C11.out.grown G12.out C11.out.size (fun k hk => by injection hk with hk; have := HS4.out; omega)
  have I12 : Hid (IsRecs w12 (fun b => b < w.heap.size ∨ w8.heap.size ≤ b) a1 l1) := hI1.out.turn ⟨G12.out.size, fun b hb1 hl => ⟨G12.out.block b hl (fun e => by injection e with e; have := HS4.out; have := HSZ.out; have := hs810.out; omega), hb1.imp id (fun h => Nat.le_trans hs810.out h)⟩⟩
  clear z0 z1 z2 z3 z4 z5 z6 z7 z8 g0 g1 g2 g3 g4 g5 g6 g7 g8 m0 m1 m2 m3 m4 m5 m6 m7 m8 x0 x1 x2 y0 y1 y2 y3 y4 y5 y6 y7 y8 y9 y10 y11 y12 y13 y14 y15 y16 y17 y18 y19 y20 y21 n0 n1 n2 n3 n4 n5 n6 n7 n8 n9 n10 n11 n12 n13 n14 n15 n16 n17 n18 n19 n20 n21 h0 h1 h2 h3 h4 h5 h6 h7 h8 o0 o1 o2 o3 o4 o5 o6 o7 o8 u0 u1 u2 v0 v1 v2 v3 v4 v5 v6 v7 v8 v9 v10 v11 v12 v13 v14 v15 v16 v17 v18 v19 v20 v21 hz7 ht7 hz8 ht8 fz70 cz70 fz71 cz71 fz72 cz72 fz73 cz73 fz74 cz74 fz75 cz75 fz76 cz76 fz77 cz77 fz78 cz78 fz80 cz80 fz81 cz81 fz82 cz82 HDR el hI1 hb11
  obtain ⟨v0, v1, v2, v3, v4, v5, v6, v7, v8, v9, v10, v11, v12, v13, v14, v15, v16, v17, v18, v19, v20, v21⟩ := cmd_cells (HCB.out w12 C12.out)
  obtain ⟨b0, b1, b2⟩ := sta_cells V12.out
  have bf0 := frozen_of V12.out 0
  obtain ⟨x0, x1, x2⟩ := sta_cells (HSB.out w12 C12.out)
  obtain ⟨w15, hw15⟩ : ∃ w15, w12.setCell ⟨w7.heap.size, 0, none⟩ (.int .u64 q) = w15 := ⟨_, rfl⟩
  have G15 : Hid (w12.grownBy w15 (some w7.heap.size)) := by rw [← hw15]; exact gb_set _ _ _ _
  have V15 : Hid (w15.heap[w7.heap.size]? = some (.cells #[.int .u64 q, .string s.lin, .slice a1 l1.length c1] 25 (0, 0))) := by rw [← hw15, Hid, heap_set_same V12.out]; rfl
  have C15 : Hid (Below w3.heap.size w3 w15) := C12.out.grown G15.out C12.out.size (fun k hk => by injection hk with hk; have := HS4.out; omega)
  have d0 := cell_of V15.out 0
  have d1 := cell_of V15.out 1
  have d2 := cell_of V15.out 2
  have zf0 := frozen_of (HZB.out w15 C15.out) 0
  have zf1 := frozen_of (HZB.out w15 C15.out) 1
  have zf2 := frozen_of (HZB.out w15 C15.out) 2
  obtain ⟨zc0, zc1, zc2⟩ := sta_cells (HZB.out w15 C15.out)
  go_wp2_with fail
  have hq := HQ.out
  subst hq
  have hg6 : w15.grownBy (((w15.setCell ⟨w2.heap.size, 0, none⟩ (.int .u64 ((s.serial + 1 : Nat) : Int))).setCell ⟨w2.heap.size, 1, none⟩ (.string s.lin)).setCell ⟨w2.heap.size, 2, none⟩ (.slice a1 l1.length c1)) (some w2.heap.size) := ((gb_set _ _ _ _).trans (gb_set _ _ _ _)).trans (gb_set _ _ _ _)
  have hB := HBW.out w15 C15.out
  have HNL : l1.length ≤ c1 ∧ l1.length ≤ s.recs.length + 1 := ⟨hc1.out, Nat.le_trans HDL.out.2.2 (Nat.le_succ _)⟩
  refine rdo_ret ⟨s.serial + 1, s.lin, l1⟩ 0 _ _ w2.heap.size a1 c1 _ (set3 (t := ⟨s.serial + 1, s.lin, l1⟩) (HZB.out w15 C15.out)) rfl rfl ⟨a1, c1, ⟨s.serial + 1, s.lin, l1⟩, by rw [HE0.out] <;> rfl, HD.out HE0.out l1 HDL.out.1 HDL.out.2.1, ⟨?_, by have := HNL.2; have := HN.out; show List.length l1 ≤ 3000; omega, (HD.out HE0.out l1 HDL.out.1 HDL.out.2.1).good.s⟩, HNL, hB.grown hg6 hB.size (fun k hk => by injection hk with hk; have := HSZ.out; omega)⟩
  have ht1 : Turn w12 w15 (fun b => b < w.heap.size ∨ w8.heap.size ≤ b) (fun b => b < w.heap.size ∨ w8.heap.size ≤ b) := ⟨G15.out.size, fun b hb1 hl => ⟨G15.out.block b hl (fun e => by injection e with e; have := HS4.out; have := HSZ.out; omega), hb1⟩⟩
  have ht2 : Turn w15 (((w15.setCell ⟨w2.heap.size, 0, none⟩ (.int .u64 ((s.serial + 1 : Nat) : Int))).setCell ⟨w2.heap.size, 1, none⟩ (.string s.lin)).setCell ⟨w2.heap.size, 2, none⟩ (.slice a1 l1.length c1)) (fun b => b < w.heap.size ∨ w8.heap.size ≤ b) (fun _ => True) := ⟨hg6.size, fun b hb1 hl => ⟨hg6.block b hl (fun e => by injection e with e; have := HS4.out; have := HSZ.out; omega), trivial⟩⟩
  exact IsRecs.turn (IsRecs.turn I12.out ht1) ht2
end Go.Proofs.YtehghladpnpcoaaGreatDoor.State.Edit
set_option linter.unusedVariables false
set_option linter.unusedSimpArgs false
set_option maxRecDepth 100000
set_option maxHeartbeats 64000000
namespace Go.Proofs.YtehghladpnpcoaaGreatDoor.State.Edit
open Go.RowKit Go.Shelf Go.Proofs.YtehghladpnpcoaaGreatDoor.Utf Go.Proofs.YtehghladpnpcoaaGreatDoor.Strs Go.Proofs.YtehghladpnpcoaaGreatDoor.Addr Go.Proofs.YtehghladpnpcoaaGreatDoor.State
open Go.Proofs.YtehghladpnpcoaaGreatDoor.Jdec (IsTexts Turn infoStr gb_set gb_below gb_refl)
theorem rdo3 (s : Sta) (ra : Option Addr) (rc : Nat) (k : CAt) (c : Cmd) (w : World) (h : RecsAt w ra s.recs) (hcp : s.recs.length ≤ rc) (hg : Good s.recs) (hc : CmdAt w k c) (hn : s.recs.length ≤ 2999) (hsn : s.serial < 18446744073709551616) (hrc : rightC c = true) (kk : c.kind = 3) : Hid (Calls Tryz.prog 24 #[.agg #[.int .u64 s.serial, .string s.lin, .slice ra s.recs.length rc], .agg #[.int .i64 c.kind, .slice k.pf c.fr.path.length k.fc, .string c.fr.type, .string c.fr.name, .int .i64 c.fr.key, .int .u64 c.fr.place, .string c.fr.word, .slice k.pt c.ad.path.length k.tc, .string c.ad.type, .string c.ad.name, .int .i64 c.ad.key, .int .u64 c.ad.place, .string c.ad.word, .slice k.p.pa c.r.a.path.length k.p.pc, .string c.r.a.type, .string c.r.a.name, .int .i64 c.r.a.key, .int .u64 c.r.a.place, .string c.r.a.word, .string c.r.prov, .string c.r.id, .slice k.p.ta c.r.attrs.length k.p.tc]] w (EdPost s c w)) := by
  show Calls _ _ _ _ _
  obtain ⟨w1, hw1, V1, B1⟩ := sta_new w ra rc s
  obtain ⟨w2, hw2, V2, B2⟩ := cmd_new w1 k c
  obtain ⟨w3, hw3, V3, B3, Z3⟩ := zsta_new w2
  have hl1 := heap_lt V1.out
  have hl2 := heap_lt V2.out
  have hs1 := B1.out.size
  have hs2 := B2.out.size
  have hs3 : w3.heap.size = w2.heap.size + 1 := Z3.out
  have B03 : Hid (Below w.heap.size w w3) := (B1.out.trans (B2.out.mono hs1)).trans (B3.out.mono (by omega))
  have HSZ : Hid (w.heap.size < w1.heap.size ∧ w1.heap.size < w2.heap.size ∧ w3.heap.size = w2.heap.size + 1) := ⟨hl1, hl2, hs3⟩
  have HSB : Hid (∀ W, Below w3.heap.size w3 W → W.heap[w.heap.size]? = some (.cells (staArr ra rc s) 25 (0, 0))) := fun W hb => (hb.block _ (by omega)).trans ((B3.out.block _ (by omega)).trans ((B2.out.block _ hl1).trans V1.out))
  have HCB : Hid (∀ W, Below w3.heap.size w3 W → W.heap[w1.heap.size]? = some (.cells (cmdArr k c) 44 (0, 0))) := fun W hb => (hb.block _ (by omega)).trans ((B3.out.block _ hl2).trans V2.out)
  have HZB : Hid (∀ W, Below w3.heap.size w3 W → W.heap[w2.heap.size]? = some (.cells (staArr none 0 ⟨0, ⟨#[]⟩, []⟩) 25 (0, 0))) := fun W hb => (hb.block _ (by omega)).trans V3.out
  have HBW : Hid (∀ W, Below w3.heap.size w3 W → Below w.heap.size w W) := fun W hb => B03.out.trans (hb.mono B03.out.size)
  have HRA : Hid (∀ W, Below w3.heap.size w3 W → RecsAt W ra s.recs) := fun W hb => ⟨h.t.turn ⟨(HBW.out W hb).size, fun b _ hl => ⟨(HBW.out W hb).block b hl, trivial⟩⟩, h.n, h.s⟩
  have HRL : Hid (∀ W, Below w3.heap.size w3 W → IsRecs W (fun b => b < w.heap.size) ra s.recs) := fun W hb => (recs_old h.t).turn (turn_old (Nat.le_refl _) (HBW.out W hb))
  have HCM : Hid (∀ W, Below w3.heap.size w3 W → CmdAt W k c) := fun W hb => hc.stays (HBW.out W hb)
  have HRC : Hid (∀ W, Below w3.heap.size w3 W → IsRec W (fun b => b < w.heap.size) k.p c.r) := fun W hb => (hc.r.turn (Turn.mono _ (fun _ _ h => h))).turn (turn_old (Nat.le_refl _) (HBW.out W hb))
  have HPT : Hid (∀ W, Below w3.heap.size w3 W → IsTexts W (fun b => b < w.heap.size) k.pt c.ad.path) := fun W hb => (hc.t.t.turn (Turn.mono _ (fun _ _ h => h))).turn (turn_old (Nat.le_refl _) (HBW.out W hb))
  have HCS : Hid (SmallC c) := hc.small
  have KR := rright26_any k c w3 (HCM.out w3 (Below.refl _ _))
  rw [hrc] at KR
  have HKR := hdQ KR
  have HG := hdQ hg
  have HCP := hdQ hcp
  have HN := hdQ hn
  have HSN := hdQ hsn
  have HE : Hid (errC s c = if hasB s.recs c.r.a = true then 11 else if s.serial = 18446744073709551615 then 13 else 0) := by
    rw [Hid, errC, hrc, thereC, kk]; cases hasB s.recs c.r.a <;> simp
  have HRB : Hid (recB c.r = true) := by rcases rightC_cases hrc with h | h | h <;> first | (exact absurd (h.1.symm.trans kk) (by decide)) | exact h.2.1
  have HD : Hid (errC s c = 0 → ∀ l, Good l → (∀ x, x ∈ l ↔ x = c.r ∨ x ∈ s.recs ∧ x.a ≠ c.r.a) → Done s c ⟨s.serial + 1, s.lin, l⟩) := fun e l hl hm => ⟨fun h => absurd e h, fun _ => rfl, rfl, fun _ x => by
    rw [memC, if_neg (by rw [kk]; decide), if_neg (by rw [kk]; decide)]
    refine (hm x).trans ⟨fun h => h.elim .inr (fun h => .inl h.1), fun h => h.elim (fun h => .inr ⟨h, (err_okay.1 e).g kk x h⟩) .inl⟩, hl⟩
  have t1 : (c.kind == 1) = false := by rw [kk]; rfl
  have u1 : (c.kind != 1) = true := by rw [kk]; rfl
  have t2 : (c.kind == 2) = false := by rw [kk]; rfl
  have u2 : (c.kind != 2) = true := by rw [kk]; rfl
  have t3 : (c.kind == 3) = true := by rw [kk]; rfl
  have u3 : (c.kind != 3) = false := by rw [kk]; rfl
  clear kk
  have LD := cmd_load (HCB.out w3 (Below.refl _ _))
  clear h hg hc hn hsn hcp hrc KR hl1 hl2 hs1 hs2 hs3
  go_enter Tryz.func24, Tryz.ntmps24
  go_wp2_with (refine wpList_load_run LD.out rfl _ rfl rfl ?_)
  refine (Calls.mono HKR.out ?_)
  rintro z w4 ⟨rfl, hb⟩
  have C4 : Hid (Below w3.heap.size w3 w4) := hb
  clear hb HKR LD hw1 hw2 hw3
  have HF1 := rf_ok s ra rc c.fr k.pf k.fc w4 (HRA.out w4 C4.out) ((HCM.out w4 C4.out).f)
  obtain ⟨x0, x1, x2⟩ := sta_cells (HSB.out w4 C4.out)
  obtain ⟨y0, y1, y2, y3, y4, y5, y6, y7, y8, y9, y10, y11, y12, y13, y14, y15, y16, y17, y18, y19, y20, y21⟩ := cmd_cells (HCB.out w4 C4.out)
  go_wp2_with fail
  refine (Calls.mono HF1.out ?_)
  rintro z w5 hz
  obtain ⟨hb, hz⟩ := rfound _ _ _ _ _ hz
  have C5 : Hid (Below w3.heap.size w3 w5) := C4.out.trans (hb.out.mono C4.out.size)
  clear hb HF1 x0 x1 x2 y0 y1 y2 y3 y4 y5 y6 y7 y8 y9 y10 y11 y12 y13 y14 y15 y16 y17 y18 y19 y20 y21
  obtain ⟨v, hzz⟩ : ∃ v : Int, z = .returned (.int .i64 v) := by
    rcases hz with ⟨i, _, e, _⟩ | ⟨e, _⟩
    · exact ⟨_, e⟩
    · exact ⟨_, e⟩
  subst hzz
  clear hz
  have HF2 := rf_ok s ra rc c.r.a k.p.pa k.p.pc w5 (HRA.out w5 C5.out) ((HCM.out w5 C5.out).r.adr (HCM.out w5 C5.out).s)
  obtain ⟨x0, x1, x2⟩ := sta_cells (HSB.out w5 C5.out)
  obtain ⟨y0, y1, y2, y3, y4, y5, y6, y7, y8, y9, y10, y11, y12, y13, y14, y15, y16, y17, y18, y19, y20, y21⟩ := cmd_cells (HCB.out w5 C5.out)
  go_wp2_with fail
  refine (Calls.mono HF2.out ?_)
  rintro z w6 hz
  obtain ⟨hb, hz⟩ := rfound _ _ _ _ _ hz
  have C6 : Hid (Below w3.heap.size w3 w6) := C5.out.trans (hb.out.mono C5.out.size)
  clear hb HF2 x0 x1 x2 y0 y1 y2 y3 y4 y5 y6 y7 y8 y9 y10 y11 y12 y13 y14 y15 y16 y17 y18 y19 y20 y21
  rcases hz with ⟨i, hi, rfl, hia⟩ | ⟨rfl, hno⟩
  case inl =>
    have HE11 : Hid (errC s c = 11) := by rw [Hid, HE.out, (hasB_iff _ _).2 ⟨_, List.getElem_mem hi, hia.out⟩]; rfl
    have ii1 : decide (((i : Nat) : Int) < 0) = false := by rw [dfQ]; omega
    have ii2 : decide (0 ≤ ((i : Nat) : Int)) = true := by rw [dtQ]; omega
    obtain ⟨x0, x1, x2⟩ := sta_cells (HSB.out w6 C6.out)
    obtain ⟨y0, y1, y2, y3, y4, y5, y6, y7, y8, y9, y10, y11, y12, y13, y14, y15, y16, y17, y18, y19, y20, y21⟩ := cmd_cells (HCB.out w6 C6.out)
    have zf0 := frozen_of (HZB.out w6 C6.out) 0
    have zf1 := frozen_of (HZB.out w6 C6.out) 1
    have zf2 := frozen_of (HZB.out w6 C6.out) 2
    obtain ⟨zc0, zc1, zc2⟩ := sta_cells (HZB.out w6 C6.out)
    go_wp2_with fail
    exact rbad_ret (HZB.out w6 C6.out) (HBW.out w6 C6.out) (by have := HSZ.out; omega) HE11.out (by decide) HG.out (HRA.out w6 C6.out) (HRL.out w6 C6.out) HCP.out _ rfl rfl
  have HHN : Hid (hasB s.recs c.r.a = false) := (hasB_not _ _).2 hno.out
  rcases Nat.eq_or_lt_of_le (Nat.le_of_lt_succ HSN.out) with hmx | hmx
  case inl =>
    have hmx2 : ((s.serial : Int) == 18446744073709551615) = true := by rw [hmx]; rfl
    have HE13 : Hid (errC s c = 13) := by rw [Hid, HE.out, HHN.out]; simp [hmx]
    clear hmx
    obtain ⟨x0, x1, x2⟩ := sta_cells (HSB.out w6 C6.out)
    obtain ⟨y0, y1, y2, y3, y4, y5, y6, y7, y8, y9, y10, y11, y12, y13, y14, y15, y16, y17, y18, y19, y20, y21⟩ := cmd_cells (HCB.out w6 C6.out)
    have zf0 := frozen_of (HZB.out w6 C6.out) 0
    have zf1 := frozen_of (HZB.out w6 C6.out) 1
    have zf2 := frozen_of (HZB.out w6 C6.out) 2
    obtain ⟨zc0, zc1, zc2⟩ := sta_cells (HZB.out w6 C6.out)
    go_wp2_with fail
    exact rbad_ret (HZB.out w6 C6.out) (HBW.out w6 C6.out) (by have := HSZ.out; omega) HE13.out (by decide) HG.out (HRA.out w6 C6.out) (HRL.out w6 C6.out) HCP.out _ rfl rfl
  have hmx2 : ((s.serial : Int) == 18446744073709551615) = false := by rw [bnQ]; omega
  have HE0 : Hid (errC s c = 0) := by rw [Hid, HE.out, HHN.out]; simp; omega
  obtain ⟨q, hq⟩ : ∃ q : Int, ((s.serial + 1 : Nat) : Int) = q := ⟨_, rfl⟩
  have hwr := tick_wrap hmx hq
  have HQ := hdQ hq
  clear hmx hq
  obtain ⟨z7, hz7, Vz7, Bz7, Zz7⟩ := zrec_new w6
  obtain ⟨w7, ht7⟩ : ∃ w7, (((((((((z7.setCell ⟨w6.heap.size, 0, none⟩ (.slice k.p.pa c.r.a.path.length k.p.pc)).setCell ⟨w6.heap.size, 1, none⟩ (.string c.r.a.type)).setCell ⟨w6.heap.size, 2, none⟩ (.string c.r.a.name)).setCell ⟨w6.heap.size, 3, none⟩ (.int .i64 c.r.a.key)).setCell ⟨w6.heap.size, 4, none⟩ (.int .u64 c.r.a.place)).setCell ⟨w6.heap.size, 5, none⟩ (.string c.r.a.word)).setCell ⟨w6.heap.size, 6, none⟩ (.string c.r.prov)).setCell ⟨w6.heap.size, 7, none⟩ (.string c.r.id)).setCell ⟨w6.heap.size, 8, none⟩ (.slice k.p.ta c.r.attrs.length k.p.tc)) = w7 := ⟨_, rfl⟩
  have Gt7 : Hid (z7.grownBy w7 (some w6.heap.size)) := by rw [← ht7]; exact (((((((((gb_set _ _ _ _).trans (gb_set _ _ _ _)).trans (gb_set _ _ _ _)).trans (gb_set _ _ _ _)).trans (gb_set _ _ _ _)).trans (gb_set _ _ _ _)).trans (gb_set _ _ _ _)).trans (gb_set _ _ _ _)).trans (gb_set _ _ _ _))
  have V7 : Hid (w7.heap[w6.heap.size]? = some (.cells (recArr k.p c.r) 38 (0, 0))) := by rw [← ht7]; exact set9 Vz7.out k.p c.r
  have B7 : Hid (Below w6.heap.size w6 w7) := Bz7.out.grown Gt7.out Bz7.out.size (fun x hx => by injection hx with hx; omega)
  obtain ⟨fz70, fz71, fz72, fz73, fz74, fz75, fz76, fz77, fz78⟩ := rec_frozen Vz7.out
  obtain ⟨cz70, cz71, cz72, cz73, cz74, cz75, cz76, cz77, cz78⟩ := rec_cells Vz7.out
  have C7 : Hid (Below w3.heap.size w3 w7) := C6.out.trans (B7.out.mono C6.out.size)
  obtain ⟨z8, hz8, Vz8, Bz8, Zz8⟩ := zsta_new w7
  obtain ⟨w8, ht8⟩ : ∃ w8, (((z8.setCell ⟨w7.heap.size, 0, none⟩ (.int .u64 s.serial)).setCell ⟨w7.heap.size, 1, none⟩ (.string s.lin)).setCell ⟨w7.heap.size, 2, none⟩ (.slice ra s.recs.length rc)) = w8 := ⟨_, rfl⟩
  have Gt8 : Hid (z8.grownBy w8 (some w7.heap.size)) := by rw [← ht8]; exact (((gb_set _ _ _ _).trans (gb_set _ _ _ _)).trans (gb_set _ _ _ _))
  have V8 : Hid (w8.heap[w7.heap.size]? = some (.cells (staArr ra rc s) 25 (0, 0))) := by rw [← ht8]; exact set3 (t := s) Vz8.out
  have B8 : Hid (Below w7.heap.size w7 w8) := Bz8.out.grown Gt8.out Bz8.out.size (fun x hx => by injection hx with hx; omega)
  have fz80 := frozen_of Vz8.out 0
  have fz81 := frozen_of Vz8.out 1
  have fz82 := frozen_of Vz8.out 2
  obtain ⟨cz80, cz81, cz82⟩ := sta_cells Vz8.out
  have C8 : Hid (Below w3.heap.size w3 w8) := C7.out.trans (B8.out.mono C7.out.size)
  have V78 : Hid (w8.heap[w6.heap.size]? = some (.cells (recArr k.p c.r) 38 (0, 0))) := (B8.out.block _ (heap_lt V7.out)).trans V7.out
  have hs78 : w6.heap.size < w7.heap.size := heap_lt V7.out
  have hs80 : w7.heap.size < w8.heap.size := heap_lt V8.out
  have HS4 : Hid (w3.heap.size ≤ w6.heap.size ∧ w6.heap.size < w7.heap.size ∧ w7.heap.size < w8.heap.size) := ⟨C6.out.size, hs78, hs80⟩
  obtain ⟨x0, x1, x2⟩ := sta_cells (HSB.out w6 C6.out)
  obtain ⟨y0, y1, y2, y3, y4, y5, y6, y7, y8, y9, y10, y11, y12, y13, y14, y15, y16, y17, y18, y19, y20, y21⟩ := cmd_cells (HCB.out w6 C6.out)
  obtain ⟨xx0, xx1, xx2⟩ := sta_cells (HSB.out w7 C7.out)
  obtain ⟨v0, v1, v2, v3, v4, v5, v6, v7, v8, v9, v10, v11, v12, v13, v14, v15, v16, v17, v18, v19, v20, v21⟩ := cmd_cells (HCB.out w8 C8.out)
  obtain ⟨m0, m1, m2, m3, m4, m5, m6, m7, m8⟩ := rec_cells V78.out
  obtain ⟨b0, b1, b2⟩ := sta_cells V8.out
  have V12 := hdQ V8.out
  have HS12 : Hid (w8.heap.size ≤ w8.heap.size) := Nat.le_refl _
  have HPU : Hid (Calls Tryz.prog 60 #[.agg #[.int .u64 s.serial, .string s.lin, .slice ra s.recs.length rc], .agg #[.slice k.p.pa c.r.a.path.length k.p.pc, .string c.r.a.type, .string c.r.a.name, .int .i64 c.r.a.key, .int .u64 c.r.a.place, .string c.r.a.word, .string c.r.prov, .string c.r.id, .slice k.p.ta c.r.attrs.length k.p.tc]] w8 (RuPost (fun b => b < w.heap.size ∨ w8.heap.size ≤ b) ⟨s.serial, s.lin, s.recs⟩ c.r w8)) := rPut_any (fun b => b < w.heap.size ∨ w8.heap.size ≤ b) ⟨s.serial, s.lin, s.recs⟩ ra rc c.r k.p w8 (HRA.out w8 C8.out) HCP.out ((HRL.out w8 C8.out).turn (Turn.mono _ (fun b hb _ => .inl hb))) ((HRC.out w8 C8.out).turn (Turn.mono _ (fun b hb _ => .inl hb))) HCS.out.r
  go_wp2_with fail
  refine (Calls.mono HPU.out ?_)
  rintro z w13 hz
  obtain ⟨L, a', c', rfl, HGL, HML, HIL, HCL, hb13⟩ := ru_new (s := ⟨s.serial, s.lin, s.recs⟩) HG.out HRB.out HCS.out.r hno.out hz
  have C13 : Hid (Below w3.heap.size w3 w13) := C8.out.trans (hb13.out.mono C8.out.size)
  have V13c : Hid (w13.heap[w7.heap.size]? = some (.cells (staArr ra rc ⟨s.serial, s.lin, s.recs⟩) 25 (0, 0))) := (hb13.out.block _ (heap_lt V12.out)).trans V12.out
  have bg0 := frozen_of V13c.out 0
  have bg1 := frozen_of V13c.out 1
  have bg2 := frozen_of V13c.out 2
  obtain ⟨bb0, bb1, bb2⟩ := sta_cells V13c.out
  obtain ⟨w14, hw14⟩ : ∃ w14, (((w13.setCell ⟨w7.heap.size, 0, none⟩ (.int .u64 s.serial)).setCell ⟨w7.heap.size, 1, none⟩ (.string s.lin)).setCell ⟨w7.heap.size, 2, none⟩ (.slice a' L.length c')) = w14 := ⟨_, rfl⟩
  have V14 : Hid (w14.heap[w7.heap.size]? = some (.cells (staArr a' c' ⟨s.serial, s.lin, L⟩) 25 (0, 0))) := by rw [← hw14]; exact set3 (t := ⟨s.serial, s.lin, L⟩) V13c.out
  have G14 : Hid (w13.grownBy w14 (some w7.heap.size)) := by rw [← hw14]; exact ((gb_set _ _ _ _).trans (gb_set _ _ _ _)).trans (gb_set _ _ _ _)
  have C14 : Hid (Below w3.heap.size w3 w14) := C13.out.grown G14.out C13.out.size (fun k hk => by injection hk with hk; have := HS4.out; omega)
  have I14 : Hid (IsRecs w14 (fun b => b < w.heap.size ∨ w8.heap.size ≤ b) a' L) := HIL.out.turn ⟨G14.out.size, fun b hb1 hl => ⟨G14.out.block b hl (fun e => by injection e with e; have := HS4.out; have := HSZ.out; have := HS12.out; omega), hb1.elim id (fun h => .inr (Nat.le_trans HS12.out h))⟩⟩
  clear HPU
  obtain ⟨b0, b1, b2⟩ := sta_cells V14.out
  have bf0 := frozen_of V14.out 0
  obtain ⟨x0, x1, x2⟩ := sta_cells (HSB.out w14 C14.out)
  obtain ⟨w15, hw15⟩ : ∃ w15, w14.setCell ⟨w7.heap.size, 0, none⟩ (.int .u64 q) = w15 := ⟨_, rfl⟩
  have G15 : Hid (w14.grownBy w15 (some w7.heap.size)) := by rw [← hw15]; exact gb_set _ _ _ _
  have V15 : Hid (w15.heap[w7.heap.size]? = some (.cells #[.int .u64 q, .string s.lin, .slice a' L.length c'] 25 (0, 0))) := by rw [← hw15, Hid, heap_set_same V14.out]; rfl
  have C15 : Hid (Below w3.heap.size w3 w15) := C14.out.grown G15.out C14.out.size (fun k hk => by injection hk with hk; have := HS4.out; omega)
  have d0 := cell_of V15.out 0
  have d1 := cell_of V15.out 1
  have d2 := cell_of V15.out 2
  have zf0 := frozen_of (HZB.out w15 C15.out) 0
  have zf1 := frozen_of (HZB.out w15 C15.out) 1
  have zf2 := frozen_of (HZB.out w15 C15.out) 2
  obtain ⟨zc0, zc1, zc2⟩ := sta_cells (HZB.out w15 C15.out)
  go_wp2_with fail
  have hq := HQ.out
  subst hq
  have hg6 : w15.grownBy (((w15.setCell ⟨w2.heap.size, 0, none⟩ (.int .u64 ((s.serial + 1 : Nat) : Int))).setCell ⟨w2.heap.size, 1, none⟩ (.string s.lin)).setCell ⟨w2.heap.size, 2, none⟩ (.slice a' L.length c')) (some w2.heap.size) := ((gb_set _ _ _ _).trans (gb_set _ _ _ _)).trans (gb_set _ _ _ _)
  have hB := HBW.out w15 C15.out
  have HNL : L.length ≤ c' ∧ L.length ≤ s.recs.length + 1 := HCL.out
  refine rdo_ret ⟨s.serial + 1, s.lin, L⟩ 0 _ _ w2.heap.size a' c' _ (set3 (t := ⟨s.serial + 1, s.lin, L⟩) (HZB.out w15 C15.out)) rfl rfl ⟨a', c', ⟨s.serial + 1, s.lin, L⟩, by rw [HE0.out] <;> rfl, HD.out HE0.out L HGL.out HML.out, ⟨?_, by have := HNL.2; have := HN.out; show List.length L ≤ 3000; omega, (HD.out HE0.out L HGL.out HML.out).good.s⟩, HNL, hB.grown hg6 hB.size (fun k hk => by injection hk with hk; have := HSZ.out; omega)⟩
  have ht1 : Turn w14 w15 (fun b => b < w.heap.size ∨ w8.heap.size ≤ b) (fun b => b < w.heap.size ∨ w8.heap.size ≤ b) := ⟨G15.out.size, fun b hb1 hl => ⟨G15.out.block b hl (fun e => by injection e with e; have := HS4.out; have := HSZ.out; omega), hb1⟩⟩
  have ht2 : Turn w15 (((w15.setCell ⟨w2.heap.size, 0, none⟩ (.int .u64 ((s.serial + 1 : Nat) : Int))).setCell ⟨w2.heap.size, 1, none⟩ (.string s.lin)).setCell ⟨w2.heap.size, 2, none⟩ (.slice a' L.length c')) (fun b => b < w.heap.size ∨ w8.heap.size ≤ b) (fun _ => True) := ⟨hg6.size, fun b hb1 hl => ⟨hg6.block b hl (fun e => by injection e with e; have := HS4.out; have := HSZ.out; omega), trivial⟩⟩
  exact IsRecs.turn (IsRecs.turn I14.out ht1) ht2
end Go.Proofs.YtehghladpnpcoaaGreatDoor.State.Edit
set_option linter.unusedVariables false
set_option linter.unusedSimpArgs false
set_option maxRecDepth 100000
set_option maxHeartbeats 64000000
namespace Go.Proofs.YtehghladpnpcoaaGreatDoor.State.Edit
open Go.RowKit Go.Shelf Go.Proofs.YtehghladpnpcoaaGreatDoor.Utf Go.Proofs.YtehghladpnpcoaaGreatDoor.Strs Go.Proofs.YtehghladpnpcoaaGreatDoor.Addr Go.Proofs.YtehghladpnpcoaaGreatDoor.State
open Go.Proofs.YtehghladpnpcoaaGreatDoor.Jdec (IsTexts Turn infoStr gb_set gb_below gb_refl)
theorem rdo1 (s : Sta) (ra : Option Addr) (rc : Nat) (k : CAt) (c : Cmd) (w : World) (h : RecsAt w ra s.recs) (hcp : s.recs.length ≤ rc) (hg : Good s.recs) (hc : CmdAt w k c) (hn : s.recs.length ≤ 2999) (hsn : s.serial < 18446744073709551616) (hrc : rightC c = true) (kk : c.kind = 1) : Hid (Calls Tryz.prog 24 #[.agg #[.int .u64 s.serial, .string s.lin, .slice ra s.recs.length rc], .agg #[.int .i64 c.kind, .slice k.pf c.fr.path.length k.fc, .string c.fr.type, .string c.fr.name, .int .i64 c.fr.key, .int .u64 c.fr.place, .string c.fr.word, .slice k.pt c.ad.path.length k.tc, .string c.ad.type, .string c.ad.name, .int .i64 c.ad.key, .int .u64 c.ad.place, .string c.ad.word, .slice k.p.pa c.r.a.path.length k.p.pc, .string c.r.a.type, .string c.r.a.name, .int .i64 c.r.a.key, .int .u64 c.r.a.place, .string c.r.a.word, .string c.r.prov, .string c.r.id, .slice k.p.ta c.r.attrs.length k.p.tc]] w (EdPost s c w)) := by
  show Calls _ _ _ _ _
  obtain ⟨w1, hw1, V1, B1⟩ := sta_new w ra rc s
  obtain ⟨w2, hw2, V2, B2⟩ := cmd_new w1 k c
  obtain ⟨w3, hw3, V3, B3, Z3⟩ := zsta_new w2
  have hl1 := heap_lt V1.out
  have hl2 := heap_lt V2.out
  have hs1 := B1.out.size
  have hs2 := B2.out.size
  have hs3 : w3.heap.size = w2.heap.size + 1 := Z3.out
  have B03 : Hid (Below w.heap.size w w3) := (B1.out.trans (B2.out.mono hs1)).trans (B3.out.mono (by omega))
  have HSZ : Hid (w.heap.size < w1.heap.size ∧ w1.heap.size < w2.heap.size ∧ w3.heap.size = w2.heap.size + 1) := ⟨hl1, hl2, hs3⟩
  have HSB : Hid (∀ W, Below w3.heap.size w3 W → W.heap[w.heap.size]? = some (.cells (staArr ra rc s) 25 (0, 0))) := fun W hb => (hb.block _ (by omega)).trans ((B3.out.block _ (by omega)).trans ((B2.out.block _ hl1).trans V1.out))
  have HCB : Hid (∀ W, Below w3.heap.size w3 W → W.heap[w1.heap.size]? = some (.cells (cmdArr k c) 44 (0, 0))) := fun W hb => (hb.block _ (by omega)).trans ((B3.out.block _ hl2).trans V2.out)
  have HZB : Hid (∀ W, Below w3.heap.size w3 W → W.heap[w2.heap.size]? = some (.cells (staArr none 0 ⟨0, ⟨#[]⟩, []⟩) 25 (0, 0))) := fun W hb => (hb.block _ (by omega)).trans V3.out
  have HBW : Hid (∀ W, Below w3.heap.size w3 W → Below w.heap.size w W) := fun W hb => B03.out.trans (hb.mono B03.out.size)
  have HRA : Hid (∀ W, Below w3.heap.size w3 W → RecsAt W ra s.recs) := fun W hb => ⟨h.t.turn ⟨(HBW.out W hb).size, fun b _ hl => ⟨(HBW.out W hb).block b hl, trivial⟩⟩, h.n, h.s⟩
  have HRL : Hid (∀ W, Below w3.heap.size w3 W → IsRecs W (fun b => b < w.heap.size) ra s.recs) := fun W hb => (recs_old h.t).turn (turn_old (Nat.le_refl _) (HBW.out W hb))
  have HCM : Hid (∀ W, Below w3.heap.size w3 W → CmdAt W k c) := fun W hb => hc.stays (HBW.out W hb)
  have HRC : Hid (∀ W, Below w3.heap.size w3 W → IsRec W (fun b => b < w.heap.size) k.p c.r) := fun W hb => (hc.r.turn (Turn.mono _ (fun _ _ h => h))).turn (turn_old (Nat.le_refl _) (HBW.out W hb))
  have HPT : Hid (∀ W, Below w3.heap.size w3 W → IsTexts W (fun b => b < w.heap.size) k.pt c.ad.path) := fun W hb => (hc.t.t.turn (Turn.mono _ (fun _ _ h => h))).turn (turn_old (Nat.le_refl _) (HBW.out W hb))
  have HCS : Hid (SmallC c) := hc.small
  have KR := rright26_any k c w3 (HCM.out w3 (Below.refl _ _))
  rw [hrc] at KR
  have HKR := hdQ KR
  have HG := hdQ hg
  have HCP := hdQ hcp
  have HN := hdQ hn
  have HSN := hdQ hsn
  have HE : Hid (errC s c = if hasB s.recs c.fr = true then (if hasB s.recs c.ad = true then 11 else if s.serial = 18446744073709551615 then 13 else 0) else 12) := by
    rw [Hid, errC, hrc, thereC, kk]; cases hasB s.recs c.fr <;> cases hasB s.recs c.ad <;> simp
  have HD : Hid (errC s c = 0 → ∀ l, Good l → ∀ r ∈ s.recs, r.a = c.fr → (∀ x, x ∈ l ↔ x = moved r c.ad ∨ (x ∈ s.recs ∧ x.a ≠ c.fr) ∧ x.a ≠ c.ad) → Done s c ⟨s.serial + 1, s.lin, l⟩) := fun e l hl r hr hra hm => ⟨fun h => absurd e h, fun _ => rfl, rfl, fun _ x => by
    rw [memC, if_pos kk]
    refine (hm x).trans ⟨fun h => h.elim (fun h => .inr ⟨r, hr, hra, h⟩) (fun h => .inl h.1), fun h => h.elim (fun h => .inr ⟨h, (err_okay.1 e).t kk x h.1⟩) (fun ⟨r2, hr2, e2, e3⟩ => .inl (by rw [e3, HG.out.inj hr2 hr (e2.trans hra.symm)]))⟩, hl⟩
  have HRA2 : Hid (rightA c.ad = true) := by rcases rightC_cases hrc with h | h | h <;> first | (exact absurd (h.1.symm.trans kk) (by decide)) | exact h.2.2.1
  have t1 : (c.kind == 1) = true := by rw [kk]; rfl
  have u1 : (c.kind != 1) = false := by rw [kk]; rfl
  have t2 : (c.kind == 2) = false := by rw [kk]; rfl
  have u2 : (c.kind != 2) = true := by rw [kk]; rfl
  have t3 : (c.kind == 3) = false := by rw [kk]; rfl
  have u3 : (c.kind != 3) = true := by rw [kk]; rfl
  clear kk
  have LD := cmd_load (HCB.out w3 (Below.refl _ _))
  clear h hg hc hn hsn hcp hrc KR hl1 hl2 hs1 hs2 hs3
  go_enter Tryz.func24, Tryz.ntmps24
  go_wp2_with (refine wpList_load_run LD.out rfl _ rfl rfl ?_)
  refine (Calls.mono HKR.out ?_)
  rintro z w4 ⟨rfl, hb⟩
  have C4 : Hid (Below w3.heap.size w3 w4) := hb
  clear hb HKR LD hw1 hw2 hw3
  have HF1 := rf_ok s ra rc c.fr k.pf k.fc w4 (HRA.out w4 C4.out) ((HCM.out w4 C4.out).f)
  obtain ⟨x0, x1, x2⟩ := sta_cells (HSB.out w4 C4.out)
  obtain ⟨y0, y1, y2, y3, y4, y5, y6, y7, y8, y9, y10, y11, y12, y13, y14, y15, y16, y17, y18, y19, y20, y21⟩ := cmd_cells (HCB.out w4 C4.out)
  go_wp2_with fail
  refine (Calls.mono HF1.out ?_)
  rintro z w5 hz
  obtain ⟨hb, hz⟩ := rfound _ _ _ _ _ hz
  have C5 : Hid (Below w3.heap.size w3 w5) := C4.out.trans (hb.out.mono C4.out.size)
  clear hb HF1 x0 x1 x2 y0 y1 y2 y3 y4 y5 y6 y7 y8 y9 y10 y11 y12 y13 y14 y15 y16 y17 y18 y19 y20 y21
  rcases hz with ⟨i, hi, rfl, hia⟩ | ⟨rfl, hno⟩
  case inr =>
    have HE12 : Hid (errC s c = 12) := by rw [Hid, HE.out, (hasB_not _ _).2 hno.out]; rfl
    obtain ⟨x0, x1, x2⟩ := sta_cells (HSB.out w5 C5.out)
    obtain ⟨y0, y1, y2, y3, y4, y5, y6, y7, y8, y9, y10, y11, y12, y13, y14, y15, y16, y17, y18, y19, y20, y21⟩ := cmd_cells (HCB.out w5 C5.out)
    have zf0 := frozen_of (HZB.out w5 C5.out) 0
    have zf1 := frozen_of (HZB.out w5 C5.out) 1
    have zf2 := frozen_of (HZB.out w5 C5.out) 2
    obtain ⟨zc0, zc1, zc2⟩ := sta_cells (HZB.out w5 C5.out)
    go_wp2_with fail
    exact rbad_ret (HZB.out w5 C5.out) (HBW.out w5 C5.out) (by have := HSZ.out; omega) HE12.out (by decide) HG.out (HRA.out w5 C5.out) (HRL.out w5 C5.out) HCP.out _ rfl rfl
  have HHF : Hid (hasB s.recs c.fr = true) := (hasB_iff _ _).2 ⟨_, List.getElem_mem hi, hia.out⟩
  have ii1 : decide (((i : Nat) : Int) < 0) = false := by rw [dfQ]; omega
  have ii2 : decide (0 ≤ ((i : Nat) : Int)) = true := by rw [dtQ]; omega
  have HF2 := rf_ok s ra rc c.ad k.pt k.tc w5 (HRA.out w5 C5.out) ((HCM.out w5 C5.out).t)
  obtain ⟨x0, x1, x2⟩ := sta_cells (HSB.out w5 C5.out)
  obtain ⟨y0, y1, y2, y3, y4, y5, y6, y7, y8, y9, y10, y11, y12, y13, y14, y15, y16, y17, y18, y19, y20, y21⟩ := cmd_cells (HCB.out w5 C5.out)
  go_wp2_with fail
  refine (Calls.mono HF2.out ?_)
  rintro z w6 hz
  obtain ⟨hb, hz⟩ := rfound _ _ _ _ _ hz
  have C6 : Hid (Below w3.heap.size w3 w6) := C5.out.trans (hb.out.mono C5.out.size)
  clear hb HF2 x0 x1 x2 y0 y1 y2 y3 y4 y5 y6 y7 y8 y9 y10 y11 y12 y13 y14 y15 y16 y17 y18 y19 y20 y21
  rcases hz with ⟨j, hj, rfl, hja⟩ | ⟨rfl, hno⟩
  case inl =>
    have HE11 : Hid (errC s c = 11) := by rw [Hid, HE.out, HHF.out, (hasB_iff _ _).2 ⟨_, List.getElem_mem hj, hja.out⟩]; rfl
    have ij1 : decide (((j : Nat) : Int) < 0) = false := by rw [dfQ]; omega
    have ij2 : decide (0 ≤ ((j : Nat) : Int)) = true := by rw [dtQ]; omega
    obtain ⟨x0, x1, x2⟩ := sta_cells (HSB.out w6 C6.out)
    obtain ⟨y0, y1, y2, y3, y4, y5, y6, y7, y8, y9, y10, y11, y12, y13, y14, y15, y16, y17, y18, y19, y20, y21⟩ := cmd_cells (HCB.out w6 C6.out)
    have zf0 := frozen_of (HZB.out w6 C6.out) 0
    have zf1 := frozen_of (HZB.out w6 C6.out) 1
    have zf2 := frozen_of (HZB.out w6 C6.out) 2
    obtain ⟨zc0, zc1, zc2⟩ := sta_cells (HZB.out w6 C6.out)
    go_wp2_with fail
    exact rbad_ret (HZB.out w6 C6.out) (HBW.out w6 C6.out) (by have := HSZ.out; omega) HE11.out (by decide) HG.out (HRA.out w6 C6.out) (HRL.out w6 C6.out) HCP.out _ rfl rfl
  have HHN : Hid (hasB s.recs c.ad = false) := (hasB_not _ _).2 hno.out
  rcases Nat.eq_or_lt_of_le (Nat.le_of_lt_succ HSN.out) with hmx | hmx
  case inl =>
    have hmx2 : ((s.serial : Int) == 18446744073709551615) = true := by rw [hmx]; rfl
    have HE13 : Hid (errC s c = 13) := by rw [Hid, HE.out, HHF.out, HHN.out]; simp [hmx]
    clear hmx
    obtain ⟨x0, x1, x2⟩ := sta_cells (HSB.out w6 C6.out)
    obtain ⟨y0, y1, y2, y3, y4, y5, y6, y7, y8, y9, y10, y11, y12, y13, y14, y15, y16, y17, y18, y19, y20, y21⟩ := cmd_cells (HCB.out w6 C6.out)
    have zf0 := frozen_of (HZB.out w6 C6.out) 0
    have zf1 := frozen_of (HZB.out w6 C6.out) 1
    have zf2 := frozen_of (HZB.out w6 C6.out) 2
    obtain ⟨zc0, zc1, zc2⟩ := sta_cells (HZB.out w6 C6.out)
    go_wp2_with fail
    exact rbad_ret (HZB.out w6 C6.out) (HBW.out w6 C6.out) (by have := HSZ.out; omega) HE13.out (by decide) HG.out (HRA.out w6 C6.out) (HRL.out w6 C6.out) HCP.out _ rfl rfl
  have hmx2 : ((s.serial : Int) == 18446744073709551615) = false := by rw [bnQ]; omega
  have HE0 : Hid (errC s c = 0) := by rw [Hid, HE.out, HHF.out, HHN.out]; simp; omega
  obtain ⟨q, hq⟩ : ∃ q : Int, ((s.serial + 1 : Nat) : Int) = q := ⟨_, rfl⟩
  have hwr := tick_wrap hmx hq
  have HQ := hdQ hq
  clear hmx hq
  obtain ⟨z7, hz7, Vz7, Bz7, Zz7⟩ := zrec_new w6
  obtain ⟨w7, ht7⟩ : ∃ w7, (((((((((z7.setCell ⟨w6.heap.size, 0, none⟩ (.slice k.p.pa c.r.a.path.length k.p.pc)).setCell ⟨w6.heap.size, 1, none⟩ (.string c.r.a.type)).setCell ⟨w6.heap.size, 2, none⟩ (.string c.r.a.name)).setCell ⟨w6.heap.size, 3, none⟩ (.int .i64 c.r.a.key)).setCell ⟨w6.heap.size, 4, none⟩ (.int .u64 c.r.a.place)).setCell ⟨w6.heap.size, 5, none⟩ (.string c.r.a.word)).setCell ⟨w6.heap.size, 6, none⟩ (.string c.r.prov)).setCell ⟨w6.heap.size, 7, none⟩ (.string c.r.id)).setCell ⟨w6.heap.size, 8, none⟩ (.slice k.p.ta c.r.attrs.length k.p.tc)) = w7 := ⟨_, rfl⟩
  have Gt7 : Hid (z7.grownBy w7 (some w6.heap.size)) := by rw [← ht7]; exact (((((((((gb_set _ _ _ _).trans (gb_set _ _ _ _)).trans (gb_set _ _ _ _)).trans (gb_set _ _ _ _)).trans (gb_set _ _ _ _)).trans (gb_set _ _ _ _)).trans (gb_set _ _ _ _)).trans (gb_set _ _ _ _)).trans (gb_set _ _ _ _))
  have V7 : Hid (w7.heap[w6.heap.size]? = some (.cells (recArr k.p c.r) 38 (0, 0))) := by rw [← ht7]; exact set9 Vz7.out k.p c.r
  have B7 : Hid (Below w6.heap.size w6 w7) := Bz7.out.grown Gt7.out Bz7.out.size (fun x hx => by injection hx with hx; omega)
  obtain ⟨fz70, fz71, fz72, fz73, fz74, fz75, fz76, fz77, fz78⟩ := rec_frozen Vz7.out
  obtain ⟨cz70, cz71, cz72, cz73, cz74, cz75, cz76, cz77, cz78⟩ := rec_cells Vz7.out
  have C7 : Hid (Below w3.heap.size w3 w7) := C6.out.trans (B7.out.mono C6.out.size)
  obtain ⟨z8, hz8, Vz8, Bz8, Zz8⟩ := zsta_new w7
  obtain ⟨w8, ht8⟩ : ∃ w8, (((z8.setCell ⟨w7.heap.size, 0, none⟩ (.int .u64 s.serial)).setCell ⟨w7.heap.size, 1, none⟩ (.string s.lin)).setCell ⟨w7.heap.size, 2, none⟩ (.slice ra s.recs.length rc)) = w8 := ⟨_, rfl⟩
  have Gt8 : Hid (z8.grownBy w8 (some w7.heap.size)) := by rw [← ht8]; exact (((gb_set _ _ _ _).trans (gb_set _ _ _ _)).trans (gb_set _ _ _ _))
  have V8 : Hid (w8.heap[w7.heap.size]? = some (.cells (staArr ra rc s) 25 (0, 0))) := by rw [← ht8]; exact set3 (t := s) Vz8.out
  have B8 : Hid (Below w7.heap.size w7 w8) := Bz8.out.grown Gt8.out Bz8.out.size (fun x hx => by injection hx with hx; omega)
  have fz80 := frozen_of Vz8.out 0
  have fz81 := frozen_of Vz8.out 1
  have fz82 := frozen_of Vz8.out 2
  obtain ⟨cz80, cz81, cz82⟩ := sta_cells Vz8.out
  have C8 : Hid (Below w3.heap.size w3 w8) := C7.out.trans (B8.out.mono C7.out.size)
  have V78 : Hid (w8.heap[w6.heap.size]? = some (.cells (recArr k.p c.r) 38 (0, 0))) := (B8.out.block _ (heap_lt V7.out)).trans V7.out
  have hs78 : w6.heap.size < w7.heap.size := heap_lt V7.out
  have hs80 : w7.heap.size < w8.heap.size := heap_lt V8.out
  have HS4 : Hid (w3.heap.size ≤ w6.heap.size ∧ w6.heap.size < w7.heap.size ∧ w7.heap.size < w8.heap.size) := ⟨C6.out.size, hs78, hs80⟩
  obtain ⟨x0, x1, x2⟩ := sta_cells (HSB.out w6 C6.out)
  obtain ⟨y0, y1, y2, y3, y4, y5, y6, y7, y8, y9, y10, y11, y12, y13, y14, y15, y16, y17, y18, y19, y20, y21⟩ := cmd_cells (HCB.out w6 C6.out)
  obtain ⟨xx0, xx1, xx2⟩ := sta_cells (HSB.out w7 C7.out)
  obtain ⟨rb, ro, hra, _, hrb, f, hcf⟩ := (HRL.out w8 C8.out).resolve_left (by intro e; rw [e] at hi; simp at hi)
  obtain ⟨hcr, hir⟩ := hcf i hi
  have hsm : Small s.recs[i] := (HRA.out w8 C8.out).s _ (List.getElem_mem hi)
  have hmem : s.recs[i] ∈ s.recs := List.getElem_mem hi
  obtain ⟨r, hr⟩ : ∃ r, s.recs[i] = r := ⟨_, rfl⟩
  obtain ⟨p, hp⟩ : ∃ p, f i = p := ⟨_, rfl⟩
  rw [hr] at hcr hir hsm hmem hia
  rw [hp] at hcr hir
  have HIR : Hid (IsRec w8 (fun b => b < w.heap.size) p r) := hir
  have HMEM : Hid (r ∈ s.recs ∧ Small r ∧ r.a = c.fr) := ⟨hmem, hsm, hia.out⟩
  obtain ⟨z0, z1, z2, z3, z4, z5, z6, z7, z8⟩ := recs_nine hcr
  obtain ⟨g0, g1, g2, g3, g4, g5, g6, g7, g8⟩ := rec_frozen V78.out
  obtain ⟨m0, m1, m2, m3, m4, m5, m6, m7, m8⟩ := rec_cells V78.out
  obtain ⟨x0, x1, x2⟩ := sta_cells (HSB.out w8 C8.out)
  obtain ⟨y0, y1, y2, y3, y4, y5, y6, y7, y8, y9, y10, y11, y12, y13, y14, y15, y16, y17, y18, y19, y20, y21⟩ := cmd_cells (HCB.out w8 C8.out)
  subst hra
  obtain ⟨w9, hw9⟩ : ∃ w9, (((((((((w8.setCell ⟨w6.heap.size, 0, none⟩ (.slice p.pa r.a.path.length p.pc)).setCell ⟨w6.heap.size, 1, none⟩ (.string r.a.type)).setCell ⟨w6.heap.size, 2, none⟩ (.string r.a.name)).setCell ⟨w6.heap.size, 3, none⟩ (.int .i64 r.a.key)).setCell ⟨w6.heap.size, 4, none⟩ (.int .u64 r.a.place)).setCell ⟨w6.heap.size, 5, none⟩ (.string r.a.word)).setCell ⟨w6.heap.size, 6, none⟩ (.string r.prov)).setCell ⟨w6.heap.size, 7, none⟩ (.string r.id)).setCell ⟨w6.heap.size, 8, none⟩ (.slice p.ta r.attrs.length p.tc)) = w9 := ⟨_, rfl⟩
  have V9 : Hid (w9.heap[w6.heap.size]? = some (.cells (recArr p r) 38 (0, 0))) := by rw [← hw9]; exact set9 V78.out p r
  have G9 : Hid (w8.grownBy w9 (some w6.heap.size)) := by rw [← hw9]; exact gb9 _ _ _ _ _ _ _ _ _ _ _
  have C9 : Hid (Below w3.heap.size w3 w9) := C8.out.grown G9.out C8.out.size (fun k hk => by injection hk with hk; have := HS4.out; omega)
  obtain ⟨n0, n1, n2, n3, n4, n5, n6, n7, n8, n9, n10, n11, n12, n13, n14, n15, n16, n17, n18, n19, n20, n21⟩ := cmd_cells (HCB.out w9 C9.out)
  obtain ⟨h0, h1, h2, h3, h4, h5, h6, h7, h8⟩ := rec_frozen V9.out
  obtain ⟨o0, o1, o2, o3, o4, o5, o6, o7, o8⟩ := rec_cells V9.out
  obtain ⟨w10, hw10⟩ : ∃ w10, ((((((w9.setCell ⟨w6.heap.size, 0, none⟩ (.slice k.pt c.ad.path.length k.tc)).setCell ⟨w6.heap.size, 1, none⟩ (.string c.ad.type)).setCell ⟨w6.heap.size, 2, none⟩ (.string c.ad.name)).setCell ⟨w6.heap.size, 3, none⟩ (.int .i64 c.ad.key)).setCell ⟨w6.heap.size, 4, none⟩ (.int .u64 c.ad.place)).setCell ⟨w6.heap.size, 5, none⟩ (.string c.ad.word)) = w10 := ⟨_, rfl⟩
  have V10 : Hid (w10.heap[w6.heap.size]? = some (.cells (recArr ⟨k.pt, k.tc, p.ta, p.tc⟩ (moved r c.ad)) 38 (0, 0))) := by rw [← hw10]; exact set6 V9.out k.pt k.tc c.ad
  have G10 : Hid (w9.grownBy w10 (some w6.heap.size)) := by rw [← hw10]; exact gb6 _ _ _ _ _ _ _ _
  have C10 : Hid (Below w3.heap.size w3 w10) := C9.out.grown G10.out C9.out.size (fun k hk => by injection hk with hk; have := HS4.out; omega)
  obtain ⟨u0, u1, u2⟩ := sta_cells (HSB.out w10 C10.out)
  obtain ⟨v0, v1, v2, v3, v4, v5, v6, v7, v8, v9, v10, v11, v12, v13, v14, v15, v16, v17, v18, v19, v20, v21⟩ := cmd_cells (HCB.out w10 C10.out)
  have HDR := rd_ok (fun b => b < w.heap.size) s (some ⟨rb, ro, none⟩) rc c.fr k.pf k.fc w10 (HRA.out w10 C10.out) HCP.out (HRL.out w10 C10.out) ((HCM.out w10 C10.out).f) ⟨r, HMEM.out.1, HMEM.out.2.2⟩
  have V8b : Hid (w10.heap[w7.heap.size]? = some (.cells (staArr (some ⟨rb, ro, none⟩) rc s) 25 (0, 0))) := (G10.out.block _ (by have := G9.out.size; have := HS4.out; omega) (fun e => by injection e with e; have := HS4.out; omega)).trans ((G9.out.block _ (by have := HS4.out; omega) (fun e => by injection e with e; have := HS4.out; omega)).trans V8.out)
  have hs810 : Hid (w8.heap.size ≤ w10.heap.size) := Nat.le_trans G9.out.size G10.out.size
  have HI10 : Hid (∀ W, Below w10.heap.size w10 W → IsRec W (fun b => b < w.heap.size ∨ w8.heap.size ≤ b) ⟨k.pt, k.tc, p.ta, p.tc⟩ (moved r c.ad)) := fun W hb => by
    have t : Turn w8 W (fun b => b < w.heap.size) (fun b => b < w.heap.size ∨ w8.heap.size ≤ b) := ⟨Nat.le_trans hs810.out hb.size, fun b hb1 hl => ⟨by rw [hb.block b (by have := hs810.out; omega), G10.out.block b (by have := G9.out.size; omega) (fun e => by injection e with e; have := HS4.out; have := HSZ.out; omega), G9.out.block b hl (fun e => by injection e with e; have := HS4.out; have := HSZ.out; omega)], .inl hb1⟩⟩
    exact ⟨(HPT.out W (C10.out.trans (hb.mono C10.out.size))).turn (Turn.mono _ (fun b hb _ => .inl hb)), (HIR.out.turn t).attrs⟩
  clear hcr hir hsm hmem hr hp hcf hrb
  go_wp2_with fail
  refine (Calls.mono HDR.out ?_)
  rintro z w11 hz
  obtain ⟨i2, hi2, l1, a1, c1, rfl, e1, el, hI1, hc1, hb11⟩ := hz.to
  have C11 : Hid (Below w3.heap.size w3 w11) := C10.out.trans (hb11.out.mono C10.out.size)
  have V8c : Hid (w11.heap[w7.heap.size]? = some (.cells (staArr (some ⟨rb, ro, none⟩) rc s) 25 (0, 0))) := (hb11.out.block _ (heap_lt V8b.out)).trans V8b.out
  have V10c : Hid (w11.heap[w6.heap.size]? = some (.cells (recArr ⟨k.pt, k.tc, p.ta, p.tc⟩ (moved r c.ad)) 38 (0, 0))) := (hb11.out.block _ (heap_lt V10.out)).trans V10.out
  have HDL : Hid (Good l1 ∧ (∀ x, x ∈ l1 ↔ x ∈ s.recs ∧ x.a ≠ c.fr) ∧ l1.length ≤ s.recs.length) := by
    have el' := el.out
    subst el'
    exact ⟨good_drop HG.out i2, fun x => by rw [mem_drop HG.out hi2, e1.out], (dropR_sub _ _).length_le⟩
  have hb11s : Hid (w10.heap.size ≤ w11.heap.size) := hb11.out.size
  have hb11h : Hid (Below w10.heap.size w10 w11) := hb11.out
  have bf0 := frozen_of V8c.out 0
  have bf1 := frozen_of V8c.out 1
  have bf2 := frozen_of V8c.out 2
  obtain ⟨b0, b1, b2⟩ := sta_cells V8c.out
  obtain ⟨w12, hw12⟩ : ∃ w12, (((w11.setCell ⟨w7.heap.size, 0, none⟩ (.int .u64 s.serial)).setCell ⟨w7.heap.size, 1, none⟩ (.string s.lin)).setCell ⟨w7.heap.size, 2, none⟩ (.slice a1 l1.length c1)) = w12 := ⟨_, rfl⟩
  have V12 : Hid (w12.heap[w7.heap.size]? = some (.cells (staArr a1 c1 ⟨s.serial, s.lin, l1⟩) 25 (0, 0))) := by rw [← hw12]; exact set3 (t := ⟨s.serial, s.lin, l1⟩) V8c.out
  have G12 : Hid (w11.grownBy w12 (some w7.heap.size)) := by rw [← hw12]; exact ((gb_set _ _ _ _).trans (gb_set _ _ _ _)).trans (gb_set _ _ _ _)
  have C12 : Hid (Below w3.heap.size w3 w12) := C11.out.grown G12.out C11.out.size (fun k hk => by injection hk with hk; have := HS4.out; omega)
  have I12 : Hid (IsRecs w12 (fun b => b < w.heap.size ∨ w8.heap.size ≤ b) a1 l1) := hI1.out.turn ⟨G12.out.size, fun b hb1 hl => ⟨G12.out.block b hl (fun e => by injection e with e; have := HS4.out; have := HSZ.out; have := hs810.out; omega), hb1.imp id (fun h => Nat.le_trans hs810.out h)⟩⟩
  clear z0 z1 z2 z3 z4 z5 z6 z7 z8 g0 g1 g2 g3 g4 g5 g6 g7 g8 m0 m1 m2 m3 m4 m5 m6 m7 m8 x0 x1 x2 y0 y1 y2 y3 y4 y5 y6 y7 y8 y9 y10 y11 y12 y13 y14 y15 y16 y17 y18 y19 y20 y21 n0 n1 n2 n3 n4 n5 n6 n7 n8 n9 n10 n11 n12 n13 n14 n15 n16 n17 n18 n19 n20 n21 h0 h1 h2 h3 h4 h5 h6 h7 h8 o0 o1 o2 o3 o4 o5 o6 o7 o8 u0 u1 u2 v0 v1 v2 v3 v4 v5 v6 v7 v8 v9 v10 v11 v12 v13 v14 v15 v16 v17 v18 v19 v20 v21 hz7 ht7 hz8 ht8 fz70 cz70 fz71 cz71 fz72 cz72 fz73 cz73 fz74 cz74 fz75 cz75 fz76 cz76 fz77 cz77 fz78 cz78 fz80 cz80 fz81 cz81 fz82 cz82 HDR el hI1 hb11
  have V10d : Hid (w12.heap[w6.heap.size]? = some (.cells (recArr ⟨k.pt, k.tc, p.ta, p.tc⟩ (moved r c.ad)) 38 (0, 0))) := (G12.out.block _ (heap_lt V10c.out) (fun e => by injection e with e; have := HS4.out; omega)).trans V10c.out
  obtain ⟨v0, v1, v2, v3, v4, v5, v6, v7, v8, v9, v10, v11, v12, v13, v14, v15, v16, v17, v18, v19, v20, v21⟩ := cmd_cells (HCB.out w12 C12.out)
  obtain ⟨m0, m1, m2, m3, m4, m5, m6, m7, m8⟩ := rec_cells V10d.out
  obtain ⟨u0, u1, u2⟩ := sta_cells V12.out
  have HS12 : Hid (w8.heap.size ≤ w12.heap.size) := Nat.le_trans hs810.out (Nat.le_trans hb11s.out G12.out.size)
  have HI12 : Hid (IsRec w12 (fun b => b < w.heap.size ∨ w8.heap.size ≤ b) ⟨k.pt, k.tc, p.ta, p.tc⟩ (moved r c.ad)) := (HI10.out w11 hb11h.out).turn ⟨G12.out.size, fun b hb1 hl => ⟨G12.out.block b hl (fun e => by injection e with e; have := HS4.out; have := HSZ.out; omega), hb1⟩⟩
  have HMS : Hid (Small (moved r c.ad)) := moved_small HMEM.out.2.1 HCS.out.t
  have HMR : Hid (recB (moved r c.ad) = true) := moved_right (HG.out.r _ HMEM.out.1) HRA2.out
  have HRX : Hid (RecsAt w12 a1 l1) := ⟨I12.out.any, by have := HDL.out.2.2; have := HN.out; omega, HDL.out.1.s⟩
  have HNO : Hid (∀ x ∈ l1, x.a ≠ c.ad) := fun x hx => hno.out x ((HDL.out.2.1 x).1 hx).1
  have HPU : Hid (Calls Tryz.prog 60 #[.agg #[.int .u64 s.serial, .string s.lin, .slice a1 l1.length c1], .agg #[.slice k.pt (moved r c.ad).a.path.length k.tc, .string (moved r c.ad).a.type, .string (moved r c.ad).a.name, .int .i64 (moved r c.ad).a.key, .int .u64 (moved r c.ad).a.place, .string (moved r c.ad).a.word, .string (moved r c.ad).prov, .string (moved r c.ad).id, .slice p.ta (moved r c.ad).attrs.length p.tc]] w12 (RuPost (fun b => b < w.heap.size ∨ w8.heap.size ≤ b) ⟨s.serial, s.lin, l1⟩ (moved r c.ad) w12)) := rPut_any (fun b => b < w.heap.size ∨ w8.heap.size ≤ b) ⟨s.serial, s.lin, l1⟩ a1 c1 (moved r c.ad) ⟨k.pt, k.tc, p.ta, p.tc⟩ w12 HRX.out hc1.out I12.out HI12.out HMS.out
  go_wp2_with fail
  refine (Calls.mono HPU.out ?_)
  rintro z w13 hz
  obtain ⟨L, a', c', rfl, HGL, HML, HIL, HCL, hb13⟩ := ru_new (s := ⟨s.serial, s.lin, l1⟩) HDL.out.1 HMR.out HMS.out HNO.out hz
  have C13 : Hid (Below w3.heap.size w3 w13) := C12.out.trans (hb13.out.mono C12.out.size)
  have V13c : Hid (w13.heap[w7.heap.size]? = some (.cells (staArr a1 c1 ⟨s.serial, s.lin, l1⟩) 25 (0, 0))) := (hb13.out.block _ (heap_lt V12.out)).trans V12.out
  have bg0 := frozen_of V13c.out 0
  have bg1 := frozen_of V13c.out 1
  have bg2 := frozen_of V13c.out 2
  obtain ⟨bb0, bb1, bb2⟩ := sta_cells V13c.out
  obtain ⟨w14, hw14⟩ : ∃ w14, (((w13.setCell ⟨w7.heap.size, 0, none⟩ (.int .u64 s.serial)).setCell ⟨w7.heap.size, 1, none⟩ (.string s.lin)).setCell ⟨w7.heap.size, 2, none⟩ (.slice a' L.length c')) = w14 := ⟨_, rfl⟩
  have V14 : Hid (w14.heap[w7.heap.size]? = some (.cells (staArr a' c' ⟨s.serial, s.lin, L⟩) 25 (0, 0))) := by rw [← hw14]; exact set3 (t := ⟨s.serial, s.lin, L⟩) V13c.out
  have G14 : Hid (w13.grownBy w14 (some w7.heap.size)) := by rw [← hw14]; exact ((gb_set _ _ _ _).trans (gb_set _ _ _ _)).trans (gb_set _ _ _ _)
  have C14 : Hid (Below w3.heap.size w3 w14) := C13.out.grown G14.out C13.out.size (fun k hk => by injection hk with hk; have := HS4.out; omega)
  have I14 : Hid (IsRecs w14 (fun b => b < w.heap.size ∨ w8.heap.size ≤ b) a' L) := HIL.out.turn ⟨G14.out.size, fun b hb1 hl => ⟨G14.out.block b hl (fun e => by injection e with e; have := HS4.out; have := HSZ.out; have := HS12.out; omega), hb1.elim id (fun h => .inr (Nat.le_trans HS12.out h))⟩⟩
  clear HPU
  obtain ⟨b0, b1, b2⟩ := sta_cells V14.out
  have bf0 := frozen_of V14.out 0
  obtain ⟨x0, x1, x2⟩ := sta_cells (HSB.out w14 C14.out)
  obtain ⟨w15, hw15⟩ : ∃ w15, w14.setCell ⟨w7.heap.size, 0, none⟩ (.int .u64 q) = w15 := ⟨_, rfl⟩
  have G15 : Hid (w14.grownBy w15 (some w7.heap.size)) := by rw [← hw15]; exact gb_set _ _ _ _
  have V15 : Hid (w15.heap[w7.heap.size]? = some (.cells #[.int .u64 q, .string s.lin, .slice a' L.length c'] 25 (0, 0))) := by rw [← hw15, Hid, heap_set_same V14.out]; rfl
  have C15 : Hid (Below w3.heap.size w3 w15) := C14.out.grown G15.out C14.out.size (fun k hk => by injection hk with hk; have := HS4.out; omega)
  have d0 := cell_of V15.out 0
  have d1 := cell_of V15.out 1
  have d2 := cell_of V15.out 2
  have zf0 := frozen_of (HZB.out w15 C15.out) 0
  have zf1 := frozen_of (HZB.out w15 C15.out) 1
  have zf2 := frozen_of (HZB.out w15 C15.out) 2
  obtain ⟨zc0, zc1, zc2⟩ := sta_cells (HZB.out w15 C15.out)
  go_wp2_with fail
  have hq := HQ.out
  subst hq
  have hg6 : w15.grownBy (((w15.setCell ⟨w2.heap.size, 0, none⟩ (.int .u64 ((s.serial + 1 : Nat) : Int))).setCell ⟨w2.heap.size, 1, none⟩ (.string s.lin)).setCell ⟨w2.heap.size, 2, none⟩ (.slice a' L.length c')) (some w2.heap.size) := ((gb_set _ _ _ _).trans (gb_set _ _ _ _)).trans (gb_set _ _ _ _)
  have hB := HBW.out w15 C15.out
  have HNL : L.length ≤ c' ∧ L.length ≤ s.recs.length + 1 := ⟨HCL.out.1, Nat.le_trans HCL.out.2 (Nat.succ_le_succ HDL.out.2.2)⟩
  refine rdo_ret ⟨s.serial + 1, s.lin, L⟩ 0 _ _ w2.heap.size a' c' _ (set3 (t := ⟨s.serial + 1, s.lin, L⟩) (HZB.out w15 C15.out)) rfl rfl ⟨a', c', ⟨s.serial + 1, s.lin, L⟩, by rw [HE0.out] <;> rfl, HD.out HE0.out L HGL.out r HMEM.out.1 HMEM.out.2.2 (fun x => by rw [HML.out x, HDL.out.2.1 x]; rfl), ⟨?_, by have := HNL.2; have := HN.out; show List.length L ≤ 3000; omega, (HD.out HE0.out L HGL.out r HMEM.out.1 HMEM.out.2.2 (fun x => by rw [HML.out x, HDL.out.2.1 x]; rfl)).good.s⟩, HNL, hB.grown hg6 hB.size (fun k hk => by injection hk with hk; have := HSZ.out; omega)⟩
  have ht1 : Turn w14 w15 (fun b => b < w.heap.size ∨ w8.heap.size ≤ b) (fun b => b < w.heap.size ∨ w8.heap.size ≤ b) := ⟨G15.out.size, fun b hb1 hl => ⟨G15.out.block b hl (fun e => by injection e with e; have := HS4.out; have := HSZ.out; omega), hb1⟩⟩
  have ht2 : Turn w15 (((w15.setCell ⟨w2.heap.size, 0, none⟩ (.int .u64 ((s.serial + 1 : Nat) : Int))).setCell ⟨w2.heap.size, 1, none⟩ (.string s.lin)).setCell ⟨w2.heap.size, 2, none⟩ (.slice a' L.length c')) (fun b => b < w.heap.size ∨ w8.heap.size ≤ b) (fun _ => True) := ⟨hg6.size, fun b hb1 hl => ⟨hg6.block b hl (fun e => by injection e with e; have := HS4.out; have := HSZ.out; omega), trivial⟩⟩
  exact IsRecs.turn (IsRecs.turn I14.out ht1) ht2
end Go.Proofs.YtehghladpnpcoaaGreatDoor.State.Edit
set_option linter.unusedVariables false
set_option linter.unusedSimpArgs false
set_option maxRecDepth 100000
namespace Go.Proofs.YtehghladpnpcoaaGreatDoor.State.Edit
open Go.RowKit Go.Shelf Go.Proofs.YtehghladpnpcoaaGreatDoor.Utf Go.Proofs.YtehghladpnpcoaaGreatDoor.Strs Go.Proofs.YtehghladpnpcoaaGreatDoor.Addr Go.Proofs.YtehghladpnpcoaaGreatDoor.State
open Go.Proofs.YtehghladpnpcoaaGreatDoor.Jdec (IsTexts Turn infoStr gb_set gb_below gb_refl)
theorem rdo_any (s : Sta) (ra : Option Addr) (rc : Nat) (k : CAt) (c : Cmd) (w : World) (h : RecsAt w ra s.recs) (hcp : s.recs.length ≤ rc) (hg : Good s.recs) (hc : CmdAt w k c) (hn : s.recs.length ≤ 2999) (hsn : s.serial < 18446744073709551616) : Hid (Calls Tryz.prog 24 #[.agg #[.int .u64 s.serial, .string s.lin, .slice ra s.recs.length rc], .agg #[.int .i64 c.kind, .slice k.pf c.fr.path.length k.fc, .string c.fr.type, .string c.fr.name, .int .i64 c.fr.key, .int .u64 c.fr.place, .string c.fr.word, .slice k.pt c.ad.path.length k.tc, .string c.ad.type, .string c.ad.name, .int .i64 c.ad.key, .int .u64 c.ad.place, .string c.ad.word, .slice k.p.pa c.r.a.path.length k.p.pc, .string c.r.a.type, .string c.r.a.name, .int .i64 c.r.a.key, .int .u64 c.r.a.place, .string c.r.a.word, .string c.r.prov, .string c.r.id, .slice k.p.ta c.r.attrs.length k.p.tc]] w (EdPost s c w)) := by
  cases hr : rightC c
  · exact rdo0 s ra rc k c w h hcp hg hc hn hsn hr
  · rcases rightC_cases hr with h1 | h1 | h1
    · exact rdo1 s ra rc k c w h hcp hg hc hn hsn hr h1.1
    · exact rdo2 s ra rc k c w h hcp hg hc hn hsn hr h1.1
    · exact rdo3 s ra rc k c w h hcp hg hc hn hsn hr h1.1
end Go.Proofs.YtehghladpnpcoaaGreatDoor.State.Edit
