/- tabulariumlaw26.EditKeeps: a command leaves each record whose address it does not name. -/
import Derived.Test.YtehghladpnpcoaaGreatDoorUEdL
import Derived.Test.YtehghladpnpcoaaGreatDoorUEdO
import Derived.Test.YtehghladpnpcoaaGreatDoorUEdG
import Derived.Deep.RegionHeld3
import Derived.Laws.StructEq
set_option linter.unusedVariables false
set_option linter.unusedSimpArgs false
set_option maxRecDepth 100000
namespace Go.Proofs.YtehghladpnpcoaaGreatDoor.State
open Go.RowKit Go.Shelf Go.Proofs.YtehghladpnpcoaaGreatDoor.Utf Go.Proofs.YtehghladpnpcoaaGreatDoor.Strs Go.Proofs.YtehghladpnpcoaaGreatDoor.Addr
open Go.Proofs.YtehghladpnpcoaaGreatDoor.Jdec (IsTexts Turn)
open Go.RowKit Go.Shelf Go.Proofs.YtehghladpnpcoaaGreatDoor.Utf Go.Proofs.YtehghladpnpcoaaGreatDoor.Strs Go.Proofs.YtehghladpnpcoaaGreatDoor.Addr
open Go.Proofs.YtehghladpnpcoaaGreatDoor.Jdec (IsTexts Turn)
open Go.RowKit Go.Shelf Go.Proofs.YtehghladpnpcoaaGreatDoor.Utf Go.Proofs.YtehghladpnpcoaaGreatDoor.Strs
open Go.Proofs.YtehghladpnpcoaaGreatDoor.Jdec (IsTexts)
open Go.RowKit Go.Shelf Go.Proofs.YtehghladpnpcoaaGreatDoor.Utf Go.Proofs.YtehghladpnpcoaaGreatDoor.Strs Go.Proofs.YtehghladpnpcoaaGreatDoor.Addr
open Go.Proofs.YtehghladpnpcoaaGreatDoor.Jdec (IsTexts Turn infoStr gb_set gb_below gb_refl)
theorem sre_ok (r s : Rec) (p q : At) (w : World) (h : IsRec w (fun _ => True) p r) (h' : IsRec w (fun _ => True) q s) (hr : Small r) (hs : Small s) (b : Bool) (hb : sameRec r s = b) : Hid (Calls Tryz.prog 30 #[.agg #[.slice p.pa r.a.path.length p.pc, .string r.a.type, .string r.a.name, .int .i64 r.a.key, .int .u64 r.a.place, .string r.a.word, .string r.prov, .string r.id, .slice p.ta r.attrs.length p.tc], .agg #[.slice q.pa s.a.path.length q.pc, .string s.a.type, .string s.a.name, .int .i64 s.a.key, .int .u64 s.a.place, .string s.a.word, .string s.prov, .string s.id, .slice q.ta s.attrs.length q.tc]] w fun e w' => e = .returned (.bool b) ∧ Below w.heap.size w w') := by
  rw [← hb]; exact sr_ok r s p q w h h' hr hs
end Go.Proofs.YtehghladpnpcoaaGreatDoor.State
namespace Go.Proofs.YtehghladpnpcoaaGreatDoor.State.Edit
open Go.RowKit Go.Shelf Go.Proofs.YtehghladpnpcoaaGreatDoor.Utf Go.Proofs.YtehghladpnpcoaaGreatDoor.Strs Go.Proofs.YtehghladpnpcoaaGreatDoor.Addr Go.Proofs.YtehghladpnpcoaaGreatDoor.State
open Go.Proofs.YtehghladpnpcoaaGreatDoor.Jdec (IsTexts Turn infoStr gb_set gb_below gb_refl)
theorem cmd_one {w : World} {b : Nat} {k : CAt} {c : Cmd} (h : w.heap[b]? = some (.cells (cmdArr k c) 44 (0, 0))) (hc : CmdIn w k c) : IsCmds w (some ⟨b, 0, none⟩) [c] :=
  .inr ⟨b, 0, rfl, heap_lt h, fun _ => k, fun i hi => by
    have hi0 : i = 0 := by simpa using hi
    subst hi0
    refine ⟨fun j u hu => ?_, hc⟩
    have e : 0 + 0 * 22 + j = j := by omega
    rw [e, cell_of h j]
    exact hu⟩
end Go.Proofs.YtehghladpnpcoaaGreatDoor.State.Edit
namespace Go.Proofs.YtehghladpnpcoaaGreatDoor.State.Edit
open Go.RowKit Go.Proofs.YtehghladpnpcoaaGreatDoor.Strs Go.ChangeShapes Go.WideShapes Go.ChangeAt Go.Proofs.YtehghladpnpcoaaGreatDoor.Addr Go.Proofs.YtehghladpnpcoaaGreatDoor.State
open Go.Proofs.YtehghladpnpcoaaGreatDoor.Jdec (IsTexts)
def cmdV (k : CAt) (c : Cmd) : Value := .agg #[.int .i64 c.kind, .slice k.pf c.fr.path.length k.fc, .string c.fr.type, .string c.fr.name, .int .i64 c.fr.key, .int .u64 c.fr.place, .string c.fr.word, .slice k.pt c.ad.path.length k.tc, .string c.ad.type, .string c.ad.name, .int .i64 c.ad.key, .int .u64 c.ad.place, .string c.ad.word, .slice k.p.pa c.r.a.path.length k.p.pc, .string c.r.a.type, .string c.r.a.name, .int .i64 c.r.a.key, .int .u64 c.r.a.place, .string c.r.a.word, .string c.r.prov, .string c.r.id, .slice k.p.ta c.r.attrs.length k.p.tc]
/-- What an argument api.Command is. -/
def CmdArg (w : World) (v : Value) (c : Cmd) : Prop := ∃ k, v = cmdV k c ∧ CmdIn w k c
theorem open_cmd {H : Type} {enc : TypeId × Value → H} {W : World} {base : Nat} {v : Value} {d : DataW H} {p : List MemPlace} (hval : Value.okWide Tryz.prog W .any base 44 v) (h : DataW.Trod enc Tryz.prog W 0 (fun _ => true) true 44 v d p) (hR : ∀ n ∈ d.weights Tryz.prog 44, n ≤ rb) :
    ∃ c : Cmd, CmdArg W v c := by
  obtain ⟨cs, rfl, _⟩ := okWide_struct Tryz.underlying44 hval
  obtain ⟨fuel, hf⟩ := h
  obtain ⟨⟨k, c⟩, hcs, h1⟩ := open_cmdcells fuel _ _ hf hR
  have hcs2 : cs.toList = (cmdArr k c).toList := by simpa [Value.cells] using hcs
  have e : cs = cmdArr k c := Array.toList_inj.1 hcs2
  exact ⟨c, k, by rw [e]; rfl, h1⟩
end Go.Proofs.YtehghladpnpcoaaGreatDoor.State.Edit
namespace Go.Proofs.YtehghladpnpcoaaGreatDoor.State.Edit
open Go.RowKit Go.Shelf Go.Proofs.YtehghladpnpcoaaGreatDoor.Utf Go.Proofs.YtehghladpnpcoaaGreatDoor.Strs Go.Proofs.YtehghladpnpcoaaGreatDoor.Addr Go.Proofs.YtehghladpnpcoaaGreatDoor.State
open Go.Proofs.YtehghladpnpcoaaGreatDoor.Jdec (IsTexts Turn infoStr gb_set gb_below gb_refl)
theorem same_two {w : World} {a b : Adr} {pa pb : Option Addr} (pc pd : Nat) (ha : AdrAt w pa a) (hb : AdrAt w pb b) (x : Bool) (hx : sameA a b = x) :
    Hid (Calls Tryz.prog 27 #[.agg #[.slice pa a.path.length pc, .string a.type, .string a.name, .int .i64 a.key, .int .u64 a.place, .string a.word], .agg #[.slice pb b.path.length pd, .string b.type, .string b.name, .int .i64 b.key, .int .u64 b.place, .string b.word]] w fun e w' => e = .returned (.bool x) ∧ Below w.heap.size w w') := by
  rw [← hx]; exact rsame_any a b pa pb pc pd _ _ w ha.t hb.t (by have := ha.l; omega) (by have := hb.l; omega)
/-- What a command doesn't name is kept. -/
theorem keep_any {s s9 : Sta} {c : Cmd} (h : Done s c s9) (he : errC s c = 0) : ∀ r ∈ s.recs, (c.kind = 3 ∨ r.a ≠ c.fr) → r ∈ s9.recs := fun r hr hk => by
  have ho := err_okay.1 he
  rw [h.mem he, memC]
  rcases rightC_cases ho.r with ⟨k, _⟩ | ⟨k, _⟩ | ⟨k, _⟩
  · rw [if_pos k]
    exact .inl ⟨hr, hk.resolve_left (by rw [k]; decide)⟩
  · rw [if_neg (by rw [k]; decide), if_pos k]
    exact ⟨hr, hk.resolve_left (by rw [k]; decide)⟩
  · rw [if_neg (by rw [k]; decide), if_neg (by rw [k]; decide)]
    exact .inl hr
theorem keep_from {s s9 : Sta} {c : Cmd} (h : Done s c s9) (he : errC s c = 0) : ∀ r ∈ s.recs, c.kind ≠ 3 → r.a = c.fr → (∀ x ∈ s9.recs, x.a ≠ c.fr) ∧ ((c.kind = 1 ∧ moved r c.ad ∈ s9.recs) ∨ c.kind = 2) := fun r hr h3 hra => by
  have ho := err_okay.1 he
  rcases rightC_cases ho.r with ⟨k, _⟩ | ⟨k, _⟩ | ⟨k, _⟩
  · refine ⟨fun x hx e => ?_, .inl ⟨k, ?_⟩⟩
    · rw [h.mem he, memC, if_pos k] at hx
      rcases hx with hx | ⟨r2, _, _, rfl⟩
      · exact hx.2 e
      · exact ho.t k r hr (hra.trans e.symm)
    · rw [h.mem he, memC, if_pos k]
      exact .inr ⟨r, hr, hra, rfl⟩
  · refine ⟨fun x hx e => ?_, .inr k⟩
    rw [h.mem he, memC, if_neg (by rw [k]; decide), if_pos k] at hx
    exact hx.2 e
  · exact absurd k h3
theorem infoRec : (Tryz.prog.info? 38).map (·.size) = some 9 := by kernel_rfl
theorem infoAdr : (Tryz.prog.info? 35).map (·.size) = some 6 := by kernel_rfl
theorem rec_load {w : World} {b o : Nat} {p : At} {r : Rec} (h : ∀ j u, (recArr p r)[j]? = some u → w.cell? ⟨b, o + j, none⟩ = some u) :
    Hid ((Instr.loadAt 38 (.pointer (some ⟨b, o, none⟩))).run Tryz.prog w = .ok (.agg #[.slice p.pa r.a.path.length p.pc, .string r.a.type, .string r.a.name, .int .i64 r.a.key, .int .u64 r.a.place, .string r.a.word, .string r.prov, .string r.id, .slice p.ta r.attrs.length p.tc]) w) :=
  run_loadAt_mid (P := Tryz.prog) w b o 38 (recArr p r).toList _ (fun j v hv => h j v (by simpa using hv)) Tryz.underlying38 rfl infoRec
theorem adr_load {w : World} {b o : Nat} {pa : Option Addr} {pc : Nat} {a : Adr} (h : ∀ j u, (arrA pa pc a)[j]? = some u → w.cell? ⟨b, o + j, none⟩ = some u) :
    Hid ((Instr.loadAt 35 (.pointer (some ⟨b, o, none⟩))).run Tryz.prog w = .ok (.agg #[.slice pa a.path.length pc, .string a.type, .string a.name, .int .i64 a.key, .int .u64 a.place, .string a.word]) w) :=
  run_loadAt_mid (P := Tryz.prog) w b o 35 (arrA pa pc a).toList _ (fun j v hv => h j v (by simpa using hv)) Tryz.underlying35 rfl infoAdr
theorem cmd_from {w : World} {b : Nat} {k : CAt} {c : Cmd} (h : w.heap[b]? = some (.cells (cmdArr k c) 44 (0, 0))) : ∀ j u, (arrA k.pf k.fc c.fr)[j]? = some u → w.cell? ⟨b, 1 + j, none⟩ = some u := fun j u hu => by
  have hj : j < 6 := (Array.getElem?_eq_some_iff.1 hu).1
  rw [cell_of h, ← hu]
  match j, hj with
  | 0, _ => rfl
  | 1, _ => rfl
  | 2, _ => rfl
  | 3, _ => rfl
  | 4, _ => rfl
  | 5, _ => rfl
theorem rf_none {s : Sta} {ra : Option Addr} {rc : Nat} {a : Adr} {pa : Option Addr} {pc : Nat} {w : World} (h : RecsAt w ra s.recs) (ha : AdrAt w pa a) (hno : ∀ x ∈ s.recs, x.a ≠ a) :
    Calls Tryz.prog 28 #[.agg #[.int .u64 s.serial, .string s.lin, .slice ra s.recs.length rc], .agg #[.slice pa a.path.length pc, .string a.type, .string a.name, .int .i64 a.key, .int .u64 a.place, .string a.word]] w fun e w' => e = .returned (.int .i64 (-1)) ∧ Below w.heap.size w w' := by
  refine (rf_ok s ra rc a pa pc w h ha).out.mono ?_
  intro e w' hz
  obtain ⟨hb, ⟨i, hi, _, hia⟩ | ⟨rfl, _⟩⟩ := rfound _ _ _ _ _ hz
  · exact absurd hia.out (hno _ (List.getElem_mem hi))
  · exact ⟨rfl, hb.out⟩
set_option maxHeartbeats 64000000 in
theorem editKeeps_any (s : Sta) (ra : Option Addr) (rc : Nat) (k : CAt) (c : Cmd) (w : World) (T : TabsA w) (h : StaIn w ra s) (hcp : s.recs.length ≤ rc) (hc : CmdIn w k c) (hsn : s.serial < 18446744073709551616) :
    Calls Tryz.prog 6 #[.agg #[.int .u64 s.serial, .string s.lin, .slice ra s.recs.length rc], .agg #[.int .i64 c.kind, .slice k.pf c.fr.path.length k.fc, .string c.fr.type, .string c.fr.name, .int .i64 c.fr.key, .int .u64 c.fr.place, .string c.fr.word, .slice k.pt c.ad.path.length k.tc, .string c.ad.type, .string c.ad.name, .int .i64 c.ad.key, .int .u64 c.ad.place, .string c.ad.word, .slice k.p.pa c.r.a.path.length k.p.pc, .string c.r.a.type, .string c.r.a.name, .int .i64 c.r.a.key, .int .u64 c.r.a.place, .string c.r.a.word, .string c.r.prov, .string c.r.id, .slice k.p.ta c.r.attrs.length k.p.tc]] w fun e w' => e = .returned (.bool true) ∧ Below w.heap.size w w' := by
  obtain ⟨w1, hw1, V1, B1⟩ := sta_new w ra rc s
  obtain ⟨w2, hw2, V2, B2⟩ := cmd_new w1 k c
  have hl1 := heap_lt V1.out
  have hl2 := heap_lt V2.out
  have B02 : Hid (Below w.heap.size w w2) := B1.out.trans (B2.out.mono (by omega))
  have HSB : Hid (∀ W, Below w2.heap.size w2 W → W.heap[w.heap.size]? = some (.cells (staArr ra rc s) 25 (0, 0))) := fun W hb => (hb.block _ (by omega)).trans ((B2.out.block _ hl1).trans V1.out)
  have HCB : Hid (∀ W, Below w2.heap.size w2 W → W.heap[w1.heap.size]? = some (.cells (cmdArr k c) 44 (0, 0))) := fun W hb => (hb.block _ hl2).trans V2.out
  have HBW : Hid (∀ W, Below w2.heap.size w2 W → Below w.heap.size w W) := fun W hb => B02.out.trans (hb.mono B02.out.size)
  have HT : Hid (∀ W, Below w2.heap.size w2 W → TabsA W) := fun W hb => T.stays (HBW.out W hb)
  have HS : Hid (∀ W, Below w2.heap.size w2 W → StaIn W ra s) := fun W hb => h.stays (HBW.out W hb)
  have HC : Hid (∀ W, Below w2.heap.size w2 W → CmdIn W k c) := fun W hb => hc.stays (HBW.out W hb)
  have HWK := wakes26 w2 (HT.out w2 (Below.refl _ _))
  have HSN := Hid.out (p := Hid _) hsn
  have HCP := Hid.out (p := Hid _) hcp
  clear T h hc hsn hcp hl1 hl2
  go_enter Tryz.func6, Tryz.ntmps6
  go_wp2_with fail
  refine (Calls.mono HWK.out ?_)
  rintro z w3 ⟨rfl, hb⟩
  have C3 : Hid (Below w2.heap.size w2 w3) := hb
  clear hb HWK hw1 hw2
  have HGS := gs_ok s ra rc w3 (HS.out w3 C3.out)
  obtain ⟨x0, x1, x2⟩ := sta_cells (HSB.out w3 C3.out)
  go_wp2_with fail
  refine (Calls.mono HGS.out ?_)
  rintro z w4 hz
  obtain ⟨g, rfl, hg, hb⟩ := hz.to
  have C4 : Hid (Below w2.heap.size w2 w4) := C3.out.trans (hb.out.mono C3.out.size)
  clear hz hb HGS x0 x1 x2
  cases g
  case true =>
    go_wp2_with fail
    go_ret
    exact ⟨rfl, HBW.out _ C4.out⟩
  have hsz := hg.out rfl
  have hn3 : s.recs.length ≤ 3000 := by omega
  have HN : Hid (s.recs.length ≤ 30) := hsz.1
  have hl6 : s.lin.size ≤ 6000 := by omega
  have HSM := Hid.out (p := Hid _) hsz.2.2
  have HR : Hid (∀ W, Below w2.heap.size w2 W → RecsAt W ra s.recs) := fun W hb => ⟨(HS.out W hb).t, hn3, HSM.out⟩
  have HL6 := Hid.out (p := Hid _) hl6
  obtain ⟨rs, hrs⟩ : ∃ b, rightS s = b := ⟨_, rfl⟩
  have HRR := rr_ok s ra rc w4 (HR.out w4 C4.out) hl6 rs hrs
  have HRS := Hid.out (p := Hid _) hrs
  obtain ⟨x0, x1, x2⟩ := sta_cells (HSB.out w4 C4.out)
  clear hsz hg hrs hl6 hn3
  go_wp2_with fail
  refine (Calls.mono HRR.out ?_)
  rintro z w5 ⟨rfl, hb⟩
  have C5 : Hid (Below w2.heap.size w2 w5) := C4.out.trans (hb.mono C4.out.size)
  clear hb HRR x0 x1 x2
  cases rs
  case false =>
    go_wp2_with fail
    go_ret
    exact ⟨rfl, HBW.out _ C5.out⟩
  have HG : Hid (Good s.recs) := rightS_good HRS.out HSM.out
  have LD := cmd_load (HCB.out w5 C5.out)
  obtain ⟨w6, hw6, V6, B6⟩ := cmd_new w5 k c
  have C6 : Hid (Below w2.heap.size w2 w6) := C5.out.trans (B6.out.mono C5.out.size)
  have HGC := rgreat26_any [c] (some ⟨w5.heap.size, 0, none⟩) 1 w6 (cmd_one V6.out (HC.out w6 C6.out))
  go_wp2_with (refine wpList_load_run LD.out rfl _ rfl rfl ?_)
  refine (Calls.mono HGC.out ?_)
  rintro z w7 hz
  obtain ⟨g, rfl, hg, hb⟩ := hz.to
  have C7 : Hid (Below w2.heap.size w2 w7) := C6.out.trans (hb.out.mono C6.out.size)
  clear hz hb HGC hw6 LD
  cases g
  case true =>
    go_wp2_with fail
    go_ret
    exact ⟨rfl, HBW.out _ C7.out⟩
  have hft := (hg.out rfl).2 c (by simp)
  have HCM : Hid (∀ W, Below w2.heap.size w2 W → CmdAt W k c) := fun W hb => (HC.out W hb).at hft.f hft.t hft.r
  clear hg hft
  have LD := cmd_load (HCB.out w7 C7.out)
  obtain ⟨x0, x1, x2⟩ := sta_cells (HSB.out w7 C7.out)
  have HDO := edo_any s ra rc k c w7 (HR.out w7 C7.out) HG.out (HCM.out w7 C7.out) (HT.out w7 C7.out) (by have := HN.out; omega) HSN.out
  go_wp2_with (refine wpList_load_run LD.out rfl _ rfl rfl ?_)
  refine (Calls.mono HDO.out ?_)
  rintro z w8 hz
  obtain ⟨a9, c9, s9, rfl, HD9, HR9, HL9, hb⟩ := hz.to
  have C8 : Hid (Below w2.heap.size w2 w8) := C7.out.trans (hb.out.mono C7.out.size)
  have K8 : Hid (Below w7.heap.size w7 w8) := hb.out
  clear hz hb HDO LD x0 x1 x2
  obtain ⟨z9, hz9, Vz9, Bz9, Zz9⟩ := zsta_new w8
  obtain ⟨w9, ht9⟩ : ∃ w9, (((z9.setCell ⟨w8.heap.size, 0, none⟩ (.int .u64 s9.serial)).setCell ⟨w8.heap.size, 1, none⟩ (.string s9.lin)).setCell ⟨w8.heap.size, 2, none⟩ (.slice a9 s9.recs.length c9)) = w9 := ⟨_, rfl⟩
  have Gt9 : Hid (z9.grownBy w9 (some w8.heap.size)) := by rw [← ht9]; exact (((gb_set _ _ _ _).trans (gb_set _ _ _ _)).trans (gb_set _ _ _ _))
  have V9 : Hid (w9.heap[w8.heap.size]? = some (.cells (staArr a9 c9 s9) 25 (0, 0))) := by rw [← ht9]; exact set3 (t := s9) Vz9.out
  have B9 : Hid (Below w8.heap.size w8 w9) := Bz9.out.grown Gt9.out Bz9.out.size (fun x hx => by injection hx with hx; omega)
  have fz90 := frozen_of Vz9.out 0
  have fz91 := frozen_of Vz9.out 1
  have fz92 := frozen_of Vz9.out 2
  obtain ⟨cz90, cz91, cz92⟩ := sta_cells Vz9.out
  have C9 : Hid (Below w2.heap.size w2 w9) := C8.out.trans (B9.out.mono C8.out.size)
  have HW9 : Hid (∀ W, Below w9.heap.size w9 W → Below w2.heap.size w2 W) := fun W hb => C9.out.trans (hb.mono C9.out.size)
  have HXB : Hid (∀ W, Below w9.heap.size w9 W → W.heap[w8.heap.size]? = some (.cells (staArr a9 c9 s9) 25 (0, 0))) := fun W hb => (hb.block _ (heap_lt V9.out)).trans V9.out
  have HXR : Hid (∀ W, Below w9.heap.size w9 W → RecsAt W a9 s9.recs) := fun W hb => (HR9.out.stays B9.out).stays hb
  by_cases he : errC s c = 0
  case neg =>
    have q0 : (errC s c != 0) = true := by rw [bne_iff_ne]; exact he
    have hs9 : s9 = s := HD9.out.bad he
    have KSM : Hid (∀ W, Below w9.heap.size w9 W → Calls Tryz.prog 18 #[.agg #[.int .u64 s9.serial, .string s9.lin, .slice a9 s9.recs.length c9], .agg #[.int .u64 s.serial, .string s.lin, .slice ra s.recs.length rc]] W fun e w' => e = .returned (.bool true) ∧ Below W.heap.size W w') := fun W hb => (sm_ok s9 s a9 ra c9 rc W (HXR.out W hb) (HR.out W (HW9.out W hb)) true ((sameSta_iff _ _).2 hs9)).out
    clear he hs9
    obtain ⟨x0, x1, x2⟩ := sta_cells (HXB.out w9 (Below.refl _ _))
    obtain ⟨y0, y1, y2⟩ := sta_cells (HSB.out w9 C9.out)
    go_wp2_with fail
    refine (Calls.mono (KSM.out w9 (Below.refl _ _)) ?_)
    rintro z w10 ⟨rfl, hb⟩
    have C10 : Hid (Below w2.heap.size w2 w10) := C9.out.trans (hb.mono C9.out.size)
    clear hb x0 x1 x2 y0 y1 y2 KSM
    go_wp2_with fail
    go_ret
    exact ⟨rfl, HBW.out _ C10.out⟩
  have q0 : (errC s c != 0) = false := by rw [he]; rfl
  have HKE := Hid.out (p := Hid _) (keep_any HD9.out he)
  have HKF := Hid.out (p := Hid _) (keep_from HD9.out he)
  have HSR : Hid (s9.serial = s.serial + 1 ∧ s.serial < 18446744073709551615) := ⟨HD9.out.ser he, by have := (err_okay.1 he).n; have := HSN.out; omega⟩
  clear he
  obtain ⟨y0, y1, y2⟩ := sta_cells (HSB.out w9 C9.out)
  go_wp2_with fail
  clear y0 y1 y2 hz9 ht9 fz90 fz91 fz92 cz90 cz91 cz92 q0
  go_loopw [39] (fun p39 wr => ∃ i : Nat, p39 = .int .i64 i ∧ i ≤ s.recs.length ∧ Hid (Below w9.heap.size w9 wr)) (fun p39 _ => s.recs.length - (intOf p39).toNat)
  case atStart => exact ⟨0, rfl, Nat.zero_le _, Below.refl _ _⟩
  case round =>
    obtain ⟨i, rfl, hi, hB⟩ := hrel
    have hn30 := HN.out
    by_cases hlt : i < s.recs.length
    · have CR : Hid (Below w2.heap.size w2 wr) := HW9.out wr hB.out
      obtain ⟨rb, ro, hra, _, hrb, f, hcf⟩ := (HR.out wr CR.out).t.resolve_left (by intro e; rw [e] at hlt; simp at hlt)
      obtain ⟨hcr, hir⟩ := hcf i hlt
      obtain ⟨r, hr⟩ : ∃ r, s.recs[i] = r := ⟨_, rfl⟩
      obtain ⟨p, hp⟩ : ∃ p, f i = p := ⟨_, rfl⟩
      have HMEM : Hid (r ∈ s.recs ∧ Small r) := ⟨hr ▸ List.getElem_mem hlt, HSM.out r (hr ▸ List.getElem_mem hlt)⟩
      rw [hr, hp] at hcr hir
      have HIR : Hid (∀ W, Below wr.heap.size wr W → IsRec W (fun _ => True) p r) := fun W hb => hir.turn (Turn.below hb)
      obtain ⟨z0, z1, z2, z3, z4, z5, z6, z7, z8⟩ := recs_nine hcr
      obtain ⟨w10, hw10, V10, B10⟩ := rec_new wr p r
      have HBB : Hid (∀ W, Below w10.heap.size w10 W → W.heap[wr.heap.size]? = some (.cells (recArr p r) 38 (0, 0))) := fun W hb => (hb.block _ (heap_lt V10.out)).trans V10.out
      have C10 : Hid (Below w9.heap.size w9 w10) := hB.out.trans (B10.out.mono hB.out.size)
      obtain ⟨n0, n1, n2, n3, n4, n5, n6, n7, n8, n9, n10, n11, n12, n13, n14, n15, n16, n17, n18, n19, n20, n21⟩ := cmd_cells (HCB.out w10 (HW9.out w10 C10.out))
      subst hra
      clear hcr hir hr hp hcf hrb
      by_cases k3 : c.kind = 3
      · have u3 : (c.kind != 3) = false := by rw [k3]; rfl
        have HMK : Hid (r ∈ s9.recs) := HKE.out r HMEM.out.1 (.inl k3)
        have DR : Hid (Below w10.heap.size w10 w10) := Below.refl _ _
        clear k3
        have HF := rf_ok s9 a9 c9 r.a p.pa p.pc w10 (HXR.out w10 (C10.out.trans (DR.out.mono C10.out.size))) ((HIR.out w10 (B10.out.trans (DR.out.mono B10.out.size))).adr HMEM.out.2)
        obtain ⟨x0, x1, x2⟩ := sta_cells (HXB.out w10 (C10.out.trans (DR.out.mono C10.out.size)))
        obtain ⟨m0, m1, m2, m3, m4, m5, m6, m7, m8⟩ := rec_cells (HBB.out w10 DR.out)
        go_wp2_with fail
        refine (Calls.mono HF.out ?_)
        rintro z w14 hz
        obtain ⟨hb, hz⟩ := rfound _ _ _ _ _ hz
        have D14 : Hid (Below w10.heap.size w10 w14) := DR.out.trans (hb.out.mono DR.out.size)
        clear hb HF x0 x1 x2 m0 m1 m2 m3 m4 m5 m6 m7 m8
        rcases hz with ⟨j, hj, rfl, hja⟩ | ⟨rfl, hno⟩
        case inr => exact absurd rfl (hno.out r HMK.out)
        have ii1 : decide (((j : Nat) : Int) < 0) = false := by rw [decide_eq_false_iff_not]; omega
        have ii2 : decide (0 ≤ ((j : Nat) : Int)) = true := by rw [decide_eq_true_eq]; omega
        have hje : s9.recs[j] = r := HD9.out.good.inj (List.getElem_mem hj) HMK.out hja.out
        have E14 : Hid (Below w9.heap.size w9 w14) := C10.out.trans (D14.out.mono C10.out.size)
        obtain ⟨qb, qo, ha9, _, hqb, g, hcg⟩ := (HXR.out w14 E14.out).t.resolve_left (by intro e; rw [e] at hj; simp at hj)
        obtain ⟨hq1, hq2⟩ := hcg j hj
        obtain ⟨q, hq⟩ : ∃ q, g j = q := ⟨_, rfl⟩
        rw [hje, hq] at hq1 hq2
        have HQ : Hid (∀ W, Below w14.heap.size w14 W → ∀ n u, (recArr q r)[n]? = some u → W.cell? ⟨qb, qo + j * 9 + n, none⟩ = some u) := fun W hb n u hu => by rw [cell_blk (hb.block qb hqb)]; exact hq1 n u hu
        have HX2 : Hid (∀ W, Below w14.heap.size w14 W → W.cell? ⟨w8.heap.size, 2, none⟩ = some (.slice a9 s9.recs.length c9)) := fun W hb => (sta_cells (HXB.out W (E14.out.trans (hb.mono E14.out.size)))).2.2
        have HRB : Hid (∀ W, Below w14.heap.size w14 W → (Instr.loadAt 38 (.pointer (some ⟨wr.heap.size, 0, none⟩))).run Tryz.prog W = .ok (.agg #[.slice p.pa r.a.path.length p.pc, .string r.a.type, .string r.a.name, .int .i64 r.a.key, .int .u64 r.a.place, .string r.a.word, .string r.prov, .string r.id, .slice p.ta r.attrs.length p.tc]) W) := fun W hb => (rec_load (fun n u hu => by rw [Nat.zero_add, cell_of (HBB.out W (D14.out.trans (hb.mono D14.out.size)))]; exact hu)).out
        have KSR : Hid (∀ W, Below w14.heap.size w14 W → Calls Tryz.prog 30 #[.agg #[.slice q.pa r.a.path.length q.pc, .string r.a.type, .string r.a.name, .int .i64 r.a.key, .int .u64 r.a.place, .string r.a.word, .string r.prov, .string r.id, .slice q.ta r.attrs.length q.tc], .agg #[.slice p.pa r.a.path.length p.pc, .string r.a.type, .string r.a.name, .int .i64 r.a.key, .int .u64 r.a.place, .string r.a.word, .string r.prov, .string r.id, .slice p.ta r.attrs.length p.tc]] W fun e w' => e = .returned (.bool true) ∧ Below W.heap.size W w') := fun W hb => (sre_ok r r q p W (hq2.turn (Turn.below hb)) (HIR.out W ((B10.out.trans (D14.out.mono B10.out.size)).trans (hb.mono (Nat.le_trans B10.out.size D14.out.size)))) HMEM.out.2 HMEM.out.2 true ((sameRec_iff _ _).2 rfl)).out
        subst ha9
        clear hja hje hqb hcg hq1 hq2 hq
        go_wp2_with fail
        refine wp_region_held_drew (S := (fun W => Below w14.heap.size w14 W)) (by kernel_rfl) ?_ (fun hHeld => ?_)
        · (first | exact D15.out | exact (Below.refl _ _).drew)
        refine tk 0 ?_
        refine tk 1 ?_
        refine tk 2 ?_
        try simp only [nz]
        refine tk 3 ?_
        have HDW : Hid (Below w14.heap.size w14 w14.drew) := (Below.refl _ _).drew
        refine tv 4 (.slice (some ⟨qb, qo, none⟩) s9.recs.length c9) ?_ ?_
        · (intro w hs; have ee := HX2.out w hs; clear hs; go_simp <;> with_reducible rfl)
        refine tk 5 ?_
        try simp only [nz]
        refine tk 6 ?_
        refine tv 7 (.agg #[.slice q.pa r.a.path.length q.pc, .string r.a.type, .string r.a.name, .int .i64 r.a.key, .int .u64 r.a.place, .string r.a.word, .string r.prov, .string r.id, .slice q.ta r.attrs.length q.tc]) ?_ ?_
        · (intro w hs; exact exec_load rfl rfl (rec_load (HQ.out w hs)).out)
        refine tv 8 (.agg #[.slice p.pa r.a.path.length p.pc, .string r.a.type, .string r.a.name, .int .i64 r.a.key, .int .u64 r.a.place, .string r.a.word, .string r.prov, .string r.id, .slice p.ta r.attrs.length p.tc]) ?_ ?_
        · (intro w hs; exact exec_load rfl rfl (HRB.out w hs))
        try simp only [nz]
        refine rd 9 (fun K hK => ?_)
        try simp only [nz]
        go_simp
        go_at_call 30; refine (Calls.mono (KSR.out w14.drew HDW.out) ?_); rintro z w15 ⟨rfl, hb⟩; have D15 : Hid (Below w14.heap.size w14 w15) := HDW.out.trans (hb.mono HDW.out.size); clear hb
        clear hHeld
        refine hK.out _ _ ?_ (fun hHeld => ?_)
        · (first | exact D15.out | exact (Below.refl _ _).drew)
        clear hK K
        try simp only [nz]
        refine tk 10 ?_
        refine tk 11 ?_
        try simp only [nz]
        refine wpAnyH_done (by kernel_rfl) ?_ _
        all_goals
          have HE : Hid (Below w9.heap.size w9 w15) := E14.out.trans (D15.out.mono E14.out.size)
          clear hHeld
          go_wp2_with fail
          go_roundw
          case rel => exact ⟨i + 1, by go_num, by omega, HE.out⟩
          case measure => simp [intOf]; omega
      · have u3 : (c.kind != 3) = true := by rw [bne_iff_ne]; exact k3
        have HK3 := Hid.out (p := Hid _) k3
        clear k3
        obtain ⟨sb, hsb⟩ : ∃ b, sameA r.a c.fr = b := ⟨_, rfl⟩
        have HSA := same_two p.pc k.fc ((HIR.out w10 B10.out).adr HMEM.out.2) ((HCM.out w10 (HW9.out w10 C10.out)).f) sb hsb
        have HSB2 := Hid.out (p := Hid _) hsb
        obtain ⟨m0, m1, m2, m3, m4, m5, m6, m7, m8⟩ := rec_cells V10.out
        clear hsb
        go_wp2_with fail
        refine (Calls.mono HSA.out ?_)
        rintro z w11 ⟨rfl, hb⟩
        have D11 : Hid (Below w10.heap.size w10 w11) := hb
        clear hb HSA hw10 m0 m1 m2 m3 m4 m5 m6 m7 m8 z0 z1 z2 z3 z4 z5 z6 z7 z8 n0 n1 n2 n3 n4 n5 n6 n7 n8 n9 n10 n11 n12 n13 n14 n15 n16 n17 n18 n19 n20 n21
        cases sb
        case false =>
          have HMK : Hid (r ∈ s9.recs) := HKE.out r HMEM.out.1 (.inr (fun e => by have := HSB2.out; rw [(sameA_iff _ _).2 e] at this; cases this))
          have HF := rf_ok s9 a9 c9 r.a p.pa p.pc w11 (HXR.out w11 (C10.out.trans (D11.out.mono C10.out.size))) ((HIR.out w11 (B10.out.trans (D11.out.mono B10.out.size))).adr HMEM.out.2)
          obtain ⟨x0, x1, x2⟩ := sta_cells (HXB.out w11 (C10.out.trans (D11.out.mono C10.out.size)))
          obtain ⟨m0, m1, m2, m3, m4, m5, m6, m7, m8⟩ := rec_cells (HBB.out w11 D11.out)
          go_wp2_with fail
          refine (Calls.mono HF.out ?_)
          rintro z w14 hz
          obtain ⟨hb, hz⟩ := rfound _ _ _ _ _ hz
          have D14 : Hid (Below w10.heap.size w10 w14) := D11.out.trans (hb.out.mono D11.out.size)
          clear hb HF x0 x1 x2 m0 m1 m2 m3 m4 m5 m6 m7 m8
          rcases hz with ⟨j, hj, rfl, hja⟩ | ⟨rfl, hno⟩
          case inr => exact absurd rfl (hno.out r HMK.out)
          have ii1 : decide (((j : Nat) : Int) < 0) = false := by rw [decide_eq_false_iff_not]; omega
          have ii2 : decide (0 ≤ ((j : Nat) : Int)) = true := by rw [decide_eq_true_eq]; omega
          have hje : s9.recs[j] = r := HD9.out.good.inj (List.getElem_mem hj) HMK.out hja.out
          have E14 : Hid (Below w9.heap.size w9 w14) := C10.out.trans (D14.out.mono C10.out.size)
          obtain ⟨qb, qo, ha9, _, hqb, g, hcg⟩ := (HXR.out w14 E14.out).t.resolve_left (by intro e; rw [e] at hj; simp at hj)
          obtain ⟨hq1, hq2⟩ := hcg j hj
          obtain ⟨q, hq⟩ : ∃ q, g j = q := ⟨_, rfl⟩
          rw [hje, hq] at hq1 hq2
          have HQ : Hid (∀ W, Below w14.heap.size w14 W → ∀ n u, (recArr q r)[n]? = some u → W.cell? ⟨qb, qo + j * 9 + n, none⟩ = some u) := fun W hb n u hu => by rw [cell_blk (hb.block qb hqb)]; exact hq1 n u hu
          have HX2 : Hid (∀ W, Below w14.heap.size w14 W → W.cell? ⟨w8.heap.size, 2, none⟩ = some (.slice a9 s9.recs.length c9)) := fun W hb => (sta_cells (HXB.out W (E14.out.trans (hb.mono E14.out.size)))).2.2
          have HRB : Hid (∀ W, Below w14.heap.size w14 W → (Instr.loadAt 38 (.pointer (some ⟨wr.heap.size, 0, none⟩))).run Tryz.prog W = .ok (.agg #[.slice p.pa r.a.path.length p.pc, .string r.a.type, .string r.a.name, .int .i64 r.a.key, .int .u64 r.a.place, .string r.a.word, .string r.prov, .string r.id, .slice p.ta r.attrs.length p.tc]) W) := fun W hb => (rec_load (fun n u hu => by rw [Nat.zero_add, cell_of (HBB.out W (D14.out.trans (hb.mono D14.out.size)))]; exact hu)).out
          have KSR : Hid (∀ W, Below w14.heap.size w14 W → Calls Tryz.prog 30 #[.agg #[.slice q.pa r.a.path.length q.pc, .string r.a.type, .string r.a.name, .int .i64 r.a.key, .int .u64 r.a.place, .string r.a.word, .string r.prov, .string r.id, .slice q.ta r.attrs.length q.tc], .agg #[.slice p.pa r.a.path.length p.pc, .string r.a.type, .string r.a.name, .int .i64 r.a.key, .int .u64 r.a.place, .string r.a.word, .string r.prov, .string r.id, .slice p.ta r.attrs.length p.tc]] W fun e w' => e = .returned (.bool true) ∧ Below W.heap.size W w') := fun W hb => (sre_ok r r q p W (hq2.turn (Turn.below hb)) (HIR.out W ((B10.out.trans (D14.out.mono B10.out.size)).trans (hb.mono (Nat.le_trans B10.out.size D14.out.size)))) HMEM.out.2 HMEM.out.2 true ((sameRec_iff _ _).2 rfl)).out
          subst ha9
          clear hja hje hqb hcg hq1 hq2 hq
          go_wp2_with fail
          refine wp_region_held_drew (S := (fun W => Below w14.heap.size w14 W)) (by kernel_rfl) ?_ (fun hHeld => ?_)
          · (first | exact D15.out | exact (Below.refl _ _).drew)
          refine tk 0 ?_
          refine tk 1 ?_
          refine tk 2 ?_
          try simp only [nz]
          refine tk 3 ?_
          have HDW : Hid (Below w14.heap.size w14 w14.drew) := (Below.refl _ _).drew
          refine tv 4 (.slice (some ⟨qb, qo, none⟩) s9.recs.length c9) ?_ ?_
          · (intro w hs; have ee := HX2.out w hs; clear hs; go_simp <;> with_reducible rfl)
          refine tk 5 ?_
          try simp only [nz]
          refine tk 6 ?_
          refine tv 7 (.agg #[.slice q.pa r.a.path.length q.pc, .string r.a.type, .string r.a.name, .int .i64 r.a.key, .int .u64 r.a.place, .string r.a.word, .string r.prov, .string r.id, .slice q.ta r.attrs.length q.tc]) ?_ ?_
          · (intro w hs; exact exec_load rfl rfl (rec_load (HQ.out w hs)).out)
          refine tv 8 (.agg #[.slice p.pa r.a.path.length p.pc, .string r.a.type, .string r.a.name, .int .i64 r.a.key, .int .u64 r.a.place, .string r.a.word, .string r.prov, .string r.id, .slice p.ta r.attrs.length p.tc]) ?_ ?_
          · (intro w hs; exact exec_load rfl rfl (HRB.out w hs))
          try simp only [nz]
          refine rd 9 (fun K hK => ?_)
          try simp only [nz]
          go_simp
          go_at_call 30; refine (Calls.mono (KSR.out w14.drew HDW.out) ?_); rintro z w15 ⟨rfl, hb⟩; have D15 : Hid (Below w14.heap.size w14 w15) := HDW.out.trans (hb.mono HDW.out.size); clear hb
          clear hHeld
          refine hK.out _ _ ?_ (fun hHeld => ?_)
          · (first | exact D15.out | exact (Below.refl _ _).drew)
          clear hK K
          try simp only [nz]
          refine tk 10 ?_
          refine tk 11 ?_
          try simp only [nz]
          refine wpAnyH_done (by kernel_rfl) ?_ _
          all_goals
            have HE : Hid (Below w9.heap.size w9 w15) := E14.out.trans (D15.out.mono E14.out.size)
            clear hHeld
            go_wp2_with fail
            go_roundw
            case rel => exact ⟨i + 1, by go_num, by omega, HE.out⟩
            case measure => simp [intOf]; omega
        have HKK := Hid.out (p := Hid _) (HKF.out r HMEM.out.1 HK3.out ((sameA_iff _ _).1 HSB2.out))
        have E11 : Hid (Below w9.heap.size w9 w11) := C10.out.trans (D11.out.mono C10.out.size)
        have HFT := rf_ok s9 a9 c9 c.ad k.pt k.tc w11 (HXR.out w11 E11.out) ((HCM.out w11 (HW9.out w11 E11.out)).t)
        obtain ⟨x0, x1, x2⟩ := sta_cells (HXB.out w11 E11.out)
        obtain ⟨n0, n1, n2, n3, n4, n5, n6, n7, n8, n9, n10, n11, n12, n13, n14, n15, n16, n17, n18, n19, n20, n21⟩ := cmd_cells (HCB.out w11 (HW9.out w11 E11.out))
        go_wp2_with fail
        refine (Calls.mono HFT.out ?_)
        rintro z w12 hz
        obtain ⟨hb, hz⟩ := rfound _ _ _ _ _ hz
        have D12 : Hid (Below w10.heap.size w10 w12) := D11.out.trans (hb.out.mono D11.out.size)
        have E12 : Hid (Below w9.heap.size w9 w12) := C10.out.trans (D12.out.mono C10.out.size)
        clear hb HFT x0 x1 x2 n0 n1 n2 n3 n4 n5 n6 n7 n8 n9 n10 n11 n12 n13 n14 n15 n16 n17 n18 n19 n20 n21
        have HX3 : Hid (∀ W, Below w12.heap.size w12 W → W.heap[w8.heap.size]? = some (.cells (staArr a9 c9 s9) 25 (0, 0))) := fun W hb => HXB.out W (E12.out.trans (hb.mono E12.out.size))
        have HC3 : Hid (∀ W, Below w12.heap.size w12 W → W.heap[w1.heap.size]? = some (.cells (cmdArr k c) 44 (0, 0))) := fun W hb => HCB.out W (HW9.out W (E12.out.trans (hb.mono E12.out.size)))
        have HB3 : Hid (∀ W, Below w12.heap.size w12 W → W.heap[wr.heap.size]? = some (.cells (recArr p r) 38 (0, 0))) := fun W hb => HBB.out W (D12.out.trans (hb.mono D12.out.size))
        have HFF : Hid (∀ W, Below w12.heap.size w12 W → Calls Tryz.prog 28 #[.agg #[.int .u64 s9.serial, .string s9.lin, .slice a9 s9.recs.length c9], .agg #[.slice k.pf c.fr.path.length k.fc, .string c.fr.type, .string c.fr.name, .int .i64 c.fr.key, .int .u64 c.fr.place, .string c.fr.word]] W fun e w' => e = .returned (.int .i64 (-1)) ∧ Below W.heap.size W w') := fun W hb => rf_none (HXR.out W (E12.out.trans (hb.mono E12.out.size))) ((HCM.out W (HW9.out W (E12.out.trans (hb.mono E12.out.size)))).f) HKK.out.1
        rcases HKK.out.2 with ⟨k1, hmm⟩ | k2
        · have t1 : (c.kind == 1) = true := by rw [k1]; rfl
          have HMM := Hid.out (p := Hid _) hmm
          clear k1 hmm
          rcases hz with ⟨j, hj, rfl, hja⟩ | ⟨rfl, hno⟩
          case inr => exact absurd rfl (hno.out _ HMM.out)
          have ii1 : decide (((j : Nat) : Int) < 0) = false := by rw [decide_eq_false_iff_not]; omega
          have ii2 : decide (0 ≤ ((j : Nat) : Int)) = true := by rw [decide_eq_true_eq]; omega
          have hje : s9.recs[j] = moved r c.ad := HD9.out.good.inj (List.getElem_mem hj) HMM.out hja.out
          obtain ⟨qb, qo, ha9, _, hqb, g, hcg⟩ := (HXR.out w12 E12.out).t.resolve_left (by intro e; rw [e] at hj; simp at hj)
          obtain ⟨hq1, hq2⟩ := hcg j hj
          obtain ⟨q, hq⟩ : ∃ q, g j = q := ⟨_, rfl⟩
          rw [hje, hq] at hq1 hq2
          have HQ6 : Hid (∀ W, Below w12.heap.size w12 W → W.cell? ⟨qb, qo + j * 9 + 6, none⟩ = some (.string r.prov)) := fun W hb => by rw [cell_blk (hb.block qb hqb)]; exact hq1 6 _ rfl
          have HQ7 : Hid (∀ W, Below w12.heap.size w12 W → W.cell? ⟨qb, qo + j * 9 + 7, none⟩ = some (.string r.id)) := fun W hb => by rw [cell_blk (hb.block qb hqb)]; exact hq1 7 _ rfl
          have HQ8 : Hid (∀ W, Below w12.heap.size w12 W → W.cell? ⟨qb, qo + j * 9 + 8, none⟩ = some (.slice q.ta r.attrs.length q.tc)) := fun W hb => by rw [cell_blk (hb.block qb hqb)]; exact hq1 8 _ rfl
          have KPR : Hid (∀ W, Below w12.heap.size w12 W → Calls Tryz.prog 29 #[.slice q.ta r.attrs.length q.tc, .slice p.ta r.attrs.length p.tc] W fun e w' => e = .returned (.bool true) ∧ Below W.heap.size W w') := fun W hb => by
            have hn := HMEM.out.2.n
            have := pairs_any r.attrs r.attrs q.ta p.ta q.tc p.tc _ _ W ((hq2.turn (Turn.below hb)).attrs) ((HIR.out W ((B10.out.trans (D12.out.mono B10.out.size)).trans (hb.mono (Nat.le_trans B10.out.size D12.out.size)))).attrs) (by omega) (by omega)
            rwa [decide_eq_true rfl] at this
          subst ha9
          clear hja hje hqb hcg hq1 hq2 hq
          go_wp2_with fail
          refine wp_region_held_drew (S := (fun W => Below w12.heap.size w12 W)) (by kernel_rfl) ?_ (fun hHeld => ?_)
          · (first | exact D15.out | exact D13.out | exact (Below.refl _ _).drew)
          have HDW : Hid (Below w12.heap.size w12 w12.drew) := (Below.refl _ _).drew
          refine tv 0 (.agg #[.int .u64 s9.serial, .string s9.lin, .slice (some ⟨qb, qo, none⟩) s9.recs.length c9]) ?_ ?_
          · (intro w hs; exact exec_load rfl rfl (sta_load (HX3.out w hs)).out)
          refine tk 1 ?_
          refine tv 2 (.agg #[.slice k.pf c.fr.path.length k.fc, .string c.fr.type, .string c.fr.name, .int .i64 c.fr.key, .int .u64 c.fr.place, .string c.fr.word]) ?_ ?_
          · (intro w hs; exact exec_load rfl rfl (adr_load (cmd_from (HC3.out w hs))).out)
          try simp only [nz]
          refine rd 3 (fun K hK => ?_)
          try simp only [nz]
          go_simp
          go_at_call 28; refine (Calls.mono (HFF.out w12.drew HDW.out) ?_); rintro z w13 ⟨rfl, hb⟩; have D13 : Hid (Below w12.heap.size w12 w13) := HDW.out.trans (hb.mono HDW.out.size); clear hb
          clear hHeld
          refine hK.out _ _ ?_ (fun hHeld => ?_)
          · (first | exact D15.out | exact D13.out | exact (Below.refl _ _).drew)
          clear hK K
          try simp only [nz]
          refine tk 4 ?_
          refine tk 5 ?_
          refine tk 6 ?_
          try simp only [nz]
          refine tv 7 (.int .i64 c.kind) ?_ ?_
          · (intro w hs; have ee := (cmd_cells (HC3.out w hs)).1; clear hs; go_simp <;> with_reducible rfl)
          refine tk 8 ?_
          refine tk 9 ?_
          try simp only [nz]
          refine tk 10 ?_
          refine tk 11 ?_
          refine tk 12 ?_
          try simp only [nz]
          refine tk 13 ?_
          refine tv 14 (.slice (some ⟨qb, qo, none⟩) s9.recs.length c9) ?_ ?_
          · (intro w hs; have ee := (sta_cells (HX3.out w hs)).2.2; clear hs; go_simp <;> with_reducible rfl)
          refine tk 15 ?_
          try simp only [nz]
          refine tk 16 ?_
          refine tk 17 ?_
          refine tv 18 (.string r.id) ?_ ?_
          · (intro w hs; have ee := HQ7.out w hs; clear hs; go_simp <;> with_reducible rfl)
          try simp only [nz]
          refine tk 19 ?_
          refine tv 20 (.string r.id) ?_ ?_
          · (intro w hs; have ee := (rec_cells (HB3.out w hs)).2.2.2.2.2.2.2.1; clear hs; go_simp <;> with_reducible rfl)
          refine tk 21 ?_
          try simp only [nz]
          refine tk 22 ?_
          refine tk 23 ?_
          refine tk 24 ?_
          try simp only [nz]
          refine tv 25 (.slice (some ⟨qb, qo, none⟩) s9.recs.length c9) ?_ ?_
          · (intro w hs; have ee := (sta_cells (HX3.out w hs)).2.2; clear hs; go_simp <;> with_reducible rfl)
          refine tk 26 ?_
          refine tk 27 ?_
          try simp only [nz]
          refine tk 28 ?_
          refine tv 29 (.string r.prov) ?_ ?_
          · (intro w hs; have ee := HQ6.out w hs; clear hs; go_simp <;> with_reducible rfl)
          refine tk 30 ?_
          try simp only [nz]
          refine tv 31 (.string r.prov) ?_ ?_
          · (intro w hs; have ee := (rec_cells (HB3.out w hs)).2.2.2.2.2.2.1; clear hs; go_simp <;> with_reducible rfl)
          refine tk 32 ?_
          refine tk 33 ?_
          try simp only [nz]
          refine tk 34 ?_
          refine tk 35 ?_
          refine tv 36 (.slice (some ⟨qb, qo, none⟩) s9.recs.length c9) ?_ ?_
          · (intro w hs; have ee := (sta_cells (HX3.out w hs)).2.2; clear hs; go_simp <;> with_reducible rfl)
          try simp only [nz]
          refine tk 37 ?_
          refine tk 38 ?_
          refine tk 39 ?_
          try simp only [nz]
          refine tv 40 (.slice q.ta r.attrs.length q.tc) ?_ ?_
          · (intro w hs; have ee := HQ8.out w hs; clear hs; go_simp <;> with_reducible rfl)
          refine tk 41 ?_
          refine tv 42 (.slice p.ta r.attrs.length p.tc) ?_ ?_
          · (intro w hs; have ee := (rec_cells (HB3.out w hs)).2.2.2.2.2.2.2.2; clear hs; go_simp <;> with_reducible rfl)
          try simp only [nz]
          refine rd 43 (fun K hK => ?_)
          try simp only [nz]
          go_simp
          go_at_call 29; refine (Calls.mono (KPR.out w13 D13.out) ?_); rintro z w15 ⟨rfl, hb⟩; have D15 : Hid (Below w12.heap.size w12 w15) := D13.out.trans (hb.mono D13.out.size); clear hb
          clear hHeld
          refine hK.out _ _ ?_ (fun hHeld => ?_)
          · (first | exact D15.out | exact D13.out | exact (Below.refl _ _).drew)
          clear hK K
          try simp only [nz]
          refine tk 44 ?_
          refine tk 45 ?_
          refine tk 46 ?_
          try simp only [nz]
          refine tk 47 ?_
          try simp only [nz]
          refine wpAnyH_done (by kernel_rfl) ?_ _
          all_goals
            have HE : Hid (Below w9.heap.size w9 w15) := E12.out.trans (D15.out.mono E12.out.size)
            clear hHeld
            go_wp2_with fail
            go_roundw
            case rel => exact ⟨i + 1, by go_num, by omega, HE.out⟩
            case measure => simp [intOf]; omega
        · have t1 : (c.kind == 1) = false := by rw [k2]; rfl
          obtain ⟨zi, rfl⟩ : ∃ zi, z = .returned (.int .i64 zi) := by
            rcases hz with ⟨j, _, rfl, _⟩ | ⟨rfl, _⟩
            · exact ⟨_, rfl⟩
            · exact ⟨_, rfl⟩
          clear k2 hz
          go_wp2_with fail
          refine wp_region_held_drew (S := (fun W => Below w12.heap.size w12 W)) (by kernel_rfl) ?_ (fun hHeld => ?_)
          · (first | exact D15.out | exact D13.out | exact (Below.refl _ _).drew)
          have HDW : Hid (Below w12.heap.size w12 w12.drew) := (Below.refl _ _).drew
          refine tv 0 (.agg #[.int .u64 s9.serial, .string s9.lin, .slice a9 s9.recs.length c9]) ?_ ?_
          · (intro w hs; exact exec_load rfl rfl (sta_load (HX3.out w hs)).out)
          refine tk 1 ?_
          refine tv 2 (.agg #[.slice k.pf c.fr.path.length k.fc, .string c.fr.type, .string c.fr.name, .int .i64 c.fr.key, .int .u64 c.fr.place, .string c.fr.word]) ?_ ?_
          · (intro w hs; exact exec_load rfl rfl (adr_load (cmd_from (HC3.out w hs))).out)
          try simp only [nz]
          refine rd 3 (fun K hK => ?_)
          try simp only [nz]
          go_simp
          go_at_call 28; refine (Calls.mono (HFF.out w12.drew HDW.out) ?_); rintro z w13 ⟨rfl, hb⟩; have D13 : Hid (Below w12.heap.size w12 w13) := HDW.out.trans (hb.mono HDW.out.size); clear hb
          clear hHeld
          refine hK.out _ _ ?_ (fun hHeld => ?_)
          · (first | exact D15.out | exact D13.out | exact (Below.refl _ _).drew)
          clear hK K
          try simp only [nz]
          refine tk 4 ?_
          refine tk 5 ?_
          refine tk 6 ?_
          try simp only [nz]
          refine tv 7 (.int .i64 c.kind) ?_ ?_
          · (intro w hs; have ee := (cmd_cells (HC3.out w hs)).1; clear hs; go_simp <;> with_reducible rfl)
          refine tk 8 ?_
          refine tk 9 ?_
          try simp only [nz]
          refine tn 10 ?_
          refine tn 11 ?_
          refine tn 12 ?_
          try simp only [nz]
          refine tn 13 ?_
          refine tn 14 ?_
          refine tn 15 ?_
          try simp only [nz]
          refine tn 16 ?_
          refine tn 17 ?_
          refine tn 18 ?_
          try simp only [nz]
          refine tn 19 ?_
          refine tn 20 ?_
          refine tn 21 ?_
          try simp only [nz]
          refine tn 22 ?_
          refine tn 23 ?_
          refine tn 24 ?_
          try simp only [nz]
          refine tn 25 ?_
          refine tn 26 ?_
          refine tn 27 ?_
          try simp only [nz]
          refine tn 28 ?_
          refine tn 29 ?_
          refine tn 30 ?_
          try simp only [nz]
          refine tn 31 ?_
          refine tn 32 ?_
          refine tn 33 ?_
          try simp only [nz]
          refine tn 34 ?_
          refine tn 35 ?_
          refine tn 36 ?_
          try simp only [nz]
          refine tn 37 ?_
          refine tn 38 ?_
          refine tn 39 ?_
          try simp only [nz]
          refine tn 40 ?_
          refine tn 41 ?_
          refine tn 42 ?_
          try simp only [nz]
          refine tn 43 ?_
          refine tn 44 ?_
          refine tn 45 ?_
          try simp only [nz]
          refine tk 46 ?_
          refine tk 47 ?_
          try simp only [nz]
          refine wpAnyH_done (by kernel_rfl) ?_ _
          all_goals
            have HE : Hid (Below w9.heap.size w9 w13) := E12.out.trans (D13.out.mono E12.out.size)
            clear hHeld
            go_wp2_with fail
            go_roundw
            case rel => exact ⟨i + 1, by go_num, by omega, HE.out⟩
            case measure => simp [intOf]; omega
    · have hie : i = s.recs.length := by omega
      have CR : Hid (Below w2.heap.size w2 wr) := HW9.out wr hB.out
      have hwr : IntKind.u64.wrap ((s.serial : Int) + 1) = (s9.serial : Int) := tick_wrap HSR.out.2 (by rw [HSR.out.1])
      obtain ⟨x0, x1, x2⟩ := sta_cells (HXB.out wr hB.out)
      obtain ⟨y0, y1, y2⟩ := sta_cells (HSB.out wr CR.out)
      rw [HD9.out.lin] at x1
      clear hie
      go_wp2_with fail
      go_ret
      exact ⟨by simp, HBW.out _ CR.out⟩
theorem editKeeps_arg (v : Value) (s : Sta) (u : Value) (c : Cmd) (w : World) (h : StaArg w v s) (h' : CmdArg w u c) (T : TabsA w) :
    Calls Tryz.prog 6 #[v, u] w fun e w' => e = .returned (.bool true) ∧ Below w.heap.size w w' := by
  obtain ⟨ra, rc, rfl, h1, h2, h3, _⟩ := h
  obtain ⟨k, rfl, h4⟩ := h'
  exact editKeeps_any s ra rc k c w T h1 h2 h4 h3
end Go.Proofs.YtehghladpnpcoaaGreatDoor.State.Edit
