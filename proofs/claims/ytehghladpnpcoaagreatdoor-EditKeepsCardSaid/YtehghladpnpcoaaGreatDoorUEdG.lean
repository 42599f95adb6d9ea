/- An argument api.Command, opened. -/
import Derived.Test.YtehghladpnpcoaaGreatDoorUEdA
import Derived.Test.YtehghladpnpcoaaGreatDoorUOpS
set_option linter.unusedVariables false
set_option linter.unusedSimpArgs false
set_option maxRecDepth 100000
namespace Go.Proofs.YtehghladpnpcoaaGreatDoor.State.Edit
open Go.RowKit Strs Go.ChangeShapes Go.WideShapes Go.ChangeAt Go.Proofs.YtehghladpnpcoaaGreatDoor.Addr Go.Proofs.YtehghladpnpcoaaGreatDoor.State
open Jdec (IsTexts)
structure CmdIn (w : World) (k : CAt) (c : Cmd) : Prop where
  f : AdrIn w k.pf c.fr
  t : AdrIn w k.pt c.ad
  r : RecIn w k.p c.r
theorem CmdIn.stays {w w' : World} {k : CAt} {c : Cmd} (h : CmdIn w k c) (hb : Below w.heap.size w w') : CmdIn w' k c := ⟨h.f.stays hb, h.t.stays hb, h.r.stays hb⟩
theorem CmdIn.at {w : World} {k : CAt} {c : Cmd} (h : CmdIn w k c) (h1 : greatA c.fr = false) (h2 : greatA c.ad = false) (h3 : Small c.r) : CmdAt w k c := ⟨h.f.at h1, h.t.at h2, h.r.isRec, h3⟩
theorem bytesCmd : Tryz.prog.bytesOf 44 = 328 := by kernel_rfl
theorem cellsCmd : Tryz.prog.cellsOf 44 = 22 := by kernel_rfl
theorem fits_cmd : ∀ cs : List Value, cs.length = 22 -> ∃ c0 c1 c2 c3 c4 c5 c6 c7 c8 c9 c10 c11 c12 c13 c14 c15 c16 c17 c18 c19 c20 c21, cs = [c0, c1, c2, c3, c4, c5, c6, c7, c8, c9, c10, c11, c12, c13, c14, c15, c16, c17, c18, c19, c20, c21]
  | [c0, c1, c2, c3, c4, c5, c6, c7, c8, c9, c10, c11, c12, c13, c14, c15, c16, c17, c18, c19, c20, c21], _ => ⟨c0, c1, c2, c3, c4, c5, c6, c7, c8, c9, c10, c11, c12, c13, c14, c15, c16, c17, c18, c19, c20, c21, rfl⟩
section
variable {H : Type} {enc : TypeId × Value -> H} {W : World} {base : Nat} {spare : Nat -> Bool} {held : Bool}
def CmdR (W : World) (cs : List Value) (x : CAt × Cmd) : Prop := cs = (cmdArr x.1 x.2).toList /\ CmdIn W x.1 x.2
theorem open_cmdcells (fuel : Nat) (cs : List Value) (x : DataW H × List MemPlace) (h : DataW.trod enc Tryz.prog W base spare held fuel 44 cs = some x) (hw : ∀ n ∈ x.1.weights Tryz.prog 44, n <= rb) : ∃ y : CAt × Cmd, CmdR W cs y := by
  obtain ⟨ys, n1, hf1, hx, hlen, hyl, hg⟩ := DataW.trod_struct Tryz.underlying44 h;have hcl : cs.length = 22 := by rw [hlen]; exact cellsCmd
  obtain ⟨c0, c1, c2, c3, c4, c5, c6, c7, c8, c9, c10, c11, c12, c13, c14, c15, c16, c17, c18, c19, c20, c21, rfl⟩ := fits_cmd cs hcl
  match ys, hyl with
  | [y0, y1, y2, y3], _ =>
    have g0 := hg 0 _ rfl;have g1 := hg 1 _ rfl;have g2 := hg 2 _ rfl;have g3 := hg 3 _ rfl;simp [cellsInt1, cellsAdr, cellsRec] at g0 g1 g2 g3
    have hwt : DataW.weights Tryz.prog 44 x.1 = y0.1.weights Tryz.prog 3 ++ (y1.1.weights Tryz.prog 35 ++ (y2.1.weights Tryz.prog 35 ++ (y3.1.weights Tryz.prog 38 ++ []))) := by
      rw [hx];simp [DataW.weights, DataW.weightsEach, Tryz.underlying44]
    rw [hwt] at hw;obtain ⟨kd, e0, _, _⟩ := DataW.trod_int Tryz.underlying3 g0;simp at e0
    subst e0;obtain ⟨a, pa, pc, e1, ha⟩ := open_words _ _ _ g1 (fun n hn => hw n (by simp [hn]));obtain ⟨b, pb, pd, e2, hb⟩ := open_words _ _ _ g2 (fun n hn => hw n (by simp [hn]));obtain ⟨⟨p, r⟩, e3, h1, h2⟩ := open_reccells _ _ _ g3 (fun n hn => hw n (by simp [hn]));simp [arrA] at e1 e2
    simp [recArr] at e3
    obtain ⟨rfl, rfl, rfl, rfl, rfl, rfl⟩ := e1;obtain ⟨rfl, rfl, rfl, rfl, rfl, rfl⟩ := e2;obtain ⟨rfl, rfl, rfl, rfl, rfl, rfl, rfl, rfl, rfl⟩ := e3;exact ⟨(⟨pa, pc, pb, pd, p⟩, ⟨kd, a, b, r⟩), rfl, ha, hb, h2.recIn h1⟩
end
end Go.Proofs.YtehghladpnpcoaaGreatDoor.State.Edit
set_option linter.unusedVariables false
set_option linter.unusedSimpArgs false
set_option maxRecDepth 100000
set_option maxHeartbeats 16000000
namespace Go.Proofs.YtehghladpnpcoaaGreatDoor.State.Edit
open Go.RowKit Go.Shelf Utf Strs Go.Proofs.YtehghladpnpcoaaGreatDoor.Addr Go.Proofs.YtehghladpnpcoaaGreatDoor.State
open Jdec (IsTexts Turn infoStr gb_set gb_below gb_refl)
def IsCmds (w : World) (a : Option Addr) (l : List Cmd) : Prop := l = [] ∨ ∃ b o, a = some ⟨b, o, none⟩ /\ b < w.heap.size /\ ∃ f : Nat -> CAt, ∀ i (h : i < l.length), (∀ j u, (cmdArr (f i) l[i])[j]? = some u -> w.cell? ⟨b, o + i * 22 + j, none⟩ = some u) /\ CmdIn w (f i) l[i]
theorem IsCmds.stays {w w' : World} {a : Option Addr} {l : List Cmd} (h : IsCmds w a l) (hb : Below w.heap.size w w') : IsCmds w' a l := by
  rcases h with h | ⟨b, o, ha, hbl, f, hc⟩
  · exact .inl h
  · exact .inr ⟨b, o, ha, Nat.lt_of_lt_of_le hbl hb.size, f, fun i hi => ⟨fun j u hu => by rw [cell_blk (hb.block b hbl)]; exact (hc i hi).1 j u hu, (hc i hi).2.stays hb⟩⟩
theorem cmd_row {w : World} {b o : Nat} {k : CAt} {c : Cmd} (h : ∀ j u, (cmdArr k c)[j]? = some u -> w.cell? ⟨b, o + j, none⟩ = some u) : w.cell? ⟨b, o, none⟩ = some (.int .i64 c.kind) /\ w.cell? ⟨b, o + 1, none⟩ = some (.slice k.pf c.fr.path.length k.fc) /\ w.cell? ⟨b, o + 2, none⟩ = some (.string c.fr.type) /\ w.cell? ⟨b, o + 3, none⟩ = some (.string c.fr.name) /\ w.cell? ⟨b, o + 4, none⟩ = some (.int .i64 c.fr.key) /\ w.cell? ⟨b, o + 5, none⟩ = some (.int .u64 c.fr.place) /\ w.cell? ⟨b, o + 6, none⟩ = some (.string c.fr.word) /\ w.cell? ⟨b, o + 7, none⟩ = some (.slice k.pt c.ad.path.length k.tc) /\ w.cell? ⟨b, o + 8, none⟩ = some (.string c.ad.type) /\ w.cell? ⟨b, o + 9, none⟩ = some (.string c.ad.name) /\ w.cell? ⟨b, o + 10, none⟩ = some (.int .i64 c.ad.key) /\ w.cell? ⟨b, o + 11, none⟩ = some (.int .u64 c.ad.place) /\ w.cell? ⟨b, o + 12, none⟩ = some (.string c.ad.word) /\ w.cell? ⟨b, o + 13, none⟩ = some (.slice k.p.pa c.r.a.path.length k.p.pc) /\ w.cell? ⟨b, o + 14, none⟩ = some (.string c.r.a.type) /\ w.cell? ⟨b, o + 15, none⟩ = some (.string c.r.a.name) /\ w.cell? ⟨b, o + 16, none⟩ = some (.int .i64 c.r.a.key) /\ w.cell? ⟨b, o + 17, none⟩ = some (.int .u64 c.r.a.place) /\ w.cell? ⟨b, o + 18, none⟩ = some (.string c.r.a.word) /\ w.cell? ⟨b, o + 19, none⟩ = some (.string c.r.prov) /\ w.cell? ⟨b, o + 20, none⟩ = some (.string c.r.id) /\ w.cell? ⟨b, o + 21, none⟩ = some (.slice k.p.ta c.r.attrs.length k.p.tc) :=
  ⟨h 0 _ rfl, h 1 _ rfl, h 2 _ rfl, h 3 _ rfl, h 4 _ rfl, h 5 _ rfl, h 6 _ rfl, h 7 _ rfl, h 8 _ rfl, h 9 _ rfl, h 10 _ rfl, h 11 _ rfl, h 12 _ rfl, h 13 _ rfl, h 14 _ rfl, h 15 _ rfl, h 16 _ rfl, h 17 _ rfl, h 18 _ rfl, h 19 _ rfl, h 20 _ rfl, h 21 _ rfl⟩
structure Fit (c : Cmd) : Prop where
  f : greatA c.fr = false
  t : greatA c.ad = false
  r : Small c.r
def GcPost (l : List Cmd) (w : World) (e : Ending) (w' : World) : Prop := ∃ g : Bool, e = .returned (.bool g) /\ Hid (g = false -> l.length <= 20 /\ ∀ c ∈ l, Fit c) /\ Hid (Below w.heap.size w w')
theorem rgreat26_any (l : List Cmd) (a : Option Addr) (cp : Nat) (w : World) (h : IsCmds w a l) : Hid (Calls Tryz.prog 22 #[.slice a l.length cp] w (GcPost l w)) := by
  show Calls _ _ _ _ _;have HL : Hid (∀ W, Below w.heap.size w W -> IsCmds W a l) := fun W hb => h.stays hb;clear h;by_cases h20 : 20 < l.length
  · have q1 : decide ((20 : Int) < (l.length : Int)) = true := by rw [dtQ]; omega
    have q2 : decide (20 < l.length) = true := by rw [dtQ]; omega
    clear h20;go_enter Tryz.func22, Tryz.ntmps22
    go_wp2_with fail
    go_ret
    exact ⟨true, rfl, fun h => (by cases h), Below.refl _ _⟩
  have q1 : decide ((20 : Int) < (l.length : Int)) = false := by rw [dfQ]; omega
  have q2 : decide (20 < l.length) = false := by rw [dfQ]; omega
  have hn20 : l.length <= 20 := by omega
  clear h20;go_enter Tryz.func22, Tryz.ntmps22
  go_wp2_with fail
  go_loopw [3] (fun p3 wr => ∃ i : Nat, p3 = .int .i64 i /\ i <= l.length /\ Hid (∀ c ∈ l.take i, Fit c) /\ Hid (Below w.heap.size w wr)) (fun p3 _ => l.length - (intOf p3).toNat)
  case atStart => exact ⟨0, rfl, Nat.zero_le _, fun r h => by simp at h, Below.refl _ _⟩
  case round =>
    obtain ⟨i, rfl, hi, hS, hB⟩ := hrel;by_cases hlt : i < l.length
    · obtain ⟨b, o, hra, hb, f, hc⟩ := (HL.out wr hB.out).resolve_left (by intro e; rw [e] at hlt; simp at hlt);obtain ⟨hc1, hc2⟩ := hc i hlt;have htk : ∀ r ∈ l.take (i + 1), r ∈ l.take i ∨ r = l[i] := by
        intro r hr
        rw [List.take_add_one, List.getElem?_eq_getElem hlt, List.mem_append] at hr
        simpa using hr
      obtain ⟨c, hr⟩ : ∃ r, l[i] = r := ⟨_, rfl⟩;rw [hr] at hc1 hc2 htk;obtain ⟨k, hp⟩ : ∃ p, f i = p := ⟨_, rfl⟩;rw [hp] at hc1 hc2;obtain ⟨z0, z1, z2, z3, z4, z5, z6, z7, z8, z9, z10, z11, z12, z13, z14, z15, z16, z17, z18, z19, z20, z21⟩ := cmd_row hc1;have HC1 : Hid (∀ W, Below wr.heap.size wr W -> ∀ j u, (cmdArr k c)[j]? = some u -> W.cell? ⟨b, o + i * 22 + j, none⟩ = some u) := fun W hW j u hu => by rw [cell_blk (hW.block b hb)]; exact hc1 j u hu
      have HCI : Hid (∀ W, Below wr.heap.size wr W -> CmdIn W k c) := fun W hW => hc2.stays hW;have HTK := hdQ htk;obtain ⟨g1, hg1⟩ : ∃ g, greatA c.fr = g := ⟨_, rfl⟩;obtain ⟨g2, hg2⟩ : ∃ g, greatA c.ad = g := ⟨_, rfl⟩;have HG1 := hdQ hg1;have HG2 := hdQ hg2;have K1 := gra_ok c.fr k.pf k.fc wr (HCI.out wr (Below.refl _ _)).f g1 hg1;have K2 : Hid (∀ W, Below wr.heap.size wr W -> Calls Tryz.prog 55 #[.agg #[.slice k.pt c.ad.path.length k.tc, .string c.ad.type, .string c.ad.name, .int .i64 c.ad.key, .int .u64 c.ad.place, .string c.ad.word]] W fun e w' => e = .returned (.bool g2) /\ Below W.heap.size W w') := fun W hb => (gra_ok c.ad k.pt k.tc W (HCI.out W hb).t g2 hg2).out;subst hra;clear hc hc1 hc2 htk hr hp hb hg1 hg2;go_wp2_with fail
      refine (Calls.mono K1.out ?_);rintro z w3 ⟨rfl, hb⟩;have C3 : Hid (Below wr.heap.size wr w3) := hb;clear hb K1 z0 z1 z2 z3 z4 z5 z6 z7 z8 z9 z10 z11 z12 z13 z14 z15 z16 z17 z18 z19 z20 z21;cases g1
      case true =>
        go_wp2_with fail
        go_ret
        exact ⟨true, rfl, fun h => (by cases h), hB.out.trans (C3.out.mono hB.out.size)⟩
      obtain ⟨y0, y1, y2, y3, y4, y5, y6, y7, y8, y9, y10, y11, y12, y13, y14, y15, y16, y17, y18, y19, y20, y21⟩ := cmd_row (HC1.out w3 C3.out);go_wp2_with fail
      refine (Calls.mono (K2.out w3 C3.out) ?_);rintro z w4 ⟨rfl, hb⟩;have C4 : Hid (Below wr.heap.size wr w4) := C3.out.trans (hb.mono C3.out.size);clear hb y0 y1 y2 y3 y4 y5 y6 y7 y8 y9 y10 y11 y12 y13 y14 y15 y16 y17 y18 y19 y20 y21;cases g2
      case true =>
        go_wp2_with fail
        go_ret
        exact ⟨true, rfl, fun h => (by cases h), hB.out.trans (C4.out.mono hB.out.size)⟩
      obtain ⟨y0, y1, y2, y3, y4, y5, y6, y7, y8, y9, y10, y11, y12, y13, y14, y15, y16, y17, y18, y19, y20, y21⟩ := cmd_row (HC1.out w4 C4.out);have K3 := gr_ok c.r k.p w4 (HCI.out w4 C4.out).r;go_wp2_with fail
      refine (Calls.mono K3.out ?_);rintro z w5 hz;obtain ⟨g3, rfl, hg3, hb⟩ := hz.to;have C5 : Hid (Below w.heap.size w w5) := hB.out.trans ((C4.out.trans (hb.out.mono C4.out.size)).mono hB.out.size);clear hz hb K3 y0 y1 y2 y3 y4 y5 y6 y7 y8 y9 y10 y11 y12 y13 y14 y15 y16 y17 y18 y19 y20 y21;cases g3
      case true =>
        go_wp2_with fail
        go_ret
        exact ⟨true, rfl, fun h => (by cases h), C5.out⟩
      have HS2 : Hid (∀ c ∈ l.take (i + 1), Fit c) := fun x hx => (HTK.out x hx).elim (hS.out x) (fun e => by subst e; exact ⟨HG1.out, HG2.out, hg3.out rfl⟩);clear hg3;go_wp2_with fail
      go_roundw
      case rel => exact ⟨i + 1, by go_num, by omega, HS2.out, C5.out⟩
      case measure => simp [intOf]; omega
    · have hie : i = l.length := by omega
      have HS2 : Hid (∀ c ∈ l, Fit c) := by
        have := hS.out;rw [hie, List.take_length] at this;exact this
      clear hie;go_wp2_with fail
      go_ret
      exact ⟨false, rfl, fun _ => ⟨hn20, HS2.out⟩, hB.out⟩
end Go.Proofs.YtehghladpnpcoaaGreatDoor.State.Edit
