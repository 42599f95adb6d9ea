/- tree.sortAll of an object; of whatever is right. -/
import Derived.Test.YtehffmcfmdjknaaGreatDoorSorA
namespace Go.Proofs.YtehffmcfmdjknaaGreatDoor.Jdec
open Go.RowKit Go.Proofs.YtehffmcfmdjknaaGreatDoor.Strs Go.Proofs
set_option linter.unusedVariables false
set_option linter.unusedSimpArgs false
set_option maxRecDepth 100000

theorem BackP.drew {w9 wr : World} {ka va : Option Addr} {kc vc : Nat} {ks : List ByteArray} {nds : List Nd} {l : List Fl} {i : Nat} (h : BackP w9 ka va kc vc ks nds l i wr) : BackP w9 ka va kc vc ks nds l i wr.drew :=
  ⟨⟨h.keyRow.1, h.keyRow.2⟩, ⟨h.kidRow.1, h.kidRow.2⟩, h.only.os, h.only.tape, h.only.output, h.only.size, h.only.block⟩
theorem cell_drew (w : World) (a : Addr) : w.drew.cell? a = w.cell? a := rfl
theorem cell_set_ne {w : World} {a b i o : Nat} {v : Value} (h : a ≠ b) : (w.setCell ⟨b, i, none⟩ v).cell? ⟨a, o, none⟩ = w.cell? ⟨a, o, none⟩ :=
  World.cell?_of_block (w := w) (a := ⟨a, o, none⟩) (Below.heap_setCell _ _ _ _ h)
set_option maxHeartbeats 16000000 in
theorem sortAll_six (is ng : Bool) (d : ByteArray) (e : Int) (s : ByteArray) (ks : List ByteArray) (vs : List JV) (hvs : vs.length ≤ 3000) (hkl : ks.length = vs.length) (hnd : ks.Nodup) (IH : ∀ j (h : j < vs.length), SortC vs[j]) : SortC (.mk 6 is ng d e s ks vs) := by
  intro ra S w pb po hcl hpb hnS hSw ho
  obtain ⟨ka, kc, va, vc, nds, rfl, hvn, hP⟩ := ho.parts
  have hlen : nds.length = vs.length := by rw [hvn, List.length_map]
  have H0 : Hid (HalfP S ka va kc vc ks vs w 0 w) := ⟨nds, hP, hlen, by rw [hvn]; simp, Only.refl _ _⟩
  have HSRT : Hid ((JV.mk 6 is ng d e s ks vs).sort = .mk 6 is ng d e s ((flds ks (vs.map JV.sort)).map (·.1)) ((flds ks (vs.map JV.sort)).map (·.2))) := sort_six is ng d e s ks vs
  rw [hlen] at hcl ⊢
  have HIH := Hid.out (p := Hid _) IH
  have HSW := Hid.out (p := Hid _) hSw
  have HKL := Hid.out (p := Hid _) hkl
  have HND := Hid.out (p := Hid _) hnd
  have hks : ks.length ≤ 3000 := by omega
  have HCL : Hid (CellsAt w pb po (Raw.mk 6 is ng d e s ka ks.length kc va vs.length vc)) := hcl
  have HNS := Hid.out (p := Hid _) hnS
  obtain ⟨x0, x1, x2, x3, x4, x5, x6, x7⟩ := hcl.eight
  clear hP hvn hlen ho IH hSw hcl hnS hkl hnd
  dsimp only at x0 x1 x2 x3 x4 x5 x6 x7
  go_enter Tryz.func35, Tryz.ntmps35
  go_wp2_with fail
  clear x0 x1 x2 x3 x4 x5 x6 x7
  go_loopw [13] (fun p wr => ∃ i : Nat, p = .int .i64 i ∧ i ≤ vs.length ∧ Hid (HalfP S ka va kc vc ks vs w i wr)) (fun p _ => vs.length - (intOf p).toNat)
  case atStart => exact ⟨0, rfl, Nat.zero_le _, H0.out⟩
  case round =>
    obtain ⟨i, rfl, hi, hH⟩ := hrel
    obtain ⟨nds, hP, hlen, hjv, hO⟩ := hH.out
    have HP := Hid.out (p := Hid _) hP
    have HO := Hid.out (p := Hid _) hO
    have HL := Hid.out (p := Hid _) hlen
    have HJ := Hid.out (p := Hid _) hjv
    have hsz := hO.size
    have K2 : CellsAt wr pb po (Raw.mk 6 is ng d e s ka ks.length kc va vs.length vc) := fun j u hu => (World.cell?_of_block (w := w) (a := ⟨pb, po + j, none⟩) (hO.block pb hpb HNS.out)).trans (HCL.out j u hu)
    have HK2 := Hid.out (p := Hid _) K2
    obtain ⟨x0, x1, x2, x3, x4, x5, x6, x7⟩ := K2.eight
    clear hP hO hlen hjv K2
    dsimp only at x0 x1 x2 x3 x4 x5 x6 x7
    by_cases hlt : i < vs.length
    · have hin : i < nds.length := by rw [HL.out]; exact hlt
      obtain ⟨hj1, hj2⟩ := set_jvs nds vs JV.sort i hin HL.out HJ.out
      obtain ⟨g, hva, hg, hSg, hcg⟩ := HP.out.kid i hin
      have hown := HP.out.own _ (List.getElem_mem hin)
      rw [hj1] at hown
      have hsub := HP.out.sub _ (List.getElem_mem hin)
      have hcall := HIH.out i hlt nds[i].raw nds[i].S wr g (i * 8) hcg hg (fun hx => (hsub g hx).2.2 ⟨_, hva, rfl⟩) (fun b hb => Nat.lt_of_lt_of_le (HSW.out b (hsub b hb).1) hsz) hown
      have HCC := Hid.out (p := Hid _) hcall
      have HJ2 := Hid.out (p := Hid _) hj2
      subst hva
      clear hj1 hj2 hown hsub hcall hcg
      go_wp2_with fail
      refine (Calls.mono HCC.out ?_)
      rintro z w5 hz
      obtain ⟨rfl, ho5, hO5⟩ := hz.to
      obtain ⟨hP5, hO6⟩ := HP.out.turned i hin _ ho5.out hO5.out
      have H5 : Hid (HalfP S ka (some ⟨g, 0, none⟩) kc vc ks vs w (i + 1) w5) := ⟨_, hP5, by rw [List.length_set]; exact HL.out, HJ2.out, HO.out.trans hO6⟩
      clear hz hP5 hO6
      go_wp2_with fail
      go_roundw
      case rel => exact ⟨i + 1, by go_num, by omega, H5.out⟩
      case measure => simp [intOf]; omega
    · obtain rfl : i = vs.length := by omega
      have HJV : Hid (nds.map Nd.jv = vs.map JV.sort) := by
        have hj := HJ.out
        rw [List.take_length, List.drop_length, List.append_nil] at hj
        exact hj
      have hknd : ks.length = nds.length := by rw [HKL.out, HL.out]
      have hfl := flsOf_len hknd
      have hvk : vs.length = ks.length := HKL.out.symm
      obtain ⟨w7, xs7, hr7, HO7, B7⟩ := make_flds wr ks.length hks
      have hl7 : wr.heap.size < w7.heap.size := (HO7.out.lt wr.heap.size rfl).2
      have HF0 : Hid (FillP w7 wr.heap.size (flsOf ks nds) 0 w7) := ⟨⟨xs7, by have := HO7.out.1; rw [hfl]; omega, by rw [hfl]; exact HO7.out⟩, rfl, rfl, rfl, Nat.le_refl _, fun _ _ _ => rfl⟩
      have HP7 : Hid (PartP w7 S ka va kc vc ks nds) := HP.out.keep fun b hb hl => B7.out.block b hl
      have HK7 : Hid (CellsAt w7 pb po (Raw.mk 6 is ng d e s ka ks.length kc va vs.length vc)) := CellsAt.below HK2.out (by omega) B7.out
      have HFL := Hid.out (p := Hid _) hfl
      have HKN := Hid.out (p := Hid _) hknd
      have HR7 := Hid.out (p := Hid _) hr7
      obtain ⟨y0, y1, y2, y3, y4, y5, y6, y7⟩ := CellsAt.eight HK7.out
      dsimp only at y0 y1 y2 y3 y4 y5 y6 y7
      have hSr : ∀ b, S b → b < wr.heap.size := fun b hb => Nat.lt_of_lt_of_le (HSW.out b hb) hsz
      have HSR := Hid.out (p := Hid _) hSr
      clear HJ hfl hknd hvk hr7 hSr H0 HIH
      go_wp2_with (at_make; refine wpList_make_run (.int .i64 (ks.length : Int)) (.int .i64 (ks.length : Int)) 92 HR7.out rfl _ _ rfl rfl rfl ?_)
      clear x0 x1 x2 x3 x4 x5 x6 x7 y0 y1 y2 y3 y4 y5 y6 y7 HR7
      obtain ⟨w1, hw1⟩ : ∃ w1, w1 = wr := ⟨_, rfl⟩
      subst hw1
      go_loopw [40] (fun p w2 => ∃ i : Nat, p = .int .i64 i ∧ i ≤ ks.length ∧ Hid (FillP w7 w1.heap.size (flsOf ks nds) i w2)) (fun p _ => ks.length - (intOf p).toNat)
      case atStart => exact ⟨0, rfl, Nat.zero_le _, HF0.out⟩
      case round =>
        obtain ⟨i, rfl, hi, hF⟩ := hrel
        have hgs := hF.out.grew.size
        have K8 : CellsAt wr pb po (Raw.mk 6 is ng d e s ka ks.length kc va vs.length vc) := fun j u hu => (World.cell?_of_block (w := w7) (a := ⟨pb, po + j, none⟩) (hF.out.grew.block pb (by omega) (fun e => by injection e with e; omega))).trans (HK7.out j u hu)
        have HK8 := Hid.out (p := Hid _) K8
        obtain ⟨x0, x1, x2, x3, x4, x5, x6, x7⟩ := K8.eight
        dsimp only at x0 x1 x2 x3 x4 x5 x6 x7
        have HP8 : Hid (PartP wr S ka va kc vc ks nds) := HP7.out.keep fun b hb hl => hF.out.grew.block b hl (fun e => by injection e with e; have := HSR.out b hb; omega)
        clear K8
        by_cases hlt : i < ks.length
        · have hin : i < nds.length := by rw [← HKN.out]; exact hlt
          obtain ⟨g, hva, hg, hSg, hcg⟩ := HP8.out.kid i hin
          obtain ⟨kb, hka, hkb, hSk, hck⟩ := HP8.out.key i hlt
          have hif : i < (flsOf ks nds).length := by rw [HFL.out]; exact hlt
          have hat := flsOf_at (ks := ks) (nds := nds) i hlt hin
          have hnx := hF.out.next hif
          have n0 := hF.out.nine hif
          rw [hat] at hnx
          have HNX := Hid.out (p := Hid _) hnx
          have hvi : i < vs.length := by rw [← HKL.out]; exact hlt
          subst hva hka
          obtain ⟨u0, u1, u2, u3, u4, u5, u6, u7⟩ := hcg.eight
          obtain ⟨c0, e0⟩ := (n0 0 (by omega)).1
          obtain ⟨c1, e1⟩ := (n0 1 (by omega)).1
          obtain ⟨c2, e2⟩ := (n0 2 (by omega)).1
          obtain ⟨c3, e3⟩ := (n0 3 (by omega)).1
          obtain ⟨c4, e4⟩ := (n0 4 (by omega)).1
          obtain ⟨c5, e5⟩ := (n0 5 (by omega)).1
          obtain ⟨c6, e6⟩ := (n0 6 (by omega)).1
          obtain ⟨c7, e7⟩ := (n0 7 (by omega)).1
          obtain ⟨c8, e8⟩ := (n0 8 (by omega)).1
          have f0 := (n0 0 (by omega)).2
          have f1 := (n0 1 (by omega)).2
          have f2 := (n0 2 (by omega)).2
          have f3 := (n0 3 (by omega)).2
          have f4 := (n0 4 (by omega)).2
          have f5 := (n0 5 (by omega)).2
          have f6 := (n0 6 (by omega)).2
          have f7 := (n0 7 (by omega)).2
          have f8 := (n0 8 (by omega)).2
          rw [Nat.add_zero] at e0 f0
          clear hat hnx n0 hcg hif
          go_wp2_with fail
          go_roundw
          case rel => exact ⟨i + 1, by go_num, by omega, HNX.out⟩
          case measure => simp [intOf]; omega
        · obtain rfl : i = ks.length := by omega
          have HFx : Hid (FillP w7 w1.heap.size (flsOf ks nds) (flsOf ks nds).length wr) := by rw [HFL.out]; exact hF.out
          obtain ⟨w10, hw10⟩ : ∃ w10, wr.alloc (.cells #[.func (.func 59) #[] #[]] 98) = w10 := ⟨_, rfl⟩
          have V10 : Hid (w10.heap[wr.heap.size]? = some (.cells #[.func (.func 59) #[] #[]] 98 (0, 0))) := by rw [← hw10]; exact heap_alloc_new _ _
          have B10 : Hid (Below wr.heap.size wr w10) := by rw [← hw10]; exact (Below.refl _ _).alloc (Nat.le_refl _) _
          have HFy : Hid (FillP w7 w1.heap.size (flsOf ks nds) (flsOf ks nds).length w10) := HFx.out.stays B10.out
          have h10 := B10.out.size
          have hso := sortF_any w10 w1.heap.size ks.length wr.heap.size (flsOf ks nds) (by rw [HFL.out]; omega) (cell_of V10.out 0) (by omega) (by omega) HFy.out.holds
          rw [HFL.out] at hso
          have HSO := Hid.out (p := Hid _) hso
          have hbt := byText_any wr
          rw [hw10] at hbt
          have HBT := Hid.out (p := Hid _) hbt
          clear hso hbt hw10 HFx hF
          go_wp2_with fail
          refine (Calls.mono HBT.out ?_)
          rintro z w11 ⟨rfl, h11⟩
          obtain rfl : w10 = w11 := h11.symm
          go_wp2_with fail
          refine (Calls.mono HSO.out ?_)
          rintro z w13 hz
          obtain ⟨rfl, l, hpe, hst, hce, hgb⟩ := hz.to
          have h13 := hgb.out.size
          have hll : l.length = ks.length := by rw [hpe.out.length_eq, HFL.out]
          have HLL := Hid.out (p := Hid _) hll
          have G10 : Hid (w7.grownBy w10 (some w1.heap.size)) := HFy.out.grew
          have HP13 : Hid (PartP w13 S ka va kc vc ks nds) := HP7.out.keep fun b hb hl => (hgb.out.block b (by have := G10.out.size; omega) (fun e => by injection e with e; have := HSR.out b hb; omega)).trans (G10.out.block b hl (fun e => by injection e with e; have := HSR.out b hb; omega))
          have HK13 : Hid (CellsAt w13 pb po (Raw.mk 6 is ng d e s ka ks.length kc va vs.length vc)) := fun j u hu => (World.cell?_of_block (w := w10) (a := ⟨pb, po + j, none⟩) (hgb.out.block pb (by omega) (fun e => by injection e with e; omega))).trans ((World.cell?_of_block (w := w7) (a := ⟨pb, po + j, none⟩) (G10.out.block pb (by omega) (fun e => by injection e with e; omega))).trans (HK7.out j u hu))
          have HB0 : Hid (BackP w13 ka va kc vc ks nds l 0 w13) := BackP.first l HP13.out.keyRow HP13.out.kidRow
          clear hz hll HBT HSO HK8 x0 x1 x2 x3 x4 x5 x6 x7
          go_wp2_with fail
          go_loopw [63] (fun p w3 => ∃ i : Nat, p = .int .i64 i ∧ i ≤ ks.length ∧ Hid (BackP w13 ka va kc vc ks nds l i w3)) (fun p _ => ks.length - (intOf p).toNat)
          case atStart => exact ⟨0, rfl, Nat.zero_le _, HB0.out⟩
          case round =>
            obtain ⟨i, rfl, hi, hB⟩ := hrel
            have h3s := hB.out.only.size
            have hS' : ∀ b, (inB ka b ∨ inB va b) → S b := fun b hb => hb.elim (HP.out.kS b) (HP.out.vS b)
            have nF : ¬ (inB ka w1.heap.size ∨ inB va w1.heap.size) := fun hx => by have := HSR.out _ (hS' _ hx); omega
            have nP : ¬ (inB ka pb ∨ inB va pb) := fun hx => HNS.out (hS' _ hx)
            have K3 : CellsAt wr pb po (Raw.mk 6 is ng d e s ka ks.length kc va vs.length vc) := fun j u hu => (World.cell?_of_block (w := w13) (a := ⟨pb, po + j, none⟩) (hB.out.only.block pb (by omega) nP)).trans (HK13.out j u hu)
            have HS' := Hid.out (p := Hid _) hS'
            by_cases hlt : i < ks.length
            · have hin : i < nds.length := by rw [← HKN.out]; exact hlt
              have hil : i < l.length := by rw [HLL.out]; exact hlt
              have hvi : i < vs.length := by rw [← HKL.out]; exact hlt
              obtain ⟨vb, hva, hvg, hSv, _⟩ := HP13.out.kid i hin
              obtain ⟨kb, hka, hkg, hSk, _⟩ := HP13.out.key i hlt
              have hkv := HP13.out.kv
              subst hva hka
              have hne : kb ≠ vb := fun e => hkv kb ⟨_, rfl, rfl⟩ ⟨_, rfl, e.symm⟩
              have hne2 : vb ≠ kb := fun e => hne e.symm
              obtain ⟨w15, hw15, V15, G15⟩ := fld_new wr l[i]
              have B15 : Hid (Below wr.heap.size wr w15) := G15.out.below
              have h15 := heap_lt V15.out
              have hnx := (hB.out.next hil HLL.out (by rw [HLL.out, HKN.out]) hne B15.out).1.drew
              have HNX := Hid.out (p := Hid _) hnx
              obtain ⟨⟨⟨ck, ek⟩, fk⟩, hcv⟩ := hB.out.cells hlt hin B15.out
              obtain ⟨c0, e0⟩ := (hcv 0 (by omega)).1
              obtain ⟨c1, e1⟩ := (hcv 1 (by omega)).1
              obtain ⟨c2, e2⟩ := (hcv 2 (by omega)).1
              obtain ⟨c3, e3⟩ := (hcv 3 (by omega)).1
              obtain ⟨c4, e4⟩ := (hcv 4 (by omega)).1
              obtain ⟨c5, e5⟩ := (hcv 5 (by omega)).1
              obtain ⟨c6, e6⟩ := (hcv 6 (by omega)).1
              obtain ⟨c7, e7⟩ := (hcv 7 (by omega)).1
              have f0 := (hcv 0 (by omega)).2
              have f1 := (hcv 1 (by omega)).2
              have f2 := (hcv 2 (by omega)).2
              have f3 := (hcv 3 (by omega)).2
              have f4 := (hcv 4 (by omega)).2
              have f5 := (hcv 5 (by omega)).2
              have f6 := (hcv 6 (by omega)).2
              have f7 := (hcv 7 (by omega)).2
              rw [Nat.add_zero] at e0 f0
              obtain ⟨n0, n1, n2, n3, n4, n5, n6, n7, n8⟩ := nine_of (w := wr) (F := w1.heap.size) (i := i) (x := l[i]) (fun c hc => (World.cell?_of_block (w := w13) (a := ⟨w1.heap.size, i * 9 + c, none⟩) (hB.out.only.block w1.heap.size (by omega) nF)).trans (hce.out i hil c hc))
              obtain ⟨x0, x1, x2, x3, x4, x5, x6, x7⟩ := (CellsAt.below K3 (by omega) B15.out).eight
              dsimp only at x0 x1 x2 x3 x4 x5 x6 x7
              obtain ⟨y0, y1, y2, y3, y4, y5, y6, y7, y8⟩ := fld_cells V15.out
              have MM1 : Hid (pb ≠ kb) := fun e => nP (.inl ⟨_, rfl, e.symm⟩)
              have MM2 : Hid (pb ≠ vb) := fun e => nP (.inr ⟨_, rfl, e.symm⟩)
              clear hnx hcv K3 nF nP hS' hkv
              generalize l[i] = x at *
              go_wp2_with fail
              clear hw15 n0 n1 n2 n3 n4 n5 n6 n7 n8
              have m1 : pb ≠ kb := MM1.out
              have m2 : pb ≠ vb := MM2.out
              have m3 : wr.heap.size ≠ kb := by omega
              have m4 : wr.heap.size ≠ vb := by omega
              go_region_held3 (fun w' => w'.cell? ⟨pb, po + 6, none⟩ = some (.slice (some ⟨kb, 0, none⟩) ks.length kc) ∧ w'.cell? ⟨pb, po + 7, none⟩ = some (.slice (some ⟨vb, 0, none⟩) vs.length vc) ∧ w'.cell? ⟨wr.heap.size, 0, none⟩ = some (.string x.key) ∧ w'.cell? ⟨wr.heap.size, 1, none⟩ = some (.int .i64 x.nd.raw.kind) ∧ w'.cell? ⟨wr.heap.size, 2, none⟩ = some (.bool x.nd.raw.is) ∧ w'.cell? ⟨wr.heap.size, 3, none⟩ = some (.bool x.nd.raw.neg) ∧ w'.cell? ⟨wr.heap.size, 4, none⟩ = some (.string x.nd.raw.dig) ∧ w'.cell? ⟨wr.heap.size, 5, none⟩ = some (.int .i64 x.nd.raw.exp) ∧ w'.cell? ⟨wr.heap.size, 6, none⟩ = some (.string x.nd.raw.str) ∧ w'.cell? ⟨wr.heap.size, 7, none⟩ = some (.slice x.nd.raw.ka x.nd.raw.kn x.nd.raw.kc) ∧ w'.cell? ⟨wr.heap.size, 8, none⟩ = some (.slice x.nd.raw.va x.nd.raw.vn x.nd.raw.vc)) (first | (simp only [cell_drew, cell_set_ne m1, cell_set_ne m2, cell_set_ne m3, cell_set_ne m4]; exact ⟨x6, x7, y0, y1, y2, y3, y4, y5, y6, y7, y8⟩) | go_keep) (fail)
              all_goals
                go_wp2_with fail
                go_roundw
                case rel => exact ⟨i + 1, by go_num, by omega, HNX.out⟩
                case measure => simp [intOf]; omega
            · obtain rfl : i = ks.length := by omega
              have hco := chain_only B7.out G10.out hgb.out hB.out.only
              have HB2 : Hid (BackP w13 ka va kc vc ks nds l l.length wr) := by rw [HLL.out]; exact hB.out
              have hba := back_all HB2.out HP.out HKN.out HND.out hpe.out hst.out (fun b hb h1 h2 h3 => hco.block b h3 (fun hx => hx.elim h1 h2)) is ng d e s (vs.map JV.sort) HJV.out
              rw [HL.out] at hba
              have HBA : Hid (OwnV wr S (Raw.mk 6 is ng d e s ka ks.length kc va vs.length vc) (JV.mk 6 is ng d e s ks vs).sort) := by rw [Hid, HSRT.out]; exact hba
              have HON : Hid (Only S w wr) := HO.out.trans (hco.wide HS'.out)
              clear hco hba K3 nF nP hS'
              go_wp2_with fail
              go_end0
              exact ⟨rfl, HBA.out, HON.out⟩
end Go.Proofs.YtehffmcfmdjknaaGreatDoor.Jdec
