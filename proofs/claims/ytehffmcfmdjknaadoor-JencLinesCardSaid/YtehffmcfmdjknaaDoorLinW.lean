/- tabulariumlaw10.JencLines: the walk. -/
import Derived.Test.YtehffmcfmdjknaaDoorSorF
import Derived.Test.YtehffmcfmdjknaaDoorJenX
import Derived.Test.YtehffmcfmdjknaaDoorOpnV
namespace Go.Proofs.YtehffmcfmdjknaaDoor.Jdec
open Go.RowKit Go.Proofs.YtehffmcfmdjknaaDoor.Strs
set_option linter.unusedVariables false
set_option linter.unusedSimpArgs false
set_option maxRecDepth 100000

mutual
theorem lines_le (t : JV) : t.lines + 2 ≤ 3 * t.mass := by
  cases t with
  | mk k i n d e s ks vs =>
    have := liness_le vs
    rw [lines_mk, mass_mk]
    split <;> omega
theorem liness_le (vs : List JV) : liness vs + 2 * vs.length ≤ 3 * masses vs := by
  cases vs with
  | nil => rw [liness_nil]; simp
  | cons v t =>
    have := lines_le v
    have := liness_le t
    rw [liness_cons, masses_cons, List.length_cons]
    omega
end
theorem sum_take_le (l : List Nat) (i : Nat) : (l.take i).sum ≤ l.sum := by
  have := congrArg List.sum (List.take_append_drop i l)
  rw [List.sum_append] at this
  omega
theorem sum_take_succ (l : List Nat) (i : Nat) (h : i < l.length) : (l.take (i + 1)).sum = (l.take i).sum + l[i] := by
  rw [List.take_add_one, List.getElem?_eq_getElem h, List.sum_append]; simp
theorem spot_get : ∀ (l : List (Int × Raw)) (i : Nat) (h : i < l.length) (c : Nat), c < 9 → (l.flatMap spotC)[i * 9 + c]? = (spotC l[i])[c]?
  | x :: t, 0, h, c, hc => by
    have e : (spotC x).length = 9 := rfl
    rw [List.flatMap_cons, Nat.zero_mul, Nat.zero_add, List.getElem?_append_left (by rw [e]; exact hc)]; rfl
  | x :: t, i + 1, h, c, hc => by
    have := spot_get t i (by simpa using h) c hc
    have e : (spotC x).length = 9 := rfl
    rw [List.flatMap_cons, List.getElem?_append_right (by rw [e]; omega), e, show (i + 1) * 9 + c - 9 = i * 9 + c by omega]
    exact this
theorem spot_nine {w : World} {F i : Nat} {x : Int × Raw} (h : ∀ c, c < 9 → w.cell? ⟨F, i * 9 + c, none⟩ = (spotC x)[c]?) :
    w.cell? ⟨F, i * 9, none⟩ = some (.int .i64 x.1) ∧ w.cell? ⟨F, i * 9 + 1, none⟩ = some (.int .i64 x.2.kind) ∧ w.cell? ⟨F, i * 9 + 2, none⟩ = some (.bool x.2.is) ∧ w.cell? ⟨F, i * 9 + 3, none⟩ = some (.bool x.2.neg) ∧ w.cell? ⟨F, i * 9 + 4, none⟩ = some (.string x.2.dig) ∧ w.cell? ⟨F, i * 9 + 5, none⟩ = some (.int .i64 x.2.exp) ∧ w.cell? ⟨F, i * 9 + 6, none⟩ = some (.string x.2.str) ∧ w.cell? ⟨F, i * 9 + 7, none⟩ = some (.slice x.2.ka x.2.kn x.2.kc) ∧ w.cell? ⟨F, i * 9 + 8, none⟩ = some (.slice x.2.va x.2.vn x.2.vc) :=
  ⟨h 0 (by omega), h 1 (by omega), h 2 (by omega), h 3 (by omega), h 4 (by omega), h 5 (by omega), h 6 (by omega), h 7 (by omega), h 8 (by omega)⟩
theorem cnt_succ (l : List UInt8) (i : Nat) (h : i < l.length) : (l.take (i + 1)).count 10 = (l.take i).count 10 + (if l[i].toNat = 10 then 1 else 0) := by
  rw [List.take_add_one, List.getElem?_eq_getElem h, List.count_append]
  congr 1
  simp only [Option.toList_some, List.count_singleton]
  by_cases hc : l[i].toNat = 10
  · rw [if_pos hc]
    have : l[i] = 10 := by rw [← UInt8.ofNat_toNat (x := l[i]), hc]; rfl
    simp [this]
  · rw [if_neg hc]
    have : ¬ l[i] = 10 := fun e => hc (by rw [e]; rfl)
    simp [this]
set_option maxHeartbeats 8000000 in
theorem jencLines_any (ra : Raw) (t : JV) (w : World) (T : Utf.Sizes w) (P0 : Pow10 w) (hi : IsV w (fun _ => True) ra t) (hh : Held rb t) :
    Calls Tryd.prog 4 #[ra.val] w fun e w' => e = .returned (.bool true) ∧ Below w.heap.size w w' := by
  obtain ⟨w2, hw2, V2, B2⟩ := own_new w ra
  have V2 : Hid (w2.heap[w.heap.size]? = some (.cells ra.arr 27 (0, 0))) := V2.out
  have hl2 := heap_lt V2.out
  have hwk := wakes10 w2 (T.stays B2.out) (P0.stays B2.out)
  have HWK := Hid.out (p := Hid _) hwk
  have HG : Hid (∀ w', Below w.heap.size w w' → Calls Tryd.prog 6 #[ra.val] w' fun e w'' => e = .returned (.bool (decide (t.room 1 400 < 0))) ∧ Below w'.heap.size w' w'') := fun w' hb => great_any rb (by decide) t hh ra _ w' (hi.behind hb)
  have HI := Hid.out (p := Hid _) hi
  have HH := Hid.out (p := Hid _) hh
  have HT : Hid (Utf.Sizes w) := T
  have HP0 : Hid (Pow10 w) := P0
  obtain ⟨G, hG⟩ : ∃ G, decide (t.room 1 400 < 0) = G := ⟨_, rfl⟩
  rw [hG] at HG
  have HGG := Hid.out (p := Hid _) hG
  clear hwk hi hh T P0 hG
  unfold Raw.val at HG ⊢
  obtain ⟨⟨x0, x1, x2, x3, x4, x5, x6, x7⟩, _⟩ := val_cells V2.out
  go_enter Tryd.func4, Tryd.ntmps4
  go_wp2_with fail
  refine (Calls.mono HWK.out ?_)
  rintro z w3 ⟨rfl, hb3⟩
  have V3 : Hid (w3.heap[w.heap.size]? = some (.cells ra.arr 27 (0, 0))) := (hb3.block _ hl2).trans V2.out
  have B3 : Hid (Below w.heap.size w w3) := B2.out.trans (hb3.mono (by omega))
  have h3 := hb3.size
  have hg := HG.out w3 B3.out
  have HG3 := Hid.out (p := Hid _) hg
  clear hb3 hg HG HWK x0 x1 x2 x3 x4 x5 x6 x7 hw2
  obtain ⟨⟨x0, x1, x2, x3, x4, x5, x6, x7⟩, _⟩ := val_cells V3.out
  go_wp2_with fail
  refine (Calls.mono HG3.out ?_)
  rintro z w4 ⟨rfl, hb4⟩
  have V4 : Hid (w4.heap[w.heap.size]? = some (.cells ra.arr 27 (0, 0))) := (hb4.block _ (by omega)).trans V3.out
  have B4 : Hid (Below w.heap.size w w4) := B3.out.trans (hb4.mono (by omega))
  have h4 := hb4.size
  clear hb4 HG3 x0 x1 x2 x3 x4 x5 x6 x7
  cases G
  case true =>
    go_wp2_with fail
    go_ret
    exact ⟨rfl, B4.out⟩
  case false =>
  obtain ⟨hfine, hmass, hdeep⟩ := great_no t (of_decide_eq_false HGG.out)
  have hr := rightq_any rb (by decide) t HH.out (by omega) ra _ w4 (HI.out.behind B4.out)
  have HR := Hid.out (p := Hid _) hr
  have HFN := Hid.out (p := Hid _) hfine
  clear hr hfine
  unfold Raw.val at HR
  obtain ⟨⟨x0, x1, x2, x3, x4, x5, x6, x7⟩, _⟩ := val_cells V4.out
  go_wp2_with fail
  refine (Calls.mono HR.out ?_)
  rintro z w5 hz
  obtain ⟨b, rfl, hb, hb5⟩ := hz.to
  have V5 : Hid (w5.heap[w.heap.size]? = some (.cells ra.arr 27 (0, 0))) := (hb5.block _ (by omega)).trans V4.out
  have B5 : Hid (Below w.heap.size w w5) := B4.out.trans (hb5.mono (by omega))
  have h5 := hb5.size
  have HB := Hid.out (p := Hid _) hb
  clear hz hb hb5 HR x0 x1 x2 x3 x4 x5 x6 x7
  cases b
  case false =>
    go_wp2_with fail
    go_ret
    exact ⟨rfl, B5.out⟩
  case true =>
  obtain ⟨hgd, hdp⟩ := HB.out rfl
  have hwl := walk_any t hgd (by omega) ra _ w5 0 (by omega) (HI.out.behind B5.out)
  have HWL := Hid.out (p := Hid _) hwl
  have HWD : Hid (∀ w', Below w.heap.size w w' → Calls Tryd.prog 10 #[ra.val] w' (PrP true t w')) := fun w' hb => wide_any t hgd HFN.out (by omega) hdp ra _ w' (HT.out.stays hb) (HP0.out.stays hb) (HI.out.behind hb)
  have HLN : Hid ((t.print true 0).count 10 = t.lines) := print_lines t hgd 0
  have HCL : Hid ((t.counts.map oneMore).sum = t.lines) := counts_lines t
  have HPL : Hid ((t.print true 0).length + 12500 ≤ t.mass * 28000) := print_len t hgd true HFN.out 0 (by omega)
  have hll := lines_le t
  clear hwl hgd HB
  unfold Raw.val at HWL HWD
  obtain ⟨⟨x0, x1, x2, x3, x4, x5, x6, x7⟩, _⟩ := val_cells V5.out
  go_wp2_with fail
  refine (Calls.mono HWL.out ?_)
  rintro z w6 hz
  obtain ⟨v, rfl, hsp, B6⟩ := hz.to
  obtain ⟨l, a, c, rfl, hrow, hcs⟩ := hsp.out
  have V6 : Hid (w6.heap[w.heap.size]? = some (.cells ra.arr 27 (0, 0))) := (B6.out.block _ (by omega)).trans V5.out
  have B16 : Hid (Below w.heap.size w w6) := B5.out.trans (B6.out.mono (by omega))
  have h6 := B6.out.size
  have HROW : Hid (w6.ownsRow w5.heap.size 37 9 (.slice a l.length c) l.length (l.flatMap spotC)) := hrow
  have HCS := Hid.out (p := Hid _) hcs
  have hcl := counts_len t
  have hlc : l.length ≤ 400 := by
    have := congrArg List.length hcs
    rw [List.length_map] at this
    omega
  have HSUM : Hid (((l.map fun x => oneMore x.2.vn)).sum = t.lines) := by
    rw [Hid, ← HCL.out, ← hcs, List.map_map]; rfl
  have hb1200 : t.lines ≤ 1200 := by omega
  generalize hln : t.lines = LN at *
  have HLE := Hid.out (p := Hid _) hln
  clear hz hsp hrow hcs HWL x0 x1 x2 x3 x4 x5 x6 x7 hln
  go_wp2_with fail
  go_loopw [3, 22] (fun p3 p22 wr => ∃ (i n : Nat), p22 = .int .i64 i ∧ i ≤ l.length ∧ p3 = .int .i64 n ∧ n ≤ 1200 ∧ Hid (n = ((l.map fun x => oneMore x.2.vn).take i).sum) ∧ Hid (Below w6.heap.size w6 wr)) (fun _ p _ => l.length - (intOf p).toNat)
  case atStart => exact ⟨0, 0, rfl, Nat.zero_le _, rfl, by omega, by rw [Hid]; rfl, Below.refl _ _⟩
  case round =>
    obtain ⟨i, n, rfl, hi, rfl, hn, hN, hBr⟩ := hrel
    by_cases hlt : i < l.length
    · rcases row_form HROW.out with ⟨h0, _⟩ | ⟨F, rfl, _, hF, _⟩
      · omega
      obtain ⟨n0, n1, n2, n3, n4, n5, n6, n7, n8⟩ := spot_nine (w := wr) (F := F) (i := i) (x := l[i]) (fun c hc => by
        refine (World.cell?_of_block (w := w6) (a := ⟨F, i * 9 + c, none⟩) (hBr.out.block F hF)).trans ?_
        rw [HROW.out.cellAt (i * 9 + c) (by omega)]
        exact spot_get l i hlt c hc)
      have hlm : i < (l.map fun x => oneMore x.2.vn).length := by simpa using hlt
      have hsx := sum_take_succ (l.map fun x => oneMore x.2.vn) i hlm
      have hsle := sum_take_le (l.map fun x => oneMore x.2.vn) (i + 1)
      rw [HSUM.out] at hsle
      rw [List.getElem_map] at hsx
      have hno := hN.out
      rw [← hno] at hsx
      obtain ⟨w7, hw7, P7, B7⟩ := spots_first wr l[i].1 l[i].2
      have V7 : Hid (w7.heap[wr.heap.size]? = some (.cells #[.int .i64 l[i].1, .int .i64 l[i].2.kind, .bool l[i].2.is, .bool l[i].2.neg, .string l[i].2.dig, .int .i64 l[i].2.exp, .string l[i].2.str, .slice l[i].2.ka l[i].2.kn l[i].2.kc, .slice l[i].2.va l[i].2.vn l[i].2.vc] 37 (0, 0))) := by rw [← hw7]; exact heap_alloc_new _ _
      have y8 : w7.cell? ⟨wr.heap.size, 8, none⟩ = some (.slice l[i].2.va l[i].2.vn l[i].2.vc) := cell_of V7.out 8
      have B67 : Hid (Below w6.heap.size w6 w7) := hBr.out.trans (B7.out.mono hBr.out.size)
      have HSX := Hid.out (p := Hid _) hsx
      clear hno hN
      generalize l[i] = x at *
      by_cases hz : x.2.vn = 0
      · have HZ := Hid.out (p := Hid _) hz
        have q0 : decide ((0 : Int) < (x.2.vn : Int)) = false := by rw [decide_eq_false_iff_not]; omega
        have q1 : decide (0 < x.2.vn) = false := by rw [decide_eq_false_iff_not]; omega
        have hn2 : n + x.2.vn ≤ 1200 := by omega
        have HS2 : Hid (n + x.2.vn = ((l.map fun x => oneMore x.2.vn).take (i + 1)).sum) := by
          rw [Hid, HSX.out]
          unfold oneMore
          rw [if_pos HZ.out, HZ.out]
        clear hz hsx hsle
        go_wp2_with fail
        go_roundw
        case rel => exact ⟨i + 1, n + x.2.vn, by go_num, by omega, by go_num, hn2, HS2.out, B67.out⟩
        case measure => simp [intOf]; omega
      · have q0 : decide ((0 : Int) < (x.2.vn : Int)) = true := by rw [decide_eq_true_eq]; omega
        have q1 : decide (0 < x.2.vn) = true := by rw [decide_eq_true_eq]; omega
        have hom : oneMore x.2.vn = x.2.vn + 1 := by unfold oneMore; rw [if_neg hz]
        have hn2 : n + x.2.vn + 1 ≤ 1200 := by omega
        have HS2 : Hid (n + x.2.vn + 1 = ((l.map fun x => oneMore x.2.vn).take (i + 1)).sum) := by
          rw [Hid, HSX.out, hom]; omega
        clear hom hsx hsle
        go_wp2_with fail
        go_roundw
        case rel => exact ⟨i + 1, n + x.2.vn + 1, by go_num, by omega, by go_num, hn2, HS2.out, B67.out⟩
        case measure => simp [intOf]; omega
    · obtain rfl : i = l.length := by omega
      have hnf : n = LN := by
        rw [hN.out, List.take_of_length_le (by simp), HSUM.out]
      subst hnf
      have Vr : Hid (wr.heap[w.heap.size]? = some (.cells ra.arr 27 (0, 0))) := (hBr.out.block _ (by omega)).trans V6.out
      have Br : Hid (Below w.heap.size w wr) := B16.out.trans (hBr.out.mono (by omega))
      have hwd := HWD.out wr Br.out
      have HW := Hid.out (p := Hid _) hwd
      have hrs := hBr.out.size
      clear hwd hN
      obtain ⟨⟨x0, x1, x2, x3, x4, x5, x6, x7⟩, _⟩ := val_cells Vr.out
      go_wp2_with fail
      refine (Calls.mono HW.out ?_)
      rintro z w8 hz
      obtain ⟨s, rfl, hs, B8⟩ := hz.to
      have B18 : Hid (Below w.heap.size w w8) := Br.out.trans (B8.out.mono (by omega))
      have hsz : s.data.toList.length = s.size := by simp
      have hsl : s.size ≤ 12000000 := by
        have h1 := HPL.out
        rw [← hs.out, hsz] at h1
        omega
      have HSZ := Hid.out (p := Hid _) hsz
      have HC10 : Hid (s.data.toList.count 10 = n) := by rw [Hid, hs.out, HLN.out]
      clear hz hsz HW x0 x1 x2 x3 x4 x5 x6 x7
      go_wp2_with fail
      go_loop [8, 47] (fun p8 p47 => ∃ (i c : Nat), p47 = .int .i64 i ∧ i ≤ s.size ∧ p8 = .int .i64 c ∧ c ≤ i ∧ Hid (c = (s.data.toList.take i).count 10)) (fun _ p => s.size - (intOf p).toNat)
      case atStart => exact ⟨0, 0, rfl, Nat.zero_le _, rfl, Nat.le_refl _, by rw [Hid]; rfl⟩
      case round =>
        obtain ⟨i, c, rfl, hi, rfl, hci, hC⟩ := hrel
        by_cases hlt : i < s.size
        · have hil : i < s.data.toList.length := by rw [HSZ.out]; exact hlt
          have hcs := cnt_succ s.data.toList i hil
          have hel : s.data.toList[i] = s[i] := rfl
          rw [hel, ← hC.out] at hcs
          have HCSS := Hid.out (p := Hid _) hcs
          by_cases h10 : s[i].toNat = 10
          · have q0 : ((s[i].toNat : Int) == 10) = true := by rw [beq_iff_eq]; omega
            have HS2 : Hid (c + 1 = (s.data.toList.take (i + 1)).count 10) := by rw [Hid, HCSS.out, if_pos h10]
            clear hcs hel h10
            go_wp2_with fail
            go_round
            case rel => exact ⟨i + 1, c + 1, by go_num, by omega, by go_num, by omega, HS2.out⟩
            case measure => simp [intOf]; omega
          · have q0 : ((s[i].toNat : Int) == 10) = false := by rw [beq_eq_false_iff_ne]; omega
            have HS2 : Hid (c = (s.data.toList.take (i + 1)).count 10) := by rw [Hid, HCSS.out, if_neg h10]; rfl
            clear hcs hel h10
            go_wp2_with fail
            go_round
            case rel => exact ⟨i + 1, c, by go_num, by omega, rfl, by omega, HS2.out⟩
            case measure => simp [intOf]; omega
        · obtain rfl : i = s.size := by omega
          have hcf : c = n := by
            rw [hC.out, List.take_of_length_le (by rw [HSZ.out]; exact Nat.le_refl _)]; exact HC10.out
          subst hcf
          clear hC
          go_wp2_with fail
          go_ret
          exact ⟨rfl, B18.out⟩
theorem jencLines_arg (w : World) (u0 : Value) (x0 : JV) (w0 : ∃ ra : Raw, u0 = ra.val ∧ IsV w (fun _ => True) ra x0 ∧ Held rb x0) (T : Utf.Sizes w ∧ Pow10 w) :
    Calls Tryd.prog 4 #[u0] w fun e w' => e = .returned (.bool true) ∧ Below w.heap.size w w' := by
  obtain ⟨ra, rfl, h1, h2⟩ := w0
  exact jencLines_any ra x0 w T.1 T.2 h1 h2
end Go.Proofs.YtehffmcfmdjknaaDoor.Jdec
