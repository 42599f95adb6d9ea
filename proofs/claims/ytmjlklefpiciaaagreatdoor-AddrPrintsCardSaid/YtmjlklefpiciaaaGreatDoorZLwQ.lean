/- tabulariumlaw17.AddrPrints: the walk. -/
import Derived.Test.YtmjlklefpiciaaaGreatDoorZLwP
import Derived.Deep.RegionHeld3
import Derived.Laws.OwnMore
namespace Go.Proofs.YtmjlklefpiciaaaGreatDoor.Addr
open Go.RowKit Go.Shelf Go.Proofs.YtmjlklefpiciaaaGreatDoor.Utf Go.Proofs.YtmjlklefpiciaaaGreatDoor.Strs
open Go.Proofs.YtmjlklefpiciaaaGreatDoor.Jdec (IsTexts)
set_option linter.unusedVariables false
set_option linter.unusedSimpArgs false
set_option maxRecDepth 100000

set_option maxHeartbeats 4000000 in
theorem addrPrints_any (a : Adr) (pa : Option Addr) (pc : Nat) (w : World) (T : TabsP w) (h : AdrIn w pa a) :
    Calls Tryz.prog 11 #[wordsA pa pc a] w fun e w' => e = .returned (.bool true) ∧ Below w.heap.size w w' := by
  obtain ⟨w1, hw1, V1, B1⟩ := adr_new w pa pc a
  have hl1 := heap_lt V1.out
  have HT := Hid.out (p := Hid _) T
  have HI : Hid (∀ w', Below w.heap.size w w' → AdrIn w' pa a) := fun w' hb => h.stays hb
  have hwk := wakes17 w1 (T.stays B1.out)
  have HWK : Hid (Calls Tryz.prog 36 #[] w1 fun e w' => e = .returned (.bool true) ∧ Below w1.heap.size w1 w') := hwk
  unfold wordsA
  clear hwk T h
  go_enter Tryz.func11, Tryz.ntmps11
  go_wp2_with fail
  refine (Calls.mono HWK.out ?_)
  rintro z w2 ⟨rfl, hb2⟩
  have V2 : Hid (w2.heap[w.heap.size]? = some (.cells (arrA pa pc a) 29 (0, 0))) := (hb2.block _ hl1).trans V1.out
  have B2 : Hid (Below w.heap.size w w2) := B1.out.trans (hb2.mono (by omega))
  have hgr := great_any a pa pc w2 (HI.out w2 B2.out)
  obtain ⟨gr, hgre⟩ : ∃ g, greatA a = g := ⟨_, rfl⟩
  rw [hgre] at hgr
  have HGR := Hid.out (p := Hid _) hgre
  have HGC : Hid (Calls Tryz.prog 27 #[.agg #[.slice pa a.path.length pc, .string a.type, .string a.name, .int .i64 a.key, .int .u64 a.place, .string a.word]] w2 fun e w' => e = .returned (.bool gr) ∧ Below w2.heap.size w2 w') := hgr
  have hl2 := heap_lt V2.out
  obtain ⟨x0, x1, x2, x3, x4, x5⟩ := adr_cells V2.out
  clear hb2 hgr hgre hw1 HWK
  go_wp2_with fail
  refine (Calls.mono HGC.out ?_)
  rintro z w3 ⟨rfl, hb3⟩
  have V3 : Hid (w3.heap[w.heap.size]? = some (.cells (arrA pa pc a) 29 (0, 0))) := (hb3.block _ hl2).trans V2.out
  have B3 : Hid (Below w.heap.size w w3) := B2.out.trans (hb3.mono (by omega))
  have hl3 := heap_lt V3.out
  clear hb3 HGC x0 x1 x2 x3 x4 x5
  cases gr
  case true =>
    go_wp2_with fail
    go_ret
    exact ⟨rfl, B3.out⟩
  have HAT : Hid (∀ w', Below w.heap.size w w' → AdrAt w' pa a) := fun w' hb => (HI.out w' hb).at HGR.out
  have hpr := (HAT.out w3 B3.out).print pc (HT.out.stays B3.out).a
  have hpl := printA_len (HAT.out w3 B3.out)
  obtain ⟨y, hy⟩ : ∃ y, (⟨(printA a).toArray⟩ : ByteArray) = y := ⟨_, rfl⟩
  have hyd : y.data.toList = printA a := by rw [← hy]
  have hys : y.size ≤ 100000 := by rw [data_size hyd]; exact hpl
  rw [hy] at hpr
  have HPR : Hid (Calls Tryz.prog 41 #[.agg #[.slice pa a.path.length pc, .string a.type, .string a.name, .int .i64 a.key, .int .u64 a.place, .string a.word]] w3 fun e w' => e = .returned (.string y) ∧ Below w3.heap.size w3 w') := hpr
  have HPP : Hid (∀ w', Below w.heap.size w w' → Calls Tryz.prog 31 #[.agg #[.slice pa a.path.length pc, .string a.type, .string a.name, .int .i64 a.key, .int .u64 a.place, .string a.word]] w' fun e w'' => e = .returned (.string y) ∧ Below w'.heap.size w' w'') := fun w' hb => by
    have h := (HAT.out w' hb).rprint pc
    rw [hy] at h
    exact h
  obtain ⟨r, hr⟩ : ∃ r, rightA a = r := ⟨_, rfl⟩
  have HRR := Hid.out (p := Hid _) hr
  have HRI : Hid (∀ w', Below w.heap.size w w' → Calls Tryz.prog 42 #[.agg #[.slice pa a.path.length pc, .string a.type, .string a.name, .int .i64 a.key, .int .u64 a.place, .string a.word]] w' fun e w'' => e = .returned (.bool r) ∧ Below w'.heap.size w' w'') := fun w' hb => by
    have h := (HAT.out w' hb).right pc (HT.out.stays hb).a
    rw [hr] at h
    exact h
  have HRJ : Hid (∀ w', Below w.heap.size w w' → Calls Tryz.prog 43 #[.agg #[.slice pa a.path.length pc, .string a.type, .string a.name, .int .i64 a.key, .int .u64 a.place, .string a.word]] w' fun e w'' => e = .returned (.bool r) ∧ Below w'.heap.size w' w'') := fun w' hb => by
    have h := (HAT.out w' hb).rright pc
    rw [hr] at h
    exact h
  obtain ⟨pr, hpr2⟩ : ∃ pr, parseP y.data.toList = pr := ⟨_, rfl⟩
  have HPA : Hid (∀ w', Below w.heap.size w w' → Calls Tryz.prog 39 #[.string y] w' (APost pr w')) := fun w' h' => by
    have h := parse_any y w' (by omega) (HT.out.stays h')
    rw [hpr2] at h
    exact h
  have HPW : Hid (r = true → pr = some a) := fun h => by
    rw [← hpr2, hyd]
    exact parse_print (by rw [hr, h]) (by have := (HAT.out w3 B3.out).p; omega)
  have HYE : Hid (if r then y.toList.isEmpty = false else y.toList = []) := by
    cases r
    · rw [Hid, if_neg (by simp), ByteArray.toList_eq, hyd]; exact print_wrong hr
    · rw [Hid, if_pos rfl, ByteArray.toList_eq, hyd]
      have := print_ne hr
      cases h : printA a with
      | nil => exact absurd h this
      | cons c t => rfl
  have HLP : Hid (a.path.length ≤ 3000) := (HAT.out w3 B3.out).l
  obtain ⟨x0, x1, x2, x3, x4, x5⟩ := adr_cells V3.out
  clear hpr hpl hy hyd hys hr hpr2
  go_wp2_with fail
  refine (Calls.mono HPR.out ?_)
  rintro z w4 ⟨rfl, hb4⟩
  have V4 : Hid (w4.heap[w.heap.size]? = some (.cells (arrA pa pc a) 29 (0, 0))) := (hb4.block _ hl3).trans V3.out
  have B4 : Hid (Below w.heap.size w w4) := B3.out.trans (hb4.mono (by omega))
  have HKA : Hid (∀ W, Below w4.heap.size w4 W → W.heap[w.heap.size]? = some (.cells (arrA pa pc a) 29 (0, 0))) := fun W hb => (hb.block _ (heap_lt V4.out)).trans V4.out
  have b0 : Below w4.heap.size w4 w4.drew := (Below.refl _ _).drew
  have B40 := Hid.out (p := Hid _) b0
  have hs4 := B4.out.size
  clear hb4 HPR x0 x1 x2 x3 x4 x5 b0
  obtain ⟨x0, x1, x2, x3, x4, x5⟩ := adr_cells V4.out
  go_wp2_with fail
  go_region_held3 (fun w' => w'.cell? ⟨w.heap.size, 0, none⟩ = some (.slice pa a.path.length pc) ∧ w'.cell? ⟨w.heap.size, 1, none⟩ = some (.string a.type) ∧ w'.cell? ⟨w.heap.size, 2, none⟩ = some (.string a.name) ∧ w'.cell? ⟨w.heap.size, 3, none⟩ = some (.int .i64 a.key) ∧ w'.cell? ⟨w.heap.size, 4, none⟩ = some (.int .u64 a.place) ∧ w'.cell? ⟨w.heap.size, 5, none⟩ = some (.string a.word)) (go_keep)
    (first
      | (go_at_call 31; refine (Calls.mono (HPP.out w6 (B4.out.trans (B46.out.mono hs4))) ?_); rintro z w7 ⟨rfl, hb7⟩; have B47 : Hid (Below w4.heap.size w4 w7) := B46.out.trans (hb7.mono B46.out.size); clear hb7; obtain ⟨t0, t1, t2, t3, t4, t5⟩ := adr_cells (HKA.out w7 B47.out))
      | (go_at_call 43; refine (Calls.mono (HRJ.out w5 (B4.out.trans (B45.out.mono hs4))) ?_); rintro z w6 ⟨rfl, hb6⟩; have B46 : Hid (Below w4.heap.size w4 w6) := B45.out.trans (hb6.mono B45.out.size); clear hb6; obtain ⟨v0, v1, v2, v3, v4, v5⟩ := adr_cells (HKA.out w6 B46.out))
      | (go_at_call 42; refine (Calls.mono (HRI.out w4.drew (B4.out.trans (B40.out.mono hs4))) ?_); rintro z w5 ⟨rfl, hb5⟩; have B45 : Hid (Below w4.heap.size w4 w5) := B40.out.trans (hb5.mono B40.out.size); clear hb5; obtain ⟨u0, u1, u2, u3, u4, u5⟩ := adr_cells (HKA.out w5 B45.out)))
  have V7 : Hid (w7.heap[w.heap.size]? = some (.cells (arrA pa pc a) 29 (0, 0))) := HKA.out w7 B47.out
  have B7 : Hid (Below w.heap.size w w7) := B4.out.trans (B47.out.mono hs4)
  have hpa := HPA.out w7 B7.out
  have HPA7 : Hid (Calls Tryz.prog 39 #[.string y] w7 (APost pr w7)) := hpa
  rename_i hHeld
  clear hHeld hpa HPA HKA HRI HRJ HPP x0 x1 x2 x3 x4 x5 u0 u1 u2 u3 u4 u5 v0 v1 v2 v3 v4 v5 t0 t1 t2 t3 t4 t5
  go_wp2_with fail
  refine (Calls.mono HPA7.out ?_)
  rintro z w8 hz
  cases r
  case false =>
    obtain ⟨x, hx⟩ : ∃ x, pr.getD zeroA = x := ⟨_, rfl⟩
    obtain ⟨er, her⟩ : ∃ er, (if pr.isSome then (0 : Int) else 3) = er := ⟨_, rfl⟩
    obtain ⟨pe, pf, rfl, t8, B8⟩ := hz.to x hx er her
    obtain ⟨w9, hw9, V9, B9⟩ := adr_new w8 pe pf x
    have B9w : Hid (Below w.heap.size w w9) := B7.out.trans ((B8.out.trans (B9.out.mono B8.out.size)).mono B7.out.size)
    have hye : y.toList = [] := HYE.out
    have e1 : (y.toList == []) = true := by rw [hye]; rfl
    have e2 : y.toList.isEmpty = true := by rw [hye]; rfl
    clear hz hx her hye
    go_wp2_with fail
    go_ret
    exact ⟨rfl, B9w.out⟩
  case true =>
    have hpr := HPW.out rfl
    obtain ⟨pe, pf, rfl, t8, B8⟩ := hz.to a (by rw [hpr]; rfl) 0 (by rw [hpr]; rfl)
    obtain ⟨w9, hw9, V9, B9⟩ := adr_new w8 pe pf a
    have hl7 := heap_lt V7.out
    have hs8 := B8.out.size
    have B79 : Hid (Below w7.heap.size w7 w9) := B8.out.trans (B9.out.mono hs8)
    have B9w : Hid (Below w.heap.size w w9) := B7.out.trans (B79.out.mono B7.out.size)
    have V79 : Hid (w9.heap[w.heap.size]? = some (.cells (arrA pa pc a) 29 (0, 0))) := (B79.out.block _ hl7).trans V7.out
    have hye : y.toList.isEmpty = false := HYE.out
    have e1 : (y.toList == []) = false := by
      rw [beq_eq_false_iff_ne]
      intro e
      rw [e] at hye
      cases hye
    have HS := same_words a a pa pe pc pf w9 (HAT.out w9 B9w.out).t (t8.out.turn (Jdec.Turn.below B9.out)) (by have := HLP.out; omega) rfl
    obtain ⟨x0, x1, x2, x3, x4, x5⟩ := adr_cells V79.out
    obtain ⟨u0, u1, u2, u3, u4, u5⟩ := adr_cells V9.out
    clear hz hpr
    go_wp2_with fail
    refine (Calls.mono HS.out ?_)
    rintro z w10 ⟨rfl, hb10⟩
    have B10 : Hid (Below w.heap.size w w10) := B9w.out.trans (hb10.mono B9w.out.size)
    clear hb10
    go_wp2_with fail
    go_ret
    exact ⟨rfl, B10.out⟩
theorem addrPrints_arg (v : Value) (a : Adr) (w : World) (h : ∃ pa pc, v = wordsA pa pc a ∧ AdrIn w pa a) (T : TabsP w) :
    Calls Tryz.prog 11 #[v] w fun e w' => e = .returned (.bool true) ∧ Below w.heap.size w w' := by
  obtain ⟨pa, pc, rfl, h0⟩ := h
  exact addrPrints_any a pa pc w T h0
end Go.Proofs.YtmjlklefpiciaaaGreatDoor.Addr
/- tabulariumlaw17.AddrCompares: the walk. -/
namespace Go.Proofs.YtmjlklefpiciaaaGreatDoor.Addr
open Go.RowKit Go.Shelf Go.Proofs.YtmjlklefpiciaaaGreatDoor.Utf Go.Proofs.YtmjlklefpiciaaaGreatDoor.Strs
open Go.Proofs.YtmjlklefpiciaaaGreatDoor.Jdec (IsTexts)
set_option linter.unusedVariables false
set_option linter.unusedSimpArgs false
set_option maxRecDepth 100000

/-- What is called of two addresses, wherever. -/
abbrev V2 (x y : Value) : Array Value := #[x, y]
abbrev lit (pa : Option Addr) (pc : Nat) (a : Adr) : Value := .agg #[.slice pa a.path.length pc, .string a.type, .string a.name, .int .i64 a.key, .int .u64 a.place, .string a.word]
theorem great_ok (a : Adr) (pa : Option Addr) (pc : Nat) (w : World) (h : AdrIn w pa a) (g : Bool) (hg : greatA a = g) :
    Hid (Calls Tryz.prog 27 #[.agg #[.slice pa a.path.length pc, .string a.type, .string a.name, .int .i64 a.key, .int .u64 a.place, .string a.word]] w fun e w' => e = .returned (.bool g) ∧ Below w.heap.size w w') := by
  have := great_any a pa pc w h
  rw [hg] at this
  exact this
set_option maxHeartbeats 8000000 in
theorem addrCompares_any (a b : Adr) (pa pb : Option Addr) (pc pd : Nat) (w : World) (T : TabsP w) (h : AdrIn w pa a) (h' : AdrIn w pb b) :
    Calls Tryz.prog 13 #[wordsA pa pc a, wordsA pb pd b] w fun e w' => e = .returned (.bool true) ∧ Below w.heap.size w w' := by
  obtain ⟨w1, hw1, V1, B1⟩ := adr_new w pa pc a
  obtain ⟨w2, hw2, V2, B2⟩ := adr_new w1 pb pd b
  have hl1 := heap_lt V1.out
  have hl2 := heap_lt V2.out
  have HT := Hid.out (p := Hid _) T
  have B02 : Hid (Below w.heap.size w w2) := B1.out.trans (B2.out.mono (by omega))
  have V12 : Hid (w2.heap[w.heap.size]? = some (.cells (arrA pa pc a) 29 (0, 0))) := (B2.out.block _ hl1).trans V1.out
  have HI : Hid (∀ w', Below w.heap.size w w' → AdrIn w' pa a) := fun w' hb => h.stays hb
  have HJ : Hid (∀ w', Below w.heap.size w w' → AdrIn w' pb b) := fun w' hb => h'.stays hb
  have HKA : Hid (∀ W, Below w2.heap.size w2 W → W.heap[w.heap.size]? = some (.cells (arrA pa pc a) 29 (0, 0))) := fun W hb => (hb.block _ (heap_lt V12.out)).trans V12.out
  have HKB : Hid (∀ W, Below w2.heap.size w2 W → W.heap[w1.heap.size]? = some (.cells (arrA pb pd b) 29 (0, 0))) := fun W hb => (hb.block _ hl2).trans V2.out
  have HBW : Hid (∀ W, Below w2.heap.size w2 W → Below w.heap.size w W) := fun W hb => B02.out.trans (hb.mono (by omega))
  have hwk := wakes17 w2 (T.stays B02.out)
  have HWK : Hid (Calls Tryz.prog 36 #[] w2 fun e w' => e = .returned (.bool true) ∧ Below w2.heap.size w2 w') := hwk
  unfold wordsA
  clear hwk T h h'
  go_enter Tryz.func13, Tryz.ntmps13
  go_wp2_with fail
  refine (Calls.mono HWK.out ?_)
  rintro z w3 ⟨rfl, hb3⟩
  have B3 : Hid (Below w2.heap.size w2 w3) := hb3
  obtain ⟨ga, hga⟩ : ∃ g, greatA a = g := ⟨_, rfl⟩
  obtain ⟨gb, hgb⟩ : ∃ g, greatA b = g := ⟨_, rfl⟩
  have HGA := Hid.out (p := Hid _) hga
  have HGB := Hid.out (p := Hid _) hgb
  have HCA := great_ok a pa pc w3 (HI.out w3 (HBW.out w3 hb3)) ga hga
  obtain ⟨x0, x1, x2, x3, x4, x5⟩ := adr_cells (HKA.out w3 hb3)
  clear hb3 hga hgb hw1 hw2 HWK
  go_wp2_with fail
  refine (Calls.mono HCA.out ?_)
  rintro z w4 ⟨rfl, hb4⟩
  have B4 : Hid (Below w2.heap.size w2 w4) := B3.out.trans (hb4.mono B3.out.size)
  clear hb4 HCA x0 x1 x2 x3 x4 x5
  cases ga
  case true =>
    go_wp2_with fail
    go_ret
    exact ⟨rfl, HBW.out w4 B4.out⟩
  have HCB := great_ok b pb pd w4 (HJ.out w4 (HBW.out w4 B4.out)) gb HGB.out
  obtain ⟨y0, y1, y2, y3, y4, y5⟩ := adr_cells (HKB.out w4 B4.out)
  go_wp2_with fail
  refine (Calls.mono HCB.out ?_)
  rintro z w5 ⟨rfl, hb5⟩
  have B5 : Hid (Below w2.heap.size w2 w5) := B4.out.trans (hb5.mono B4.out.size)
  clear hb5 HCB y0 y1 y2 y3 y4 y5
  cases gb
  case true =>
    go_wp2_with fail
    go_ret
    exact ⟨rfl, HBW.out w5 B5.out⟩
  have HAT : Hid (∀ w', Below w2.heap.size w2 w' → AdrAt w' pa a) := fun w' hb => (HI.out w' (HBW.out w' hb)).at HGA.out
  have HBT : Hid (∀ w', Below w2.heap.size w2 w' → AdrAt w' pb b) := fun w' hb => (HJ.out w' (HBW.out w' hb)).at HGB.out
  have HTA : Hid (∀ w', Below w2.heap.size w2 w' → TabsA w') := fun w' hb => (HT.out.stays (HBW.out w' hb)).a
  obtain ⟨c, hc⟩ : ∃ c, Lib.compareBytes (printA a) (printA b) = c := ⟨_, rfl⟩
  obtain ⟨s, hs⟩ : ∃ s, sameA a b = s := ⟨_, rfl⟩
  obtain ⟨ra, hra⟩ : ∃ r, rightA a = r := ⟨_, rfl⟩
  obtain ⟨rb, hrb⟩ : ∃ r, rightA b = r := ⟨_, rfl⟩
  have hcc := cmp_cases (printA a) (printA b)
  have hcr : c = -1 ∨ c = 0 ∨ c = 1 := by
    rw [hc] at hcc
    rcases hcc with ⟨h, _⟩ | ⟨h, _⟩ | ⟨h, _⟩
    · exact .inl h
    · exact .inr (.inl h)
    · exact .inr (.inr h)
  have hneg : Lib.compareBytes (printA b) (printA a) = -c := by rw [compare_neg, hc]
  have HSC : Hid (ra = true → rb = true → s = (c == 0)) := fun h1 h2 => by
    rw [h1] at hra
    rw [h2] at hrb
    have hp := (HAT.out w5 B5.out).p
    have hq := (HBT.out w5 B5.out).p
    rw [← hs, ← hc]
    by_cases e : a = b
    · have e1 := (sameA_iff a b).2 e
      have e2 := (compare_zero (printA a) (printA b)).2 (by rw [e])
      rw [e1, e2]; rfl
    · have e1 : sameA a b = false := by
        cases h : sameA a b with
        | false => rfl
        | true => exact absurd ((sameA_iff a b).1 h) e
      have e2 : Lib.compareBytes (printA a) (printA b) ≠ 0 := fun h => e (print_inj hra hrb (by omega) (by omega) ((compare_zero _ _).1 h))
      rw [e1]
      exact (beq_eq_false_iff_ne.2 e2).symm
  obtain ⟨px, hpx⟩ : ∃ y, (⟨(printA a).toArray⟩ : ByteArray) = y := ⟨_, rfl⟩
  obtain ⟨py, hpy⟩ : ∃ y, (⟨(printA b).toArray⟩ : ByteArray) = y := ⟨_, rfl⟩
  have HC1 : Hid (∀ w', Below w2.heap.size w2 w' → Calls Tryz.prog 45 #[.agg #[.slice pa a.path.length pc, .string a.type, .string a.name, .int .i64 a.key, .int .u64 a.place, .string a.word], .agg #[.slice pb b.path.length pd, .string b.type, .string b.name, .int .i64 b.key, .int .u64 b.place, .string b.word]] w' fun e w'' => e = .returned (.int .i64 c) ∧ Below w'.heap.size w' w'') := fun w' hb => by
    have h := compare_any a b pa pb pc pd w' (HAT.out w' hb) (HBT.out w' hb) (HTA.out w' hb)
    rw [hc] at h
    exact h
  have HC2 : Hid (∀ w', Below w2.heap.size w2 w' → Calls Tryz.prog 45 #[.agg #[.slice pb b.path.length pd, .string b.type, .string b.name, .int .i64 b.key, .int .u64 b.place, .string b.word], .agg #[.slice pa a.path.length pc, .string a.type, .string a.name, .int .i64 a.key, .int .u64 a.place, .string a.word]] w' fun e w'' => e = .returned (.int .i64 (-c)) ∧ Below w'.heap.size w' w'') := fun w' hb => by
    have h := compare_any b a pb pa pd pc w' (HBT.out w' hb) (HAT.out w' hb) (HTA.out w' hb)
    rw [hneg] at h
    exact h
  have HS1 : Hid (∀ w', Below w2.heap.size w2 w' → Calls Tryz.prog 46 #[.agg #[.slice pa a.path.length pc, .string a.type, .string a.name, .int .i64 a.key, .int .u64 a.place, .string a.word], .agg #[.slice pb b.path.length pd, .string b.type, .string b.name, .int .i64 b.key, .int .u64 b.place, .string b.word]] w' fun e w'' => e = .returned (.bool s) ∧ Below w'.heap.size w' w'') := fun w' hb => by
    have h := same_any a b pa pb pc pd _ _ w' (HAT.out w' hb).t (HBT.out w' hb).t (Nat.le_trans (HAT.out w' hb).l (by omega)) (Nat.le_trans (HBT.out w' hb).l (by omega))
    rw [hs] at h
    exact h
  have HS2 : Hid (∀ w', Below w2.heap.size w2 w' → Calls Tryz.prog 17 #[.agg #[.slice pa a.path.length pc, .string a.type, .string a.name, .int .i64 a.key, .int .u64 a.place, .string a.word], .agg #[.slice pb b.path.length pd, .string b.type, .string b.name, .int .i64 b.key, .int .u64 b.place, .string b.word]] w' fun e w'' => e = .returned (.bool s) ∧ Below w'.heap.size w' w'') := fun w' hb => by
    have h := rsame_any a b pa pb pc pd _ _ w' (HAT.out w' hb).t (HBT.out w' hb).t (Nat.le_trans (HAT.out w' hb).l (by omega)) (Nat.le_trans (HBT.out w' hb).l (by omega))
    rw [hs] at h
    exact h
  have HP1 : Hid (∀ w', Below w2.heap.size w2 w' → Calls Tryz.prog 31 #[.agg #[.slice pa a.path.length pc, .string a.type, .string a.name, .int .i64 a.key, .int .u64 a.place, .string a.word]] w' fun e w'' => e = .returned (.string px) ∧ Below w'.heap.size w' w'') := fun w' hb => by
    have h := (HAT.out w' hb).rprint pc
    rw [hpx] at h
    exact h
  have HP2 : Hid (∀ w', Below w2.heap.size w2 w' → Calls Tryz.prog 31 #[.agg #[.slice pb b.path.length pd, .string b.type, .string b.name, .int .i64 b.key, .int .u64 b.place, .string b.word]] w' fun e w'' => e = .returned (.string py) ∧ Below w'.heap.size w' w'') := fun w' hb => by
    have h := (HBT.out w' hb).rprint pd
    rw [hpy] at h
    exact h
  have HRC : Hid (∀ w', Calls Tryz.prog 47 #[.string px, .string py] w' fun e w'' => e = .returned (.int .i64 c) ∧ w' = w'') := fun w' => by
    have h := rcompare_any px py w'
    rw [← hpx, ← hpy] at h
    rw [show Lib.compareBytes (⟨(printA a).toArray⟩ : ByteArray).data.toList (⟨(printA b).toArray⟩ : ByteArray).data.toList = c from hc, hpx, hpy] at h
    exact h
  have HR1 : Hid (∀ w', Below w2.heap.size w2 w' → Calls Tryz.prog 43 #[.agg #[.slice pa a.path.length pc, .string a.type, .string a.name, .int .i64 a.key, .int .u64 a.place, .string a.word]] w' fun e w'' => e = .returned (.bool ra) ∧ Below w'.heap.size w' w'') := fun w' hb => by
    have h := (HAT.out w' hb).rright pc
    rw [hra] at h
    exact h
  have HR2 : Hid (∀ w', Below w2.heap.size w2 w' → Calls Tryz.prog 43 #[.agg #[.slice pb b.path.length pd, .string b.type, .string b.name, .int .i64 b.key, .int .u64 b.place, .string b.word]] w' fun e w'' => e = .returned (.bool rb) ∧ Below w'.heap.size w' w'') := fun w' hb => by
    have h := (HBT.out w' hb).rright pd
    rw [hrb] at h
    exact h
  have wneg : IntKind.i64.wrap (-c) = -c := IntWalk.i64_in _ (by omega)
  obtain ⟨x0, x1, x2, x3, x4, x5⟩ := adr_cells (HKA.out w5 B5.out)
  obtain ⟨y0, y1, y2, y3, y4, y5⟩ := adr_cells (HKB.out w5 B5.out)
  have HC15 := Hid.out (p := Hid _) (HC1.out w5 B5.out)
  have HC1W : Hid (Calls Tryz.prog 45 #[.agg #[.slice pa a.path.length pc, .string a.type, .string a.name, .int .i64 a.key, .int .u64 a.place, .string a.word], .agg #[.slice pb b.path.length pd, .string b.type, .string b.name, .int .i64 b.key, .int .u64 b.place, .string b.word]] w5 fun e w'' => e = .returned (.int .i64 c) ∧ Below w5.heap.size w5 w'') := HC1.out w5 B5.out
  clear HC15 hc hs hra hrb hcc hneg hpx hpy
  go_wp2_with fail
  refine (Calls.mono HC1W.out ?_)
  rintro z w6 ⟨rfl, hb6⟩
  have B6 : Hid (Below w2.heap.size w2 w6) := B5.out.trans (hb6.mono B5.out.size)
  have B60 : Hid (Below w2.heap.size w2 w6.drew) := B6.out.drew
  clear hb6 HC1W HC1 x0 x1 x2 x3 x4 x5 y0 y1 y2 y3 y4 y5
  obtain ⟨x0, x1, x2, x3, x4, x5⟩ := adr_cells (HKA.out w6 B6.out)
  obtain ⟨y0, y1, y2, y3, y4, y5⟩ := adr_cells (HKB.out w6 B6.out)
  go_wp2_with fail
  go_region_held3 (fun w' => w'.cell? ⟨w.heap.size, 0, none⟩ = some (.slice pa a.path.length pc) ∧ w'.cell? ⟨w.heap.size, 1, none⟩ = some (.string a.type) ∧ w'.cell? ⟨w.heap.size, 2, none⟩ = some (.string a.name) ∧ w'.cell? ⟨w.heap.size, 3, none⟩ = some (.int .i64 a.key) ∧ w'.cell? ⟨w.heap.size, 4, none⟩ = some (.int .u64 a.place) ∧ w'.cell? ⟨w.heap.size, 5, none⟩ = some (.string a.word) ∧ w'.cell? ⟨w1.heap.size, 0, none⟩ = some (.slice pb b.path.length pd) ∧ w'.cell? ⟨w1.heap.size, 1, none⟩ = some (.string b.type) ∧ w'.cell? ⟨w1.heap.size, 2, none⟩ = some (.string b.name) ∧ w'.cell? ⟨w1.heap.size, 3, none⟩ = some (.int .i64 b.key) ∧ w'.cell? ⟨w1.heap.size, 4, none⟩ = some (.int .u64 b.place) ∧ w'.cell? ⟨w1.heap.size, 5, none⟩ = some (.string b.word)) (go_keep)
    (first
      | (go_at_call 45; refine (Calls.mono (HC2.out w11 B11.out) ?_); rintro z w12 ⟨rfl, hb12⟩; have B12 : Hid (Below w2.heap.size w2 w12) := B11.out.trans (hb12.mono B11.out.size); clear hb12; obtain ⟨p50, p51, p52, p53, p54, p55⟩ := adr_cells (HKA.out w12 B12.out); obtain ⟨q50, q51, q52, q53, q54, q55⟩ := adr_cells (HKB.out w12 B12.out))
      | (go_at_call 47; refine (Calls.mono (HRC.out w10) ?_); rintro z w11 ⟨rfl, hb11⟩; have B11 : Hid (Below w2.heap.size w2 w11) := (by rw [← hb11]; exact B10.out); clear hb11; obtain ⟨p40, p41, p42, p43, p44, p45⟩ := adr_cells (HKA.out w11 B11.out); obtain ⟨q40, q41, q42, q43, q44, q45⟩ := adr_cells (HKB.out w11 B11.out))
      | (go_at_call 31; refine (Calls.mono (HP2.out w9 B9.out) ?_); rintro z w10 ⟨rfl, hb10⟩; have B10 : Hid (Below w2.heap.size w2 w10) := B9.out.trans (hb10.mono B9.out.size); clear hb10; obtain ⟨p30, p31, p32, p33, p34, p35⟩ := adr_cells (HKA.out w10 B10.out); obtain ⟨q30, q31, q32, q33, q34, q35⟩ := adr_cells (HKB.out w10 B10.out))
      | (go_at_call 31; refine (Calls.mono (HP1.out w8 B8.out) ?_); rintro z w9 ⟨rfl, hb9⟩; have B9 : Hid (Below w2.heap.size w2 w9) := B8.out.trans (hb9.mono B8.out.size); clear hb9; obtain ⟨p20, p21, p22, p23, p24, p25⟩ := adr_cells (HKA.out w9 B9.out); obtain ⟨q20, q21, q22, q23, q24, q25⟩ := adr_cells (HKB.out w9 B9.out))
      | (go_at_call 17; refine (Calls.mono (HS2.out w7 B7.out) ?_); rintro z w8 ⟨rfl, hb8⟩; have B8 : Hid (Below w2.heap.size w2 w8) := B7.out.trans (hb8.mono B7.out.size); clear hb8; obtain ⟨p10, p11, p12, p13, p14, p15⟩ := adr_cells (HKA.out w8 B8.out); obtain ⟨q10, q11, q12, q13, q14, q15⟩ := adr_cells (HKB.out w8 B8.out))
      | (go_at_call 46; refine (Calls.mono (HS1.out w6.drew B60.out) ?_); rintro z w7 ⟨rfl, hb7⟩; have B7 : Hid (Below w2.heap.size w2 w7) := B60.out.trans (hb7.mono B60.out.size); clear hb7; obtain ⟨p00, p01, p02, p03, p04, p05⟩ := adr_cells (HKA.out w7 B7.out); obtain ⟨q00, q01, q02, q03, q04, q05⟩ := adr_cells (HKB.out w7 B7.out)))
  have V7 := B6.out
  rename_i hHeld
  have B12x : Hid (Below w2.heap.size w2 w12) := B12.out
  clear hHeld V7 p00 p01 p02 p03 p04 p05 q00 q01 q02 q03 q04 q05 p10 p11 p12 p13 p14 p15 q10 q11 q12 q13 q14 q15 p20 p21 p22 p23 p24 p25 q20 q21 q22 q23 q24 q25 p30 p31 p32 p33 p34 p35 q30 q31 q32 q33 q34 q35 p40 p41 p42 p43 p44 p45 q40 q41 q42 q43 q44 q45 p50 p51 p52 p53 p54 p55 q50 q51 q52 q53 q54 q55 x0 x1 x2 x3 x4 x5 y0 y1 y2 y3 y4 y5
  obtain ⟨x0, x1, x2, x3, x4, x5⟩ := adr_cells (HKA.out w12 B12x.out)
  have HRW : Hid (Calls Tryz.prog 43 #[.agg #[.slice pa a.path.length pc, .string a.type, .string a.name, .int .i64 a.key, .int .u64 a.place, .string a.word]] w12 fun e w'' => e = .returned (.bool ra) ∧ Below w12.heap.size w12 w'') := HR1.out w12 B12x.out
  clear HC2 HS2 HP1 HP2 HRC HR1 B12
  go_wp2_with fail
  refine (Calls.mono HRW.out ?_)
  rintro z w13 ⟨rfl, hb13⟩
  have B13 : Hid (Below w2.heap.size w2 w13) := B12x.out.trans (hb13.mono B12x.out.size)
  clear hb13 HRW x0 x1 x2 x3 x4 x5
  cases ra
  case false =>
    go_wp2_with fail
    go_ret
    exact ⟨rfl, HBW.out w13 B13.out⟩
  obtain ⟨y0, y1, y2, y3, y4, y5⟩ := adr_cells (HKB.out w13 B13.out)
  have HRW : Hid (Calls Tryz.prog 43 #[.agg #[.slice pb b.path.length pd, .string b.type, .string b.name, .int .i64 b.key, .int .u64 b.place, .string b.word]] w13 fun e w'' => e = .returned (.bool rb) ∧ Below w13.heap.size w13 w'') := HR2.out w13 B13.out
  clear HR2
  go_wp2_with fail
  refine (Calls.mono HRW.out ?_)
  rintro z w14 ⟨rfl, hb14⟩
  have B14 : Hid (Below w2.heap.size w2 w14) := B13.out.trans (hb14.mono B13.out.size)
  clear hb14 HRW y0 y1 y2 y3 y4 y5
  cases rb
  case false =>
    go_wp2_with fail
    go_ret
    exact ⟨rfl, HBW.out w14 B14.out⟩
  obtain ⟨x0, x1, x2, x3, x4, x5⟩ := adr_cells (HKA.out w14 B14.out)
  obtain ⟨y0, y1, y2, y3, y4, y5⟩ := adr_cells (HKB.out w14 B14.out)
  have HSW : Hid (Calls Tryz.prog 46 #[.agg #[.slice pa a.path.length pc, .string a.type, .string a.name, .int .i64 a.key, .int .u64 a.place, .string a.word], .agg #[.slice pb b.path.length pd, .string b.type, .string b.name, .int .i64 b.key, .int .u64 b.place, .string b.word]] w14 fun e w'' => e = .returned (.bool s) ∧ Below w14.heap.size w14 w'') := HS1.out w14 B14.out
  have hsc : s = (c == 0) := HSC.out (by first | rfl | trivial) (by first | rfl | trivial)
  subst hsc
  obtain ⟨cz, hcz⟩ : ∃ z, (c == 0) = z := ⟨_, rfl⟩
  rw [hcz] at HSW
  clear HS1
  go_wp2_with fail
  refine (Calls.mono HSW.out ?_)
  rintro z w15 ⟨rfl, hb15⟩
  have B15 : Hid (Below w2.heap.size w2 w15) := B14.out.trans (hb15.mono B14.out.size)
  clear hb15 HSW
  cases cz
  · go_wp2_with fail
    go_ret
    exact ⟨rfl, HBW.out w15 B15.out⟩
  · go_wp2_with fail
    go_ret
    exact ⟨rfl, HBW.out w15 B15.out⟩
theorem addrCompares_arg (v : Value) (a : Adr) (u : Value) (b : Adr) (w : World) (h : ∃ pa pc, v = wordsA pa pc a ∧ AdrIn w pa a) (h' : ∃ pa pc, u = wordsA pa pc b ∧ AdrIn w pa b) (T : TabsP w) :
    Calls Tryz.prog 13 #[v, u] w fun e w' => e = .returned (.bool true) ∧ Below w.heap.size w w' := by
  obtain ⟨pa, pc, rfl, h0⟩ := h
  obtain ⟨pb, pd, rfl, h1⟩ := h'
  exact addrCompares_any a b pa pb pc pd w T h0 h1
end Go.Proofs.YtmjlklefpiciaaaGreatDoor.Addr
/- tabulariumlaw17.AddrPaths: the walk. -/
namespace Go.Proofs.YtmjlklefpiciaaaGreatDoor.Addr
open Go.RowKit Go.Shelf Go.Proofs.YtmjlklefpiciaaaGreatDoor.Utf Go.Proofs.YtmjlklefpiciaaaGreatDoor.Strs
open Go.Proofs.YtmjlklefpiciaaaGreatDoor.Jdec (IsTexts gb_set gb_below infoStr)
set_option linter.unusedVariables false
set_option linter.unusedSimpArgs false
set_option maxRecDepth 100000

/-- An address in one module more. -/
def moreA (a : Adr) (m : ByteArray) : Adr := { a with path := m :: a.path }
theorem right_more {a : Adr} {m : ByteArray} (h : rightA a = true) (hm : identB m.data.toList = true) (hl : a.path.length ≤ 19) : rightA (moreA a m) = true := by
  unfold rightA at h ⊢
  simp only [Bool.and_eq_true, decide_eq_true_eq] at h ⊢
  obtain ⟨⟨⟨⟨h1, h2⟩, h3⟩, h4⟩, h5⟩ := h
  refine ⟨⟨⟨⟨h1, ?_⟩, h3⟩, ?_⟩, h5⟩
  · show (m :: a.path).length ≤ 20
    rw [List.length_cons]; omega
  · show identsB (m :: a.path) = true
    unfold identsB at h4 ⊢
    rw [List.all_cons, hm, h4]; rfl
theorem print_more {a : Adr} {m : ByteArray} (h : rightA a = true) (hm : identB m.data.toList = true) (hl : a.path.length ≤ 19) : printA (moreA a m) = moduleL ++ 46 :: (m.data.toList ++ 46 :: printA a) := by
  have e1 : printA a = printR a := by rw [printA, h]; rfl
  have e2 : printA (moreA a m) = printR (moreA a m) := by rw [printA, right_more h hm hl]; rfl
  rw [e1, e2]
  have e3 : printR (moreA a m) = modL m ++ printR a := by
    show (modL m ++ pathL a.path) ++ (a.type.data.toList ++ 46 :: a.name.data.toList) ++ keyL a = modL m ++ (pathL a.path ++ (a.type.data.toList ++ 46 :: a.name.data.toList) ++ keyL a)
    simp
  rw [e3]
  simp [modL]
theorem app_path (w : World) (m : ByteArray) (ks : List ByteArray) (ka : Option Addr) (kc : Nat) (ht : IsTexts w (fun _ => True) ka ks) (hl : ks.length ≤ 3000) :
    ∃ ka' kc' w', (Builtin.append_ #[27, 27] 27 #[.slice (some ⟨w.heap.size, 0, none⟩) 1 1, .slice ka ks.length kc]).run Tryz.prog (w.alloc (.cells #[.string m] 9)) = .ok (.slice ka' (ks.length + 1) kc') w' ∧ Hid (IsTexts w' (fun _ => True) ka' (m :: ks)) ∧ Hid (Below w.heap.size w w') ∧ Hid (∀ g o, ka' = some ⟨g, o, none⟩ → w.heap.size ≤ g) := by
  obtain ⟨i0, hi, hz0, hz1, hz2⟩ := info_parts infoStr
  obtain ⟨w1, hw1, t1, b1⟩ := one_new w m
  by_cases h0 : ks = []
  · subst h0
    refine ⟨some ⟨w.heap.size, 0, none⟩, 1, w1, ?_, t1.out, b1.out, fun g o h => by injection h with h; injection h with h; omega⟩
    rw [hw1]
    cases ka with
    | none => simp [Builtin.append_, run_underlying Tryz.underlying27, sizeOf, typeInfo, hi, Builtin.lenOf, Builtin.firstCells, storeCells]
    | some a => simp [Builtin.append_, run_underlying Tryz.underlying27, sizeOf, typeInfo, hi, Builtin.lenOf, Builtin.firstCells, loadCells, loadCellsFrom, storeCells]
  · have ht1 := ht.turn (Jdec.Turn.below b1.out)
    obtain ⟨b, o, rfl, _, hb, hc⟩ := ht1.resolve_left h0
    have hnews : ∀ j u, (ks.map Value.string)[j]? = some u → w1.cell? ((⟨b, o, none⟩ : Addr).add j) = some u := fun j u hu => by
      obtain ⟨hj, rfl⟩ := List.getElem?_eq_some_iff.1 hu
      have hj' : j < ks.length := by simpa using hj
      have e : (⟨b, o, none⟩ : Addr).add j = ⟨b, o + j, none⟩ := by unfold Addr.add; split <;> simp_all
      rw [e, hc j hj', List.getElem_map]
    have hrow : w1.ownsRow w.heap.size 9 1 (.slice (some ⟨w.heap.size, 0, none⟩) 1 1) 1 [.string m] := by
      rw [← hw1]
      exact World.ownsRow_lit w #[.string m] 1 (Nat.le_refl _) (by unfold maxLen; omega) rfl
    have hs1 := b1.out.size
    obtain ⟨v', w', hr, ho, hg, _⟩ := run_append_own (P := Tryz.prog) w1 w.heap.size 27 27 9 i0 (.string ⟨#[]⟩) 1 16 Tryz.underlying27 hi hz0 hz1 hz2 rfl (by decide) (.slice (some ⟨w.heap.size, 0, none⟩) 1 1) 1 [.string m] hrow ⟨b, o, none⟩ ks.length kc (ks.map Value.string) (by simp) hnews (fun u hu => by obtain ⟨x, _, rfl⟩ := List.mem_map.1 hu; rfl) (by unfold maxLen; omega) (by omega) hs1
    have ho2 : RowT w' w.heap.size v' (m :: ks) := by
      unfold RowT
      rw [List.length_cons, List.map_cons, Nat.add_comm]
      exact ho
    obtain ⟨a', c', rfl⟩ := ho2.form
    rw [hw1]
    refine ⟨a', c', w', hr, ho2.texts.turn (Jdec.Turn.mono _ (fun _ _ _ => trivial)), ?_, fun g o h => by subst h; exact (World.ownsRow.lt ho2 g (by simp [Value.ownBlock])).1⟩
    exact b1.out.grown hg b1.out.size (fun k hk => by simp [Value.ownBlock] at hk; omega)
theorem texts_set {w : World} {ka : Option Addr} {ks : List ByteArray} {b : Nat} {cs : Array Value} (h : IsTexts w (fun _ => True) ka ks) (hb : w.heap[b]? = some (.cells cs 29 (0, 0))) (v : Value)
    (hne : ∀ g o, ka = some ⟨g, o, none⟩ → g ≠ b) : IsTexts (w.setCell ⟨b, 0, none⟩ v) (fun _ => True) ka ks := by
  rcases h with rfl | ⟨g, o, rfl, _, hg, hc⟩
  · exact .inl rfl
  · have hn := hne g o rfl
    exact .inr ⟨g, o, rfl, trivial, by simpa using hg, fun i hi => by rw [World.cell?_setCell_other w ⟨b, 0, none⟩ _ v (fun e => hn (by injection e with e; exact e.symm))]; exact hc i hi⟩
theorem name_ok (m : ByteArray) (w : World) (hm : m.size ≤ 100) (n : Bool) (hn : identB m.data.toList = n) : Hid (Calls Tryz.prog 44 #[.string m] w fun e w' => e = .returned (.bool n) ∧ Below w.heap.size w w') := by
  have h := name_any m w (by omega)
  rw [hn] at h
  exact h
set_option maxHeartbeats 8000000 in
theorem addrPaths_any (a : Adr) (pa : Option Addr) (pc : Nat) (m : ByteArray) (w : World) (T : TabsP w) (h : AdrIn w pa a) (hms : m.size ≤ 9223372036854775807) :
    Calls Tryz.prog 12 #[wordsA pa pc a, .string m] w fun e w' => e = .returned (.bool true) ∧ Below w.heap.size w w' := by
  obtain ⟨w1, hw1, V1, B1⟩ := adr_new w pa pc a
  have hl1 := heap_lt V1.out
  have HT := Hid.out (p := Hid _) T
  have HI : Hid (∀ w', Below w.heap.size w w' → AdrIn w' pa a) := fun w' hb => h.stays hb
  have HKA : Hid (∀ W, Below w1.heap.size w1 W → W.heap[w.heap.size]? = some (.cells (arrA pa pc a) 29 (0, 0))) := fun W hb => (hb.block _ hl1).trans V1.out
  have HBW : Hid (∀ W, Below w1.heap.size w1 W → Below w.heap.size w W) := fun W hb => B1.out.trans (hb.mono (by omega))
  have hwk := wakes17 w1 (T.stays B1.out)
  have HWK : Hid (Calls Tryz.prog 36 #[] w1 fun e w' => e = .returned (.bool true) ∧ Below w1.heap.size w1 w') := hwk
  unfold wordsA
  clear hwk T h
  go_enter Tryz.func12, Tryz.ntmps12
  go_wp2_with fail
  refine (Calls.mono HWK.out ?_)
  rintro z w3 ⟨rfl, hb3⟩
  have B3 : Hid (Below w1.heap.size w1 w3) := hb3
  obtain ⟨ga, hga⟩ : ∃ g, greatA a = g := ⟨_, rfl⟩
  have HGA := Hid.out (p := Hid _) hga
  have HCA := great_ok a pa pc w3 (HI.out w3 (HBW.out w3 hb3)) ga hga
  obtain ⟨x0, x1, x2, x3, x4, x5⟩ := adr_cells (HKA.out w3 hb3)
  clear hb3 hga hw1 HWK
  go_wp2_with fail
  refine (Calls.mono HCA.out ?_)
  rintro z w4 ⟨rfl, hb4⟩
  have B4 : Hid (Below w1.heap.size w1 w4) := B3.out.trans (hb4.mono B3.out.size)
  clear hb4 HCA x0 x1 x2 x3 x4 x5
  cases ga
  case true =>
    go_wp2_with fail
    go_ret
    exact ⟨rfl, HBW.out w4 B4.out⟩
  have HAT : Hid (∀ w', Below w1.heap.size w1 w' → AdrAt w' pa a) := fun w' hb => (HI.out w' (HBW.out w' hb)).at HGA.out
  have HTA : Hid (∀ w', Below w1.heap.size w1 w' → TabsA w') := fun w' hb => (HT.out.stays (HBW.out w' hb)).a
  obtain ⟨ra, hra⟩ : ∃ r, rightA a = r := ⟨_, rfl⟩
  have HRR := Hid.out (p := Hid _) hra
  have HRI : Hid (Calls Tryz.prog 43 #[.agg #[.slice pa a.path.length pc, .string a.type, .string a.name, .int .i64 a.key, .int .u64 a.place, .string a.word]] w4 fun e w'' => e = .returned (.bool ra) ∧ Below w4.heap.size w4 w'') := by
    have h := (HAT.out w4 B4.out).rright pc
    rw [hra] at h
    exact h
  obtain ⟨x0, x1, x2, x3, x4, x5⟩ := adr_cells (HKA.out w4 B4.out)
  clear hra
  go_wp2_with fail
  refine (Calls.mono HRI.out ?_)
  rintro z w5 ⟨rfl, hb5⟩
  have B5 : Hid (Below w1.heap.size w1 w5) := B4.out.trans (hb5.mono B4.out.size)
  clear hb5 HRI x0 x1 x2 x3 x4 x5
  cases ra
  case false =>
    go_wp2_with fail
    go_ret
    exact ⟨rfl, HBW.out w5 B5.out⟩
  by_cases hm : 100 < m.size
  · have q1 : decide ((100 : Int) < (m.size : Int)) = true := by rw [decide_eq_true_eq]; omega
    have q2 : decide (100 < m.size) = true := by rw [decide_eq_true_eq]; omega
    go_wp2_with fail
    go_ret
    exact ⟨rfl, HBW.out w5 B5.out⟩
  have q1 : decide ((100 : Int) < (m.size : Int)) = false := by rw [decide_eq_false_iff_not]; omega
  have q2 : decide (100 < m.size) = false := by rw [decide_eq_false_iff_not]; omega
  have hm100 : m.size ≤ 100 := by omega
  obtain ⟨nm, hnm⟩ : ∃ n, identB m.data.toList = n := ⟨_, rfl⟩
  have HNM := Hid.out (p := Hid _) hnm
  have HNC := name_ok m w5 hm100 nm hnm
  clear hnm hm
  go_wp2_with fail
  refine (Calls.mono HNC.out ?_)
  rintro z w6 ⟨rfl, hb6⟩
  have B6 : Hid (Below w1.heap.size w1 w6) := B5.out.trans (hb6.mono B5.out.size)
  clear hb6 HNC
  cases nm
  case false =>
    go_wp2_with fail
    go_ret
    exact ⟨rfl, HBW.out w6 B6.out⟩
  obtain ⟨x0, x1, x2, x3, x4, x5⟩ := adr_cells (HKA.out w6 B6.out)
  by_cases hp : 19 < a.path.length
  · have q3 : decide ((19 : Int) < (a.path.length : Int)) = true := by rw [decide_eq_true_eq]; omega
    have q4 : decide (19 < a.path.length) = true := by rw [decide_eq_true_eq]; omega
    go_wp2_with fail
    go_ret
    exact ⟨rfl, HBW.out w6 B6.out⟩
  have q3 : decide ((19 : Int) < (a.path.length : Int)) = false := by rw [decide_eq_false_iff_not]; omega
  have q4 : decide (19 < a.path.length) = false := by rw [decide_eq_false_iff_not]; omega
  have hp19 : a.path.length ≤ 19 := by omega
  have HRM : Hid (rightA (moreA a m) = true) := right_more HRR.out HNM.out hp19
  have HPM : Hid (printA (moreA a m) = moduleL ++ 46 :: (m.data.toList ++ 46 :: printA a)) := print_more HRR.out HNM.out hp19
  obtain ⟨w7, hw7, V7, B7⟩ := adr_new w6 pa pc a
  have hl7 := heap_lt V7.out
  have B17 : Hid (Below w1.heap.size w1 w7) := B6.out.trans (B7.out.mono B6.out.size)
  obtain ⟨ka', kc', w8, hap, TX8, B8, LO8⟩ := app_path w7 m a.path pa pc (HAT.out w7 B17.out).t (by omega)
  have HAP := Hid.out (p := Hid _) hap
  have V78 : Hid (w8.heap[w6.heap.size]? = some (.cells (arrA pa pc a) 29 (0, 0))) := (B8.out.block _ hl7).trans V7.out
  have B18 : Hid (Below w1.heap.size w1 w8) := B17.out.trans (B8.out.mono B17.out.size)
  have f0 := frozen_of V78.out 0
  have c0 : w8.cell? ⟨w6.heap.size, 0, none⟩ = some (.slice pa a.path.length pc) := cell_of V78.out 0
  obtain ⟨w9, hw9⟩ : ∃ w9, w8.setCell ⟨w6.heap.size, 0, none⟩ (.slice ka' (a.path.length + 1) kc') = w9 := ⟨_, rfl⟩
  have V9 : Hid (w9.heap[w6.heap.size]? = some (.cells (arrA ka' kc' (moreA a m)) 29 (0, 0))) := by
    rw [← hw9, Hid, heap_set_same V78.out]; rfl
  have G9 : w8.grownBy w9 (some w6.heap.size) := by rw [← hw9]; exact gb_set _ _ _ _
  have hs6 := B6.out.size
  have B19 : Hid (Below w1.heap.size w1 w9) := B18.out.grown G9 B18.out.size (fun k hk => by injection hk with hk; omega)
  have TX9 : Hid (∀ W, Below w9.heap.size w9 W → AdrAt W ka' (moreA a m)) := by
    intro W hW
    have hat := HAT.out w9 B19.out
    have ht9 : IsTexts w9 (fun _ => True) ka' (m :: a.path) := by rw [← hw9]; exact texts_set TX8.out V78.out _ (fun g o e => by have := LO8.out g o e; omega)
    exact AdrAt.stays ⟨ht9, by show (m :: a.path).length ≤ 3000; rw [List.length_cons]; omega, fun x hx => by
      rcases List.mem_cons.1 hx with rfl | hx
      · omega
      · exact hat.s x hx, hat.ty, hat.nm, hat.wd, hat.p⟩ hW
  have x70 : (w7.alloc (.cells #[.string m] 9)).cell? ⟨w.heap.size, 0, none⟩ = some (.slice pa a.path.length pc) := by
    have hb : Below w7.heap.size w7 (w7.alloc (.cells #[.string m] 9)) := (Below.refl _ _).alloc (Nat.le_refl _) _
    exact (adr_cells (HKA.out _ (B17.out.trans (hb.mono B17.out.size)))).1
  have hpr := (HAT.out w9 B19.out).print pc (HTA.out w9 B19.out)
  have hpl := printA_len (HAT.out w9 B19.out)
  obtain ⟨y, hy⟩ : ∃ y, (⟨(printA a).toArray⟩ : ByteArray) = y := ⟨_, rfl⟩
  have hyd : y.data.toList = printA a := by rw [← hy]
  have hys : y.size ≤ 100000 := by rw [data_size hyd]; exact hpl
  rw [hy] at hpr
  have HPR : Hid (Calls Tryz.prog 41 #[.agg #[.slice pa a.path.length pc, .string a.type, .string a.name, .int .i64 a.key, .int .u64 a.place, .string a.word]] w9 fun e w' => e = .returned (.string y) ∧ Below w9.heap.size w9 w') := hpr
  obtain ⟨q, hq⟩ : ∃ q, (⟨#[109, 111, 100, 117, 108, 101, 46]⟩ : ByteArray) ++ m ++ ⟨#[46]⟩ ++ y = q := ⟨_, rfl⟩
  have hqd : q.data.toList = printA (moreA a m) := by
    rw [HPM.out, ← hq, ← hyd]
    simp [moduleL]
  have hqs : q.size ≤ 200000 := by
    rw [← hq, ByteArray.size_append, ByteArray.size_append, ByteArray.size_append]
    show 7 + m.size + 1 + y.size ≤ 200000
    omega
  have HPB : Hid (∀ W, Below w9.heap.size w9 W → Calls Tryz.prog 41 #[.agg #[.slice ka' (a.path.length + 1) kc', .string a.type, .string a.name, .int .i64 a.key, .int .u64 a.place, .string a.word]] W fun e w' => e = .returned (.string q) ∧ Below W.heap.size W w') := fun W hW => by
    have h := (TX9.out W hW).print kc' (HTA.out W (B19.out.trans (hW.mono B19.out.size)))
    rw [← hqd, Jdec.str_back] at h
    exact h
  have HPA : Hid (∀ W, Below w9.heap.size w9 W → Calls Tryz.prog 39 #[.string q] W (APost (some (moreA a m)) W)) := fun W hW => by
    have h := parse_any q W (by omega) (HT.out.stays (HBW.out W (B19.out.trans (hW.mono B19.out.size))))
    rw [hqd, parse_print HRM.out (by have := (HAT.out w9 B19.out).p; show a.place ≤ _; omega)] at h
    exact h
  have HQ := Hid.out (p := Hid _) hq
  obtain ⟨u0, u1, u2, u3, u4, u5⟩ := adr_cells (HKA.out w9 B19.out)
  clear hap hpr hpl hy hyd hqd hq hp G9
  go_wp2_with (at_builtin; refine wpList_append_run (.slice (some ⟨w7.heap.size, 0, none⟩) 1 1) (.slice pa a.path.length pc) 27 HAP.out rfl _ _ rfl rfl rfl ?_)
  refine (Calls.mono HPR.out ?_)
  rintro z w10 ⟨rfl, hb10⟩
  have B910 : Hid (Below w9.heap.size w9 w10) := hb10
  have hl9 := heap_lt V9.out
  have V10 : Hid (w10.heap[w6.heap.size]? = some (.cells (arrA ka' kc' (moreA a m)) 29 (0, 0))) := (hb10.block _ hl9).trans V9.out
  have HPB10 : Hid (Calls Tryz.prog 41 #[.agg #[.slice ka' (a.path.length + 1) kc', .string a.type, .string a.name, .int .i64 a.key, .int .u64 a.place, .string a.word]] w10 fun e w' => e = .returned (.string q) ∧ Below w10.heap.size w10 w') := HPB.out w10 hb10
  obtain ⟨v0, v1, v2, v3, v4, v5⟩ : w10.cell? ⟨w6.heap.size, 0, none⟩ = some (.slice ka' (a.path.length + 1) kc') ∧ w10.cell? ⟨w6.heap.size, 1, none⟩ = some (.string a.type) ∧ w10.cell? ⟨w6.heap.size, 2, none⟩ = some (.string a.name) ∧ w10.cell? ⟨w6.heap.size, 3, none⟩ = some (.int .i64 a.key) ∧ w10.cell? ⟨w6.heap.size, 4, none⟩ = some (.int .u64 a.place) ∧ w10.cell? ⟨w6.heap.size, 5, none⟩ = some (.string a.word) := adr_cells V10.out
  clear hb10 HPR HPB u0 u1 u2 u3 u4 u5 x0 x1 x2 x3 x4 x5 x70 f0 c0 hw9 hw7
  go_wp2_with fail
  refine (Calls.mono HPB10.out ?_)
  rintro z w11 ⟨rfl, hb11⟩
  have B911 : Hid (Below w9.heap.size w9 w11) := B910.out.trans (hb11.mono B910.out.size)
  have V11 : Hid (w11.heap[w6.heap.size]? = some (.cells (arrA ka' kc' (moreA a m)) 29 (0, 0))) := (hb11.block _ (heap_lt V10.out)).trans V10.out
  have HPA11 : Hid (Calls Tryz.prog 39 #[.string q] w11 (APost (some (moreA a m)) w11)) := HPA.out w11 B911.out
  have hq := HQ.out
  clear hb11 HPB10 HPA v0 v1 v2 v3 v4 v5
  go_wp2_with fail
  refine (Calls.mono HPA11.out ?_)
  rintro z w12 hz
  obtain ⟨pe, pf, rfl, t12, B12⟩ := hz.to (moreA a m) rfl 0 rfl
  obtain ⟨w13, hw13, V13, B13⟩ := adr_new w12 pe pf (moreA a m)
  have hs12 := B12.out.size
  have B1113 : Hid (Below w11.heap.size w11 w13) := B12.out.trans (B13.out.mono hs12)
  have B913 : Hid (Below w9.heap.size w9 w13) := B911.out.trans (B1113.out.mono B911.out.size)
  have V1113 : Hid (w13.heap[w6.heap.size]? = some (.cells (arrA ka' kc' (moreA a m)) 29 (0, 0))) := (B1113.out.block _ (heap_lt V11.out)).trans V11.out
  have hsm := same_words (moreA a m) (moreA a m) ka' pe kc' pf w13 (TX9.out w13 B913.out).t (t12.out.turn (Jdec.Turn.below B13.out)) (by show (m :: a.path).length ≤ 1048576; rw [List.length_cons]; omega) rfl
  have HSM : Hid (Calls Tryz.prog 17 #[.agg #[.slice ka' (a.path.length + 1) kc', .string a.type, .string a.name, .int .i64 a.key, .int .u64 a.place, .string a.word], .agg #[.slice pe (moreA a m).path.length pf, .string (moreA a m).type, .string (moreA a m).name, .int .i64 (moreA a m).key, .int .u64 (moreA a m).place, .string (moreA a m).word]] w13 fun e w' => e = .returned (.bool true) ∧ Below w13.heap.size w13 w') := hsm
  obtain ⟨v0, v1, v2, v3, v4, v5⟩ : w13.cell? ⟨w6.heap.size, 0, none⟩ = some (.slice ka' (a.path.length + 1) kc') ∧ w13.cell? ⟨w6.heap.size, 1, none⟩ = some (.string a.type) ∧ w13.cell? ⟨w6.heap.size, 2, none⟩ = some (.string a.name) ∧ w13.cell? ⟨w6.heap.size, 3, none⟩ = some (.int .i64 a.key) ∧ w13.cell? ⟨w6.heap.size, 4, none⟩ = some (.int .u64 a.place) ∧ w13.cell? ⟨w6.heap.size, 5, none⟩ = some (.string a.word) := adr_cells V1113.out
  obtain ⟨u0, u1, u2, u3, u4, u5⟩ := adr_cells V13.out
  clear hz hsm
  go_wp2_with fail
  refine (Calls.mono HSM.out ?_)
  rintro z w14 ⟨rfl, hb14⟩
  have B14 : Hid (Below w.heap.size w w14) := (HBW.out w13 (B19.out.trans (B913.out.mono B19.out.size))).trans (hb14.mono (HBW.out w13 (B19.out.trans (B913.out.mono B19.out.size))).size)
  clear hb14
  go_wp2_with fail
  go_ret
  exact ⟨rfl, B14.out⟩
theorem addrPaths_arg (v : Value) (a : Adr) (m : ByteArray) (w : World) (h : ∃ pa pc, v = wordsA pa pc a ∧ AdrIn w pa a) (hm : m.size ≤ 9223372036854775807) (T : TabsP w) :
    Calls Tryz.prog 12 #[v, .string m] w fun e w' => e = .returned (.bool true) ∧ Below w.heap.size w w' := by
  obtain ⟨pa, pc, rfl, h0⟩ := h
  exact addrPaths_any a pa pc m w T h0 hm
end Go.Proofs.YtmjlklefpiciaaaGreatDoor.Addr
