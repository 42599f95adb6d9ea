/- quote.Scan. -/
import Derived.Test.YtbfkgddhpabioaaDoorQuoteD
import Derived.Test.YtbfkgddhpabioaaDoorPlainA
import Derived.Deep.RegionWith
import Derived.Deep.RegionHeld3
namespace Go.Proofs.YtbfkgddhpabioaaDoor.Quote
open Go.RowKit Go.Proofs.YtbfkgddhpabioaaDoor.Utf
set_option linter.unusedVariables false
set_option linter.unusedSimpArgs false
set_option maxRecDepth 100000

/-- What Scan tells. -/
def scanV (s : ByteArray) : Value :=
  match scan s.data.toList with
  | .error k => .tuple #[.string ⟨#[]⟩, .int .i64 0, .int .i64 k]
  | .ok (o, n) => .tuple #[.string ⟨o.toArray⟩, .int .i64 n, .int .i64 0]

theorem fresh (w : World) (src : ByteArray) : Rdr (w.alloc (.cells #[.string src, .int .i64 0, .pointer none, .slice none 0 0] 110)) w.heap.size w.heap.size src 0 [] :=
  ⟨#[.string src, .int .i64 0, .pointer none, .slice none 0 0], ⟨Nat.le_refl _, heap_alloc_new _ _, by show 2 + 1 < 4; decide, .inl rfl, ⟨.slice none 0 0, rfl, World.ownsRow_nil _ _ _ _⟩, by decide, by kernel_rfl⟩, rfl, rfl, rfl⟩

/-- The three results' cells. -/
structure Res (w : World) (b : Nat) (v0 v1 v2 : Value) : Prop where
  r0 : w.heap[b]? = some (.cells #[v0] 9 (0, 0))
  r1 : w.heap[b + 1]? = some (.cells #[v1] 3 (0, 0))
  r2 : w.heap[b + 2]? = some (.cells #[v2] 30 (0, 0))
theorem Res.keeps {w w' : World} {b B b' : Nat} {v0 v1 v2 : Value} (h : Res w b v0 v1 v2) (hk : Keeps B b' w w') (hB : b + 2 < B) : Res w' b v0 v1 v2 :=
  ⟨(hk.below.block _ (by omega)).trans h.r0, (hk.below.block _ (by omega)).trans h.r1, (hk.below.block _ (by omega)).trans h.r2⟩

/-- A panic of an error comes out of the door as that error. -/
theorem door (w w' : World) (k : Nat) (src : ByteArray) (tm : Array Value) (hres : Res w' w.heap.size (.string ⟨#[]⟩) (.int .i64 0) (.int .i64 0)) (hb : Below w.heap.size w w') (hv : scanV src = .tuple #[.string ⟨#[]⟩, .int .i64 0, .int .i64 k])
    (h2 : tm[2]? = some (.pointer (some ⟨w.heap.size, 0, none⟩))) (h3 : tm[3]? = some (.pointer (some ⟨w.heap.size + 1, 0, none⟩))) (h4 : tm[4]? = some (.pointer (some ⟨w.heap.size + 2, 0, none⟩))) :
    bodyPostD Tryd.prog Tryd.f71 (fun e w' => e = .returned (scanV src) ∧ Below w.heap.size w w') (Exit.panic (thrown k))
      { tmps := tm, defers := [{ target := Target.fn (Fn.func 91) #[.pointer (some ⟨w.heap.size, 0, none⟩), .pointer (some ⟨w.heap.size + 1, 0, none⟩), .pointer (some ⟨w.heap.size + 2, 0, none⟩)], args := #[] }] } w' := by
  refine leaves_cons (f := 91) (args := #[.pointer (some ⟨w.heap.size, 0, none⟩), .pointer (some ⟨w.heap.size + 1, 0, none⟩), .pointer (some ⟨w.heap.size + 2, 0, none⟩)]) (by simp) (by simp [go_sem]) ?_
  refine (scan1_caught w.heap.size k _ _ _ w' hres.r0 hres.r1 hres.r2).mono ?_
  rintro e u' w'' ⟨rfl, rfl, hb2, c0, c1, c2⟩
  have e0 := cell_of c0 0
  have e1 := cell_of c1 0
  have e2 := cell_of c2 0
  simp only [settle, List.dropWhile_nil]
  refine ⟨scanV src, ?_, rfl, hb.trans hb2⟩
  rw [hv]
  simp [results, Tryd.results71, go_sem, h2, h3, h4, e0, e1, e2]
theorem door_ok (w w' : World) (src : ByteArray) (tm : Array Value) (v0 v1 v2 : Value) (hres : Res w' w.heap.size v0 v1 v2) (hb : Below w.heap.size w w') (hv : scanV src = .tuple #[v0, v1, v2])
    (h2 : tm[2]? = some (.pointer (some ⟨w.heap.size, 0, none⟩))) (h3 : tm[3]? = some (.pointer (some ⟨w.heap.size + 1, 0, none⟩))) (h4 : tm[4]? = some (.pointer (some ⟨w.heap.size + 2, 0, none⟩))) :
    bodyPostD Tryd.prog Tryd.f71 (fun e w' => e = .returned (scanV src) ∧ Below w.heap.size w w') Exit.ret
      { tmps := tm, defers := [{ target := Target.fn (Fn.func 91) #[.pointer (some ⟨w.heap.size, 0, none⟩), .pointer (some ⟨w.heap.size + 1, 0, none⟩), .pointer (some ⟨w.heap.size + 2, 0, none⟩)], args := #[] }] } w' := by
  refine leaves_cons (f := 91) (args := #[.pointer (some ⟨w.heap.size, 0, none⟩), .pointer (some ⟨w.heap.size + 1, 0, none⟩), .pointer (some ⟨w.heap.size + 2, 0, none⟩)]) (by simp) (by simp [go_sem]) ?_
  refine (scan1_idle _ _ _ w').mono ?_
  rintro e u' w'' ⟨rfl, rfl, rfl⟩
  have e0 := cell_of hres.r0 0
  have e1 := cell_of hres.r1 0
  have e2 := cell_of hres.r2 0
  simp only [settle]
  refine ⟨scanV src, ?_, rfl, hb⟩
  rw [hv]
  simp [results, Tryd.results71, go_sem, h2, h3, h4, e0, e1, e2]

theorem rString (B b : Nat) (src : ByteArray) (p : Nat) (out : List UInt8) (w : World) (h : Rdr w B b src p out) :
    Calls Tryd.prog 95 #[.pointer (some ⟨b, 2, none⟩)] w fun e w' => e = .returned (.string ⟨out.toArray⟩) ∧ Keeps B b w w' ∧ w'.cell? ⟨b, 1, none⟩ = some (.int .i64 p) := by
  obtain ⟨cs, hb, hs, h0, h1⟩ := h.it
  refine (string_any B b 2 _ cs out w hb (by have := h.hB; have := h.lt; omega)).mono ?_
  rintro e w' ⟨rfl, hk, hc⟩
  exact ⟨rfl, hk, by rw [cell_of hc]; exact h1⟩

set_option maxHeartbeats 2000000 in
theorem scan_any (src : ByteArray) (w : World) (hs : src.size ≤ 1099511627776) (T : Sizes w) :
    Calls Tryd.prog 71 #[.string src] w fun e w' => e = .returned (scanV src) ∧ Below w.heap.size w w' := by
  have HT := Hid.out (p := Hid _) T; clear T
  have hmf : ∀ (fn : Fn) (first cap : Array Value) (w : World), (Instr.makeFunc fn first cap).run Tryd.prog w = .ok (.func fn first cap) w := fun _ _ _ _ => rfl
  go_enter_defers Tryd.func71, Tryd.ntmps71
  go_wp2_with fail
  obtain ⟨b, hb⟩ : ∃ b, b = w.heap.size + 1 + 1 + 1 := ⟨_, rfl⟩
  obtain ⟨W0, hW0⟩ : ∃ W0, W0 = (((w.alloc (.cells #[.string ⟨#[]⟩] 9)).alloc (.cells #[.int .i64 0] 3)).alloc (.cells #[.int .i64 0] 30)).alloc (.cells #[.string src, .int .i64 0, .pointer none, .slice none 0 0] 110) := ⟨_, rfl⟩
  have R0 : Hid (Rdr W0 b b src 0 []) := by
    have := fresh (((w.alloc (.cells #[.string ⟨#[]⟩] 9)).alloc (.cells #[.int .i64 0] 3)).alloc (.cells #[.int .i64 0] 30)) src
    rw [hW0, hb, Hid]; simpa using this
  have S0 : Hid (Res W0 w.heap.size (.string ⟨#[]⟩) (.int .i64 0) (.int .i64 0)) := by
    rw [hW0]
    refine ⟨heap_alloc_old (heap_alloc_old (heap_alloc_old (heap_alloc_new _ _))), heap_alloc_old (heap_alloc_old ?_), heap_alloc_old ?_⟩
    · have := heap_alloc_new (w.alloc (.cells #[.string ⟨#[]⟩] 9)) (.cells #[.int .i64 0] 3); simpa using this
    · have := heap_alloc_new ((w.alloc (.cells #[.string ⟨#[]⟩] 9)).alloc (.cells #[.int .i64 0] 3)) (.cells #[.int .i64 0] 30); simpa using this
  have B0 : Hid (Below w.heap.size w W0) := by
    rw [hW0]
    exact ((((Below.refl _ _).alloc (Nat.le_refl _) _).alloc (by simp) _).alloc (by simp; omega) _).alloc (by simp; omega) _
  have T0 : Hid (Sizes W0) := HT.out.stays B0.out
  have hTB : 3 < b := by have := HT.out.lt; omega
  have hbb : w.heap.size + 2 < b := by omega
  have hbw : w.heap.size < b := by omega
  have hvv : Hid (∃ v, v = scanV src) := ⟨_, rfl⟩
  rw [← hW0, ← hb]
  clear hW0
  by_cases h0 : src.size = 0
  · refine (next_no b b src 0 [] W0 R0.out (by omega) (by omega) (by omega)).mono ?_
    rintro e w1 ⟨rfl, hk⟩
    have K1 : Hid (Keeps b b W0 w1) := hk
    have hv : Hid (scanV src = .tuple #[.string ⟨#[]⟩, .int .i64 0, .int .i64 2]) := by
      rw [Hid, scanV, scan, if_pos (by simpa using h0)]; rfl
    clear hk
    go_wp2_with fail
    exact door w w1 2 src _ (S0.out.keeps K1.out hbb) (B0.out.trans (K1.out.below.mono (by omega))) hv.out rfl rfl rfl
  have hpos : 0 < src.size := by omega
  have hb0 : byt src.data.toList 0 = src[0].toNat := by have := byt_drop src 0 0 (by omega); simpa using this
  by_cases h34 : src[0].toNat = 34
  · have q34 : ((src[0].toNat : Int) != 34) = false := by rw [h34]; rfl
    have hsc : Hid (scan src.data.toList = partsAt src.data.toList 1 []) := scan_at _ (by simpa using h0) (by rw [hb0]; exact h34)
    clear h34 hb0
    refine (next_yes b b src 0 [] W0 R0.out hpos (by omega)).mono ?_
    rintro e w1 ⟨rfl, h1, hk⟩
    have K1 : Hid (Keeps b b W0 w1) := hk
    have R1 := Hid.out (p := Hid _) h1
    clear h1 hk
    go_wp2_with fail
    rw [← hb]
    clear hb
    go_loopw [] (fun wr => ∃ (p : Nat) (out : List UInt8), Hid (Rdr wr b b src p out) ∧ Hid (Keeps b b W0 wr) ∧ p ≤ src.size ∧ out.length ≤ p ∧ Hid (scan src.data.toList = partsAt src.data.toList p out)) (fun wr => src.size - (intOf ((wr.cell? ⟨b, 1, none⟩).getD undef)).toNat)
    case atStart => exact ⟨1, [], R1.out, K1.out, by omega, by simp, hsc.out⟩
    case round =>
      obtain ⟨p, out, hR, hK, hp, hol, hsc2⟩ := hrel
      have TR : Hid (Sizes wr) := T0.out.keeps hK.out hTB
      have hst := partsAt_step src.data.toList p out (by simpa using hp)
      have HST := Hid.out (p := Hid _) hst; clear hst
      go_wp2_with fail
      refine (part_any b b src p out wr hR.out hp hs hol TR.out hTB).mono ?_
      rintro e w2 ⟨hk, h2⟩
      have K2 : Hid (Keeps b b W0 w2) := hK.out.trans hk
      clear hk
      cases hpt : part (src.data.toList.drop p) with
      | error k =>
        rw [partR, hpt] at h2
        simp only [] at h2
        obtain rfl := h2
        have hv : Hid (scanV src = .tuple #[.string ⟨#[]⟩, .int .i64 0, .int .i64 k]) := by
          rw [Hid, scanV, hsc2.out, HST.out, hpt]
        clear hpt
        go_wp2_with fail
        exact door w w2 k src _ (S0.out.keeps K2.out hbb) (B0.out.trans (K2.out.below.mono (by omega))) hv.out rfl rfl rfl
      | ok x =>
        obtain ⟨o, n, g⟩ := x
        have hps := part_size hpt
        rw [List.length_drop, show src.data.toList.length = src.size by simp] at hps
        rw [partR, hpt] at h2
        simp only [] at h2
        obtain ⟨rfl, hr2⟩ := h2
        have R2 : Hid (Rdr w2 b b src (p + n) (out ++ o)) := hr2
        clear hr2
        cases g with
        | true =>
          have hsc3 : Hid (scan src.data.toList = partsAt src.data.toList (p + n) (out ++ o)) := by
            rw [Hid, hsc2.out, HST.out, hpt]
          clear hpt
          go_wp2_with fail
          go_roundw
          case rel => exact ⟨p + n, out ++ o, R2.out, K2.out, by omega, by rw [List.length_append]; omega, hsc3.out⟩
          case measure =>
            rw [R2.out.c1, hR.out.c1]
            simp [intOf]; omega
        | false =>
          have hv : Hid (scanV src = .tuple #[.string ⟨(out ++ o).toArray⟩, .int .i64 (p + n : Nat), .int .i64 0]) := by
            rw [Hid, scanV, hsc2.out, HST.out, hpt]
          clear hpt
          go_wp2_with fail
          have S2 : Hid (Res w2 w.heap.size (.string ⟨#[]⟩) (.int .i64 0) (.int .i64 0)) := S0.out.keeps K2.out hbb
          have B2 : Hid (Below w.heap.size w w2) := B0.out.trans (K2.out.below.mono (by omega))
          clear S0 B0 K2
          have c12 := R2.out.c1
          generalize hl2 : out ++ o = out2 at *
          have R2d : Rdr w2.drew b b src (p + n) out2 := R2.out.stays ((Below.refl _ _).drew)
          have S2d : Res w2.drew w.heap.size (.string ⟨#[]⟩) (.int .i64 0) (.int .i64 0) := ⟨S2.out.r0, S2.out.r1, S2.out.r2⟩
          refine wp_region_noPanic ?_
          go_region_with (go_at_call 95; refine (rString b b src (p + n) out2 w2.drew R2d).mono ?_; rintro e w9 ⟨rfl, hk9, hc9⟩; have S9 := S2d.keeps hk9 hbb; have z0 := cell_of S9.r0 0; have z1 := cell_of S9.r1 0; have z2 := cell_of S9.r2 0; have y0 := frozen_of S9.r0 0; have y1 := frozen_of S9.r1 0; have y2 := frozen_of S9.r2 0)
          all_goals
            refine NoPanic.normal ?_
            go_wp2_with fail
            refine door_ok w _ src _ (.string ⟨out2.toArray⟩) (.int .i64 ((p : Int) + n)) (.int .i64 0) ?_ ?_ ?_ rfl rfl rfl
            · exact ⟨heap_set_other (heap_set_other (heap_set_same S9.r0 _) (by omega) _) (by omega) _, heap_set_other (heap_set_same (heap_set_other S9.r1 (by omega) _) _) (by omega) _, heap_set_same (heap_set_other (heap_set_other S9.r2 (by omega) _) (by omega) _) _⟩
            · refine Below.setCell (Below.setCell (Below.setCell ((B2.out.drew).trans (hk9.below.mono (by omega))) ?_ _) ?_ _) ?_ _
              · exact Nat.le_refl _
              · show w.heap.size ≤ w.heap.size + 1; omega
              · show w.heap.size ≤ w.heap.size + 1 + 1; omega
            · rw [hv.out]; rfl
  · have q34 : ((src[0].toNat : Int) != 34) = true := by rw [bne_iff_ne]; omega
    have hv : Hid (scanV src = .tuple #[.string ⟨#[]⟩, .int .i64 0, .int .i64 3]) := by
      rw [Hid, scanV, scan, if_neg (by simpa using h0), if_pos (by rw [hb0]; omega)]; rfl
    clear h34 hb0
    refine (next_yes b b src 0 [] W0 R0.out hpos (by omega)).mono ?_
    rintro e w1 ⟨rfl, h1, hk⟩
    have K1 : Hid (Keeps b b W0 w1) := hk
    clear h1 hk
    go_wp2_with fail
    refine (fail_any 3 _).mono ?_
    rintro e w' ⟨rfl, rfl⟩
    go_wp2_with fail
    exact door w w1 3 src _ (S0.out.keeps K1.out hbb) (B0.out.trans (K1.out.below.mono (by omega))) hv.out rfl rfl rfl
end Go.Proofs.YtbfkgddhpabioaaDoor.Quote
