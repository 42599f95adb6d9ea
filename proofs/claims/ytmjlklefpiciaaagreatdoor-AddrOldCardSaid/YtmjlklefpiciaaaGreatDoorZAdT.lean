/- addr.Parse. -/
import Derived.Test.YtmjlklefpiciaaaGreatDoorZAdO
import Derived.Test.YtmjlklefpiciaaaGreatDoorZRefOB
import Derived.Test.YtmjlklefpiciaaaGreatDoorZAdF
import Derived.Test.YtmjlklefpiciaaaGreatDoorZRefPS
namespace Go.Proofs.YtmjlklefpiciaaaGreatDoor.Addr
open Go.RowKit Go.Shelf Go.Proofs.YtmjlklefpiciaaaGreatDoor.Utf Go.Proofs.YtmjlklefpiciaaaGreatDoor.Strs Go.Proofs.YtmjlklefpiciaaaGreatDoor.Lex
open Go.Proofs.YtmjlklefpiciaaaGreatDoor.Jdec (gb_refl gb_drew gb_set gb_below IsTexts infoStr)
set_option linter.unusedVariables false
set_option linter.unusedSimpArgs false
set_option maxRecDepth 100000

def sizeV : Value → Nat
  | .string s => s.size
  | _ => 0
/-- Where the reading stands. -/
structure PI (w wr : World) (s : ByteArray) (ks : List ByteArray) (pa : Option Addr) (pc : Nat) (s' : ByteArray) : Prop where
  A : wr.heap[w.heap.size + 1]? = some (.cells (arrA pa pc (adr0 ks ⟨#[]⟩ ⟨#[]⟩)) 29 (0, 0))
  R : wr.heap[w.heap.size]? = some (.cells (arrA none 0 zeroA) 29 (0, 0))
  K : RowT wr (w.heap.size + 2) (.slice pa ks.length pc) ks
  B : Below w.heap.size w wr
  S : w.heap.size + 2 ≤ wr.heap.size
  E : pathP 22 [] s.data.toList = pathP (22 - ks.length) ks s'.data.toList
  n : ks.length ≤ 20
  z : s'.size ≤ s.size
  zs : ∀ k ∈ ks, k.size ≤ s.size
theorem PI.stays {w wr wx : World} {s : ByteArray} {ks : List ByteArray} {pa : Option Addr} {pc : Nat} {s' : ByteArray} (h : PI w wr s ks pa pc s') (hb : Below wr.heap.size wr wx) : PI w wx s ks pa pc s' :=
  ⟨(hb.block _ (heap_lt h.A)).trans h.A, (hb.block _ (heap_lt h.R)).trans h.R, h.K.stays hb, h.B.trans (hb.mono h.B.size), Nat.le_trans h.S hb.size, h.E, h.n, h.z, h.zs⟩
theorem zero_new (w : World) : ∃ w1, w.alloc (.cells #[.slice none 0 0, .string ⟨#[]⟩, .string ⟨#[]⟩, .int .i64 0, .int .u64 0, .string ⟨#[]⟩] 29) = w1 ∧ Hid (w1.heap[w.heap.size]? = some (.cells (arrA none 0 zeroA) 29 (0, 0))) ∧ Hid (Below w.heap.size w w1) ∧ Hid (w1.heap.size = w.heap.size + 1) :=
  ⟨_, rfl, heap_alloc_new _ _, (Below.refl _ _).alloc (Nat.le_refl _) _, by simp [Hid]⟩
theorem parse_ret (r : Option Adr) (w w' : World) (tm : Array Value) (pa : Option Addr) (pc : Nat) (a : Adr) (er : Int) (hb : w'.heap[w.heap.size]? = some (.cells (arrA pa pc a) 29 (0, 0)))
    (h2 : tm[2]? = some (.pointer (some ⟨w.heap.size, 0, none⟩))) (h3 : tm[3]? = some (.int .i64 er)) (hp : APost r w (.returned (.tuple #[wordsA pa pc a, .int .i64 er])) w') :
    bodyPost Tryz.prog Tryz.f39 (APost r w) Exit.ret { tmps := tm, defers := [] } w' := by
  obtain ⟨c0, c1, c2, c3, c4, c5⟩ := adr_cells hb
  refine bodyPost_ret (v := .tuple #[wordsA pa pc a, .int .i64 er]) ?_ rfl hp
  simp [results, Tryz.results39, go_sem, h2, h3, c0, c1, c2, c3, c4, c5, wordsA]
/-- The end beside an error. -/
theorem parse_none (s : ByteArray) (w w2 : World) (tm : Array Value) (pa : Option Addr) (pc : Nat) (a : Adr) (hb : w2.heap[w.heap.size]? = some (.cells (arrA pa pc a) 29 (0, 0))) (hB : Below w.heap.size w w2) (hr : parseP s.data.toList = none)
    (h2 : tm[2]? = some (.pointer (some ⟨w.heap.size, 0, none⟩))) (h3 : tm[3]? = some (.int .i64 3)) :
    bodyPost Tryz.prog Tryz.f39 (APost (parseP s.data.toList) w) Exit.ret { tmps := tm, defers := [] }
      ((((((w2.setCell ⟨w.heap.size, 0, none⟩ (.slice none 0 0)).setCell ⟨w.heap.size, 1, none⟩ (.string ⟨#[]⟩)).setCell ⟨w.heap.size, 2, none⟩ (.string ⟨#[]⟩)).setCell ⟨w.heap.size, 3, none⟩ (.int .i64 0)).setCell ⟨w.heap.size, 4, none⟩ (.int .u64 0)).setCell ⟨w.heap.size, 5, none⟩ (.string ⟨#[]⟩)) := by
  refine parse_ret _ w _ tm none 0 zeroA 3 (setA hb none 0 zeroA) h2 h3 ?_
  rw [hr]
  exact ⟨none, 0, rfl, .inl rfl, hB.grown (gb6 w2 w.heap.size _ _ _ _ _ _) hB.size (fun k hk => by injection hk with hk; omega)⟩
theorem keyP_word {l : List UInt8} {k : Int × Nat × ByteArray} (h : keyP l = some k) : k.2.2.size ≤ l.length := by
  unfold keyP at h
  split at h
  · injection h with h; subst h; exact Nat.zero_le _
  · split at h
    · cases h
    · have hm : ((l.drop 1).dropLast).length ≤ l.length := by rw [List.length_dropLast, List.length_drop]; omega
      generalize (l.drop 1).dropLast = m at *
      unfold innerP at h
      split at h
      · split at h
        · rename_i o n hsc
          split at h
          · cases h
          · injection h with h; subst h
            have := (Jdec.quote_fits hsc).2
            show (⟨o.toArray⟩ : ByteArray).size ≤ _
            have e : (⟨o.toArray⟩ : ByteArray).size = o.length := by simp [ByteArray.size]
            omega
        · cases h
      · split at h
        · injection h with h; subst h; exact Nat.zero_le _
        · cases h
theorem texts_at {w : World} {B B' : Nat} {a : Option Addr} {l : List ByteArray} (h : IsTexts w (fun b => B ≤ b) a l) (hb : B' ≤ B) : IsTexts w (fun b => B' ≤ b) a l := h.turn (Jdec.Turn.mono w (fun b h _ => by omega))
/-- The end beside an address. -/
theorem parse_some (r : Option Adr) (w w2 : World) (tm : Array Value) (pa pb : Option Addr) (pc pd : Nat) (a c : Adr) (hb : w2.heap[w.heap.size]? = some (.cells (arrA pa pc a) 29 (0, 0))) (hB : Below w.heap.size w w2) (hr : r = some c) (hk : RowT w2 (w.heap.size + 2) (.slice pb c.path.length pd) c.path)
    (h2 : tm[2]? = some (.pointer (some ⟨w.heap.size, 0, none⟩))) (h3 : tm[3]? = some (.int .i64 0)) :
    bodyPost Tryz.prog Tryz.f39 (APost r w) Exit.ret { tmps := tm, defers := [] }
      ((((((w2.setCell ⟨w.heap.size, 0, none⟩ (.slice pb c.path.length pd)).setCell ⟨w.heap.size, 1, none⟩ (.string c.type)).setCell ⟨w.heap.size, 2, none⟩ (.string c.name)).setCell ⟨w.heap.size, 3, none⟩ (.int .i64 c.key)).setCell ⟨w.heap.size, 4, none⟩ (.int .u64 c.place)).setCell ⟨w.heap.size, 5, none⟩ (.string c.word)) := by
  have hg := gb6 w2 w.heap.size (.slice pb c.path.length pd) (.string c.type) (.string c.name) (.int .i64 c.key) (.int .u64 c.place) (.string c.word)
  refine parse_ret _ w _ tm pb pd c 0 (setA hb pb pd c) h2 h3 ?_
  rw [hr]
  exact ⟨pb, pd, rfl, texts_at (hk.kept hg (.inr (hk.ne (by omega)))).texts (by omega), hB.grown hg hB.size (fun k hk => by injection hk with hk; omega)⟩
set_option maxHeartbeats 4000000 in
theorem parse_any (s : ByteArray) (w : World) (hs : s.size ≤ 1000000) (T : TabsP w) :
    Calls Tryz.prog 39 #[.string s] w (APost (parseP s.data.toList) w) := by
  have HT : Hid (TabsP w) := T
  obtain ⟨w1, hw1, R1, B1, Z1⟩ := zero_new w
  obtain ⟨w2, hw2, A2, B2, Z2⟩ := zero_new w1
  have hP2 : Hid (PI w w2 s [] none 0 s) := by
    have z1 := Z1.out
    have z2 := Z2.out
    refine ⟨?_, (B2.out.block _ (heap_lt R1.out)).trans R1.out, RowT.nil _ _, B1.out.trans (B2.out.mono (by omega)), by omega, rfl, by simp, Nat.le_refl _, fun k hk => by cases hk⟩
    have := A2.out
    rw [z1] at this
    exact this
  have hn1 : w1.heap.size = w.heap.size + 1 := Z1.out
  clear T
  go_enter Tryz.func39, Tryz.ntmps39
  go_wp2_with fail
  clear hw1 hw2 hn1 R1 A2 B1 B2 Z1 Z2
  go_loopw [0] (fun p wr => ∃ s' ks pa pc, p = .string s' ∧ Hid (PI w wr s ks pa pc s')) (fun p _ => sizeV p)
  case atStart => exact ⟨s, [], none, 0, rfl, hP2⟩
  case round =>
    obtain ⟨s', ks, pa, pc, rfl, hP⟩ := hrel
    have hz := hP.out.z
    have hcut := cut_any s' wr (by omega) (HT.out.stays hP.out.B).t.m
    have HE : Hid (pathP 22 [] s.data.toList = pathP (22 - ks.length) ks s'.data.toList) := hP.out.E
    cases hc : cutB 46 s'.data.toList with
    | none =>
      rw [hc] at hcut
      have HC := Hid.out (p := Hid _) hcut
      have hk := hP.out.n
      have HF : Hid (parseP s.data.toList = none) := by
        rw [Hid, parseP, HE.out, show 22 - ks.length = (21 - ks.length) + 1 by omega, pathP, hc]
      clear hcut hc hk hP2
      go_wp2_with fail
      refine (Calls.mono HC.out ?_)
      rintro z w3 ⟨rfl, n, rfl⟩
      have hb3 : Below wr.heap.size wr (wr.drewN n) := below_drewN (Below.refl _ _) n
      have P3 : Hid (PI w (wr.drewN n) s ks pa pc s') := hP.out.stays hb3
      clear hb3
      generalize wr.drewN n = w3 at *
      have f := adr_frozen P3.out.R
      have x := adr_cells P3.out.R
      obtain ⟨f0, f1, f2, f3, f4, f5⟩ := f
      obtain ⟨x0, x1, x2, x3, x4, x5⟩ := x
      go_wp2_with fail
      exact parse_none s w w3 _ _ _ _ P3.out.R P3.out.B HF.out rfl rfl
    | some y =>
      obtain ⟨a, b⟩ := y
      rw [hc] at hcut
      simp only [] at hcut
      have hab := (cutB_some hc).1
      have hsl : s'.data.toList.length = s'.size := by simp
      rw [hab, List.length_append, List.length_cons] at hsl
      obtain ⟨x, hx⟩ : ∃ x : ByteArray, (⟨a.toArray⟩ : ByteArray) = x := ⟨_, rfl⟩
      obtain ⟨y, hy⟩ : ∃ y : ByteArray, (⟨b.toArray⟩ : ByteArray) = y := ⟨_, rfl⟩
      have hxd : x.data.toList = a := by rw [← hx]
      have hyd : y.data.toList = b := by rw [← hy]
      have hys : b.length = y.size := by rw [← hyd]; simp
      have hxs : a.length = x.size := by rw [← hxd]; simp
      rw [hx, hy] at hcut
      have HC := Hid.out (p := Hid _) hcut
      have hkn := hP.out.n
      have HX := Hid.out (p := Hid _) hxd
      have HXV := Hid.out (p := Hid _) hx
      have HY := Hid.out (p := Hid _) hyd
      have HPS : Hid (pathP (22 - ks.length) ks s'.data.toList = if a = moduleL then (match cutB 46 b with
          | none => none
          | some (x, r') => if ks.length = 20 then none else pathP (21 - ks.length) (ks ++ [⟨x.toArray⟩]) r') else some (ks, a, b)) := by
        rw [Hid, show 22 - ks.length = (21 - ks.length) + 1 by omega, pathP, hc]; rfl
      have hyz : y.size < s'.size := by omega
      have hxz : x.size ≤ s.size := by omega
      clear hcut hc hx hy hxd hyd hP2 hab hsl hys hxs
      by_cases hm : a = moduleL
      · have q1 : (x.toList == [109, 111, 100, 117, 108, 101]) = true := by rw [ByteArray.toList_eq, HX.out, hm]; rfl
        have hcut2 := fun w' => cut_any y w' (by omega)
        rw [HY.out] at hcut2
        have HM : Hid (∀ W', Below w.heap.size w W' → MaxL W') := fun W' hb => (HT.out.stays hb).t.m
        cases hc2 : cutB 46 b with
        | none =>
          rw [hc2] at hcut2
          have HC2 := Hid.out (p := Hid _) hcut2
          have HF : Hid (parseP s.data.toList = none) := by
            rw [Hid, parseP, HE.out, HPS.out, if_pos hm, hc2]
          clear hcut2 hc2 hm HPS
          go_wp2_with fail
          refine (Calls.mono HC.out ?_)
          rintro z w3 ⟨rfl, n, rfl⟩
          have hb3 : Below wr.heap.size wr (wr.drewN n) := below_drewN (Below.refl _ _) n
          have P3 : Hid (PI w (wr.drewN n) s ks pa pc s') := hP.out.stays hb3
          clear hb3
          generalize wr.drewN n = w3 at *
          go_wp2_with fail
          refine (Calls.mono (HC2.out w3 (HM.out w3 P3.out.B)) ?_)
          rintro z w4 ⟨rfl, n, rfl⟩
          have hb4 : Below w3.heap.size w3 (w3.drewN n) := below_drewN (Below.refl _ _) n
          have P4 : Hid (PI w (w3.drewN n) s ks pa pc s') := P3.out.stays hb4
          clear hb4
          generalize w3.drewN n = w4 at *
          obtain ⟨f0, f1, f2, f3, f4, f5⟩ := adr_frozen P4.out.R
          obtain ⟨x0, x1, x2, x3, x4, x5⟩ := adr_cells P4.out.R
          go_wp2_with fail
          exact parse_none s w w4 _ _ _ _ P4.out.R P4.out.B HF.out rfl rfl
        | some z =>
          obtain ⟨c, d⟩ := z
          rw [hc2] at hcut2
          simp only [] at hcut2
          have hcd := (cutB_some hc2).1
          have hbl : b.length = y.size := by rw [← HY.out]; simp
          rw [hcd, List.length_append, List.length_cons] at hbl
          obtain ⟨u, hu⟩ : ∃ u : ByteArray, (⟨c.toArray⟩ : ByteArray) = u := ⟨_, rfl⟩
          obtain ⟨v, hv⟩ : ∃ v : ByteArray, (⟨d.toArray⟩ : ByteArray) = v := ⟨_, rfl⟩
          have hvd : v.data.toList = d := by rw [← hv]
          have hud : u.data.toList = c := by rw [← hu]
          have hvs : d.length = v.size := by rw [← hvd]; simp
          have hus : c.length = u.size := by rw [← hud]; simp
          rw [hu, hv] at hcut2
          have HC2 := Hid.out (p := Hid _) hcut2
          by_cases h20 : ks.length = 20
          · have HF : Hid (parseP s.data.toList = none) := by
              rw [Hid, parseP, HE.out, HPS.out, if_pos hm, hc2]; simp only []; rw [if_pos h20]
            have t20 : ((ks.length : Int) == 20) = true := by rw [h20]; rfl
            clear hcut2 hc2 hm HPS hcd hbl hu hv hvd hud hvs hus h20
            go_wp2_with fail
            refine (Calls.mono HC.out ?_)
            rintro z w3 ⟨rfl, n, rfl⟩
            have hb3 : Below wr.heap.size wr (wr.drewN n) := below_drewN (Below.refl _ _) n
            have P3 : Hid (PI w (wr.drewN n) s ks pa pc s') := hP.out.stays hb3
            clear hb3
            generalize wr.drewN n = w3 at *
            go_wp2_with fail
            refine (Calls.mono (HC2.out w3 (HM.out w3 P3.out.B)) ?_)
            rintro z w4 ⟨rfl, n, rfl⟩
            have hb4 : Below w3.heap.size w3 (w3.drewN n) := below_drewN (Below.refl _ _) n
            have P4 : Hid (PI w (w3.drewN n) s ks pa pc s') := P3.out.stays hb4
            clear hb4
            generalize w3.drewN n = w4 at *
            obtain ⟨f0, f1, f2, f3, f4, f5⟩ := adr_frozen P4.out.R
            obtain ⟨x0, x1, x2, x3, x4, x5⟩ := adr_cells P4.out.R
            have a0 : w4.cell? ⟨w.heap.size + 1, 0, none⟩ = some (.slice pa ks.length pc) := cell_of P4.out.A 0
            go_wp2_with fail
            exact parse_none s w w4 _ _ _ _ P4.out.R P4.out.B HF.out rfl rfl
          · have t20 : ((ks.length : Int) == 20) = false := by rw [beq_eq_false_iff_ne]; omega
            have HE2 : Hid (pathP 22 [] s.data.toList = pathP (22 - (ks ++ [u]).length) (ks ++ [u]) v.data.toList) := by
              rw [Hid, HE.out, HPS.out, if_pos hm, hc2]; simp only []; rw [if_neg h20, hu, hvd, List.length_append, List.length_singleton, show 22 - (ks.length + 1) = 21 - ks.length by omega]
            have HSZ : Hid (v.size < s'.size ∧ u.size ≤ s.size) := ⟨by omega, by omega⟩
            have hk20 : ks.length ≤ 19 := by omega
            clear hcut2 hc2 hm HPS hcd hbl hu hv hvd hud hvs hus h20
            go_wp2_with fail
            refine (Calls.mono HC.out ?_)
            rintro z w3 ⟨rfl, n, rfl⟩
            have hb3 : Below wr.heap.size wr (wr.drewN n) := below_drewN (Below.refl _ _) n
            have P3 : Hid (PI w (wr.drewN n) s ks pa pc s') := hP.out.stays hb3
            clear hb3
            generalize wr.drewN n = w3 at *
            go_wp2_with fail
            refine (Calls.mono (HC2.out w3 (HM.out w3 P3.out.B)) ?_)
            rintro z w4 ⟨rfl, n, rfl⟩
            have hb4 : Below w3.heap.size w3 (w3.drewN n) := below_drewN (Below.refl _ _) n
            have P4 : Hid (PI w (w3.drewN n) s ks pa pc s') := P3.out.stays hb4
            clear hb4
            generalize w3.drewN n = w4 at *
            have hS4 := P4.out.S
            obtain ⟨g, cap, w5, hr, K5, G5, hg5⟩ := app_one w4 (w.heap.size + 2) (.slice pa ks.length pc) ks u P4.out.K (by omega) hS4
            have HR := Hid.out (p := Hid _) hr
            have hne : ∀ b, b < w.heap.size + 2 → (Value.slice pa ks.length pc).ownBlock ≠ some b := fun b hb => P4.out.K.ne hb
            have A5 : Hid (w5.heap[w.heap.size + 1]? = some (.cells (arrA pa pc (adr0 ks ⟨#[]⟩ ⟨#[]⟩)) 29 (0, 0))) := (G5.out.block _ (by omega) (fun e => hne _ (by omega) e.symm)).trans P4.out.A
            have R5 : Hid (w5.heap[w.heap.size]? = some (.cells (arrA none 0 zeroA) 29 (0, 0))) := (G5.out.block _ (by omega) (fun e => hne _ (by omega) e.symm)).trans P4.out.R
            have B5 : Hid (Below w.heap.size w w5) := P4.out.B.grown G5.out P4.out.B.size (fun k hk => by have := World.ownsRow.lt P4.out.K k hk; omega)
            have hS5 := G5.out.size
            have P6 : Hid (PI w (w5.setCell ⟨w.heap.size + 1, 0, none⟩ (.slice (some ⟨g, 0, none⟩) (ks.length + 1) cap)) s (ks ++ [u]) (some ⟨g, 0, none⟩) cap v) := by
              refine ⟨?_, heap_set_other R5.out (by omega) _, ?_, B5.out.setCell (p := ⟨w.heap.size + 1, 0, none⟩) (by show w.heap.size ≤ w.heap.size + 1; omega) _, by simp; omega, HE2.out, by simp; omega, by have := HSZ.out.1; omega, ?_⟩
              · rw [heap_set_same A5.out]; simp [arrA, adr0]
              · rw [List.length_append, List.length_singleton]
                exact RowT.kept K5.out (gb_set _ _ _ _) (.inr (by simp [Value.ownBlock]; have := hg5.out; omega))
              · intro k hk
                rcases List.mem_append.1 hk with hk | hk
                · exact P4.out.zs k hk
                · rw [List.mem_singleton.1 hk]; exact HSZ.out.2
            have a0 : w4.cell? ⟨w.heap.size + 1, 0, none⟩ = some (.slice pa ks.length pc) := cell_of P4.out.A 0
            have f0 := frozen_of A5.out 0
            have b0 : w5.cell? ⟨w.heap.size + 1, 0, none⟩ = some (.slice pa ks.length pc) := cell_of A5.out 0
            clear hne hr hS5
            go_wp2_with (at_builtin; refine wpList_append_run (.slice pa ks.length pc) (.slice (some ⟨w4.heap.size, 0, none⟩) 1 1) 27 HR.out rfl _ _ rfl rfl rfl ?_)
            go_roundw
            case rel => exact ⟨v, ks ++ [u], _, _, rfl, P6.out⟩
            case measure => exact HSZ.out.1
      · have q1 : (x.toList == [109, 111, 100, 117, 108, 101]) = false := by rw [beq_eq_false_iff_ne, ByteArray.toList_eq, HX.out]; exact hm
        obtain ⟨e, he⟩ : ∃ e, (upTo91 y.data.toList).length = e := ⟨_, rfl⟩
        have hx1 := (ext_up y).1
        have hx2 := (ext_up y).2
        have heL := up_len y.data.toList
        have hyl : y.data.toList.length = y.size := by simp
        rw [he] at hx1 hx2 heL
        obtain ⟨nm, hnm⟩ : ∃ nm : ByteArray, (⟨(upTo91 y.data.toList).toArray⟩ : ByteArray) = nm := ⟨_, rfl⟩
        obtain ⟨tl, htl⟩ : ∃ tl : ByteArray, (⟨(from91 y.data.toList).toArray⟩ : ByteArray) = tl := ⟨_, rfl⟩
        have htd : tl.data.toList = from91 y.data.toList := by rw [← htl]
        have hnd : nm.data.toList = upTo91 y.data.toList := by rw [← hnm]
        have hns : nm.size = e := by rw [← he, ← hnd]; simp
        have hts : tl.size ≤ y.size := by
          have h1 := congrArg List.length (up_from y.data.toList)
          have h2 : tl.data.toList.length = tl.size := by simp
          rw [List.length_append, ← htd, h2, hyl] at h1
          omega
        rw [hnm] at hx1
        rw [htl] at hx2
        have hle : e ≤ y.size := by omega
        have hs1 : ∀ wx, (Instr.slice 9 (.string y) none (some (.int .i64 e)) none).run Tryz.prog wx = .ok (.string nm) wx := fun wx => by
          rw [run_slice_string_to_if (P := Tryz.prog) wx 9 y .i64 e Tryz.underlying9, if_pos ⟨by omega, by omega⟩, Int.toNat_natCast, hx1]
        have hs2 : ∀ wx, (Instr.slice 9 (.string y) (some (.int .i64 e)) none none).run Tryz.prog wx = .ok (.string tl) wx := fun wx => by
          rw [run_slice_string_from_if (P := Tryz.prog) wx 9 y .i64 e Tryz.underlying9, if_pos ⟨by omega, by omega⟩, Int.toNat_natCast, hx2]
        have HFIN : Hid (parseP s.data.toList = match keyP tl.data.toList with | none => none | some k => rightO (withKey (adr0 ks x nm) k)) := by
          rw [Hid, parseP, HE.out, HPS.out, if_neg hm]
          simp only []
          rw [← HY.out, ← htd]
          cases keyP tl.data.toList with
          | none => rfl
          | some k =>
            simp only []
            congr 1
            unfold adrOf
            rw [HXV.out, hnm]; rfl
        have hib := indexByte_cut 91 y.data.toList
        have huc := (up_cut y.data.toList).1
        obtain ⟨ix, hix⟩ : ∃ ix, Lib.indexByte y.data.toList 91 = ix := ⟨_, rfl⟩
        have hcall : ∀ wx, Calls Tryz.prog 77 #[.string y, .int .u8 91] wx fun e w' => e = .returned (.int .i64 ix) ∧ w' = wx := fun wx => by rw [← hix]; exact Tryz.strings_IndexByte y 91 wx
        have HIX := Hid.out (p := Hid _) hcall
        have hcase : (ix = -1 ∧ e = y.size) ∨ ix = (e : Int) := by
          rw [hib] at hix
          cases h : cutB 91 y.data.toList with
          | none => rw [h] at hix huc; left; exact ⟨hix.symm, by rw [← he, huc]; exact hyl⟩
          | some z => obtain ⟨p, q⟩ := z; rw [h] at hix huc; right; rw [← hix, ← he, huc]
        have HXZ : Hid (x.size ≤ s.size ∧ nm.size ≤ s.size ∧ tl.size ≤ s.size) := ⟨hxz, by omega, by omega⟩
        clear hx1 hx2 heL hyl he hnm htl htd hnd hns hts hib huc hix hcall hm HPS hle HE
        have hcase' : ∃ b, decide (ix < 0) = b ∧ ((b = true ∧ e = y.size) ∨ (b = false ∧ ix = (e : Int))) := by
          rcases hcase with ⟨rfl, h⟩ | rfl
          · exact ⟨true, rfl, .inl ⟨rfl, h⟩⟩
          · exact ⟨false, by rw [decide_eq_false_iff_not]; omega, .inr ⟨rfl, rfl⟩⟩
        clear hcase
        go_wp2_with fail
        refine (Calls.mono HC.out ?_)
        rintro z w3 ⟨rfl, n, rfl⟩
        have hb3 : Below wr.heap.size wr (wr.drewN n) := below_drewN (Below.refl _ _) n
        have P3 : Hid (PI w (wr.drewN n) s ks pa pc s') := hP.out.stays hb3
        clear hb3
        generalize wr.drewN n = w3 at *
        have f1 := frozen_of P3.out.A 1
        have a1 : w3.cell? ⟨w.heap.size + 1, 1, none⟩ = some (.string ⟨#[]⟩) := cell_of P3.out.A 1
        obtain ⟨w4, hw4⟩ : ∃ w4, w3.setCell ⟨w.heap.size + 1, 1, none⟩ (.string x) = w4 := ⟨_, rfl⟩
        have G4 : Hid (w3.grownBy w4 (some (w.heap.size + 1))) := by rw [← hw4]; exact gb_set _ _ _ _
        have A4 : Hid (w4.heap[w.heap.size + 1]? = some (.cells (arrA pa pc (adr0 ks x ⟨#[]⟩)) 29 (0, 0))) := by rw [Hid, ← hw4, heap_set_same P3.out.A]; simp [arrA, adr0]
        have h3S := P3.out.S
        have R4 : Hid (w4.heap[w.heap.size]? = some (.cells (arrA none 0 zeroA) 29 (0, 0))) := (G4.out.block _ (by omega) (by intro e; injection e with e; omega)).trans P3.out.R
        have K4 : Hid (RowT w4 (w.heap.size + 2) (.slice pa ks.length pc) ks) := P3.out.K.kept G4.out (.inr (P3.out.K.ne (by omega)))
        have B4 : Hid (Below w.heap.size w w4) := P3.out.B.grown G4.out P3.out.B.size (fun k hk => by injection hk with hk; omega)
        have h4S : w.heap.size + 2 ≤ w4.heap.size := by have := G4.out.size; omega
        have HZS : Hid (∀ k ∈ ks, k.size ≤ s.size) := P3.out.zs
        have hI4 := HIX.out w4
        have HI4 := Hid.out (p := Hid _) hI4
        have HKN : Hid (ks.length ≤ 20) := hkn
        clear hI4 hkn HX HXV HY
        go_wp2_with fail
        refine (Calls.mono HI4.out ?_)
        rintro z w4' ⟨rfl, rfl⟩
        clear hw4 f1 a1 HIX HI4 P3 HC G4 h3S hP
        have f2 := frozen_of A4.out 2
        have a2 : w4'.cell? ⟨w.heap.size + 1, 2, none⟩ = some (.string ⟨#[]⟩) := cell_of A4.out 2
        obtain ⟨w5, hw5⟩ : ∃ w5, w4'.setCell ⟨w.heap.size + 1, 2, none⟩ (.string nm) = w5 := ⟨_, rfl⟩
        have G5 : Hid (w4'.grownBy w5 (some (w.heap.size + 1))) := by rw [← hw5]; exact gb_set _ _ _ _
        have A5 : Hid (w5.heap[w.heap.size + 1]? = some (.cells (arrA pa pc (adr0 ks x nm)) 29 (0, 0))) := by rw [Hid, ← hw5, heap_set_same A4.out]; simp [arrA, adr0]
        have R5 : Hid (w5.heap[w.heap.size]? = some (.cells (arrA none 0 zeroA) 29 (0, 0))) := (G5.out.block _ (by omega) (by intro e; injection e with e; omega)).trans R4.out
        have K5 : Hid (RowT w5 (w.heap.size + 2) (.slice pa ks.length pc) ks) := K4.out.kept G5.out (.inr (K4.out.ne (by omega)))
        have B5 : Hid (Below w.heap.size w w5) := B4.out.grown G5.out B4.out.size (fun k hk => by injection hk with hk; omega)
        have h5S : w.heap.size + 2 ≤ w5.heap.size := by have := G5.out.size; omega
        have T5 := HT.out.stays B5.out
        have hke := keyed_any tl (adr0 ks x nm) pa pc (w.heap.size + 1) w5 (by have := HXZ.out.2.2; omega) A5.out rfl rfl rfl T5.t.z T5.e
        have HKE := Hid.out (p := Hid _) hke
        clear hke T5 G5 A4 R4 K4 B4 h4S
        obtain ⟨bb, hbb, hbc⟩ := hcase'
        rcases hbc with ⟨rfl, rfl⟩ | ⟨rfl, rfl⟩
        all_goals
          go_wp2_with fail
          refine (Calls.mono HKE.out ?_)
          rintro z w6 ⟨rfl, hg6, hk6⟩
          have G6 := Hid.out (p := Hid _) hg6
          have R6 : Hid (w6.heap[w.heap.size]? = some (.cells (arrA none 0 zeroA) 29 (0, 0))) := (G6.out.block _ (by omega) (by intro e; injection e with e; omega)).trans R5.out
          have K6 : Hid (RowT w6 (w.heap.size + 2) (.slice pa ks.length pc) ks) := K5.out.kept G6.out (.inr (K5.out.ne (by omega)))
          have B6 : Hid (Below w.heap.size w w6) := B5.out.grown G6.out B5.out.size (fun k hk => by injection hk with hk; omega)
          have h6S : w.heap.size + 2 ≤ w6.heap.size := by have := G6.out.size; omega
          clear hg6 hw5 f2 a2
          obtain ⟨f0, f1, f2, f3, f4, f5⟩ := adr_frozen R6.out
          obtain ⟨x0, x1, x2, x3, x4, x5⟩ := adr_cells R6.out
          cases hkp : keyP tl.data.toList with
          | none =>
            have HF : Hid (parseP s.data.toList = none) := by rw [Hid, HFIN.out, hkp]
            clear hk6 hkp
            go_wp2_with fail
            exact parse_none s w w6 _ _ _ _ R6.out B6.out HF.out rfl rfl
          | some k =>
            have A6 : Hid (w6.heap[w.heap.size + 1]? = some (.cells (arrA pa pc (withKey (adr0 ks x nm) k)) 29 (0, 0))) := hk6 k hkp
            have HF : Hid (parseP s.data.toList = rightO (withKey (adr0 ks x nm) k)) := by rw [Hid, HFIN.out, hkp]
            have hkw := keyP_word hkp
            have htl : tl.data.toList.length = tl.size := by simp
            obtain ⟨c, hc⟩ : ∃ c, withKey (adr0 ks x nm) k = c := ⟨_, rfl⟩
            have hcp : ks = c.path := by rw [← hc]; rfl
            have hct : x = c.type := by rw [← hc]; rfl
            have hcn : nm = c.name := by rw [← hc]; rfl
            have hcw : k.2.2 = c.word := by rw [← hc]; rfl
            have hz1 := HXZ.out
            have hra := right_any c pa pc _ w6 (by rw [← hcp]; exact K6.out.texts) (by have := HKN.out; rw [← hcp]; omega) (by rw [← hcp]; exact fun k hk => Nat.le_trans (HZS.out k hk) (by omega)) (by rw [← hct]; omega) (by rw [← hcn]; omega) (by rw [← hcw]; omega) (HT.out.stays B6.out).t
            rw [hc] at A6 HF
            have K6' : Hid (RowT w6 (w.heap.size + 2) (.slice pa c.path.length pc) c.path) := by rw [← hcp]; exact K6.out
            have HRA := Hid.out (p := Hid _) hra
            obtain ⟨r, hr⟩ : ∃ r, rightA c = r := ⟨_, rfl⟩
            rw [hr] at HRA
            have HRR := Hid.out (p := Hid _) hr
            clear hk6 hkp hkw htl hc hcp hct hcn hcw hz1 hra hr K6 HKE HFIN hs1 hs2
            have y0 : w6.cell? ⟨w.heap.size + 1, 0, none⟩ = some (.slice pa c.path.length pc) := cell_of A6.out 0
            have y1 : w6.cell? ⟨w.heap.size + 1, 1, none⟩ = some (.string c.type) := cell_of A6.out 1
            have y2 : w6.cell? ⟨w.heap.size + 1, 2, none⟩ = some (.string c.name) := cell_of A6.out 2
            have y3 : w6.cell? ⟨w.heap.size + 1, 3, none⟩ = some (.int .i64 c.key) := cell_of A6.out 3
            have y4 : w6.cell? ⟨w.heap.size + 1, 4, none⟩ = some (.int .u64 c.place) := cell_of A6.out 4
            have y5 : w6.cell? ⟨w.heap.size + 1, 5, none⟩ = some (.string c.word) := cell_of A6.out 5
            go_wp2_with fail
            refine (Calls.mono HRA.out ?_)
            rintro z w7 ⟨rfl, hb7⟩
            have A7 : Hid (w7.heap[w.heap.size + 1]? = some (.cells (arrA pa pc c) 29 (0, 0))) := (hb7.block _ (by omega)).trans A6.out
            have R7 : Hid (w7.heap[w.heap.size]? = some (.cells (arrA none 0 zeroA) 29 (0, 0))) := (hb7.block _ (by omega)).trans R6.out
            have K7 : Hid (RowT w7 (w.heap.size + 2) (.slice pa c.path.length pc) c.path) := K6'.out.stays hb7
            have B7 : Hid (Below w.heap.size w w7) := B6.out.trans (hb7.mono (by omega))
            clear hb7 y0 y1 y2 y3 y4 y5 f0 f1 f2 f3 f4 f5 x0 x1 x2 x3 x4 x5 A6 R6 K6' B6 HRA G6
            obtain ⟨f0, f1, f2, f3, f4, f5⟩ := adr_frozen R7.out
            obtain ⟨x0, x1, x2, x3, x4, x5⟩ := adr_cells R7.out
            cases r
            · have HN : Hid (parseP s.data.toList = none) := by rw [Hid, HF.out, rightO, HRR.out]; rfl
              go_wp2_with fail
              exact parse_none s w w7 _ _ _ _ R7.out B7.out HN.out rfl rfl
            · have HN : Hid (parseP s.data.toList = some c) := by rw [Hid, HF.out, rightO, HRR.out]; rfl
              have y0 : w7.cell? ⟨w.heap.size + 1, 0, none⟩ = some (.slice pa c.path.length pc) := cell_of A7.out 0
              have y1 : w7.cell? ⟨w.heap.size + 1, 1, none⟩ = some (.string c.type) := cell_of A7.out 1
              have y2 : w7.cell? ⟨w.heap.size + 1, 2, none⟩ = some (.string c.name) := cell_of A7.out 2
              have y3 : w7.cell? ⟨w.heap.size + 1, 3, none⟩ = some (.int .i64 c.key) := cell_of A7.out 3
              have y4 : w7.cell? ⟨w.heap.size + 1, 4, none⟩ = some (.int .u64 c.place) := cell_of A7.out 4
              have y5 : w7.cell? ⟨w.heap.size + 1, 5, none⟩ = some (.string c.word) := cell_of A7.out 5
              go_wp2_with fail
              exact parse_some _ w w7 _ _ pa _ pc _ c R7.out B7.out HN.out K7.out rfl rfl
end Go.Proofs.YtmjlklefpiciaaaGreatDoor.Addr
/- tabulariumref17.number. -/
namespace Go.Proofs.YtmjlklefpiciaaaGreatDoor.Addr
open Go.RowKit Go.Shelf Go.Proofs.YtmjlklefpiciaaaGreatDoor.Utf Go.Proofs.YtmjlklefpiciaaaGreatDoor.Strs Go.Proofs.YtmjlklefpiciaaaGreatDoor.Lex
open Go.Proofs.YtmjlklefpiciaaaGreatDoor.Jdec (gb_refl gb_drew gb_set gb_below IsTexts infoStr)
set_option linter.unusedVariables false
set_option linter.unusedSimpArgs false
set_option maxRecDepth 100000

/-- What number leaves. -/
def NPst (r : Option Nat) (w : World) (e : Ending) (w' : World) : Prop :=
  ∃ n : Nat, e = .returned (.tuple #[.int .u64 n, .bool r.isSome]) ∧ (∀ m, r = some m → n = m) ∧ w = w'
set_option maxHeartbeats 4000000 in
theorem number_loop (s : ByteArray) (w : World) (h0 : 0 < s.size) (hs : s.size ≤ 20) (hno : noughts s.data.toList = false) (b1 b2 : Bool) (hb1 : ((s[0].toNat : Int) == 48) = b1) (hb2 : decide ((1 : Int) < (s.size : Int)) = b2) (hb2' : decide (1 < s.size) = b2) (hbb : (b1 && b2) = false) :
    Calls Tryz.prog 75 #[.string s] w (NPst (numB s.data.toList) w) := by
  have hl : s.data.toList.length = s.size := by simp
  have HL := Hid.out (p := Hid _) hl
  have qn : s ≠ ByteArray.empty := fun e => by rw [e] at h0; exact absurd h0 (by decide)
  have t0 : ((s.size : Int) == 0) = false := by rw [beq_eq_false_iff_ne]; omega
  have t1 : decide ((20 : Int) < (s.size : Int)) = false := by rw [decide_eq_false_iff_not]; omega
  have t1' : decide (20 < s.size) = false := by rw [decide_eq_false_iff_not]; omega
  have HN : Hid (numB s.data.toList = numR 0 s.data.toList) := by rw [Hid, numB, hno]; rfl
  clear hl hno
  cases b1 <;> cases b2
  case true.true => cases hbb
  all_goals
    clear hbb
    go_enter Tryz.func75, Tryz.ntmps75
    go_wp2_with fail
    go_loopw [4, 5] (fun p4 p5 wr => w = wr ∧ ∃ (i : Nat) (a : Int), p4 = .int .u64 a ∧ p5 = .int .i64 i ∧ i ≤ s.size ∧ Hid (∃ n : Nat, a = (n : Int) ∧ n ≤ 18446744073709551615 ∧ numR 0 s.data.toList = numR n (s.data.toList.drop i))) (fun _ p _ => s.size - (intOf p).toNat)
    case atStart => exact ⟨rfl, 0, 0, rfl, rfl, Nat.zero_le _, 0, rfl, by omega, rfl⟩
    case round =>
      obtain ⟨rfl, i, a, rfl, rfl, hi, hN⟩ := hrel
      by_cases hlt : i < s.size
      · have hlen : i < s.data.toList.length := by rw [HL.out]; exact hlt
        have hdr : s.data.toList.drop i = s[i] :: s.data.toList.drop (i + 1) := by rw [← List.getElem_cons_drop hlen]; rfl
        have HDR := Hid.out (p := Hid _) hdr
        have hsi : Hid (s[i].toNat < 256) := UInt8.toNat_lt _
        clear hdr
        by_cases c1 : s[i].toNat < 48
        · have d1 : decide ((s[i].toNat : Int) < 48) = true := by rw [decide_eq_true_eq]; omega
          have d1' : decide (s[i].toNat < 48) = true := by rw [decide_eq_true_eq]; omega
          have HF : Hid (numB s.data.toList = none) := by
            obtain ⟨n, _, _, h⟩ := hN.out
            rw [Hid, HN.out, h, HDR.out, numR, if_neg (by omega)]
          clear c1
          go_wp2_with fail
          go_ret2
          exact ⟨0, by rw [HF.out] <;> rfl, (fun m h => by rw [HF.out] at h; cases h), rfl⟩
        have d1 : decide ((s[i].toNat : Int) < 48) = false := by rw [decide_eq_false_iff_not]; omega
        have d1' : decide (s[i].toNat < 48) = false := by rw [decide_eq_false_iff_not]; omega
        by_cases c2 : 57 < s[i].toNat
        · have d2 : decide ((57 : Int) < (s[i].toNat : Int)) = true := by rw [decide_eq_true_eq]; omega
          have d2' : decide (57 < s[i].toNat) = true := by rw [decide_eq_true_eq]; omega
          have HF : Hid (numB s.data.toList = none) := by
            obtain ⟨n, _, _, h⟩ := hN.out
            rw [Hid, HN.out, h, HDR.out, numR, if_neg (by omega)]
          clear c1 c2
          go_wp2_with fail
          go_ret2
          exact ⟨0, by rw [HF.out] <;> rfl, (fun m h => by rw [HF.out] at h; cases h), rfl⟩
        have d2 : decide ((57 : Int) < (s[i].toNat : Int)) = false := by rw [decide_eq_false_iff_not]; omega
        have d2' : decide (57 < s[i].toNat) = false := by rw [decide_eq_false_iff_not]; omega
        obtain ⟨d, hd⟩ : ∃ d : Int, (s[i].toNat : Int) - 48 = d := ⟨_, rfl⟩
        have hd1 : IntKind.u8.wrap d = d := by rw [IntKind.wrap_u8]; omega
        have hd2 : IntKind.u64.wrap d = d := by rw [IntKind.wrap_u64]; omega
        obtain ⟨q, hq⟩ : ∃ q : Int, IntKind.u64.wrap (18446744073709551615 - d) = q := ⟨_, rfl⟩
        obtain ⟨t, ht⟩ : ∃ t : Int, IntKind.u64.wrap (q.tdiv 10) = t := ⟨_, rfl⟩
        obtain ⟨z, hz⟩ : ∃ z : Int, IntKind.u64.wrap (IntKind.u64.wrap (a * 10) + d) = z := ⟨_, rfl⟩
        have hsi' := hsi.out
        have hqv : q = 18446744073709551615 - d := by rw [← hq, IntKind.wrap_u64]; omega
        have htv : t = (18446744073709551615 - d) / 10 := by
          rw [← ht, hqv, Int.tdiv_eq_ediv_of_nonneg (by omega), IntKind.wrap_u64]; omega
        obtain ⟨n, han, hnm, hnr⟩ := hN.out
        have hstep : numR 0 s.data.toList = if 18446744073709551615 < n * 10 + (s[i].toNat - 48) then none else numR (n * 10 + (s[i].toNat - 48)) (s.data.toList.drop (i + 1)) := by
          rw [hnr, HDR.out, numR, if_pos (by omega)]
        by_cases hb : t < a
        · have d3 : decide (t < a) = true := by rw [decide_eq_true_eq]; exact hb
          have HF : Hid (numB s.data.toList = none) := by rw [Hid, HN.out, hstep, if_pos (by omega)]
          clear c1 c2 hqv htv han hnm hnr hstep hsi' hb hz
          go_wp2_with fail
          go_ret2
          exact ⟨0, by rw [HF.out] <;> rfl, (fun m h => by rw [HF.out] at h; cases h), rfl⟩
        · have d3 : decide (t < a) = false := by rw [decide_eq_false_iff_not]; exact hb
          have HF : Hid (∃ n : Nat, z = (n : Int) ∧ n ≤ 18446744073709551615 ∧ numR 0 s.data.toList = numR n (s.data.toList.drop (i + 1))) := by
            refine ⟨n * 10 + (s[i].toNat - 48), ?_, by omega, by rw [hstep, if_neg (by omega)]⟩
            rw [← hz, IntKind.wrap_u64, IntKind.wrap_u64]; omega
          clear c1 c2 hqv htv han hnm hnr hstep hsi' hb
          go_wp2_with fail
          go_roundw
          case rel => exact ⟨trivial, i + 1, z, rfl, by go_num, by omega, HF.out⟩
          case measure => simp [intOf]; omega
      · obtain rfl : i = s.size := by omega
        obtain ⟨n, rfl, _, hnr⟩ := hN.out
        have HF : Hid (numB s.data.toList = some n) := by
          rw [Hid, HN.out, hnr, List.drop_of_length_le (by rw [HL.out]; exact Nat.le_refl _)]; rfl
        clear hnr
        go_wp2_with fail
        go_ret2
        exact ⟨n, by rw [HF.out] <;> rfl, (fun m h => by rw [HF.out] at h; injection h), rfl⟩
set_option maxHeartbeats 4000000 in
theorem number_any (s : ByteArray) (w : World) (hs : s.size ≤ 1048576) :
    Calls Tryz.prog 75 #[.string s] w (NPst (numB s.data.toList) w) := by
  have hl : s.data.toList.length = s.size := by simp
  by_cases h0 : s.size = 0
  · have HF : Hid (numB s.data.toList = none) := by
      rw [Hid, List.length_eq_zero_iff.1 (hl.trans h0)]; rfl
    have t0 : ((s.size : Int) == 0) = true := by rw [h0]; rfl
    have t0' : s = ByteArray.empty := by
      have := Jdec.str_back s
      rw [List.length_eq_zero_iff.1 (hl.trans h0)] at this
      exact this.symm
    subst t0'
    clear h0 hl
    go_enter Tryz.func75, Tryz.ntmps75
    go_wp2_with fail
    go_ret2
    exact ⟨0, by rw [HF.out] <;> rfl, (fun m h => by rw [HF.out] at h; cases h), rfl⟩
  have h0' : 0 < s.size := by omega
  have qn : s ≠ ByteArray.empty := fun e => by rw [e] at h0'; exact absurd h0' (by decide)
  by_cases h20 : 20 < s.size
  · have HF : Hid (numB s.data.toList = none) := numB_long (by omega)
    have t0 : ((s.size : Int) == 0) = false := by rw [beq_eq_false_iff_ne]; omega
    have t1 : decide ((20 : Int) < (s.size : Int)) = true := by rw [decide_eq_true_eq]; omega
    have t1' : decide (20 < s.size) = true := by rw [decide_eq_true_eq]; omega
    clear h0 hl h20
    go_enter Tryz.func75, Tryz.ntmps75
    go_wp2_with fail
    go_ret2
    exact ⟨0, by rw [HF.out] <;> rfl, (fun m h => by rw [HF.out] at h; cases h), rfl⟩
  have hna := noughts_at h0'
  cases hno : noughts s.data.toList with
  | false => exact number_loop s w h0' (by omega) hno _ _ rfl (by rw [decide_eq_decide]; omega) rfl (by rw [← hna, hno])
  | true =>
    rw [hno] at hna
    have h1 := hna.symm
    rw [Bool.and_eq_true, decide_eq_true_eq] at h1
    have t1 : ((s[0].toNat : Int) == 48) = true := h1.1
    have t2 : decide ((1 : Int) < (s.size : Int)) = true := by rw [decide_eq_true_eq]; omega
    have t3 : decide (1 < s.size) = true := by rw [decide_eq_true_eq]; omega
    have t0 : ((s.size : Int) == 0) = false := by rw [beq_eq_false_iff_ne]; omega
    have t4 : decide ((20 : Int) < (s.size : Int)) = false := by rw [decide_eq_false_iff_not]; omega
    have t4' : decide (20 < s.size) = false := by rw [decide_eq_false_iff_not]; omega
    have HF : Hid (numB s.data.toList = none) := by rw [Hid, numB, hno]; rfl
    clear hna hno h1 h20 hl
    go_enter Tryz.func75, Tryz.ntmps75
    go_wp2_with fail
    go_ret2
    exact ⟨0, by rw [HF.out] <;> rfl, (fun m h => by rw [HF.out] at h; cases h), rfl⟩
end Go.Proofs.YtmjlklefpiciaaaGreatDoor.Addr
/- tabulariumref17.Parts. -/
namespace Go.Proofs.YtmjlklefpiciaaaGreatDoor.Addr
open Go.RowKit Go.Shelf Go.Proofs.YtmjlklefpiciaaaGreatDoor.Utf Go.Proofs.YtmjlklefpiciaaaGreatDoor.Strs Go.Proofs.YtmjlklefpiciaaaGreatDoor.Lex
open Go.Proofs.YtmjlklefpiciaaaGreatDoor.Jdec (gb_refl gb_drew gb_set gb_below IsTexts infoStr)
set_option linter.unusedVariables false
set_option linter.unusedSimpArgs false
set_option maxRecDepth 100000

def lists (ps : List ByteArray) : List (List UInt8) := ps.map fun p => p.data.toList
/-- What Parts leaves. -/
def PtPost (s : ByteArray) (w : World) (e : Ending) (w' : World) : Prop :=
  ∃ pa pc ps, e = .returned (.slice pa ps.length pc) ∧ lists ps = partsB s.data.toList ∧ RowT w' w.heap.size (.slice pa ps.length pc) ps ∧ Below w.heap.size w w' ∧ (∀ x ∈ ps, x.size ≤ s.size) ∧ ps.length ≤ s.size + 1
/-- How far the pieces are. -/
def PtInv (s : ByteArray) (a i : Nat) (ps : List ByteArray) : Prop :=
  ps.length ≤ i ∧ (∀ x ∈ ps, x.size ≤ s.size) ∧ (i = s.size + 1 ∧ lists ps = partsB s.data.toList ∨ a ≤ i ∧ i ≤ s.size ∧ lists ps ++ partsB (s.data.toList.drop a) = partsB s.data.toList ∧ ∀ c ∈ (s.data.toList.drop a).take (i - a), c ≠ 46)
theorem ext_take (s : ByteArray) (a i : Nat) (h : a ≤ i) : (s.extract a i).data.toList = (s.data.toList.drop a).take (i - a) := by
  rw [ByteArray.data_extract, Array.toList_extract, List.extract_eq_take_drop]
theorem pt_put {s : ByteArray} {a i : Nat} {ps : List ByteArray} (h : PtInv s a i ps) (hi : i ≤ s.size) (hd : i = s.size ∨ s.data.toList[i]? = some 46) : PtInv s (i + 1) (i + 1) (ps ++ [s.extract a i]) := by
  obtain ⟨h1, h2, h3⟩ := h
  rcases h3 with ⟨h3, _⟩ | ⟨h3, h4, h5, h6⟩
  · omega
  have hl : s.data.toList.length = s.size := by simp
  have hx := ext_take s a i h3
  have hes : (s.extract a i).size ≤ s.size := by rw [ByteArray.size_extract]; omega
  refine ⟨by rw [List.length_append, List.length_singleton]; omega, ?_, ?_⟩
  · intro x hx
    rcases List.mem_append.1 hx with hx | hx
    · exact h2 x hx
    · rw [List.mem_singleton.1 hx]; exact hes
  have hlp : lists (ps ++ [s.extract a i]) = lists ps ++ [(s.extract a i).data.toList] := by simp [lists]
  rcases hd with rfl | hd
  · left
    refine ⟨rfl, ?_⟩
    have hall : (s.data.toList.drop a).take (s.size - a) = s.data.toList.drop a := List.take_of_length_le (by rw [List.length_drop]; omega)
    rw [hall] at h6 hx
    rw [hlp, hx, ← h5, partsB_end _ h6]
  · right
    have hlt : i < s.data.toList.length := by
      obtain ⟨h, _⟩ := List.getElem?_eq_some_iff.1 hd
      exact h
    refine ⟨Nat.le_refl _, by omega, ?_, by simp⟩
    have hsp : s.data.toList.drop a = (s.data.toList.drop a).take (i - a) ++ 46 :: s.data.toList.drop (i + 1) := by
      conv => lhs; rw [← List.take_append_drop (i - a) (s.data.toList.drop a)]
      congr 1
      rw [List.drop_drop, show a + (i - a) = i by omega, ← List.getElem_cons_drop hlt]
      congr 1
      have := List.getElem?_eq_getElem hlt
      rw [hd] at this
      injection this with this
      exact this.symm
    rw [hlp, hx, ← h5]
    conv => rhs; rw [hsp, partsB_at _ _ h6]
    simp
theorem pt_on {s : ByteArray} {a i : Nat} {ps : List ByteArray} (h : PtInv s a i ps) (hi : i < s.size) (hd : s.data.toList[i]? ≠ some 46) : PtInv s a (i + 1) ps := by
  obtain ⟨h1, h2, h3⟩ := h
  have hl : s.data.toList.length = s.size := by simp
  rcases h3 with ⟨h3, _⟩ | ⟨h3, h4, h5, h6⟩
  · omega
  refine ⟨by omega, h2, .inr ⟨by omega, by omega, h5, ?_⟩⟩
  intro c hc
  rw [show i + 1 - a = (i - a) + 1 by omega, List.take_add_one, List.mem_append] at hc
  rcases hc with hc | hc
  · exact h6 c hc
  · rw [List.getElem?_drop, show a + (i - a) = i by omega] at hc
    intro e
    subst e
    exact hd (by simpa using hc)
theorem byte_at {s : ByteArray} {i : Nat} (h : i < s.size) (c : UInt8) : s.data.toList[i]? = some c ↔ s[i].toNat = c.toNat := by
  have hl : i < s.data.toList.length := by simpa using h
  rw [List.getElem?_eq_getElem hl]
  have : s.data.toList[i] = s[i] := rfl
  rw [this]
  constructor
  · intro h; injection h with h; rw [h]
  · intro h; rw [UInt8.toNat_inj.1 h]
set_option maxHeartbeats 4000000 in
theorem parts_any (s : ByteArray) (w : World) (hs : s.size ≤ 1000000) : Calls Tryz.prog 74 #[.string s] w (PtPost s w) := by
  go_enter Tryz.func74, Tryz.ntmps74
  go_wp2_with fail
  go_loopw [3, 4, 5] (fun p3 p4 p5 wr => ∃ (ps : List ByteArray) (pa : Option Addr) (pc a i : Nat), p3 = .slice pa ps.length pc ∧ p4 = .int .i64 a ∧ p5 = .int .i64 i ∧ i ≤ s.size + 1 ∧ a ≤ i ∧ Hid (PtInv s a i ps) ∧ Hid (RowT wr w.heap.size (.slice pa ps.length pc) ps) ∧ Hid (Below w.heap.size w wr)) (fun _ _ p _ => s.size + 1 - (intOf p).toNat)
  case atStart => exact ⟨[], none, 0, 0, 0, rfl, rfl, rfl, by omega, Nat.le_refl _, ⟨Nat.le_refl _, (fun x hx => by cases hx), .inr ⟨Nat.le_refl _, Nat.zero_le _, rfl, by simp⟩⟩, RowT.nil _ _, Below.refl _ _⟩
  case round =>
    obtain ⟨ps, pa, pc, a, i, rfl, rfl, rfl, hi, hai, hI, hR, hB⟩ := hrel
    by_cases hle : i ≤ s.size
    · have t0 : decide ((i : Int) ≤ (s.size : Int)) = true := by rw [decide_eq_true_eq]; omega
      have t0' : decide (i ≤ s.size) = true := by rw [decide_eq_true_eq]; omega
      have hpl : ps.length ≤ i := hI.out.1
      have hwr := hB.out.size
      obtain ⟨x, hx⟩ : ∃ x, s.extract a i = x := ⟨_, rfl⟩
      have hsl : ∀ wx, (Instr.slice 9 (.string s) (some (.int .i64 a)) (some (.int .i64 i)) none).run Tryz.prog wx = .ok (.string x) wx := fun wx => by
        rw [run_slice_string (P := Tryz.prog) wx 9 s .i64 .i64 a i Tryz.underlying9 (by omega) (by omega) (by omega), Int.toNat_natCast, Int.toNat_natCast, hx]
      obtain ⟨g, cap, w2, hr, R2, G2, hg2⟩ := app_one wr w.heap.size (.slice pa ps.length pc) ps x hR.out (by omega) hwr
      have HR := Hid.out (p := Hid _) hr
      have B2 : Hid (Below w.heap.size w w2) := hB.out.grown G2.out hwr (fun k hk => (World.ownsRow.lt hR.out k hk).1)
      by_cases hend : i = s.size ∨ s.data.toList[i]? = some 46
      · have HP : Hid (PtInv s (i + 1) (i + 1) (ps ++ [x])) := by rw [← hx]; exact pt_put hI.out hle hend
        have HRW : Hid (RowT w2 w.heap.size (.slice (some ⟨g, 0, none⟩) (ps ++ [x]).length cap) (ps ++ [x])) := by
          rw [List.length_append, List.length_singleton]; exact R2.out
        have hlen : (ps ++ [x]).length = ps.length + 1 := by simp
        have hcase : (i = s.size) ∨ (i < s.size ∧ ∃ h : i < s.size, s[i].toNat = 46) := by
          by_cases h : i = s.size
          · exact .inl h
          · have h' : i < s.size := by omega
            exact .inr ⟨h', h', (byte_at h' 46).1 (hend.resolve_left h)⟩
        clear hr hx hend hpl t0'
        rcases hcase with rfl | ⟨hlt, _, hc⟩
        · have t1 : ((s.size : Int) == (s.size : Int)) = true := by simp
          go_wp2_with (at_builtin; refine wpList_append_run (.slice pa ps.length pc) (.slice (some ⟨wr.heap.size, 0, none⟩) 1 1) 27 HR.out rfl _ _ rfl rfl rfl ?_)
          go_roundw
          case rel => exact ⟨ps ++ [x], some ⟨g, 0, none⟩, cap, s.size + 1, s.size + 1, by rw [hlen], by go_num, by go_num, by omega, Nat.le_refl _, HP.out, HRW.out, B2.out⟩
          case measure => simp [intOf]
        · have t1 : ((i : Int) == (s.size : Int)) = false := by rw [beq_eq_false_iff_ne]; omega
          have t2 : ((s[i].toNat : Int) == 46) = true := by rw [hc]; rfl
          clear hc
          go_wp2_with (at_builtin; refine wpList_append_run (.slice pa ps.length pc) (.slice (some ⟨wr.heap.size, 0, none⟩) 1 1) 27 HR.out rfl _ _ rfl rfl rfl ?_)
          go_roundw
          case rel => exact ⟨ps ++ [x], some ⟨g, 0, none⟩, cap, i + 1, i + 1, by rw [hlen], by go_num, by go_num, by omega, Nat.le_refl _, HP.out, HRW.out, B2.out⟩
          case measure => simp [intOf]; omega
      · have hlt : i < s.size := by
          rcases Nat.lt_or_ge i s.size with h | h
          · exact h
          · exact absurd (.inl (by omega)) hend
        have HP : Hid (PtInv s a (i + 1) ps) := pt_on hI.out hlt (fun e => hend (.inr e))
        have t1 : ((i : Int) == (s.size : Int)) = false := by rw [beq_eq_false_iff_ne]; omega
        have t2 : ((s[i].toNat : Int) == 46) = false := by
          rw [beq_eq_false_iff_ne]
          intro e
          exact hend (.inr ((byte_at hlt 46).2 (by have : (46 : UInt8).toNat = 46 := rfl; omega)))
        clear hr hx hend hpl t0' HR R2 G2 B2 hsl hg2
        go_wp2_with fail
        go_roundw
        case rel => exact ⟨ps, pa, pc, a, i + 1, rfl, rfl, by go_num, by omega, by omega, HP.out, hR.out, hB.out⟩
        case measure => simp [intOf]; omega
    · have hi1 : i = s.size + 1 := by omega
      have t0 : decide ((i : Int) ≤ (s.size : Int)) = false := by rw [decide_eq_false_iff_not]; omega
      have t0' : decide (i ≤ s.size) = false := by rw [decide_eq_false_iff_not]; omega
      have HP : Hid (lists ps = partsB s.data.toList ∧ (∀ x ∈ ps, x.size ≤ s.size) ∧ ps.length ≤ s.size + 1) := by
        obtain ⟨h1, h2, h3⟩ := hI.out
        rcases h3 with ⟨_, h3⟩ | ⟨_, h3, _⟩
        · exact ⟨h3, h2, by omega⟩
        · omega
      clear hi1 hle
      go_wp2_with fail
      go_ret
      exact ⟨pa, pc, ps, rfl, HP.out.1, hR.out, hB.out, HP.out.2⟩
end Go.Proofs.YtmjlklefpiciaaaGreatDoor.Addr
/- tabulariumref17.Parse. -/
namespace Go.Proofs.YtmjlklefpiciaaaGreatDoor.Addr
open Go.RowKit Go.Shelf Go.Proofs.YtmjlklefpiciaaaGreatDoor.Utf Go.Proofs.YtmjlklefpiciaaaGreatDoor.Strs Go.Proofs.YtmjlklefpiciaaaGreatDoor.Lex
open Go.Proofs.YtmjlklefpiciaaaGreatDoor.Jdec (gb_refl gb_drew gb_set gb_below IsTexts infoStr)
set_option linter.unusedVariables false
set_option linter.unusedSimpArgs false
set_option maxRecDepth 100000

/-- An address is told, or none. -/
def RPost (r : Option Adr) (w : World) (e : Ending) (w' : World) : Prop :=
  ∃ pa pc, e = .returned (.tuple #[wordsA pa pc (r.getD zeroA), .bool r.isSome]) ∧ IsTexts w' (fun b => w.heap.size ≤ b) pa (r.getD zeroA).path ∧ Below w.heap.size w w'
theorem rparse_ret (r : Option Adr) (w w' : World) (tm : Array Value) (pa : Option Addr) (pc : Nat) (a : Adr) (er : Bool) (hb : w'.heap[w.heap.size]? = some (.cells (arrA pa pc a) 29 (0, 0)))
    (h2 : tm[2]? = some (.pointer (some ⟨w.heap.size, 0, none⟩))) (h3 : tm[3]? = some (.bool er)) (hp : RPost r w (.returned (.tuple #[wordsA pa pc a, .bool er])) w') :
    bodyPost Tryz.prog Tryz.f40 (RPost r w) Exit.ret { tmps := tm, defers := [] } w' := by
  obtain ⟨c0, c1, c2, c3, c4, c5⟩ := adr_cells hb
  refine bodyPost_ret (v := .tuple #[wordsA pa pc a, .bool er]) ?_ rfl hp
  simp [results, Tryz.results40, go_sem, h2, h3, c0, c1, c2, c3, c4, c5, wordsA]
theorem rparse_none (s : ByteArray) (w w2 : World) (tm : Array Value) (pa : Option Addr) (pc : Nat) (a : Adr) (hb : w2.heap[w.heap.size]? = some (.cells (arrA pa pc a) 29 (0, 0))) (hB : Below w.heap.size w w2) (hr : parseR s.data.toList = none)
    (h2 : tm[2]? = some (.pointer (some ⟨w.heap.size, 0, none⟩))) (h3 : tm[3]? = some (.bool false)) :
    bodyPost Tryz.prog Tryz.f40 (RPost (parseR s.data.toList) w) Exit.ret { tmps := tm, defers := [] }
      ((((((w2.setCell ⟨w.heap.size, 0, none⟩ (.slice none 0 0)).setCell ⟨w.heap.size, 1, none⟩ (.string ⟨#[]⟩)).setCell ⟨w.heap.size, 2, none⟩ (.string ⟨#[]⟩)).setCell ⟨w.heap.size, 3, none⟩ (.int .i64 0)).setCell ⟨w.heap.size, 4, none⟩ (.int .u64 0)).setCell ⟨w.heap.size, 5, none⟩ (.string ⟨#[]⟩)) := by
  refine rparse_ret _ w _ tm none 0 zeroA false (setA hb none 0 zeroA) h2 h3 ?_
  rw [hr]
  exact ⟨none, 0, rfl, .inl rfl, hB.grown (gb6 w2 w.heap.size _ _ _ _ _ _) hB.size (fun k hk => by injection hk with hk; omega)⟩
theorem rparse_some (r : Option Adr) (w w2 : World) (tm : Array Value) (pa pb : Option Addr) (pc pd : Nat) (a c : Adr) (hb : w2.heap[w.heap.size]? = some (.cells (arrA pa pc a) 29 (0, 0))) (hB : Below w.heap.size w w2) (hr : r = some c) (hk : RowT w2 (w.heap.size + 2) (.slice pb c.path.length pd) c.path)
    (h2 : tm[2]? = some (.pointer (some ⟨w.heap.size, 0, none⟩))) (h3 : tm[3]? = some (.bool true)) :
    bodyPost Tryz.prog Tryz.f40 (RPost r w) Exit.ret { tmps := tm, defers := [] }
      ((((((w2.setCell ⟨w.heap.size, 0, none⟩ (.slice pb c.path.length pd)).setCell ⟨w.heap.size, 1, none⟩ (.string c.type)).setCell ⟨w.heap.size, 2, none⟩ (.string c.name)).setCell ⟨w.heap.size, 3, none⟩ (.int .i64 c.key)).setCell ⟨w.heap.size, 4, none⟩ (.int .u64 c.place)).setCell ⟨w.heap.size, 5, none⟩ (.string c.word)) := by
  have hg := gb6 w2 w.heap.size (.slice pb c.path.length pd) (.string c.type) (.string c.name) (.int .i64 c.key) (.int .u64 c.place) (.string c.word)
  refine rparse_ret _ w _ tm pb pd c true (setA hb pb pd c) h2 h3 ?_
  rw [hr]
  exact ⟨pb, pd, rfl, texts_at (hk.kept hg (.inr (hk.ne (by omega)))).texts (by omega), hB.grown hg hB.size (fun k hk => by injection hk with hk; omega)⟩

/-! ## Behind the key: pieces -/
/-- The pieces, without pairs of modules, are an address's. -/
def fromParts (k : Int × Nat × ByteArray) (L : List (List UInt8)) : Option Adr := match modsR L with
  | (ks, [ty, nm]) => rightO (adrOf ks ty nm k)
  | _ => none
theorem modsR_skip {m x : List UInt8} {t : List (List UInt8)} (ht : t ≠ []) (hm : m = moduleL) : modsR (m :: x :: t) = (⟨x.toArray⟩ :: (modsR t).1, (modsR t).2) := by
  cases t with
  | nil => exact absurd rfl ht
  | cons y t => rw [modsR, if_pos hm]
/-- From a piece on, no pair of a module stands. -/
theorem modsR_stop {L : List (List UInt8)} (h : ∀ m x y t, L = m :: x :: y :: t → m ≠ moduleL) : modsR L = ([], L) := by
  unfold modsR
  split
  · rename_i m x y t
    rw [if_neg (h m x y t rfl)]
  · rfl
theorem drop_two {ps : List ByteArray} {i : Nat} (h : i + 1 < ps.length) : ps.drop i = ps[i] :: ps[i + 1] :: ps.drop (i + 2) := by
  rw [← List.getElem_cons_drop (show i < ps.length by omega), ← List.getElem_cons_drop h]
theorem gb_far {w w1 w2 : World} {A : Nat} {r : Option Nat} (h : w.grownBy w1 (some A)) (h2 : w1.grownBy w2 r) (hr : ∀ k, r = some k → w.heap.size ≤ k) : w.grownBy w2 (some A) :=
  ⟨h2.os.trans h.os, h2.tape.trans h.tape, h2.output.trans h.output, Nat.le_trans h.size h2.size, fun k hk hp => (h2.block k (Nat.lt_of_lt_of_le hk h.size) (fun e => by have := hr k e.symm; omega)).trans (h.block k hk hp)⟩
theorem keyR_nil {l : List UInt8} (h : from91 l = []) : keyR (from91 l) = some (0, 0, ⟨#[]⟩) := by rw [h]; rfl
theorem from_at {s : ByteArray} {e : Nat} (he : e ≤ s.size) (hn : ∀ c ∈ s.data.toList.take e, c ≠ 91) (hx : e = s.size ∨ s.data.toList[e]? = some 91) : upTo91 s.data.toList = s.data.toList.take e ∧ from91 s.data.toList = s.data.toList.drop e := by
  have hl : s.data.toList.length = s.size := by simp
  have := up_at (s.data.toList.take e) (s.data.toList.drop e) hn (by
    rcases hx with rfl | hx
    · left; rw [List.drop_of_length_le (by omega)]
    · right; rw [List.head?_drop]; exact hx)
  rw [List.take_append_drop] at this
  exact this
end Go.Proofs.YtmjlklefpiciaaaGreatDoor.Addr
