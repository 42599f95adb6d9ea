/- tabulariumref09: where blanks end; errors; words. -/
import Derived.Test.YtehffmcfmdjknaaGreatDoorJdecE
namespace Go.Proofs.YtehffmcfmdjknaaGreatDoor.Jdec
open Go.RowKit Go.Proofs.YtehffmcfmdjknaaGreatDoor.Strs
set_option linter.unusedVariables false
set_option linter.unusedSimpArgs false
set_option maxRecDepth 100000

theorem bB (s : ByteArray) (q : Nat) (h : q < s.size) : s.data.toList[q]? = some s[q] := byte_get s q h
set_option maxHeartbeats 1000000 in
theorem rblanks_any (s : ByteArray) (k : Nat) (w : World) (hs : s.size ≤ 1099511627776) (hk : k ≤ s.size) :
    Calls Tryz.prog 15 #[.string s, .int .i64 k] w fun x w' => x = .returned (.int .i64 (skip s.data.toList k)) ∧ w = w' := by
  have hl : s.data.toList.length = s.size := by simp
  have HL := Hid.out (p := Hid _) hl; clear hl
  go_enter Tryz.func15, Tryz.ntmps15
  go_wp2_with fail
  go_loop [1] (fun p1 => ∃ q : Nat, q ≤ s.size ∧ p1 = .int .i64 q ∧ Hid (skip s.data.toList k = skip s.data.toList q)) (fun p1 => s.size - (intOf p1).toNat)
  case atStart => exact ⟨k, hk, rfl, rfl⟩
  case round =>
    obtain ⟨q, hq, rfl, hS⟩ := hrel
    by_cases hlt : q < s.size
    · have hql : q < s.data.toList.length := by rw [HL.out]; exact hlt
      have hgq : s.data.toList[q] = s[q] := by rw [Array.getElem_toList]; rfl
      have hb : ∀ c : UInt8, (c = 9 ∨ c = 10 ∨ c = 13 ∨ c = 32) ↔ blankJ c = true := by intro c; simp [blankJ, or_assoc]
      have hz : ∀ n : Nat, n < 256 → (s[q].toNat = n ↔ s[q] = UInt8.ofNat n) := by
        intro n hn
        constructor
        · intro h; apply UInt8.toNat_inj.1; rw [h, UInt8.toNat_ofNat']; omega
        · intro h; rw [h, UInt8.toNat_ofNat']; omega
      have hb2 : blankJ s[q] = true ↔ s[q].toNat = 9 ∨ s[q].toNat = 10 ∨ s[q].toNat = 13 ∨ s[q].toNat = 32 := by
        rw [← hb, hz 9 (by omega), hz 10 (by omega), hz 13 (by omega), hz 32 (by omega)]; rfl
      cases hbl : blankJ s[q]
      · have HF : Hid (skip s.data.toList k = q) := by rw [Hid, hS.out, skip_other _ _ hql (by rw [hgq]; exact hbl)]
        rw [hbl] at hb2
        have hn : ¬(s[q].toNat = 9 ∨ s[q].toNat = 10 ∨ s[q].toNat = 13 ∨ s[q].toNat = 32) := fun h => by cases hb2.2 h
        have e1 : ((s[q].toNat : Int) == 9) = false := by rw [beq_eq_false_iff_ne]; omega
        have e2 : ((s[q].toNat : Int) == 10) = false := by rw [beq_eq_false_iff_ne]; omega
        have e3 : ((s[q].toNat : Int) == 13) = false := by rw [beq_eq_false_iff_ne]; omega
        have e4 : ((s[q].toNat : Int) == 32) = false := by rw [beq_eq_false_iff_ne]; omega
        clear hb hb2 hz hbl hgq hn
        go_wp2_with fail
        go_ret
        exact ⟨by rw [HF.out]; rfl, rfl⟩
      · have HF : Hid (skip s.data.toList k = skip s.data.toList (q + 1)) := by rw [Hid, hS.out, skip_blank _ _ hql (by rw [hgq]; exact hbl)]
        have hn := hb2.1 hbl
        clear hb hb2 hz hbl hgq
        rcases hn with hn | hn | hn | hn
        all_goals
          go_wp2_with fail
          go_round
          case rel => exact ⟨q + 1, by omega, by go_num, HF.out⟩
          case measure => simp [intOf]; omega
    · have hend : q = s.size := by omega
      have HF : Hid (skip s.data.toList k = q) := by rw [Hid, hS.out, skip_end _ _ (by rw [HL.out]; omega)]
      have hlt2 : decide ((q : Int) < (s.size : Int)) = false := by rw [decide_eq_false_iff_not]; omega
      clear hend
      go_wp2_with fail
      go_ret
      exact ⟨by rw [HF.out]; rfl, rfl⟩

def gArr (a : Raw) (en at_ e : Int) : Array Value := #[.int .i64 a.kind, .bool a.is, .bool a.neg, .string a.dig, .int .i64 a.exp, .string a.str, .slice a.ka a.kn a.kc, .slice a.va a.vn a.vc, .int .i64 en, .int .i64 at_, .int .i64 e]
def gVal (a : Raw) (en at_ e : Int) : Value := .agg #[.int .i64 a.kind, .bool a.is, .bool a.neg, .string a.dig, .int .i64 a.exp, .string a.str, .slice a.ka a.kn a.kc, .slice a.va a.vn a.vc, .int .i64 en, .int .i64 at_, .int .i64 e]
/-- What a reader of the reference tells. -/
def GPost (R : Raw → Int → Int → Int → Prop) (w : World) (x : Ending) (w' : World) : Prop := ∃ a en at_ e, x = .returned (gVal a en at_ e) ∧ R a en at_ e ∧ Below w.heap.size w w'
def BadR (at_ e : Int) (a : Raw) (en at' e' : Int) : Prop := at' = at_ ∧ e' = e
theorem infoGot : (Tryz.prog.info? 31).map (·.size) = some 11 := by kernel_rfl
theorem got_ret {F : Func} {p : Tmp} (hr : F.results = #[.cell p 31]) {tm : Array Value} {a : Raw} {en at_ e : Int} {R : Ending → World → Prop} {w' : World} {b : Nat}
    (hb : w'.heap[b]? = some (.cells (gArr a en at_ e) 31 (0, 0))) (hp : tm.getD p undef = .pointer (some ⟨b, 0, none⟩)) (hR : R (.returned (gVal a en at_ e)) w') :
    bodyPost Tryz.prog F R Exit.ret { tmps := tm, defers := [] } w' :=
  bodyPost_ret (results_cell_row hr tm w' b _ _ _ _ hp hb Tryz.underlying31 rfl infoGot) rfl hR
theorem set11 {w : World} {b : Nat} {a : Raw} {en at_ e : Int} {T : TypeId} (h : w.heap[b]? = some (.cells (gArr a en at_ e) T (0, 0))) (c : Raw) (en' at' e' : Int) :
    (((((((((((w.setCell ⟨b, 0, none⟩ (.int .i64 c.kind)).setCell ⟨b, 1, none⟩ (.bool c.is)).setCell ⟨b, 2, none⟩ (.bool c.neg)).setCell ⟨b, 3, none⟩ (.string c.dig)).setCell ⟨b, 4, none⟩ (.int .i64 c.exp)).setCell ⟨b, 5, none⟩ (.string c.str)).setCell ⟨b, 6, none⟩ (.slice c.ka c.kn c.kc)).setCell ⟨b, 7, none⟩ (.slice c.va c.vn c.vc)).setCell ⟨b, 8, none⟩ (.int .i64 en')).setCell ⟨b, 9, none⟩ (.int .i64 at')).setCell ⟨b, 10, none⟩ (.int .i64 e')).heap[b]? = some (.cells (gArr c en' at' e') T (0, 0)) := by
  have h0 := heap_set_same h (i := 0) (.int .i64 c.kind)
  have h1 := heap_set_same h0 (i := 1) (.bool c.is)
  have h2 := heap_set_same h1 (i := 2) (.bool c.neg)
  have h3 := heap_set_same h2 (i := 3) (.string c.dig)
  have h4 := heap_set_same h3 (i := 4) (.int .i64 c.exp)
  have h5 := heap_set_same h4 (i := 5) (.string c.str)
  have h6 := heap_set_same h5 (i := 6) (.slice c.ka c.kn c.kc)
  have h7 := heap_set_same h6 (i := 7) (.slice c.va c.vn c.vc)
  have h8 := heap_set_same h7 (i := 8) (.int .i64 en')
  have h9 := heap_set_same h8 (i := 9) (.int .i64 at')
  have h10 := heap_set_same h9 (i := 10) (.int .i64 e')
  rw [h10]
  simp [gArr]
theorem b11 {B : Nat} {w w2 : World} {b : Nat} (h : Below B w w2) (hb : B ≤ b) (x0 x1 x2 x3 x4 x5 x6 x7 x8 x9 x10 : Value) :
    Below B w (((((((((((w2.setCell ⟨b, 0, none⟩ x0).setCell ⟨b, 1, none⟩ x1).setCell ⟨b, 2, none⟩ x2).setCell ⟨b, 3, none⟩ x3).setCell ⟨b, 4, none⟩ x4).setCell ⟨b, 5, none⟩ x5).setCell ⟨b, 6, none⟩ x6).setCell ⟨b, 7, none⟩ x7).setCell ⟨b, 8, none⟩ x8).setCell ⟨b, 9, none⟩ x9).setCell ⟨b, 10, none⟩ x10) :=
  ((((((((((h.setCell (p := ⟨b, 0, none⟩) hb _).setCell (p := ⟨b, 1, none⟩) hb _).setCell (p := ⟨b, 2, none⟩) hb _).setCell (p := ⟨b, 3, none⟩) hb _).setCell (p := ⟨b, 4, none⟩) hb _).setCell (p := ⟨b, 5, none⟩) hb _).setCell (p := ⟨b, 6, none⟩) hb _).setCell (p := ⟨b, 7, none⟩) hb _).setCell (p := ⟨b, 8, none⟩) hb _).setCell (p := ⟨b, 9, none⟩) hb _).setCell (p := ⟨b, 10, none⟩) hb _
theorem got_fin {F : Func} {p : Tmp} (hr : F.results = #[.cell p 31]) {tm : Array Value} {a : Raw} {en at_ e : Int} {R : Raw → Int → Int → Int → Prop} {w w2 : World} {b : Nat}
    (hb : w2.heap[b]? = some (.cells (gArr a en at_ e) 31 (0, 0))) (hp : tm.getD p undef = .pointer (some ⟨b, 0, none⟩)) (hB : Below w.heap.size w w2) (hle : w.heap.size ≤ b) (c : Raw) (en' at' e' : Int) (hR : R c en' at' e') :
    bodyPost Tryz.prog F (GPost R w) Exit.ret { tmps := tm, defers := [] }
    (((((((((((w2.setCell ⟨b, 0, none⟩ (.int .i64 c.kind)).setCell ⟨b, 1, none⟩ (.bool c.is)).setCell ⟨b, 2, none⟩ (.bool c.neg)).setCell ⟨b, 3, none⟩ (.string c.dig)).setCell ⟨b, 4, none⟩ (.int .i64 c.exp)).setCell ⟨b, 5, none⟩ (.string c.str)).setCell ⟨b, 6, none⟩ (.slice c.ka c.kn c.kc)).setCell ⟨b, 7, none⟩ (.slice c.va c.vn c.vc)).setCell ⟨b, 8, none⟩ (.int .i64 en')).setCell ⟨b, 9, none⟩ (.int .i64 at')).setCell ⟨b, 10, none⟩ (.int .i64 e')) :=
  got_ret hr (set11 hb c en' at' e') hp ⟨_, _, _, _, rfl, hR, b11 hB hle _ _ _ _ _ _ _ _ _ _ _⟩
theorem got_new (w : World) : ∃ w1, w.alloc (.cells #[.int .i64 0, .bool false, .bool false, .string ⟨#[]⟩, .int .i64 0, .string ⟨#[]⟩, .slice none 0 0, .slice none 0 0, .int .i64 0, .int .i64 0, .int .i64 0] 31) = w1 ∧
    Hid (w1.heap[w.heap.size]? = some (.cells (gArr Raw.zero 0 0 0) 31 (0, 0))) ∧ Hid (Below w.heap.size w w1) ∧ Hid (w1.heap.size = w.heap.size + 1) :=
  ⟨_, rfl, heap_alloc_new _ _, (Below.refl _ _).alloc (Nat.le_refl _) _, by simp [Hid]⟩
/-- A result's cells, read and not frozen. -/
theorem got_cells {w : World} {b : Nat} {a : Raw} {en at_ e : Int} {T : TypeId} (h : w.heap[b]? = some (.cells (gArr a en at_ e) T (0, 0))) :
    (w.cell? ⟨b, 0, none⟩ = some (.int .i64 a.kind) ∧ w.cell? ⟨b, 1, none⟩ = some (.bool a.is) ∧ w.cell? ⟨b, 2, none⟩ = some (.bool a.neg) ∧ w.cell? ⟨b, 3, none⟩ = some (.string a.dig) ∧ w.cell? ⟨b, 4, none⟩ = some (.int .i64 a.exp) ∧ w.cell? ⟨b, 5, none⟩ = some (.string a.str) ∧ w.cell? ⟨b, 6, none⟩ = some (.slice a.ka a.kn a.kc) ∧ w.cell? ⟨b, 7, none⟩ = some (.slice a.va a.vn a.vc) ∧ w.cell? ⟨b, 8, none⟩ = some (.int .i64 en) ∧ w.cell? ⟨b, 9, none⟩ = some (.int .i64 at_) ∧ w.cell? ⟨b, 10, none⟩ = some (.int .i64 e)) ∧
    (w.frozen? ⟨b, 0, none⟩ = false ∧ w.frozen? ⟨b, 1, none⟩ = false ∧ w.frozen? ⟨b, 2, none⟩ = false ∧ w.frozen? ⟨b, 3, none⟩ = false ∧ w.frozen? ⟨b, 4, none⟩ = false ∧ w.frozen? ⟨b, 5, none⟩ = false ∧ w.frozen? ⟨b, 6, none⟩ = false ∧ w.frozen? ⟨b, 7, none⟩ = false ∧ w.frozen? ⟨b, 8, none⟩ = false ∧ w.frozen? ⟨b, 9, none⟩ = false ∧ w.frozen? ⟨b, 10, none⟩ = false) :=
  ⟨⟨cell_of h 0, cell_of h 1, cell_of h 2, cell_of h 3, cell_of h 4, cell_of h 5, cell_of h 6, cell_of h 7, cell_of h 8, cell_of h 9, cell_of h 10⟩, frozen_of h 0, frozen_of h 1, frozen_of h 2, frozen_of h 3, frozen_of h 4, frozen_of h 5, frozen_of h 6, frozen_of h 7, frozen_of h 8, frozen_of h 9, frozen_of h 10⟩

theorem rbad_any (at_ e : Int) (w : World) : Calls Tryz.prog 16 #[.int .i64 at_, .int .i64 e] w (GPost (BadR at_ e) w) := by
  obtain ⟨w1, hw1, R1, B1, S1⟩ := got_new w
  go_enter Tryz.func16, Tryz.ntmps16
  obtain ⟨⟨c0, c1, c2, c3, c4, c5, c6, c7, c8, c9, c10⟩, f0, f1, f2, f3, f4, f5, f6, f7, f8, f9, f10⟩ := got_cells R1.out
  go_wp2_with fail
  exact got_fin rfl R1.out rfl B1.out (Nat.le_refl _) Raw.zero 0 at_ e ⟨rfl, rfl⟩
theorem rhere_any (s : ByteArray) (k : Nat) (w : World) (hs : s.size ≤ 1099511627776) (hk : k ≤ s.size) :
    Calls Tryz.prog 41 #[.string s, .int .i64 k] w (GPost (BadR (here s.data.toList k).1 (here s.data.toList k).2) w) := by
  have hl : s.data.toList.length = s.size := by simp
  obtain ⟨w1, hw1, R1, B1, S1⟩ := got_new w
  have HR : ∀ n : Nat, (here s.data.toList k).2 = n → ∀ a en at_ e, BadR k n a en at_ e → BadR (here s.data.toList k).1 (here s.data.toList k).2 a en at_ e := fun n h a en at_ e hh => by rw [h]; exact hh
  have hE : (here s.data.toList k).2 = if s.size ≤ k then 2 else 3 := by unfold here; rw [hl]
  by_cases h : s.size ≤ k
  · rw [if_pos h] at hE
    have HR2 := Hid.out (p := Hid _) (HR 2 hE)
    have q : decide ((s.size : Int) ≤ (k : Int)) = true := by rw [decide_eq_true_eq]; omega
    clear hl HR hE
    go_enter Tryz.func41, Tryz.ntmps41
    go_wp2_with fail
    clear hw1
    refine (rbad_any k 2 w1).mono ?_
    rintro x w2 ⟨a, en, at_, e, rfl, hr, hb⟩
    dsimp only [gVal]
    have B2 := Hid.out (p := Hid _) (B1.out.trans (hb.mono B1.out.size))
    have R2 : Hid (w2.heap[w.heap.size]? = some (.cells (gArr Raw.zero 0 0 0) 31 (0, 0))) := (hb.block _ (heap_lt R1.out)).trans R1.out
    have HB := Hid.out (p := Hid _) (HR2.out _ _ _ _ hr)
    clear hb hr
    obtain ⟨⟨c0, c1, c2, c3, c4, c5, c6, c7, c8, c9, c10⟩, f0, f1, f2, f3, f4, f5, f6, f7, f8, f9, f10⟩ := got_cells R2.out
    go_wp2_with fail
    exact got_fin rfl R2.out rfl B2.out (Nat.le_refl _) a en at_ e HB.out
  · rw [if_neg h] at hE
    have HR2 := Hid.out (p := Hid _) (HR 3 hE)
    have q : decide ((s.size : Int) ≤ (k : Int)) = false := by rw [decide_eq_false_iff_not]; omega
    clear hl HR hE
    go_enter Tryz.func41, Tryz.ntmps41
    go_wp2_with fail
    clear hw1
    refine (rbad_any k 3 w1).mono ?_
    rintro x w2 ⟨a, en, at_, e, rfl, hr, hb⟩
    dsimp only [gVal]
    have B2 := Hid.out (p := Hid _) (B1.out.trans (hb.mono B1.out.size))
    have R2 : Hid (w2.heap[w.heap.size]? = some (.cells (gArr Raw.zero 0 0 0) 31 (0, 0))) := (hb.block _ (heap_lt R1.out)).trans R1.out
    have HB := Hid.out (p := Hid _) (HR2.out _ _ _ _ hr)
    clear hb hr
    obtain ⟨⟨c0, c1, c2, c3, c4, c5, c6, c7, c8, c9, c10⟩, f0, f1, f2, f3, f4, f5, f6, f7, f8, f9, f10⟩ := got_cells R2.out
    go_wp2_with fail
    exact got_fin rfl R2.out rfl B2.out (Nat.le_refl _) a en at_ e HB.out
end Go.Proofs.YtehffmcfmdjknaaGreatDoor.Jdec
