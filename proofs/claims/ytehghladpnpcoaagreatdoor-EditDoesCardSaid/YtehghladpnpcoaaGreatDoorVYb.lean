/- tabulariumref18.Find, Drop, Put. -/
import Derived.Test.YtehghladpnpcoaaGreatDoorVYa
set_option linter.unusedVariables false
set_option linter.unusedSimpArgs false
set_option maxRecDepth 100000
set_option maxHeartbeats 16000000
section
namespace Go.Proofs.YtehghladpnpcoaaGreatDoor.State
open Go.RowKit Go.Shelf Go.Proofs.YtehghladpnpcoaaGreatDoor.Utf Go.Proofs.YtehghladpnpcoaaGreatDoor.Strs Go.Proofs.YtehghladpnpcoaaGreatDoor.Addr
open Go.Proofs.YtehghladpnpcoaaGreatDoor.Jdec (IsTexts Turn infoStr gb_set gb_below gb_refl)
end Go.Proofs.YtehghladpnpcoaaGreatDoor.State
end
section
namespace Go.Proofs.YtehghladpnpcoaaGreatDoor.State
open Go.RowKit Go.Shelf Go.Proofs.YtehghladpnpcoaaGreatDoor.Utf Go.Proofs.YtehghladpnpcoaaGreatDoor.Strs Go.Proofs.YtehghladpnpcoaaGreatDoor.Addr
open Go.Proofs.YtehghladpnpcoaaGreatDoor.Jdec (IsTexts Turn infoStr gb_set gb_below gb_refl)
def RfPost (l : List Rec) (a : Adr) (w : World) (e : Ending) (w' : World) : Prop := Below w.heap.size w w' ∧
  ((∃ i : Nat, ∃ h : i < l.length, e = .returned (.int .i64 i) ∧ l[i].a = a) ∨ (e = .returned (.int .i64 (-1)) ∧ ∀ x ∈ l, x.a ≠ a))
theorem rsa_ok (r : Rec) (p : At) (a : Adr) (pa : Option Addr) (pc : Nat) (w : World) (h : IsRec w (fun _ => True) p r) (hs : Small r) (ha : AdrAt w pa a) (b : Bool) (hb : sameA r.a a = b) : Hid (Calls Tryz.prog 27 #[.agg #[.slice p.pa r.a.path.length p.pc, .string r.a.type, .string r.a.name, .int .i64 r.a.key, .int .u64 r.a.place, .string r.a.word], .agg #[.slice pa a.path.length pc, .string a.type, .string a.name, .int .i64 a.key, .int .u64 a.place, .string a.word]] w fun e w' => e = .returned (.bool b) ∧ Below w.heap.size w w') := by
  rw [← hb]
  exact rsame_any r.a a p.pa pa p.pc pc _ _ w h.path ha.t (Nat.le_trans hs.l (by omega)) (Nat.le_trans ha.l (by omega))
theorem rfind_any (s : Sta) (ra : Option Addr) (rc : Nat) (a : Adr) (pa : Option Addr) (pc : Nat) (w : World) (h : RecsAt w ra s.recs) (ha : AdrAt w pa a) : Calls Tryz.prog 28 #[staV ra rc s, wordsA pa pc a] w (RfPost s.recs a w) := by
  obtain ⟨w1, hw1, V1, B1⟩ := sta_new w ra rc s
  obtain ⟨w2, hw2, V2, B2⟩ := adr_new w1 pa pc a
  have hl1 := heap_lt V1.out
  have hl2 := heap_lt V2.out
  have B02 : Hid (Below w.heap.size w w2) := B1.out.trans (B2.out.mono (by omega))
  have V12 : Hid (w2.heap[w.heap.size]? = some (.cells (staArr ra rc s) 25 (0, 0))) := (B2.out.block _ hl1).trans V1.out
  have HR : Hid (∀ W, Below w2.heap.size w2 W → RecsAt W ra s.recs) := fun W hb => (h.stays B02.out).stays hb
  have HA : Hid (∀ W, Below w2.heap.size w2 W → AdrAt W pa a) := fun W hb => (ha.stays B02.out).stays hb
  have HKA : Hid (∀ W, Below w2.heap.size w2 W → W.heap[w.heap.size]? = some (.cells (staArr ra rc s) 25 (0, 0))) := fun W hb => (hb.block _ (by omega)).trans V12.out
  have HKB : Hid (∀ W, Below w2.heap.size w2 W → W.heap[w1.heap.size]? = some (.cells (arrA pa pc a) 35 (0, 0))) := fun W hb => (hb.block _ (by omega)).trans V2.out
  have HBW : Hid (∀ W, Below w2.heap.size w2 W → Below w.heap.size w W) := fun W hb => B02.out.trans (hb.mono B02.out.size)
  have hn := h.n
  obtain ⟨x0, x1, x2⟩ := sta_cells V12.out
  obtain ⟨y0, y1, y2, y3, y4, y5⟩ := adr_cells V2.out
  unfold staV wordsA
  clear h ha
  go_enter Tryz.func28, Tryz.ntmps28
  go_wp2_with fail
  clear hw1 hw2 x0 x1 x2 y0 y1 y2 y3 y4 y5
  go_loopw [5] (fun p5 wr => ∃ i : Nat, p5 = .int .i64 i ∧ i ≤ s.recs.length ∧ Hid (∀ j (h : j < s.recs.length), j < i → s.recs[j].a ≠ a) ∧ Hid (Below w2.heap.size w2 wr)) (fun p5 _ => s.recs.length - (intOf p5).toNat)
  case atStart => exact ⟨0, rfl, Nat.zero_le _, fun j _ h => by omega, Below.refl _ _⟩
  case round =>
    obtain ⟨i, rfl, hi, hI, hB⟩ := hrel
    obtain ⟨x0, x1, x2⟩ := sta_cells (HKA.out wr hB.out)
    by_cases hlt : i < s.recs.length
    · obtain ⟨b, o, p, hra, hb, hcr, hir⟩ := (HR.out wr hB.out).get hlt
      have hsm := (HR.out wr hB.out).s _ (List.getElem_mem hlt)
      obtain ⟨r, hr⟩ : ∃ r, s.recs[i] = r := ⟨_, rfl⟩
      rw [hr] at hcr hir hsm
      obtain ⟨z0, z1, z2, z3, z4, z5, z6, z7, z8⟩ := recs_nine hcr
      obtain ⟨y0, y1, y2, y3, y4, y5⟩ := adr_cells (HKB.out wr hB.out)
      have HRA := hdQ hra
      have HCR : Hid (∀ W, Below wr.heap.size wr W → ∀ j u, (recArr p r)[j]? = some u → W.cell? ⟨b, o + i * 9 + j, none⟩ = some u) := fun W hW j u hu => by rw [cell_blk (hW.block b hb)]; exact hcr j u hu
      have hdr : Below wr.heap.size wr wr.drew := (Below.refl _ _).drew
      have HDR : Hid (Below wr.heap.size wr wr.drew) := hdr
      have HW : Hid (∀ W, Below wr.heap.size wr W → Below w2.heap.size w2 W) := fun W hW => hB.out.trans (hW.mono hB.out.size)
      obtain ⟨e, he⟩ : ∃ e, sameA r.a a = e := ⟨_, rfl⟩
      have HSM := rsa_ok r p a pa pc wr.drew (hir.turn (Turn.below hdr)) hsm (HA.out _ (HW.out _ hdr)) e he
      have HE : Hid (e = true ↔ s.recs[i].a = a) := by rw [Hid, hr, ← he, sameA_iff]
      rw [hra] at x2
      clear hcr hir hsm hr hra hdr he
      go_wp2_with fail
      go_region_held3 (fun w' => w'.cell? ⟨w.heap.size, 2, none⟩ = some (.slice (some ⟨b, o, none⟩) s.recs.length rc) ∧ w'.cell? ⟨b, o + i * 9, none⟩ = some (.slice p.pa r.a.path.length p.pc) ∧ w'.cell? ⟨b, o + i * 9 + 1, none⟩ = some (.string r.a.type) ∧ w'.cell? ⟨b, o + i * 9 + 2, none⟩ = some (.string r.a.name) ∧ w'.cell? ⟨b, o + i * 9 + 3, none⟩ = some (.int .i64 r.a.key) ∧ w'.cell? ⟨b, o + i * 9 + 4, none⟩ = some (.int .u64 r.a.place) ∧ w'.cell? ⟨b, o + i * 9 + 5, none⟩ = some (.string r.a.word) ∧ w'.cell? ⟨w1.heap.size, 0, none⟩ = some (.slice pa a.path.length pc) ∧ w'.cell? ⟨w1.heap.size, 1, none⟩ = some (.string a.type) ∧ w'.cell? ⟨w1.heap.size, 2, none⟩ = some (.string a.name) ∧ w'.cell? ⟨w1.heap.size, 3, none⟩ = some (.int .i64 a.key) ∧ w'.cell? ⟨w1.heap.size, 4, none⟩ = some (.int .u64 a.place) ∧ w'.cell? ⟨w1.heap.size, 5, none⟩ = some (.string a.word)) (go_keep)
        (first
          | (go_at_call 27; refine (Calls.mono HSM.out ?_); rintro z w4 ⟨rfl, hb4⟩; have B4 : Hid (Below wr.heap.size wr w4) := HDR.out.trans hb4; clear hb4; obtain ⟨as0, as1, as2⟩ := sta_cells (HKA.out w4 (HW.out _ B4.out)); rw [HRA.out] at as2; obtain ⟨az0, az1, az2, az3, az4, az5, az6, az7, az8⟩ := recs_nine (HCR.out w4 B4.out); obtain ⟨ay0, ay1, ay2, ay3, ay4, ay5⟩ := adr_cells (HKB.out w4 (HW.out _ B4.out))))
      all_goals
        cases e
        case true =>
          have HT : Hid (s.recs[i].a = a) := HE.out.1 rfl
          go_wp2_with fail
          go_ret
          exact ⟨HBW.out w4 (HW.out _ B4.out), .inl ⟨i, hlt, rfl, HT.out⟩⟩
        case false =>
          have HN : Hid (∀ j (h : j < s.recs.length), j < i + 1 → s.recs[j].a ≠ a) := fun j hj hji e => by
            by_cases h : j = i
            · subst h; have := HE.out.2 e; cases this
            · exact hI.out j hj (by omega) e
          go_wp2_with fail
          go_roundw
          case rel => exact ⟨i + 1, by go_num, by omega, HN.out, HW.out _ B4.out⟩
          case measure => simp [intOf]; omega
    · have HN : Hid (∀ x ∈ s.recs, x.a ≠ a) := fun x hx => by
        obtain ⟨j, hj, rfl⟩ := List.getElem_of_mem hx
        exact hI.out j hj (by omega)
      go_wp2_with fail
      go_ret
      exact ⟨HBW.out wr hB.out, .inr ⟨rfl, HN.out⟩⟩
end Go.Proofs.YtehghladpnpcoaaGreatDoor.State
end
section
namespace Go.Proofs.YtehghladpnpcoaaGreatDoor.State
open Go.RowKit Go.Shelf Go.Proofs.YtehghladpnpcoaaGreatDoor.Utf Go.Proofs.YtehghladpnpcoaaGreatDoor.Strs Go.Proofs.YtehghladpnpcoaaGreatDoor.Addr
open Go.Proofs.YtehghladpnpcoaaGreatDoor.Jdec (IsTexts Turn infoStr gb_set gb_below gb_refl)
def RdPost (A : Nat → Prop) (s : Sta) (a : Adr) (w : World) (e : Ending) (w' : World) : Prop := Below w.heap.size w w' ∧ ∃ i : Nat, ∃ h : i < s.recs.length, s.recs[i].a = a ∧
  ∃ a' c', e = .returned (staV a' c' { s with recs := dropR s.recs i }) ∧ IsRecs w' (fun b => A b ∨ w.heap.size ≤ b) a' (dropR s.recs i) ∧ (dropR s.recs i).length ≤ c'
theorem rf_ok (s : Sta) (ra : Option Addr) (rc : Nat) (a : Adr) (pa : Option Addr) (pc : Nat) (w : World) (h : RecsAt w ra s.recs) (ha : AdrAt w pa a) :
    Hid (Calls Tryz.prog 28 #[.agg #[.int .u64 s.serial, .string s.lin, .slice ra s.recs.length rc], .agg #[.slice pa a.path.length pc, .string a.type, .string a.name, .int .i64 a.key, .int .u64 a.place, .string a.word]] w (RfPost s.recs a w)) := rfind_any s ra rc a pa pc w h ha
theorem rd_ret (s : Sta) (w' : World) (tm : Array Value) (b : Nat) (a : Option Addr) (c : Nat) (Q : Ending → World → Prop) (hb : w'.heap[b]? = some (.cells (staArr a c s) 25 (0, 0))) (h2 : tm[4]? = some (.pointer (some ⟨b, 0, none⟩))) (hq : Q (.returned (staV a c s)) w') : bodyPost Tryz.prog Tryz.f59 Q Exit.ret { tmps := tm, defers := [] } w' := by
  obtain ⟨c0, c1, c2⟩ := sta_cells hb
  refine bodyPost_ret (v := staV a c s) ?_ rfl hq
  simp [results, Tryz.results59, go_sem, h2, c0, c1, c2, staV]
structure DI (A : Nat → Prop) (ob : Nat) (w0 W : World) (s : Sta) (l : List Rec) (a : Option Addr) (c : Nat) : Prop where
  K : W.heap[ob]? = some (.cells (staArr a c { s with recs := l }) 25 (0, 0))
  R : RowR W w0.heap.size A (.slice a l.length c) l
  b : Below w0.heap.size w0 W
  o : w0.heap.size ≤ ob
  h : ∀ b, A b → b < w0.heap.size
theorem DI.stays {A : Nat → Prop} {ob : Nat} {w0 W W' : World} {s : Sta} {l : List Rec} {a : Option Addr} {c : Nat} (h : DI A ob w0 W s l a c) (hb : Below W.heap.size W W') : DI A ob w0 W' s l a c :=
  ⟨(hb.block _ (heap_lt h.K)).trans h.K, h.R.below hb, h.b.trans (hb.mono h.b.size), h.o, h.h⟩
theorem DI.cells {A : Nat → Prop} {ob : Nat} {w0 W : World} {s : Sta} {l : List Rec} {a : Option Addr} {c k : Nat} (h : DI A ob w0 W s l a c) (hk : l.length = k) : W.cell? ⟨ob, 0, none⟩ = some (.int .u64 s.serial) ∧ W.cell? ⟨ob, 1, none⟩ = some (.string s.lin) ∧ W.cell? ⟨ob, 2, none⟩ = some (.slice a k c) ∧ W.frozen? ⟨ob, 2, none⟩ = false :=
  ⟨cell_of h.K 0, cell_of h.K 1, by subst hk; exact cell_of h.K 2, frozen_of h.K 2⟩
theorem DI.append {A : Nat → Prop} {ob : Nat} {w0 W : World} {s : Sta} {l : List Rec} {a : Option Addr} {c k : Nat} (h : DI A ob w0 W s l a c) (hk : l.length = k) {m : List Rec} {ps : List (At × Rec)} {ra : Option Addr} {n q : Nat} (rc : Nat)
    (hp : Recs w0 A ps m) (hM : CellsAt w0 ra (ps.map recL)) (hn : m.length = n) (hq : k + n = q) (hq2 : q ≤ 3000000) :
    ∃ a' c' w', (Builtin.append_ #[23, 23] 23 #[.slice a k c, .slice ra n rc]).run Tryz.prog W.drew = .ok (.slice a' q c') w' ∧ Hid (DI A ob w0 (w'.setCell ⟨ob, 2, none⟩ (.slice a' q c')) s (l ++ m) a' c') ∧ Hid (Below w0.heap.size w0 w') ∧
      w'.cell? ⟨ob, 2, none⟩ = some (.slice a k c) ∧ w'.frozen? ⟨ob, 2, none⟩ = false := by
  have hdr : Below W.heap.size W W.drew := (Below.refl _ _).drew
  have hD := h.stays hdr
  have hR := hD.R
  rw [hk] at hR
  have hp2 : Recs W.drew A ps m := hp.turn ⟨hD.b.size, fun b hb hl => ⟨hD.b.block b hl, hb⟩⟩
  obtain ⟨a', c', w', hr, hR', hG, hO⟩ := append_recs W.drew w0.heap.size A h.h (.slice a k c) l m ps ra k n q rc hR hp2 (hM.stays hD.b) hk hn hq hq2 hD.b.size
  have hne : ∀ x, (Value.slice a k c).ownBlock = some x → x ≠ ob := fun x hx e => by
    subst e
    obtain ⟨qs, hq2, hg⟩ := hR
    rcases hg.o.2 with ⟨hv, _⟩ | ⟨g, cap, cur, hv, _, hgb, _⟩
    · rw [hv] at hx; cases hx
    · rw [hv] at hx
      simp [Value.ownBlock] at hx
      subst hx
      rw [hD.K] at hgb
      injection hgb with hgb
      injection hgb with _ e2 _
      exact absurd e2 (by decide)
  have hA : w'.heap[ob]? = some (.cells (staArr a c { s with recs := l }) 25 (0, 0)) := (hG.out.block _ (heap_lt hD.K) (fun e => hne ob e.symm rfl)).trans hD.K
  have hlen : (l ++ m).length = q := by rw [List.length_append, hk, hn, hq]
  have hb : Below w0.heap.size w0 w' := hD.b.grown hG.out hD.b.size hO.out
  have hgs := gb_set w' ob 2 (.slice a' q c')
  refine ⟨a', c', w', hr, ⟨?_, ?_, hb.grown hgs hb.size (fun x hx => by injection hx with hx; rw [← hx]; exact h.o), h.o, h.h⟩, hb, ?_, frozen_of hA 2⟩
  · rw [heap_set_same hA]
    simp [staArr, hlen]
  · rw [hlen]
    refine hR'.out.kept hgs (fun b e => ?_)
    injection e with e
    subst e
    refine ⟨fun e => by have := h.h _ e; have := h.o; omega, fun e => ?_⟩
    obtain ⟨qs, hq2, hg⟩ := hR'.out
    rcases hg.o.2 with ⟨hv, _⟩ | ⟨g, cap, cur, hv, _, hgb, _⟩
    · rw [hv] at e; cases e
    · rw [hv] at e
      simp [Value.ownBlock] at e
      subst e
      rw [hA] at hgb
      injection hgb with hgb
      injection hgb with _ e2 _
      exact absurd e2 (by decide)
  · rw [cell_of hA 2]
    simp [staArr, hk]
theorem rdrop_any (A : Nat → Prop) (s : Sta) (ra : Option Addr) (rc : Nat) (a : Adr) (pa : Option Addr) (pc : Nat) (w : World) (h : RecsAt w ra s.recs) (hc : s.recs.length ≤ rc) (hA : IsRecs w A ra s.recs) (ha : AdrAt w pa a) (hin : ∃ x ∈ s.recs, x.a = a) : Calls Tryz.prog 59 #[staV ra rc s, wordsA pa pc a] w (RdPost A s a w) := by
  obtain ⟨w1, hw1, V1, B1⟩ := sta_new w ra rc s
  obtain ⟨w2, hw2, V2, B2⟩ := adr_new w1 pa pc a
  obtain ⟨w3, hw3, V3, B3, Z3⟩ := zsta_new w2
  have hl1 := heap_lt V1.out
  have hl2 := heap_lt V2.out
  have hl3 := heap_lt V3.out
  have B02 : Hid (Below w.heap.size w w2) := B1.out.trans (B2.out.mono (by omega))
  have B03 : Hid (Below w.heap.size w w3) := B02.out.trans (B3.out.mono (by omega))
  have V13 : Hid (w3.heap[w.heap.size]? = some (.cells (staArr ra rc s) 25 (0, 0))) := (B3.out.block _ (by omega)).trans ((B2.out.block _ hl1).trans V1.out)
  have V23 : Hid (w3.heap[w1.heap.size]? = some (.cells (arrA pa pc a) 35 (0, 0))) := (B3.out.block _ hl2).trans V2.out
  have HFI := rf_ok s ra rc a pa pc w3 (h.stays B03.out) (ha.stays B03.out)
  have HH : Hid (∀ W, Below w.heap.size w W → RecsAt W ra s.recs) := fun W hb => h.stays hb
  have HR0 : Hid (IsRecs w (fun b => A b ∧ b < w.heap.size) ra s.recs) := hA.turn (Turn.mono _ (fun b h hb => ⟨h, hb⟩))
  have HIN := hdQ hin
  have hn := h.n
  have HS1 := hdQ B1.out.size
  have HS2 := hdQ B2.out.size
  have HS3 := hdQ B3.out.size
  obtain ⟨x0, x1, x2⟩ := sta_cells V13.out
  obtain ⟨y0, y1, y2, y3, y4, y5⟩ := adr_cells V23.out
  unfold staV wordsA
  clear h ha hin hA
  go_enter Tryz.func59, Tryz.ntmps59
  go_wp2_with fail
  refine (Calls.mono HFI.out ?_)
  rintro z w4 hz
  obtain ⟨hb4, hz⟩ := hz
  rcases hz with ⟨i, hi, rfl, hia⟩ | ⟨_, hno⟩
  case inr => obtain ⟨x, hx, e⟩ := HIN.out; exact absurd e (hno x hx)
  have HIA := hdQ hia
  have B04 : Hid (Below w.heap.size w w4) := B03.out.trans (hb4.mono B03.out.size)
  have V14 : Hid (w4.heap[w.heap.size]? = some (.cells (staArr ra rc s) 25 (0, 0))) := (hb4.block _ (by omega)).trans V13.out
  have V34 : Hid (w4.heap[w2.heap.size]? = some (.cells (staArr none 0 ⟨0, ⟨#[]⟩, []⟩) 25 (0, 0))) := (hb4.block _ hl3).trans V3.out
  clear hb4 hia x0 x1 x2 y0 y1 y2 y3 y4 y5 HFI hw1 hw2 hw3
  obtain ⟨w5, hw5, V5, B5, Z5⟩ := zsta_new w4
  have hl4 := heap_lt V14.out
  have hl34 := heap_lt V34.out
  have hl5 := heap_lt V5.out
  have f50 := frozen_of V5.out 0
  have f51 := frozen_of V5.out 1
  have f52 := frozen_of V5.out 2
  obtain ⟨u0, u1, u2⟩ := sta_cells V5.out
  obtain ⟨w6, hw6⟩ : ∃ w6, (((w5.setCell ⟨w4.heap.size, 0, none⟩ (.int .u64 s.serial)).setCell ⟨w4.heap.size, 1, none⟩ (.string s.lin)).setCell ⟨w4.heap.size, 2, none⟩ (.slice none 0 0)) = w6 := ⟨_, rfl⟩
  have V6 : Hid (w6.heap[w4.heap.size]? = some (.cells (staArr none 0 { s with recs := [] }) 25 (0, 0))) := by rw [← hw6]; exact set3 (t := { s with recs := [] }) V5.out
  have G6 : Hid (w5.grownBy w6 (some w4.heap.size)) := by rw [← hw6]; exact ((gb_set _ _ _ _).trans (gb_set _ _ _ _)).trans (gb_set _ _ _ _)
  have B45 : Hid (Below w4.heap.size w4 w6) := B5.out.grown G6.out B5.out.size (fun k hk => by injection hk with hk; omega)
  have D6 : Hid (DI (fun b => A b ∧ b < w.heap.size) w4.heap.size w4 w6 s [] none 0) := ⟨V6.out, RowR.nil _ _ _, B45.out, Nat.le_refl _, fun b hb => by have := hb.2; have := B04.out.size; omega⟩
  have HR4 : IsRecs w4 (fun b => A b ∧ b < w.heap.size) ra s.recs := HR0.out.turn ⟨B04.out.size, fun b hb hl => ⟨B04.out.block b hl, hb⟩⟩
  obtain ⟨ps, hps, hcs⟩ := recs_of HR4
  have hlen := hps.len
  have c1 := hcs.take i
  rw [← List.map_take] at c1
  have c2 := hcs.rest (flat_recs ps) (rc := rc) (by rw [List.length_map, hlen]; exact hc) (i + 1)
  rw [← List.map_drop] at c2
  have e1 : (s.recs.take i).length = i := by rw [List.length_take]; omega
  have e2 : (s.recs.drop (i + 1)).length = s.recs.length - (i + 1) := List.length_drop
  obtain ⟨q2, hq2⟩ : ∃ q2, i + (s.recs.length - (i + 1)) = q2 := ⟨_, rfl⟩
  obtain ⟨a2, ha2⟩ : ∃ q : Option Addr, (if rc = i + 1 then ra else Option.map (fun x => x.add ((i + 1) * 9)) ra) = q := ⟨_, rfl⟩
  rw [ha2] at c2
  obtain ⟨a3, q3, w7, hap1, D8, B7, y72, f72⟩ := D6.out.append rfl (q := i) rc (hps.take i) c1 e1 (by simp) (by omega)
  rw [List.nil_append] at D8
  simp only [List.length_nil] at y72 hap1
  obtain ⟨w8, hw8⟩ : ∃ w8, w7.setCell ⟨w4.heap.size, 2, none⟩ (.slice a3 i q3) = w8 := ⟨_, rfl⟩
  rw [hw8] at D8
  obtain ⟨a4, q4, w9, hap2, D10, B9, y92, f92⟩ := D8.out.append e1 (rc - (i + 1)) (hps.drop (i + 1)) c2 e2 hq2 (by omega)
  obtain ⟨w10, hw10⟩ : ∃ w10, w9.setCell ⟨w4.heap.size, 2, none⟩ (.slice a4 q2 q4) = w10 := ⟨_, rfl⟩
  rw [hw10] at D10
  have hel : (dropR s.recs i).length = q2 := by rw [dropR, List.length_append, e1, e2, hq2]
  obtain ⟨v0, v1, v2, g2⟩ := D6.out.cells (k := 0) rfl
  have hdr6 : Below w6.heap.size w6 w6.drew := (Below.refl _ _).drew
  have hdr8 : Below w8.heap.size w8 w8.drew := (Below.refl _ _).drew
  obtain ⟨v0d, v1d, v2d, g2d⟩ := (D6.out.stays hdr6).cells (k := 0) rfl
  obtain ⟨v80, v81, v82, g82⟩ := D8.out.cells e1
  obtain ⟨v80d, v81d, v82d, g82d⟩ := (D8.out.stays hdr8).cells e1
  obtain ⟨v100, v101, v102, _⟩ := D10.out.cells hel
  have HAP1 := hdQ hap1
  have HAP2 := hdQ hap2
  obtain ⟨t60, t61, t62⟩ := sta_cells ((D6.out.b.block _ hl4).trans V14.out)
  obtain ⟨t60d, t61d, t62d⟩ := sta_cells (((D6.out.stays hdr6).b.block _ hl4).trans V14.out)
  obtain ⟨t80, t81, t82⟩ := sta_cells ((D8.out.b.block _ hl4).trans V14.out)
  obtain ⟨t80d, t81d, t82d⟩ := sta_cells (((D8.out.stays hdr8).b.block _ hl4).trans V14.out)
  have V310 : Hid (w10.heap[w2.heap.size]? = some (.cells (staArr none 0 ⟨0, ⟨#[]⟩, []⟩) 25 (0, 0))) := (D10.out.b.block _ hl34).trans V34.out
  have f0 := frozen_of V310.out 0
  have f1 := frozen_of V310.out 1
  have f2 := frozen_of V310.out 2
  obtain ⟨k0, k1, k2⟩ := sta_cells V310.out
  obtain ⟨t0, t1, t2⟩ := sta_cells V14.out
  have hirc : i ≤ rc := by omega
  have wi1 : IntKind.i64.wrap ((i : Int) + 1) = ((i + 1 : Nat) : Int) := by rw [IntWalk.i64_in _ (by omega)]; omega
  have hb0 : (0 : Int) ≤ (i : Int) + 1 := by omega
  have hb1 : (i : Int) + 1 ≤ (s.recs.length : Int) := by omega
  have hi1 : i + 1 ≤ s.recs.length := hi
  have hrc1 : i + 1 ≤ rc := by omega
  have HEL := hdQ hel
  have HI := hdQ hi
  have HL34 := hdQ hl34
  clear hap1 hap2 c1 c2 e1 e2 hq2 hel hps hcs HR4 hlen hdr6 hdr8
  go_wp2_with fail
  go_region_law (refine step_append_run _ _ 23 HAP1.out (by rfl) _ _ (by rfl) (by rfl) (by rfl) ?_)
  all_goals
    go_wp2_with fail
    go_region_law (refine step_append_run _ _ 23 HAP2.out (by rfl) _ _ (by rfl) (by rfl) (by rfl) ?_)
    all_goals
      go_wp2_with fail
      have hg : w10.grownBy (((w10.setCell ⟨w2.heap.size, 0, none⟩ (.int .u64 s.serial)).setCell ⟨w2.heap.size, 1, none⟩ (.string s.lin)).setCell ⟨w2.heap.size, 2, none⟩ (.slice a4 q2 q4)) (some w2.heap.size) := ((gb_set _ _ _ _).trans (gb_set _ _ _ _)).trans (gb_set _ _ _ _)
      have hset : (((w10.setCell ⟨w2.heap.size, 0, none⟩ (.int .u64 s.serial)).setCell ⟨w2.heap.size, 1, none⟩ (.string s.lin)).setCell ⟨w2.heap.size, 2, none⟩ (.slice a4 q2 q4)).heap[w2.heap.size]? = some (.cells (staArr a4 q4 { s with recs := dropR s.recs i }) 25 (0, 0)) := by
        have h := set3 (t := { s with recs := dropR s.recs i }) (a' := a4) (c' := q4) V310.out
        rw [show ({ s with recs := dropR s.recs i } : Sta).recs.length = q2 from HEL.out] at h
        exact h
      have B010 : Below w.heap.size w w10 := B04.out.trans (D10.out.b.mono B04.out.size)
      have hsz := B02.out.size
      have hl34 := HL34.out
      have hR10 := D10.out.R
      rw [show (List.take i s.recs ++ List.drop (i + 1) s.recs).length = q2 from HEL.out] at hR10
      obtain ⟨af, cf, hv, hcc, hI, _⟩ := hR10.form
      rw [show (List.take i s.recs ++ List.drop (i + 1) s.recs).length = q2 from HEL.out] at hv
      injection hv with h1 _ h2
      subst h1 h2
      have hI2 := hI.turn (w' := (((w10.setCell ⟨w2.heap.size, 0, none⟩ (.int .u64 s.serial)).setCell ⟨w2.heap.size, 1, none⟩ (.string s.lin)).setCell ⟨w2.heap.size, 2, none⟩ (.slice a4 q2 q4))) (A' := fun b => A b ∨ w.heap.size ≤ b) ⟨hg.size, fun b hb hl => ⟨hg.block b hl (fun e => by injection e with e; rcases hb with hb | hb <;> omega), hb.elim (fun h => .inl h.1) (fun h => .inr (by have := B04.out.size; omega))⟩⟩
      exact rd_ret { s with recs := dropR s.recs i } _ _ w2.heap.size a4 q4 (RdPost A s a w) hset (by rfl) ⟨B010.grown hg B010.size (fun x hx => by injection hx with hx; omega), i, HI.out, HIA.out, a4, q4, rfl, hI2, hcc⟩
end Go.Proofs.YtehghladpnpcoaaGreatDoor.State
end
section
namespace Go.Proofs.YtehghladpnpcoaaGreatDoor.State
open Go.RowKit Go.Shelf Go.Proofs.YtehghladpnpcoaaGreatDoor.Utf Go.Proofs.YtehghladpnpcoaaGreatDoor.Strs Go.Proofs.YtehghladpnpcoaaGreatDoor.Addr
open Go.Proofs.YtehghladpnpcoaaGreatDoor.Jdec (IsTexts Turn infoStr gb_set gb_below gb_refl)
def RuPost (A : Nat → Prop) (s : Sta) (r : Rec) (w : World) (e : Ending) (w' : World) : Prop := Below w.heap.size w w' ∧ ∃ l', ((∃ j, ∃ hj : j < s.recs.length, s.recs[j].a = r.a ∧ l' = dropR s.recs j) ∨ ((∀ x ∈ s.recs, x.a ≠ r.a) ∧ l' = s.recs)) ∧
  ∃ k, Behind l' (printA r.a) k ∧ ∃ a' c', e = .returned (staV a' c' { s with recs := putR l' r k k }) ∧ IsRecs w' (fun b => A b ∨ w.heap.size ≤ b) a' (putR l' r k k) ∧ (putR l' r k k).length ≤ c'
theorem rd_ok (A : Nat → Prop) (s : Sta) (ra : Option Addr) (rc : Nat) (a : Adr) (pa : Option Addr) (pc : Nat) (w : World) (h : RecsAt w ra s.recs) (hc : s.recs.length ≤ rc) (hA : IsRecs w A ra s.recs) (ha : AdrAt w pa a) (hin : ∃ x ∈ s.recs, x.a = a) :
    Hid (Calls Tryz.prog 59 #[.agg #[.int .u64 s.serial, .string s.lin, .slice ra s.recs.length rc], .agg #[.slice pa a.path.length pc, .string a.type, .string a.name, .int .i64 a.key, .int .u64 a.place, .string a.word]] w (RdPost A s a w)) := rdrop_any A s ra rc a pa pc w h hc hA ha hin
theorem RdPost.to {A : Nat → Prop} {s : Sta} {a : Adr} {w w' : World} {e : Ending} (h : RdPost A s a w e w') : ∃ (i : Nat) (hi : i < s.recs.length) (l' : List Rec) (a' : Option Addr) (c' : Nat), e = .returned (.agg #[.int .u64 s.serial, .string s.lin, .slice a' l'.length c']) ∧ Hid (s.recs[i].a = a) ∧ Hid (l' = dropR s.recs i) ∧ Hid (IsRecs w' (fun b => A b ∨ w.heap.size ≤ b) a' l') ∧ Hid (l'.length ≤ c') ∧ Hid (Below w.heap.size w w') := by
  obtain ⟨hb, i, hi, e1, a', c', e2, h1, h2⟩ := h
  exact ⟨i, hi, dropR s.recs i, a', c', e2, e1, rfl, h1, h2, hb⟩
theorem rp_ok (A : Nat → Prop) (l : List Rec) (ra : Option Addr) (rc : Nat) (r : Rec) (p : At) (w : World) (h : RecsAt w ra l) (hc : l.length ≤ rc) (hL : IsRecs w A ra l) (hI : IsRec w A p r) (hs : Small r) :
    Hid (Calls Tryz.prog 51 #[.slice ra l.length rc, .agg #[.slice p.pa r.a.path.length p.pc, .string r.a.type, .string r.a.name, .int .i64 r.a.key, .int .u64 r.a.place, .string r.a.word, .string r.prov, .string r.id, .slice p.ta r.attrs.length p.tc]] w (RpPost A l r w)) := rput18_any A l ra rc r p w h hc hL hI hs
theorem rp_ret (s : Sta) (w' : World) (tm : Array Value) (b : Nat) (a : Option Addr) (c : Nat) (Q : Ending → World → Prop) (hb : w'.heap[b]? = some (.cells (staArr a c s) 25 (0, 0))) (h2 : tm[4]? = some (.pointer (some ⟨b, 0, none⟩))) (hq : Q (.returned (staV a c s)) w') : bodyPost Tryz.prog Tryz.f60 Q Exit.ret { tmps := tm, defers := [] } w' := by
  obtain ⟨c0, c1, c2⟩ := sta_cells hb
  refine bodyPost_ret (v := staV a c s) ?_ rfl hq
  simp [results, Tryz.results60, go_sem, h2, c0, c1, c2, staV]
theorem rfound (l : List Rec) (a : Adr) (w w' : World) (e : Ending) (h : RfPost l a w e w') : Hid (Below w.heap.size w w') ∧ ((∃ i : Nat, ∃ h : i < l.length, e = .returned (.int .i64 i) ∧ Hid (l[i].a = a)) ∨ (e = .returned (.int .i64 (-1)) ∧ Hid (∀ x ∈ l, x.a ≠ a))) := h
theorem rPut_any (A : Nat → Prop) (s : Sta) (ra : Option Addr) (rc : Nat) (r : Rec) (p : At) (w : World) (h : RecsAt w ra s.recs) (hc : s.recs.length ≤ rc) (hA : IsRecs w A ra s.recs) (hi : IsRec w A p r) (hs : Small r) : Calls Tryz.prog 60 #[staV ra rc s, recV p r] w (RuPost A s r w) := by
  obtain ⟨w1, hw1, V1, B1⟩ := sta_new w ra rc s
  obtain ⟨w2, hw2, V2, B2⟩ := rec_new w1 p r
  obtain ⟨w3, hw3, V3, B3, Z3⟩ := zsta_new w2
  have hl1 := heap_lt V1.out
  have hl2 := heap_lt V2.out
  have hl3 := heap_lt V3.out
  have B02 : Hid (Below w.heap.size w w2) := B1.out.trans (B2.out.mono (by omega))
  have B03 : Hid (Below w.heap.size w w3) := B02.out.trans (B3.out.mono (by omega))
  have V13 : Hid (w3.heap[w.heap.size]? = some (.cells (staArr ra rc s) 25 (0, 0))) := (B3.out.block _ (by omega)).trans ((B2.out.block _ hl1).trans V1.out)
  have V23 : Hid (w3.heap[w1.heap.size]? = some (.cells (recArr p r) 38 (0, 0))) := (B3.out.block _ hl2).trans V2.out
  have HH : Hid (∀ W, Below w.heap.size w W → RecsAt W ra s.recs) := fun W hb => h.stays hb
  have hL2 : IsRecs w (fun b => A b ∧ b < w.heap.size) ra s.recs := hA.turn (Turn.mono _ (fun b h hb => ⟨h, hb⟩))
  have hI2 : IsRec w (fun b => A b ∧ b < w.heap.size) p r := hi.turn (Turn.mono _ (fun b h hb => ⟨h, hb⟩))
  have HL : Hid (∀ W, Below w.heap.size w W → IsRecs W (fun b => A b ∧ b < w.heap.size) ra s.recs) := fun W hb => hL2.turn ⟨hb.size, fun b hb2 hl => ⟨hb.block b hl, hb2⟩⟩
  have HI : Hid (∀ W, Below w.heap.size w W → IsRec W (fun b => A b ∧ b < w.heap.size) p r) := fun W hb => hI2.turn ⟨hb.size, fun b hb2 hl => ⟨hb.block b hl, hb2⟩⟩
  have HSM := hdQ hs
  have hn := h.n
  have HS2 : Hid (w.heap.size ≤ w2.heap.size) := B02.out.size
  have hne1 : w2.heap.size ≠ w.heap.size := by omega
  have hne2 : w2.heap.size ≠ w1.heap.size := by omega
  have HFI := rf_ok s ra rc r.a p.pa p.pc w3 (h.stays B03.out) ((hi.any.turn (Turn.below B03.out)).adr hs)
  obtain ⟨x0, x1, x2⟩ := sta_cells V13.out
  obtain ⟨y0, y1, y2, y3, y4, y5, y6, y7, y8⟩ := rec_cells V23.out
  unfold staV recV
  clear h hi hs hA hL2 hI2
  go_enter Tryz.func60, Tryz.ntmps60
  go_wp2_with fail
  refine (Calls.mono HFI.out ?_)
  rintro z w4 hz
  obtain ⟨hb4, hz⟩ := rfound _ _ _ _ _ hz
  have B04 : Hid (Below w.heap.size w w4) := B03.out.trans (hb4.out.mono B03.out.size)
  have V14 : Hid (w4.heap[w.heap.size]? = some (.cells (staArr ra rc s) 25 (0, 0))) := (hb4.out.block _ (by omega)).trans V13.out
  have V24 : Hid (w4.heap[w1.heap.size]? = some (.cells (recArr p r) 38 (0, 0))) := (hb4.out.block _ (by omega)).trans V23.out
  have V34 : Hid (w4.heap[w2.heap.size]? = some (.cells (staArr none 0 ⟨0, ⟨#[]⟩, []⟩) 25 (0, 0))) := (hb4.out.block _ hl3).trans V3.out
  clear hb4 HFI hw1 hw2 hw3 x0 x1 x2 y0 y1 y2 y3 y4 y5 y6 y7 y8
  have hl14 := heap_lt V14.out
  have hl24 := heap_lt V24.out
  have hl34 := heap_lt V34.out
  rcases hz with ⟨i, hi, rfl, hia⟩ | ⟨rfl, hno⟩
  · have hin : ∃ x ∈ s.recs, x.a = r.a := ⟨_, List.getElem_mem hi, hia.out⟩
    have HDR := rd_ok _ s ra rc r.a p.pa p.pc w4 (HH.out w4 B04.out) hc (HL.out w4 B04.out) ((HI.out w4 B04.out).any.adr HSM.out) hin
    obtain ⟨x0, x1, x2⟩ := sta_cells V14.out
    obtain ⟨y0, y1, y2, y3, y4, y5, y6, y7, y8⟩ := rec_cells V24.out
    have t0 : decide ((0 : Int) ≤ (i : Int)) = true := by rw [dtQ]; omega
    clear hin
    go_wp2_with fail
    refine (Calls.mono HDR.out ?_)
    rintro z w5 hz
    obtain ⟨j, hj, l', a', c', rfl, HJA, HL', HI', HC', hb5⟩ := hz.to
    have V15 : Hid (w5.heap[w.heap.size]? = some (.cells (staArr ra rc s) 25 (0, 0))) := (hb5.out.block _ hl14).trans V14.out
    have V25 : Hid (w5.heap[w1.heap.size]? = some (.cells (recArr p r) 38 (0, 0))) := (hb5.out.block _ hl24).trans V24.out
    have V35 : Hid (w5.heap[w2.heap.size]? = some (.cells (staArr none 0 ⟨0, ⟨#[]⟩, []⟩) 25 (0, 0))) := (hb5.out.block _ hl34).trans V34.out
    have f0 := frozen_of V15.out 0
    have f1 := frozen_of V15.out 1
    have f2 := frozen_of V15.out 2
    obtain ⟨g0, g1, g2⟩ := sta_cells V15.out
    obtain ⟨w6, hw6⟩ : ∃ w6, (((w5.setCell ⟨w.heap.size, 0, none⟩ (.int .u64 s.serial)).setCell ⟨w.heap.size, 1, none⟩ (.string s.lin)).setCell ⟨w.heap.size, 2, none⟩ (.slice a' l'.length c')) = w6 := ⟨_, rfl⟩
    have G6 : Hid (w5.grownBy w6 (some w.heap.size)) := by rw [← hw6]; exact ((gb_set _ _ _ _).trans (gb_set _ _ _ _)).trans (gb_set _ _ _ _)
    have V16 : Hid (w6.heap[w.heap.size]? = some (.cells (staArr a' c' { s with recs := l' }) 25 (0, 0))) := by rw [← hw6]; exact set3 (t := { s with recs := l' }) V15.out
    have V26 : Hid (w6.heap[w1.heap.size]? = some (.cells (recArr p r) 38 (0, 0))) := (G6.out.block _ (heap_lt V25.out) (by intro e; injection e with e; omega)).trans V25.out
    have V36 : Hid (w6.heap[w2.heap.size]? = some (.cells (staArr none 0 ⟨0, ⟨#[]⟩, []⟩) 25 (0, 0))) := (G6.out.block _ (heap_lt V35.out) (by intro e; injection e with e; omega)).trans V35.out
    have B05 : Hid (Below w.heap.size w w5) := B04.out.trans (hb5.out.mono B04.out.size)
    have B06 : Hid (Below w.heap.size w w6) := B05.out.grown G6.out B05.out.size (fun x hx => by injection hx with hx; omega)
    have hdr : Below w6.heap.size w6 w6.drew := (Below.refl _ _).drew
    have VD1 : Hid (w6.drew.heap[w.heap.size]? = some (.cells (staArr a' c' { s with recs := l' }) 25 (0, 0))) := (hdr.block _ (heap_lt V16.out)).trans V16.out
    have VD2 : Hid (w6.drew.heap[w1.heap.size]? = some (.cells (recArr p r) 38 (0, 0))) := (hdr.block _ (heap_lt V26.out)).trans V26.out
    have VD3 : Hid (w6.drew.heap[w2.heap.size]? = some (.cells (staArr none 0 ⟨0, ⟨#[]⟩, []⟩) 25 (0, 0))) := (hdr.block _ (heap_lt V36.out)).trans V36.out
    have hle4 := B04.out.size
    have HIA : IsRecs w6.drew (fun b => (A b ∧ b < w.heap.size) ∨ w4.heap.size ≤ b) a' l' := (HI'.out.turn ⟨G6.out.size, fun b hb hl => ⟨G6.out.block b hl (fun e => by injection e with e; omega), hb⟩⟩).turn ⟨hdr.size, fun b hb hl => ⟨hdr.block b hl, hb⟩⟩
    have HR6 : RecsAt w6.drew a' l' := ⟨HIA.any, by
      have h1 := (dropR_sub s.recs j).length_le
      have h2 := (HH.out w4 B04.out).n
      rw [HL'.out]; omega, fun x hx => (HH.out w4 B04.out).s x (by rw [HL'.out] at hx; exact (dropR_sub s.recs j).subset hx)⟩
    have HIR : IsRec w6.drew (fun b => (A b ∧ b < w.heap.size) ∨ w4.heap.size ≤ b) p r := (HI.out _ (B06.out.trans (hdr.mono B06.out.size))).turn (Turn.mono _ (fun b h _ => .inl h))
    have HP := rp_ok _ l' a' c' r p w6.drew HR6 HC'.out HIA HIR HSM.out
    have B6 : Hid (Below w.heap.size w w6) := B06.out
    obtain ⟨m0, m1, m2⟩ := sta_cells V16.out
    obtain ⟨n0, n1, n2, n3, n4, n5, n6, n7, n8⟩ := rec_cells V26.out
    obtain ⟨md0, md1, md2⟩ := sta_cells VD1.out
    obtain ⟨nd0, nd1, nd2, nd3, nd4, nd5, nd6, nd7, nd8⟩ := rec_cells VD2.out
    have HPD : Hid (∀ b, ((A b ∧ b < w.heap.size) ∨ w4.heap.size ≤ b) ∨ w6.drew.heap.size ≤ b → b ≠ w2.heap.size ∧ (A b ∨ w.heap.size ≤ b)) := fun b h => by
      have h1 := B06.out.size
      have h2 := hdr.size
      rcases h with (⟨h3, h4⟩ | h3) | h3
      · exact ⟨by omega, .inl h3⟩
      · exact ⟨by omega, .inr (by omega)⟩
      · exact ⟨by have := heap_lt V36.out; omega, .inr (by omega)⟩
    clear hb5 hdr HR6 HIA HIR HDR y0 y1 y2 y3 y4 y5 y6 y7 y8
    go_wp2_with fail
    go_region_held3 (fun w' => w'.cell? ⟨w.heap.size, 0, none⟩ = some (.int .u64 s.serial) ∧ w'.cell? ⟨w.heap.size, 1, none⟩ = some (.string s.lin) ∧ w'.cell? ⟨w.heap.size, 2, none⟩ = some (.slice a' l'.length c') ∧ w'.cell? ⟨w1.heap.size, 0, none⟩ = some (.slice p.pa r.a.path.length p.pc) ∧ w'.cell? ⟨w1.heap.size, 1, none⟩ = some (.string r.a.type) ∧ w'.cell? ⟨w1.heap.size, 2, none⟩ = some (.string r.a.name) ∧ w'.cell? ⟨w1.heap.size, 3, none⟩ = some (.int .i64 r.a.key) ∧ w'.cell? ⟨w1.heap.size, 4, none⟩ = some (.int .u64 r.a.place) ∧ w'.cell? ⟨w1.heap.size, 5, none⟩ = some (.string r.a.word) ∧ w'.cell? ⟨w1.heap.size, 6, none⟩ = some (.string r.prov) ∧ w'.cell? ⟨w1.heap.size, 7, none⟩ = some (.string r.id) ∧ w'.cell? ⟨w1.heap.size, 8, none⟩ = some (.slice p.ta r.attrs.length p.tc)) (go_keep)
      (first
        | (go_at_call 51; refine (Calls.mono HP.out ?_); rintro z w8 hz; obtain ⟨hb8, k, hk, ja, jc, rfl, hI, hC⟩ := hz; have HBE := hdQ hk; have HI8 := hdQ hI; have HC8 := hdQ hC; have B8 : Hid (Below w6.drew.heap.size w6.drew w8) := hb8; have V18 : Hid (w8.heap[w.heap.size]? = some (.cells (staArr a' c' { s with recs := l' }) 25 (0, 0))) := (hb8.block _ (heap_lt VD1.out)).trans VD1.out; have V28 : Hid (w8.heap[w1.heap.size]? = some (.cells (recArr p r) 38 (0, 0))) := (hb8.block _ (heap_lt VD2.out)).trans VD2.out; have V38 : Hid (w8.heap[w2.heap.size]? = some (.cells (staArr none 0 ⟨0, ⟨#[]⟩, []⟩) 25 (0, 0))) := (hb8.block _ (heap_lt VD3.out)).trans VD3.out; obtain ⟨m80, m81, m82⟩ := sta_cells V18.out; obtain ⟨n80, n81, n82, n83, n84, n85, n86, n87, n88⟩ := rec_cells V28.out; obtain ⟨k0, k1, k2⟩ := sta_cells V38.out; have e0 := frozen_of V38.out 0; have e1 := frozen_of V38.out 1; have e2 := frozen_of V38.out 2; clear hb8 hk hI hC))
    all_goals
      go_wp2_with fail
      have hg : w8.grownBy (((w8.setCell ⟨w2.heap.size, 0, none⟩ (.int .u64 s.serial)).setCell ⟨w2.heap.size, 1, none⟩ (.string s.lin)).setCell ⟨w2.heap.size, 2, none⟩ (.slice ja (l'.length + 1) jc)) (some w2.heap.size) := ((gb_set _ _ _ _).trans (gb_set _ _ _ _)).trans (gb_set _ _ _ _)
      have hpl : (putR l' r k k).length = l'.length + 1 := by
        have := HBE.out.n
        rw [putR, List.length_append, List.length_cons, List.length_take, List.length_drop]; omega
      have hset : (((w8.setCell ⟨w2.heap.size, 0, none⟩ (.int .u64 s.serial)).setCell ⟨w2.heap.size, 1, none⟩ (.string s.lin)).setCell ⟨w2.heap.size, 2, none⟩ (.slice ja (l'.length + 1) jc)).heap[w2.heap.size]? = some (.cells (staArr ja jc { s with recs := putR l' r k k }) 25 (0, 0)) := by
        rw [← hpl]
        exact set3 (t := { s with recs := putR l' r k k }) V38.out
      have hdw : Below w6.heap.size w6 w6.drew := (Below.refl _ _).drew
      have hB8 : Below w.heap.size w w8 := B06.out.trans ((hdw.trans (B8.out.mono hdw.size)).mono B06.out.size)
      have hsz := HS2.out
      have hI2 : IsRecs (((w8.setCell ⟨w2.heap.size, 0, none⟩ (.int .u64 s.serial)).setCell ⟨w2.heap.size, 1, none⟩ (.string s.lin)).setCell ⟨w2.heap.size, 2, none⟩ (.slice ja (l'.length + 1) jc)) (fun b => A b ∨ w.heap.size ≤ b) ja (putR l' r k k) :=
        IsRecs.turn HI8.out ⟨hg.size, fun b hb hl => ⟨hg.block b hl (fun e => by injection e with e; exact (HPD.out b hb).1 e), (HPD.out b hb).2⟩⟩
      exact rp_ret { s with recs := putR l' r k k } _ _ w2.heap.size ja jc (RuPost A s r w) hset (by rfl) ⟨hB8.grown hg hB8.size (fun x hx => by injection hx with hx; omega), l', (.inl ⟨j, hj, HJA.out, HL'.out⟩), k, HBE.out, ja, jc, rfl, hI2, by rw [hpl]; exact HC8.out⟩
  · have t0 : decide ((0 : Int) ≤ (-1 : Int)) = false := by decide
    have hdr : Below w4.heap.size w4 w4.drew := (Below.refl _ _).drew
    obtain ⟨m0, m1, m2⟩ := sta_cells V14.out
    obtain ⟨n0, n1, n2, n3, n4, n5, n6, n7, n8⟩ := rec_cells V24.out
    have VD1 : Hid (w4.drew.heap[w.heap.size]? = some (.cells (staArr ra rc { s with recs := s.recs }) 25 (0, 0))) := (hdr.block _ hl14).trans V14.out
    have VD2 : Hid (w4.drew.heap[w1.heap.size]? = some (.cells (recArr p r) 38 (0, 0))) := (hdr.block _ hl24).trans V24.out
    have VD3 : Hid (w4.drew.heap[w2.heap.size]? = some (.cells (staArr none 0 ⟨0, ⟨#[]⟩, []⟩) 25 (0, 0))) := (hdr.block _ hl34).trans V34.out
    have HP := rp_ok _ s.recs ra rc r p w4.drew ((HH.out w4 B04.out).stays hdr) hc (HL.out _ (B04.out.trans (hdr.mono B04.out.size))) (HI.out _ (B04.out.trans (hdr.mono B04.out.size))) HSM.out
    have HPD : Hid (∀ b, (A b ∧ b < w.heap.size) ∨ w4.drew.heap.size ≤ b → b ≠ w2.heap.size ∧ (A b ∨ w.heap.size ≤ b)) := fun b h => by
      have h1 := B04.out.size
      have h2 := hdr.size
      rcases h with ⟨h3, h4⟩ | h3
      · exact ⟨by omega, .inl h3⟩
      · exact ⟨by omega, .inr (by omega)⟩
    obtain ⟨md0, md1, md2⟩ := sta_cells VD1.out
    obtain ⟨nd0, nd1, nd2, nd3, nd4, nd5, nd6, nd7, nd8⟩ := rec_cells VD2.out
    clear hdr
    go_wp2_with fail
    go_region_held3 (fun w' => w'.cell? ⟨w.heap.size, 0, none⟩ = some (.int .u64 s.serial) ∧ w'.cell? ⟨w.heap.size, 1, none⟩ = some (.string s.lin) ∧ w'.cell? ⟨w.heap.size, 2, none⟩ = some (.slice ra s.recs.length rc) ∧ w'.cell? ⟨w1.heap.size, 0, none⟩ = some (.slice p.pa r.a.path.length p.pc) ∧ w'.cell? ⟨w1.heap.size, 1, none⟩ = some (.string r.a.type) ∧ w'.cell? ⟨w1.heap.size, 2, none⟩ = some (.string r.a.name) ∧ w'.cell? ⟨w1.heap.size, 3, none⟩ = some (.int .i64 r.a.key) ∧ w'.cell? ⟨w1.heap.size, 4, none⟩ = some (.int .u64 r.a.place) ∧ w'.cell? ⟨w1.heap.size, 5, none⟩ = some (.string r.a.word) ∧ w'.cell? ⟨w1.heap.size, 6, none⟩ = some (.string r.prov) ∧ w'.cell? ⟨w1.heap.size, 7, none⟩ = some (.string r.id) ∧ w'.cell? ⟨w1.heap.size, 8, none⟩ = some (.slice p.ta r.attrs.length p.tc)) (go_keep)
      (first
        | (go_at_call 51; refine (Calls.mono HP.out ?_); rintro z w8 hz; obtain ⟨hb8, k, hk, ja, jc, rfl, hI, hC⟩ := hz; have HBE := hdQ hk; have HI8 := hdQ hI; have HC8 := hdQ hC; have B8 : Hid (Below w4.drew.heap.size w4.drew w8) := hb8; have V18 : Hid (w8.heap[w.heap.size]? = some (.cells (staArr ra rc { s with recs := s.recs }) 25 (0, 0))) := (hb8.block _ (heap_lt VD1.out)).trans VD1.out; have V28 : Hid (w8.heap[w1.heap.size]? = some (.cells (recArr p r) 38 (0, 0))) := (hb8.block _ (heap_lt VD2.out)).trans VD2.out; have V38 : Hid (w8.heap[w2.heap.size]? = some (.cells (staArr none 0 ⟨0, ⟨#[]⟩, []⟩) 25 (0, 0))) := (hb8.block _ (heap_lt VD3.out)).trans VD3.out; obtain ⟨m80, m81, m82⟩ := sta_cells V18.out; obtain ⟨n80, n81, n82, n83, n84, n85, n86, n87, n88⟩ := rec_cells V28.out; obtain ⟨k0, k1, k2⟩ := sta_cells V38.out; have e0 := frozen_of V38.out 0; have e1 := frozen_of V38.out 1; have e2 := frozen_of V38.out 2; clear hb8 hk hI hC))
    all_goals
      go_wp2_with fail
      have hg : w8.grownBy (((w8.setCell ⟨w2.heap.size, 0, none⟩ (.int .u64 s.serial)).setCell ⟨w2.heap.size, 1, none⟩ (.string s.lin)).setCell ⟨w2.heap.size, 2, none⟩ (.slice ja (s.recs.length + 1) jc)) (some w2.heap.size) := ((gb_set _ _ _ _).trans (gb_set _ _ _ _)).trans (gb_set _ _ _ _)
      have hpl : (putR s.recs r k k).length = s.recs.length + 1 := by
        have := HBE.out.n
        rw [putR, List.length_append, List.length_cons, List.length_take, List.length_drop]; omega
      have hset : (((w8.setCell ⟨w2.heap.size, 0, none⟩ (.int .u64 s.serial)).setCell ⟨w2.heap.size, 1, none⟩ (.string s.lin)).setCell ⟨w2.heap.size, 2, none⟩ (.slice ja (s.recs.length + 1) jc)).heap[w2.heap.size]? = some (.cells (staArr ja jc { s with recs := putR s.recs r k k }) 25 (0, 0)) := by
        rw [← hpl]
        exact set3 (t := { s with recs := putR s.recs r k k }) V38.out
      have hdw : Below w4.heap.size w4 w4.drew := (Below.refl _ _).drew
      have hB8 : Below w.heap.size w w8 := B04.out.trans ((hdw.trans (B8.out.mono hdw.size)).mono B04.out.size)
      have hsz := HS2.out
      have hI2 : IsRecs (((w8.setCell ⟨w2.heap.size, 0, none⟩ (.int .u64 s.serial)).setCell ⟨w2.heap.size, 1, none⟩ (.string s.lin)).setCell ⟨w2.heap.size, 2, none⟩ (.slice ja (s.recs.length + 1) jc)) (fun b => A b ∨ w.heap.size ≤ b) ja (putR s.recs r k k) :=
        IsRecs.turn HI8.out ⟨hg.size, fun b hb hl => ⟨hg.block b hl (fun e => by injection e with e; exact (HPD.out b hb).1 e), (HPD.out b hb).2⟩⟩
      exact rp_ret { s with recs := putR s.recs r k k } _ _ w2.heap.size ja jc (RuPost A s r w) hset (by rfl) ⟨hB8.grown hg hB8.size (fun x hx => by injection hx with hx; omega), s.recs, (.inr ⟨hno.out, rfl⟩), k, HBE.out, ja, jc, rfl, hI2, by rw [hpl]; exact HC8.out⟩
end Go.Proofs.YtehghladpnpcoaaGreatDoor.State
end
