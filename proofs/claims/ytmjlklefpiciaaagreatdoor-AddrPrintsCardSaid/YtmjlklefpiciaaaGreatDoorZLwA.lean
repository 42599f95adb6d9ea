/- tabulariumlaw17.wakes; AddrOld. -/
import Derived.Test.YtmjlklefpiciaaaGreatDoorZAdX
import Derived.Test.YtmjlklefpiciaaaGreatDoorZAdZ
namespace Go.Proofs.YtmjlklefpiciaaaGreatDoor.Addr
open Go.RowKit Go.Shelf Go.Proofs.YtmjlklefpiciaaaGreatDoor.Utf Go.Proofs.YtmjlklefpiciaaaGreatDoor.Strs
open Go.Proofs.YtmjlklefpiciaaaGreatDoor.Jdec (IsTexts)
set_option linter.unusedVariables false
set_option linter.unusedSimpArgs false
set_option maxRecDepth 100000

theorem one_new (w : World) (x : ByteArray) : ∃ w1, w.alloc (.cells #[.string x] 9) = w1 ∧ Hid (IsTexts w1 (fun _ => True) (some ⟨w.heap.size, 0, none⟩) [x]) ∧ Hid (Below w.heap.size w w1) := by
  refine ⟨_, rfl, .inr ⟨w.heap.size, 0, rfl, trivial, by simp, fun i hi => ?_⟩, (Below.refl _ _).alloc (Nat.le_refl _) _⟩
  have h := heap_alloc_new w (.cells #[.string x] 9 (0, 0))
  match i, hi with
  | 0, _ => exact cell_of h 0
theorem APost.to {r : Option Adr} {w w' : World} {e : Ending} (h : APost r w e w') (x : Adr) (hx : r.getD zeroA = x) (er : Int) (he : (if r.isSome then (0 : Int) else 3) = er) :
    ∃ pa pc, e = .returned (.tuple #[.agg #[.slice pa x.path.length pc, .string x.type, .string x.name, .int .i64 x.key, .int .u64 x.place, .string x.word], .int .i64 er]) ∧ Hid (IsTexts w' (fun _ => True) pa x.path) ∧ Hid (Below w.heap.size w w') := by
  subst hx he
  obtain ⟨pa, pc, rfl, ht, hb⟩ := h
  exact ⟨pa, pc, rfl, ht.turn (Jdec.Turn.mono _ (fun _ _ _ => trivial)), hb⟩
theorem RPost.to {r : Option Adr} {w w' : World} {e : Ending} (h : RPost r w e w') (x : Adr) (hx : r.getD zeroA = x) (ok : Bool) (he : r.isSome = ok) :
    ∃ pa pc, e = .returned (.tuple #[.agg #[.slice pa x.path.length pc, .string x.type, .string x.name, .int .i64 x.key, .int .u64 x.place, .string x.word], .bool ok]) ∧ Hid (IsTexts w' (fun _ => True) pa x.path) ∧ Hid (Below w.heap.size w w') := by
  subst hx he
  obtain ⟨pa, pc, rfl, ht, hb⟩ := h
  exact ⟨pa, pc, rfl, ht.turn (Jdec.Turn.mono _ (fun _ _ _ => trivial)), hb⟩
/-- Same, at addresses' words written out. -/
theorem same_words (a b : Adr) (pa pb : Option Addr) (pc pd : Nat) (w : World) (ha : IsTexts w (fun _ => True) pa a.path) (hb : IsTexts w (fun _ => True) pb b.path) (hla : a.path.length ≤ 1048576) (hab : b = a) :
    Hid (Calls Tryz.prog 17 #[.agg #[.slice pa a.path.length pc, .string a.type, .string a.name, .int .i64 a.key, .int .u64 a.place, .string a.word], .agg #[.slice pb b.path.length pd, .string b.type, .string b.name, .int .i64 b.key, .int .u64 b.place, .string b.word]] w fun e w' => e = .returned (.bool true) ∧ Below w.heap.size w w') := by
  have h := rsame_any a b pa pb pc pd _ _ w ha hb hla (by rw [hab]; exact hla)
  have e : sameA a b = true := by rw [hab]; exact sameA_self a
  rw [e] at h
  exact h
def wakeA : Adr := ⟨[⟨#[97]⟩], ⟨#[120]⟩, ⟨#[121]⟩, 2, 0, ⟨#[107]⟩⟩
def wakeB : Adr := ⟨[], ⟨#[120]⟩, ⟨#[121]⟩, 1, 3, ⟨#[]⟩⟩
theorem wakeA_right : rightA wakeA = true := by kernel_rfl
theorem wakeA_print : printA wakeA = [109, 111, 100, 117, 108, 101, 46, 97, 46, 120, 46, 121, 91, 34, 107, 34, 93] := by kernel_rfl
theorem wake_parse : parseP [109, 111, 100, 117, 108, 101, 46, 97, 46, 120, 46, 121, 91, 34, 107, 34, 93] = some wakeA := by rw [← wakeA_print]; exact parse_print wakeA_right (by decide)
theorem wakeB_right : rightA wakeB = true := by kernel_rfl
theorem wake_old : oldP [120, 46, 121, 46, 51] = some wakeB := by
  have h : oldP [120, 46, 121, 46, 51] = rightO wakeB := by kernel_rfl
  rw [h, rightO, wakeB_right]; rfl
set_option maxHeartbeats 4000000 in
theorem wakes17 (w : World) (T : TabsP w) : Calls Tryz.prog 36 #[] w fun e w' => e = .returned (.bool true) ∧ Below w.heap.size w w' := by
  obtain ⟨a, ha⟩ : ∃ a, wakeA = a := ⟨_, rfl⟩
  obtain ⟨b, hb⟩ : ∃ b, wakeB = b := ⟨_, rfl⟩
  have HA := Hid.out (p := Hid _) ha
  have HB := Hid.out (p := Hid _) hb
  have HT := Hid.out (p := Hid _) T
  have HPA : Hid (Calls Tryz.prog 39 #[.string ⟨#[109, 111, 100, 117, 108, 101, 46, 97, 46, 120, 46, 121, 91, 34, 107, 34, 93]⟩] w (APost (some a) w)) := by
    have h := parse_any ⟨#[109, 111, 100, 117, 108, 101, 46, 97, 46, 120, 46, 121, 91, 34, 107, 34, 93]⟩ w (by decide) T
    rw [show parseP (⟨#[109, 111, 100, 117, 108, 101, 46, 97, 46, 120, 46, 121, 91, 34, 107, 34, 93]⟩ : ByteArray).data.toList = some wakeA from wake_parse, ha] at h
    exact h
  have HPO : Hid (∀ w', Below w.heap.size w w' → Calls Tryz.prog 37 #[.string ⟨#[120, 46, 121, 46, 51]⟩] w' (APost (some b) w')) := fun w' h' => by
    have h := old_any ⟨#[120, 46, 121, 46, 51]⟩ w' (by decide) (T.stays h')
    rw [show oldP (⟨#[120, 46, 121, 46, 51]⟩ : ByteArray).data.toList = some wakeB from wake_old, hb] at h
    exact h
  have hla : a.path.length ≤ 1048576 := by rw [← ha]; decide
  have hlb : b.path.length ≤ 1048576 := by rw [← hb]; decide
  clear T ha hb
  go_enter Tryz.func36, Tryz.ntmps36
  go_wp2_with fail
  refine (Calls.mono HPA.out ?_)
  rintro z w1 hz
  obtain ⟨pa, pc, rfl, t1, B1⟩ := hz.to a rfl 0 rfl
  obtain ⟨w2, hw2, V2, B2⟩ := adr_new w1 pa pc a
  have B02 : Hid (Below w.heap.size w w2) := B1.out.trans (B2.out.mono B1.out.size)
  have t2 : Hid (IsTexts w2 (fun _ => True) pa a.path) := t1.out.turn (Jdec.Turn.below B2.out)
  have hpo := HPO.out w2 B02.out
  have HPO2 : Hid (Calls Tryz.prog 37 #[.string ⟨#[120, 46, 121, 46, 51]⟩] w2 (APost (some b) w2)) := hpo
  clear hz hpo HPO HPA
  go_wp2_with fail
  refine (Calls.mono HPO2.out ?_)
  rintro z w3 hz
  obtain ⟨pb, pd, rfl, t3, B3⟩ := hz.to b rfl 0 rfl
  obtain ⟨w4, hw4, V4, B4⟩ := adr_new w3 pb pd b
  have hs3 := B3.out.size
  have hl2 := heap_lt V2.out
  have hl4 := heap_lt V4.out
  have B24 : Hid (Below w2.heap.size w2 w4) := B3.out.trans (B4.out.mono hs3)
  obtain ⟨w5, hw5, t5, B5⟩ := one_new w4 ⟨#[97]⟩
  have hs5 := B5.out.size
  have V25 : Hid (w5.heap[w1.heap.size]? = some (.cells (arrA pa pc a) 29 (0, 0))) := (B5.out.block _ (by have := B24.out.size; omega)).trans ((B24.out.block _ hl2).trans V2.out)
  have V24 : Hid (w4.heap[w1.heap.size]? = some (.cells (arrA pa pc a) 29 (0, 0))) := (B24.out.block _ hl2).trans V2.out
  have V45 : Hid (w5.heap[w3.heap.size]? = some (.cells (arrA pb pd b) 29 (0, 0))) := (B5.out.block _ hl4).trans V4.out
  have B25 : Hid (Below w2.heap.size w2 w5) := B24.out.trans (B5.out.mono B24.out.size)
  have HSA : Hid (Calls Tryz.prog 17 #[.agg #[.slice pa a.path.length pc, .string a.type, .string a.name, .int .i64 a.key, .int .u64 a.place, .string a.word], .agg #[.slice (some ⟨w4.heap.size, 0, none⟩) 1 1, .string ⟨#[120]⟩, .string ⟨#[121]⟩, .int .i64 2, .int .u64 0, .string ⟨#[107]⟩]] w5 fun e w' => e = .returned (.bool true) ∧ Below w5.heap.size w5 w') :=
    same_words a wakeA pa (some ⟨w4.heap.size, 0, none⟩) pc 1 w5 (t2.out.turn (Jdec.Turn.below B25.out)) t5.out hla HA.out
  have t4 : Hid (IsTexts w5 (fun _ => True) pb b.path) := (t3.out.turn (Jdec.Turn.below B4.out)).turn (Jdec.Turn.below B5.out)
  have HSB : Hid (∀ w', Below w5.heap.size w5 w' → Calls Tryz.prog 17 #[.agg #[.slice pb b.path.length pd, .string b.type, .string b.name, .int .i64 b.key, .int .u64 b.place, .string b.word], .agg #[.slice none 0 0, .string ⟨#[120]⟩, .string ⟨#[121]⟩, .int .i64 1, .int .u64 3, .string ⟨#[]⟩]] w' fun e w'' => e = .returned (.bool true) ∧ Below w'.heap.size w' w'') := fun w' h' =>
    same_words b wakeB pb none pd 0 w' (t4.out.turn (Jdec.Turn.below h')) (.inl rfl) hlb HB.out
  have B05 : Hid (Below w.heap.size w w5) := B02.out.trans (B25.out.mono B02.out.size)
  obtain ⟨x0, x1, x2, x3, x4, x5⟩ := adr_cells V25.out
  obtain ⟨u0, u1, u2, u3, u4, u5⟩ := adr_cells V24.out
  clear hz HPO2
  go_wp2_with fail
  refine (Calls.mono HSA.out ?_)
  rintro z w6 ⟨rfl, hb6⟩
  have V46 : Hid (w6.heap[w3.heap.size]? = some (.cells (arrA pb pd b) 29 (0, 0))) := (hb6.block _ (by omega)).trans V45.out
  have hsb := HSB.out w6 hb6
  have HSB6 : Hid (Calls Tryz.prog 17 #[.agg #[.slice pb b.path.length pd, .string b.type, .string b.name, .int .i64 b.key, .int .u64 b.place, .string b.word], .agg #[.slice none 0 0, .string ⟨#[120]⟩, .string ⟨#[121]⟩, .int .i64 1, .int .u64 3, .string ⟨#[]⟩]] w6 fun e w'' => e = .returned (.bool true) ∧ Below w6.heap.size w6 w'') := hsb
  have B06 : Hid (Below w.heap.size w w6) := B05.out.trans (hb6.mono B05.out.size)
  clear hsb hb6 x0 x1 x2 x3 x4 x5 u0 u1 u2 u3 u4 u5 HSB
  obtain ⟨x0, x1, x2, x3, x4, x5⟩ := adr_cells V46.out
  go_wp2_with fail
  refine (Calls.mono HSB6.out ?_)
  rintro z w7 ⟨rfl, hb7⟩
  have B07 : Hid (Below w.heap.size w w7) := B06.out.trans (hb7.mono B06.out.size)
  clear hb7
  go_wp2_with fail
  go_ret
  exact ⟨rfl, B07.out⟩
/-- What an older text tells: no Path, and no name for a key. -/
theorem old_told (l : List UInt8) : ((oldR l).getD zeroA).path = [] ∧ ((oldR l).getD zeroA).key ≠ 2 := by
  cases h : oldR l with
  | none => exact ⟨rfl, by decide⟩
  | some a =>
    have := old_key h
    exact ⟨this.1, this.2.1⟩
set_option maxHeartbeats 4000000 in
theorem addrOld_any (s : ByteArray) (w : World) (T : TabsP w) (hs : s.size ≤ 9223372036854775807) :
    Calls Tryz.prog 9 #[.string s] w fun e w' => e = .returned (.bool true) ∧ Below w.heap.size w w' := by
  have hwk := wakes17 w T
  have HWK : Hid (Calls Tryz.prog 36 #[] w fun e w' => e = .returned (.bool true) ∧ Below w.heap.size w w') := hwk
  clear hwk
  by_cases hbig : 1000 < s.size
  · have q1 : decide ((1000 : Int) < (s.size : Int)) = true := by rw [decide_eq_true_eq]; omega
    have q2 : decide (1000 < s.size) = true := by rw [decide_eq_true_eq]; omega
    go_enter Tryz.func9, Tryz.ntmps9
    go_wp2_with fail
    refine (Calls.mono HWK.out ?_)
    rintro z w1 ⟨rfl, hb1⟩
    have B1 := Hid.out (p := Hid _) hb1
    clear hb1
    go_wp2_with fail
    go_ret
    exact ⟨rfl, B1.out⟩
  have q1 : decide ((1000 : Int) < (s.size : Int)) = false := by rw [decide_eq_false_iff_not]; omega
  have q2 : decide (1000 < s.size) = false := by rw [decide_eq_false_iff_not]; omega
  have hse : oldP s.data.toList = oldR s.data.toList := old_eq _
  have HOP : Hid (∀ w', Below w.heap.size w w' → Calls Tryz.prog 37 #[.string s] w' (APost (oldR s.data.toList) w')) := fun w' h' => by
    rw [← hse]; exact old_any s w' (by omega) (T.stays h')
  have HOR : Hid (∀ w', Calls Tryz.prog 38 #[.string s] w' (RPost (oldR s.data.toList) w')) := fun w' => rold_any s w' (by omega)
  obtain ⟨hp, hk⟩ := old_told s.data.toList
  obtain ⟨r, hr⟩ : ∃ r, oldR s.data.toList = r := ⟨_, rfl⟩
  rw [hr] at HOP HOR hp hk
  obtain ⟨x, hx⟩ : ∃ x, r.getD zeroA = x := ⟨_, rfl⟩
  rw [hx] at hp hk
  have HX := Hid.out (p := Hid _) hx
  have k1 : (x.key != 2) = true := by rw [bne_iff_ne]; exact hk
  have hpl : x.path.length = 0 := by rw [hp]; rfl
  have HPL := Hid.out (p := Hid _) hpl
  have p1 : ((x.path.length : Int) == 0) = true := by rw [hpl]; rfl
  obtain ⟨bo, hbo⟩ : ∃ b, r.isSome = b := ⟨_, rfl⟩
  have HBO := Hid.out (p := Hid _) hbo
  clear hse hr hx hp hk hpl hbo T
  go_enter Tryz.func9, Tryz.ntmps9
  go_wp2_with fail
  refine (Calls.mono HWK.out ?_)
  rintro z w1 ⟨rfl, hb1⟩
  have B1 : Hid (Below w.heap.size w w1) := hb1
  have hop := HOP.out w1 hb1
  have HOP1 : Hid (Calls Tryz.prog 37 #[.string s] w1 (APost r w1)) := hop
  clear hop hb1 HOP HWK
  go_wp2_with fail
  refine (Calls.mono HOP1.out ?_)
  rintro z w2 hz
  obtain ⟨er, her⟩ : ∃ er, (if r.isSome then (0 : Int) else 3) = er := ⟨_, rfl⟩
  have HER : Hid ((if bo then (0 : Int) else 3) = er) := by rw [Hid, ← HBO.out]; exact her
  obtain ⟨pa, pc, rfl, t2, B2⟩ := hz.to x HX.out er her
  obtain ⟨w3, hw3, V3, B3⟩ := adr_new w2 pa pc x
  have B23 : Hid (Below w1.heap.size w1 w3) := B2.out.trans (B3.out.mono B2.out.size)
  have t3 : Hid (IsTexts w3 (fun _ => True) pa x.path) := t2.out.turn (Jdec.Turn.below B3.out)
  have hor := HOR.out w3
  have HOR3 : Hid (Calls Tryz.prog 38 #[.string s] w3 (RPost r w3)) := hor
  clear hz her hor HOR HOP1
  go_wp2_with fail
  refine (Calls.mono HOR3.out ?_)
  rintro z w4 hz
  obtain ⟨pb, pd, rfl, t4, B4⟩ := hz.to x HX.out bo HBO.out
  obtain ⟨w5, hw5, V5, B5⟩ := adr_new w4 pb pd x
  have hl3 := heap_lt V3.out
  have hs4 := B4.out.size
  have V35 : Hid (w5.heap[w2.heap.size]? = some (.cells (arrA pa pc x) 29 (0, 0))) := (B5.out.block _ (by omega)).trans ((B4.out.block _ hl3).trans V3.out)
  have t5 : Hid (IsTexts w5 (fun _ => True) pb x.path) := t4.out.turn (Jdec.Turn.below B5.out)
  have t35 : Hid (IsTexts w5 (fun _ => True) pa x.path) := (t3.out.turn (Jdec.Turn.below B4.out)).turn (Jdec.Turn.below B5.out)
  have B05 : Hid (Below w.heap.size w w5) := B1.out.trans ((B23.out.trans (B4.out.mono B23.out.size |>.trans (B5.out.mono (by have := B23.out.size; omega)))).mono B1.out.size)
  have HSA := same_words x x pa pb pc pd w5 t35.out t5.out (by have := HPL.out; omega) rfl
  obtain ⟨x0, x1, x2, x3, x4, x5⟩ := adr_cells V35.out
  obtain ⟨u0, u1, u2, u3, u4, u5⟩ := adr_cells V5.out
  have hl5 := heap_lt V35.out
  clear hz HOR3
  go_wp2_with fail
  refine (Calls.mono HSA.out ?_)
  rintro z w6 ⟨rfl, hb6⟩
  have V36 : Hid (w6.heap[w2.heap.size]? = some (.cells (arrA pa pc x) 29 (0, 0))) := (hb6.block _ hl5).trans V35.out
  have B06 : Hid (Below w.heap.size w w6) := B05.out.trans (hb6.mono B05.out.size)
  clear hb6 x0 x1 x2 x3 x4 x5 u0 u1 u2 u3 u4 u5 HSA
  obtain ⟨x0, x1, x2, x3, x4, x5⟩ := adr_cells V36.out
  cases bo
  · have e3 : er = 3 := HER.out.symm
    subst e3
    go_wp2_with fail
    go_ret
    exact ⟨rfl, B06.out⟩
  · have e0 : er = 0 := HER.out.symm
    subst e0
    go_wp2_with fail
    go_ret
    exact ⟨rfl, B06.out⟩
end Go.Proofs.YtmjlklefpiciaaaGreatDoor.Addr
