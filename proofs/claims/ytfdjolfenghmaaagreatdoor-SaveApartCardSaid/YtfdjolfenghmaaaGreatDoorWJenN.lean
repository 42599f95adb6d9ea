/- num.Print of what is right. -/
import Derived.Test.YtfdjolfenghmaaaGreatDoorWJenH
import Derived.Lib.LaidTab
import Derived.Lib.ItoaLen
import Derived.Lib.Repeat
import Derived.Shelf.Unicode.PredsPay
set_option linter.unusedVariables false
set_option linter.unusedSimpArgs false
set_option maxRecDepth 100000
set_option maxHeartbeats 4000000
namespace Go.Proofs.YtfdjolfenghmaaaGreatDoor.Jdec
open Go.RowKit Strs
def Pow10 (w : World) : Prop := Lib.TabIs Tryz.prog w "internal/strconv.uint64pow10" .u64 Lib.pow10Tab
theorem Pow10.stays {w w' : World} (T : Pow10 w) (h : Below w.heap.size w w') : Pow10 w' := TabIs_below (g := 2) (by kernel_rfl) T h
def nfront (neg : Bool) : List UInt8 := if neg then [45] else []
def nprint (neg : Bool) (d : List UInt8) (x : Int) : List UInt8 :=
  if d = [] then [48]
  else if 0 <= x /\ x <= 20 then nfront neg ++ d ++ List.replicate x.toNat 48
  else if x < -20 ∨ 20 < x then nfront neg ++ d ++ 101 :: Lib.itoa x
  else if -x < (d.length : Int) then nfront neg ++ d.take ((d.length : Int) + x).toNat ++ 46 :: d.drop ((d.length : Int) + x).toNat
  else nfront neg ++ [48, 46] ++ List.replicate (-x - (d.length : Int)).toNat 48 ++ d
theorem nprint_len (neg : Bool) (d : List UInt8) (x : Int) (hx1 : -10000 <= x) (hx2 : x <= 10000) : (nprint neg d x).length <= d.length + 100 := by
  have hf : (nfront neg).length <= 1 := by unfold nfront; split <;> simp
  unfold nprint;split
  · simp
  split
  · simp only [List.length_append, List.length_replicate]; omega
  split
  · rename_i hx; have := Lib.itoa_length_le x (by omega) (by omega); simp only [List.length_append, List.length_cons]; omega
  split
  · simp only [List.length_append, List.length_cons, List.length_take, List.length_drop]; omega
  · simp only [List.length_append, List.length_cons, List.length_nil, List.length_replicate]; omega
theorem repeat0 : ∀ c, Lib.repeatL [48] c = List.replicate c 48
  | 0 => rfl
  | c + 1 => by rw [Lib.repeatL, repeat0 c]; rfl
theorem right_bounds {n : Bool} {d : List UInt8} {x : Int} (h : Num.right n d x = true) : d.length <= 1000 /\ -10000 <= x /\ x <= 10000 /\ (d = [] -> n = false /\ x = 0) := by
  unfold Num.right at h;split at h
  · rename_i h0; subst h0; simp at h; obtain ⟨h1, h2⟩ := h; simp [h1, h2]
  · split at h
    · cases h
    · rename_i h0 h1
      exact ⟨by omega, by omega, by omega, fun e => absurd e h0⟩
theorem below_growN (w : World) (n : Nat) (os : Array Obj) : Below w.heap.size w (Sort.grow (w.drewN n) os) :=
  ⟨rfl, rfl, rfl, by simp [Sort.grow], fun k hk => by simp only [Sort.grow]; exact Array.getElem?_append_left hk⟩
def NPost (n : Bool) (d : List UInt8) (x : Int) (w : World) (e : Ending) (w' : World) : Prop := ∃ s : ByteArray, e = .returned (.string s) /\ s.data.toList = nprint n d x /\ Below w.heap.size w w'
theorem NPost.mk {n : Bool} {d : List UInt8} {x : Int} {w w' : World} {e : Ending} (s : ByteArray) (h1 : e = .returned (.string s)) (h2 : s.data.toList = nprint n d x) (h3 : Below w.heap.size w w') : NPost n d x w e w' := ⟨s, h1, h2, h3⟩
def RepP (c : Nat) (w : World) (e : Ending) (w' : World) : Prop := ∃ r : ByteArray, e = .returned (.string r) /\ r.data.toList = List.replicate c 48 /\ Below w.heap.size w w'
theorem RepP.to {c : Nat} {w w' : World} {e : Ending} (h : RepP c w e w') : ∃ r : ByteArray, e = .returned (.string r) /\ Hid (r.data.toList = List.replicate c 48) /\ r.size = c /\ Below w.heap.size w w' := by
  obtain ⟨r, h1, h2, h3⟩ := h;exact ⟨r, h1, h2, by have := congrArg List.length h2; simpa using this, h3⟩
theorem rep0_any (c : Nat) (hc : c <= 2000) (w : World) : Calls Tryz.prog 84 #[.string ⟨#[48]⟩, .int .i64 c] w (RepP c w) :=
  (Tryz.strings_Repeat ⟨#[48]⟩ c w (by omega) (by simp [ByteArray.size]; omega)).mono fun e w' ⟨h1, h2⟩ => ⟨_, h1, by simp [repeat0], h2⟩
def ItoP (x : Int) (w : World) (e : Ending) (w' : World) : Prop := ∃ r : ByteArray, e = .returned (.string r) /\ r.data.toList = Lib.itoa x /\ Below w.heap.size w w'
theorem ItoP.to {x : Int} (h1 : -10000 <= x) (h2 : x <= 10000) {w w' : World} {e : Ending} (h : ItoP x w e w') : ∃ r : ByteArray, e = .returned (.string r) /\ Hid (r.data.toList = Lib.itoa x) /\ r.size <= 21 /\ Below w.heap.size w w' := by
  obtain ⟨r, h3, h4, h5⟩ := h;refine ⟨r, h3, h4, ?_, h5⟩;have e1 := congrArg List.length h4;have e2 := Lib.itoa_length_le x (by omega) (by omega);have e3 : r.data.toList.length = r.size := by simp
  omega
theorem ito_any (x : Int) (h1 : -10000 <= x) (h2 : x <= 10000) (w : World) (T : Pow10 w) : Calls Tryz.prog 85 #[.int .i64 x] w (ItoP x w) :=
  (Tryz.strconv_Itoa x (by omega) (by omega) w T).mono fun e w' ⟨h1, kk, os, h2⟩ => ⟨_, h1, by simp, by rw [h2]; exact below_growN w kk os⟩
theorem nprint_zero (d : ByteArray) (x : Int) (h : Num.right false d.data.toList x = true) (w : World) (T : Pow10 w) (h0 : d.size = 0) : Calls Tryz.prog 65 #[.agg #[.bool false, .string d, .int .i64 x]] w (NPost false d.data.toList x w) := by
  obtain ⟨hb1, hb2, hb3, hb4⟩ := right_bounds h;have hl : d.data.toList.length = d.size := by simp
  have HT : Hid (Pow10 w) := T;have HL := hZz hl;have hds : d.size <= 1000 := by omega
  obtain ⟨w2, hw2e⟩ : ∃ w2, w2 = w.alloc (.cells #[.bool false, .string d, .int .i64 x] 43) := ⟨_, rfl⟩;have V2 : Hid (w2.heap[w.heap.size]? = some (.cells #[.bool false, .string d, .int .i64 x] 43 (0, 0))) := by rw [hw2e]; exact heap_alloc_new _ _
  have B2 : Hid (Below w.heap.size w w2) := by rw [hw2e]; exact (Below.refl _ _).alloc (Nat.le_refl _) _
  have HP := hZz (pright_call false d x h w2);have y0 := cell_of V2.out 0;have y1 := cell_of V2.out 1;have y2 := cell_of V2.out 2;have hdn : Hid (d.size ≠ 0 -> ¬ d.data.toList = []) := fun h0 => List.ne_nil_of_length_pos (by simp; omega);have hw2 := hw2e.symm;clear hw2e;clear hb1 hb4 hl h T;have q0 : ((d.size : Int) == 0) = true := by rw [beq_iff_eq]; omega
  have HV : Hid (nprint false d.data.toList x = [48]) := by rw [Hid, nprint, if_pos (List.eq_nil_of_length_eq_zero (by have := HL.out; omega))]
  clear hdn;go_enter Tryz.func65, Tryz.ntmps65
  go_wp2_with fail
  refine (Calls.mono HP.out ?_);rintro z w3 ⟨rfl, hb3⟩;have V3 := hst V2 hb3;have B3 := bel B2 hb3;clear hb3 y0 y1 y2 V2 B2 hw2 HP;have y0 := cell_of V3.out 0;have y1 := cell_of V3.out 1;have y2 := cell_of V3.out 2;go_wp2_with fail
  go_ret
  exact NPost.mk _ rfl (by rw [HV.out]) B3.out
theorem nprint_fa (d : ByteArray) (x : Int) (h : Num.right false d.data.toList x = true) (w : World) (T : Pow10 w) (h0 : d.size ≠ 0) (h1 : 0 <= x) (h2 : x <= 20) : Calls Tryz.prog 65 #[.agg #[.bool false, .string d, .int .i64 x]] w (NPost false d.data.toList x w) := by
  obtain ⟨hb1, hb2, hb3, hb4⟩ := right_bounds h;have hl : d.data.toList.length = d.size := by simp
  have HT : Hid (Pow10 w) := T;have HL := hZz hl;have hds : d.size <= 1000 := by omega
  obtain ⟨w2, hw2e⟩ : ∃ w2, w2 = w.alloc (.cells #[.bool false, .string d, .int .i64 x] 43) := ⟨_, rfl⟩;have V2 : Hid (w2.heap[w.heap.size]? = some (.cells #[.bool false, .string d, .int .i64 x] 43 (0, 0))) := by rw [hw2e]; exact heap_alloc_new _ _
  have B2 : Hid (Below w.heap.size w w2) := by rw [hw2e]; exact (Below.refl _ _).alloc (Nat.le_refl _) _
  have HP := hZz (pright_call false d x h w2);have y0 := cell_of V2.out 0;have y1 := cell_of V2.out 1;have y2 := cell_of V2.out 2;have hdn : Hid (d.size ≠ 0 -> ¬ d.data.toList = []) := fun h0 => List.ne_nil_of_length_pos (by simp; omega);have hw2 := hw2e.symm;clear hw2e;clear hb1 hb4 hl h T;have q0 : ((d.size : Int) == 0) = false := by rw [beq_eq_false_iff_ne]; omega
  have hne := hdn.out (by omega);have HNE := hZz hne;clear hne hdn;have q1 : decide (0 <= x) = true := by rw [decide_eq_true_eq]; omega
  have q2 : decide (x <= 20) = true := by rw [decide_eq_true_eq]; omega
  obtain ⟨c, rfl⟩ : ∃ c : Nat, x = c := ⟨x.toNat, by omega⟩;have hc : c <= 20 := by omega
  have HV : Hid (nprint false d.data.toList c = [] ++ d.data.toList ++ List.replicate c 48) := by rw [Hid, nprint, if_neg HNE.out, if_pos ⟨h1, h2⟩]; rfl
  have s0 : ¬ 9223372036854775807 < d.size := by omega
  go_enter Tryz.func65, Tryz.ntmps65
  go_wp2_with fail
  refine (Calls.mono HP.out ?_);rintro z w3 ⟨rfl, hb3⟩;have V3 := hst V2 hb3;have B3 := bel B2 hb3;clear hb3 y0 y1 y2 V2 B2 hw2 HP;have y0 := cell_of V3.out 0;have y1 := cell_of V3.out 1;have y2 := cell_of V3.out 2;go_wp2_with fail
  go_region_held3 (fun w' => w'.cell? ⟨w.heap.size, 1, none⟩ = some (.string d) /\ w'.cell? ⟨w.heap.size, 2, none⟩ = some (.int .i64 (c : Int))) (go_keep)
    ((go_at_call 84; refine (rep0_any c (by omega) w3.drew).mono ?_; rintro z w4 hz; obtain ⟨r, rfl, hr, hrs, hb4⟩ := hz.to; have hrs2 : r.size <= 2000 := (by omega); clear hrs; have t0 : ¬ 9223372036854775807 < d.size + r.size := (by omega); have V4 := hst (w := w3.drew) V3 hb4; have B4 := hZz ((B3.out.drew).trans (hb4.mono B3.out.size)); clear hb4 y0 y1 y2; have y0 := cell_of V4.out 0; have y1 := cell_of V4.out 1; have y2 := cell_of V4.out 2))
  go_wp2_with fail
  go_ret
  exact NPost.mk _ rfl (by rw [HV.out]; simp [ByteArray.data_append, hr.out]) B4.out
theorem nprint_fb1 (d : ByteArray) (x : Int) (h : Num.right false d.data.toList x = true) (w : World) (T : Pow10 w) (h0 : d.size ≠ 0) (h1 : x < -20) : Calls Tryz.prog 65 #[.agg #[.bool false, .string d, .int .i64 x]] w (NPost false d.data.toList x w) := by
  obtain ⟨hb1, hb2, hb3, hb4⟩ := right_bounds h;have hl : d.data.toList.length = d.size := by simp
  have HT : Hid (Pow10 w) := T;have HL := hZz hl;have hds : d.size <= 1000 := by omega
  obtain ⟨w2, hw2e⟩ : ∃ w2, w2 = w.alloc (.cells #[.bool false, .string d, .int .i64 x] 43) := ⟨_, rfl⟩;have V2 : Hid (w2.heap[w.heap.size]? = some (.cells #[.bool false, .string d, .int .i64 x] 43 (0, 0))) := by rw [hw2e]; exact heap_alloc_new _ _
  have B2 : Hid (Below w.heap.size w w2) := by rw [hw2e]; exact (Below.refl _ _).alloc (Nat.le_refl _) _
  have HP := hZz (pright_call false d x h w2);have y0 := cell_of V2.out 0;have y1 := cell_of V2.out 1;have y2 := cell_of V2.out 2;have hdn : Hid (d.size ≠ 0 -> ¬ d.data.toList = []) := fun h0 => List.ne_nil_of_length_pos (by simp; omega);have hw2 := hw2e.symm;clear hw2e;clear hb1 hb4 hl h T;have q0 : ((d.size : Int) == 0) = false := by rw [beq_eq_false_iff_ne]; omega
  have hne := hdn.out (by omega);have HNE := hZz hne;clear hne hdn;have q1 : decide (0 <= x) = false := by rw [decide_eq_false_iff_not]; omega
  have q2 : decide (x < -20) = true := by rw [decide_eq_true_eq]; omega
  have HV : Hid (nprint false d.data.toList x = [] ++ d.data.toList ++ 101 :: Lib.itoa x) := by rw [Hid, nprint, if_neg HNE.out, if_neg (by omega), if_pos (by omega)]; rfl
  have s0 : ¬ 9223372036854775807 < d.size := by omega
  have s1 : ¬ 9223372036854775807 < d.size + 1 := by omega
  go_enter Tryz.func65, Tryz.ntmps65
  go_wp2_with fail
  refine (Calls.mono HP.out ?_);rintro z w3 ⟨rfl, hb3⟩;have V3 := hst V2 hb3;have B3 := bel B2 hb3;clear hb3 y0 y1 y2 V2 B2 hw2 HP;have y0 := cell_of V3.out 0;have y1 := cell_of V3.out 1;have y2 := cell_of V3.out 2;have HT3 : Hid (Pow10 w3.drew) := HT.out.stays (B3.out.drew);go_wp2_with fail
  go_region_held3 (fun w' => w'.cell? ⟨w.heap.size, 1, none⟩ = some (.string d) /\ w'.cell? ⟨w.heap.size, 2, none⟩ = some (.int .i64 x)) (go_keep)
    ((go_at_call 85; refine (ito_any x hb2 hb3 w3.drew HT3.out).mono ?_; rintro z w4 hz; obtain ⟨r, rfl, hr, hrs, hb4⟩ := hz.to hb2 hb3; have hrs2 : r.size <= 2000 := (by omega); clear hrs; have t0 : ¬ 9223372036854775807 < d.size + 1 + r.size := (by omega); have V4 := hst (w := w3.drew) V3 hb4; have B4 := hZz ((B3.out.drew).trans (hb4.mono B3.out.size)); clear hb4 y0 y1 y2; have y0 := cell_of V4.out 0; have y1 := cell_of V4.out 1; have y2 := cell_of V4.out 2))
  go_wp2_with fail
  go_ret
  exact NPost.mk _ rfl (by rw [HV.out]; simp [ByteArray.data_append, hr.out]) B4.out
theorem nprint_fb2 (d : ByteArray) (x : Int) (h : Num.right false d.data.toList x = true) (w : World) (T : Pow10 w) (h0 : d.size ≠ 0) (h1 : 20 < x) : Calls Tryz.prog 65 #[.agg #[.bool false, .string d, .int .i64 x]] w (NPost false d.data.toList x w) := by
  obtain ⟨hb1, hb2, hb3, hb4⟩ := right_bounds h;have hl : d.data.toList.length = d.size := by simp
  have HT : Hid (Pow10 w) := T;have HL := hZz hl;have hds : d.size <= 1000 := by omega
  obtain ⟨w2, hw2e⟩ : ∃ w2, w2 = w.alloc (.cells #[.bool false, .string d, .int .i64 x] 43) := ⟨_, rfl⟩;have V2 : Hid (w2.heap[w.heap.size]? = some (.cells #[.bool false, .string d, .int .i64 x] 43 (0, 0))) := by rw [hw2e]; exact heap_alloc_new _ _
  have B2 : Hid (Below w.heap.size w w2) := by rw [hw2e]; exact (Below.refl _ _).alloc (Nat.le_refl _) _
  have HP := hZz (pright_call false d x h w2);have y0 := cell_of V2.out 0;have y1 := cell_of V2.out 1;have y2 := cell_of V2.out 2;have hdn : Hid (d.size ≠ 0 -> ¬ d.data.toList = []) := fun h0 => List.ne_nil_of_length_pos (by simp; omega);have hw2 := hw2e.symm;clear hw2e;clear hb1 hb4 hl h T;have q0 : ((d.size : Int) == 0) = false := by rw [beq_eq_false_iff_ne]; omega
  have hne := hdn.out (by omega);have HNE := hZz hne;clear hne hdn;have q1 : decide (0 <= x) = true := by rw [decide_eq_true_eq]; omega
  have q2 : decide (x <= 20) = false := by rw [decide_eq_false_iff_not]; omega
  have q3 : decide (x < -20) = false := by rw [decide_eq_false_iff_not]; omega
  have q4 : decide (20 < x) = true := by rw [decide_eq_true_eq]; omega
  have HV : Hid (nprint false d.data.toList x = [] ++ d.data.toList ++ 101 :: Lib.itoa x) := by rw [Hid, nprint, if_neg HNE.out, if_neg (by omega), if_pos (by omega)]; rfl
  have s0 : ¬ 9223372036854775807 < d.size := by omega
  have s1 : ¬ 9223372036854775807 < d.size + 1 := by omega
  go_enter Tryz.func65, Tryz.ntmps65
  go_wp2_with fail
  refine (Calls.mono HP.out ?_);rintro z w3 ⟨rfl, hb3⟩;have V3 := hst V2 hb3;have B3 := bel B2 hb3;clear hb3 y0 y1 y2 V2 B2 hw2 HP;have y0 := cell_of V3.out 0;have y1 := cell_of V3.out 1;have y2 := cell_of V3.out 2;have HT3 : Hid (Pow10 w3.drew) := HT.out.stays (B3.out.drew);go_wp2_with fail
  go_region_held3 (fun w' => w'.cell? ⟨w.heap.size, 1, none⟩ = some (.string d) /\ w'.cell? ⟨w.heap.size, 2, none⟩ = some (.int .i64 x)) (go_keep)
    ((go_at_call 85; refine (ito_any x hb2 hb3 w3.drew HT3.out).mono ?_; rintro z w4 hz; obtain ⟨r, rfl, hr, hrs, hb4⟩ := hz.to hb2 hb3; have hrs2 : r.size <= 2000 := (by omega); clear hrs; have t0 : ¬ 9223372036854775807 < d.size + 1 + r.size := (by omega); have V4 := hst (w := w3.drew) V3 hb4; have B4 := hZz ((B3.out.drew).trans (hb4.mono B3.out.size)); clear hb4 y0 y1 y2; have y0 := cell_of V4.out 0; have y1 := cell_of V4.out 1; have y2 := cell_of V4.out 2))
  go_wp2_with fail
  go_ret
  exact NPost.mk _ rfl (by rw [HV.out]; simp [ByteArray.data_append, hr.out]) B4.out
theorem nprint_fc (d : ByteArray) (x : Int) (h : Num.right false d.data.toList x = true) (w : World) (T : Pow10 w) (h0 : d.size ≠ 0) (h1 : x < 0) (h2 : -20 <= x) (h3 : -x < (d.size : Int)) : Calls Tryz.prog 65 #[.agg #[.bool false, .string d, .int .i64 x]] w (NPost false d.data.toList x w) := by
  obtain ⟨hb1, hb2, hb3, hb4⟩ := right_bounds h;have hl : d.data.toList.length = d.size := by simp
  have HT : Hid (Pow10 w) := T;have HL := hZz hl;have hds : d.size <= 1000 := by omega
  obtain ⟨w2, hw2e⟩ : ∃ w2, w2 = w.alloc (.cells #[.bool false, .string d, .int .i64 x] 43) := ⟨_, rfl⟩;have V2 : Hid (w2.heap[w.heap.size]? = some (.cells #[.bool false, .string d, .int .i64 x] 43 (0, 0))) := by rw [hw2e]; exact heap_alloc_new _ _
  have B2 : Hid (Below w.heap.size w w2) := by rw [hw2e]; exact (Below.refl _ _).alloc (Nat.le_refl _) _
  have HP := hZz (pright_call false d x h w2);have y0 := cell_of V2.out 0;have y1 := cell_of V2.out 1;have y2 := cell_of V2.out 2;have hdn : Hid (d.size ≠ 0 -> ¬ d.data.toList = []) := fun h0 => List.ne_nil_of_length_pos (by simp; omega);have hw2 := hw2e.symm;clear hw2e;clear hb1 hb4 hl h T;have q0 : ((d.size : Int) == 0) = false := by rw [beq_eq_false_iff_ne]; omega
  have hne := hdn.out (by omega);have HNE := hZz hne;clear hne hdn;have q1 : decide (0 <= x) = false := by rw [decide_eq_false_iff_not]; omega
  have q2 : decide (x < -20) = false := by rw [decide_eq_false_iff_not]; omega
  have q3 : decide (20 < x) = false := by rw [decide_eq_false_iff_not]; omega
  have q4 : decide (-x < (d.size : Int)) = true := by rw [decide_eq_true_eq]; omega
  obtain ⟨c, hc⟩ : ∃ c : Nat, (d.size : Int) + x = c := ⟨((d.size : Int) + x).toNat, by omega⟩;have hcd : c <= d.size := by omega
  have hcw : IntKind.i64.wrap (c : Int) = c := IntWalk.i64_in _ (by omega);have HV : Hid (nprint false d.data.toList x = [] ++ d.data.toList.take c ++ 46 :: d.data.toList.drop c) := by
    have e : (((d.data.toList.length : Nat) : Int) + x).toNat = c := by rw [HL.out]; omega
    rw [Hid, nprint, if_neg HNE.out, if_neg (by omega), if_neg (by omega), if_pos (by rw [HL.out]; omega), e]; rfl
  go_enter Tryz.func65, Tryz.ntmps65
  go_wp2_with fail
  refine (Calls.mono HP.out ?_);rintro z w3 ⟨rfl, hb3⟩;have V3 := hst V2 hb3;have B3 := bel B2 hb3;clear hb3 y0 y1 y2 V2 B2 hw2 HP;have y0 := cell_of V3.out 0;have y1 := cell_of V3.out 1;have y2 := cell_of V3.out 2;go_wp2_with fail
  go_quiet (fail)
  have B4 := hZz (B3.out.trans (below_drewN _ _ nq));go_wp2_with fail
  go_ret
  exact NPost.mk _ rfl (by rw [HV.out]; simp [ByteArray.data_append, Lib.extract_data]; try exact List.take_of_length_le (by rw [List.length_drop, HL.out]; exact Nat.le_refl _)) B4.out
theorem nprint_fd (d : ByteArray) (x : Int) (h : Num.right false d.data.toList x = true) (w : World) (T : Pow10 w) (h0 : d.size ≠ 0) (h1 : x < 0) (h2 : -20 <= x) (h3 : ¬ -x < (d.size : Int)) : Calls Tryz.prog 65 #[.agg #[.bool false, .string d, .int .i64 x]] w (NPost false d.data.toList x w) := by
  obtain ⟨hb1, hb2, hb3, hb4⟩ := right_bounds h;have hl : d.data.toList.length = d.size := by simp
  have HT : Hid (Pow10 w) := T;have HL := hZz hl;have hds : d.size <= 1000 := by omega
  obtain ⟨w2, hw2e⟩ : ∃ w2, w2 = w.alloc (.cells #[.bool false, .string d, .int .i64 x] 43) := ⟨_, rfl⟩;have V2 : Hid (w2.heap[w.heap.size]? = some (.cells #[.bool false, .string d, .int .i64 x] 43 (0, 0))) := by rw [hw2e]; exact heap_alloc_new _ _
  have B2 : Hid (Below w.heap.size w w2) := by rw [hw2e]; exact (Below.refl _ _).alloc (Nat.le_refl _) _
  have HP := hZz (pright_call false d x h w2);have y0 := cell_of V2.out 0;have y1 := cell_of V2.out 1;have y2 := cell_of V2.out 2;have hdn : Hid (d.size ≠ 0 -> ¬ d.data.toList = []) := fun h0 => List.ne_nil_of_length_pos (by simp; omega);have hw2 := hw2e.symm;clear hw2e;clear hb1 hb4 hl h T;have q0 : ((d.size : Int) == 0) = false := by rw [beq_eq_false_iff_ne]; omega
  have hne := hdn.out (by omega);have HNE := hZz hne;clear hne hdn;have q1 : decide (0 <= x) = false := by rw [decide_eq_false_iff_not]; omega
  have q2 : decide (x < -20) = false := by rw [decide_eq_false_iff_not]; omega
  have q3 : decide (20 < x) = false := by rw [decide_eq_false_iff_not]; omega
  have q4 : decide (-x < (d.size : Int)) = false := by rw [decide_eq_false_iff_not]; omega
  obtain ⟨c, hc⟩ : ∃ c : Nat, -x - (d.size : Int) = c := ⟨(-x - (d.size : Int)).toNat, by omega⟩;have hcd : c <= 20 := by omega
  have hcw : IntKind.i64.wrap (-x - (d.size : Int)) = (c : Int) := by rw [hc]; exact IntWalk.i64_in _ (by omega)
  have hcx : IntKind.i64.wrap (-x) = -x := IntWalk.i64_in _ (by omega);have HV : Hid (nprint false d.data.toList x = [] ++ [48, 46] ++ List.replicate c 48 ++ d.data.toList) := by
    have e : (-x - ((d.data.toList.length : Nat) : Int)).toNat = c := by rw [HL.out]; omega
    rw [Hid, nprint, if_neg HNE.out, if_neg (by omega), if_neg (by omega), if_neg (by rw [HL.out]; omega), e]; rfl
  clear hc;go_enter Tryz.func65, Tryz.ntmps65
  go_wp2_with fail
  refine (Calls.mono HP.out ?_);rintro z w3 ⟨rfl, hb3⟩;have V3 := hst V2 hb3;have B3 := bel B2 hb3;clear hb3 y0 y1 y2 V2 B2 hw2 HP;have y0 := cell_of V3.out 0;have y1 := cell_of V3.out 1;have y2 := cell_of V3.out 2;go_wp2_with fail
  go_region_held3 (fun w' => w'.cell? ⟨w.heap.size, 1, none⟩ = some (.string d) /\ w'.cell? ⟨w.heap.size, 2, none⟩ = some (.int .i64 x)) (go_keep)
    ((go_at_call 84; refine (rep0_any c (by omega) w3.drew).mono ?_; rintro z w4 hz; obtain ⟨r, rfl, hr, hrs, hb4⟩ := hz.to; have hrs2 : r.size <= 2000 := (by omega); clear hrs; have t0 : ¬ 9223372036854775807 < 2 + r.size := (by omega); have t1 : ¬ 9223372036854775807 < 2 + r.size + d.size := (by omega); have V4 := hst (w := w3.drew) V3 hb4; have B4 := hZz ((B3.out.drew).trans (hb4.mono B3.out.size)); clear hb4 y0 y1 y2; have y0 := cell_of V4.out 0; have y1 := cell_of V4.out 1; have y2 := cell_of V4.out 2))
  go_wp2_with fail
  go_ret
  exact NPost.mk _ rfl (by rw [HV.out]; simp [ByteArray.data_append, hr.out]) B4.out
theorem nprint_ta (d : ByteArray) (x : Int) (h : Num.right true d.data.toList x = true) (w : World) (T : Pow10 w) (h0 : d.size ≠ 0) (h1 : 0 <= x) (h2 : x <= 20) : Calls Tryz.prog 65 #[.agg #[.bool true, .string d, .int .i64 x]] w (NPost true d.data.toList x w) := by
  obtain ⟨hb1, hb2, hb3, hb4⟩ := right_bounds h;have hl : d.data.toList.length = d.size := by simp
  have HT : Hid (Pow10 w) := T;have HL := hZz hl;have hds : d.size <= 1000 := by omega
  obtain ⟨w2, hw2e⟩ : ∃ w2, w2 = w.alloc (.cells #[.bool true, .string d, .int .i64 x] 43) := ⟨_, rfl⟩;have V2 : Hid (w2.heap[w.heap.size]? = some (.cells #[.bool true, .string d, .int .i64 x] 43 (0, 0))) := by rw [hw2e]; exact heap_alloc_new _ _
  have B2 : Hid (Below w.heap.size w w2) := by rw [hw2e]; exact (Below.refl _ _).alloc (Nat.le_refl _) _
  have HP := hZz (pright_call true d x h w2);have y0 := cell_of V2.out 0;have y1 := cell_of V2.out 1;have y2 := cell_of V2.out 2;have hdn : Hid (d.size ≠ 0 -> ¬ d.data.toList = []) := fun h0 => List.ne_nil_of_length_pos (by simp; omega);have hw2 := hw2e.symm;clear hw2e;clear hb1 hb4 hl h T;have q0 : ((d.size : Int) == 0) = false := by rw [beq_eq_false_iff_ne]; omega
  have hne := hdn.out (by omega);have HNE := hZz hne;clear hne hdn;have q1 : decide (0 <= x) = true := by rw [decide_eq_true_eq]; omega
  have q2 : decide (x <= 20) = true := by rw [decide_eq_true_eq]; omega
  obtain ⟨c, rfl⟩ : ∃ c : Nat, x = c := ⟨x.toNat, by omega⟩;have hc : c <= 20 := by omega
  have HV : Hid (nprint true d.data.toList c = [45] ++ d.data.toList ++ List.replicate c 48) := by rw [Hid, nprint, if_neg HNE.out, if_pos ⟨h1, h2⟩]; rfl
  have s0 : ¬ 9223372036854775807 < 1 + d.size := by omega
  go_enter Tryz.func65, Tryz.ntmps65
  go_wp2_with fail
  refine (Calls.mono HP.out ?_);rintro z w3 ⟨rfl, hb3⟩;have V3 := hst V2 hb3;have B3 := bel B2 hb3;clear hb3 y0 y1 y2 V2 B2 hw2 HP;have y0 := cell_of V3.out 0;have y1 := cell_of V3.out 1;have y2 := cell_of V3.out 2;go_wp2_with fail
  go_region_held3 (fun w' => w'.cell? ⟨w.heap.size, 1, none⟩ = some (.string d) /\ w'.cell? ⟨w.heap.size, 2, none⟩ = some (.int .i64 (c : Int))) (go_keep)
    ((go_at_call 84; refine (rep0_any c (by omega) w3.drew).mono ?_; rintro z w4 hz; obtain ⟨r, rfl, hr, hrs, hb4⟩ := hz.to; have hrs2 : r.size <= 2000 := (by omega); clear hrs; have t0 : ¬ 9223372036854775807 < 1 + d.size + r.size := (by omega); have V4 := hst (w := w3.drew) V3 hb4; have B4 := hZz ((B3.out.drew).trans (hb4.mono B3.out.size)); clear hb4 y0 y1 y2; have y0 := cell_of V4.out 0; have y1 := cell_of V4.out 1; have y2 := cell_of V4.out 2))
  go_wp2_with fail
  go_ret
  exact NPost.mk _ rfl (by rw [HV.out]; simp [ByteArray.data_append, hr.out]) B4.out
theorem nprint_tb1 (d : ByteArray) (x : Int) (h : Num.right true d.data.toList x = true) (w : World) (T : Pow10 w) (h0 : d.size ≠ 0) (h1 : x < -20) : Calls Tryz.prog 65 #[.agg #[.bool true, .string d, .int .i64 x]] w (NPost true d.data.toList x w) := by
  obtain ⟨hb1, hb2, hb3, hb4⟩ := right_bounds h;have hl : d.data.toList.length = d.size := by simp
  have HT : Hid (Pow10 w) := T;have HL := hZz hl;have hds : d.size <= 1000 := by omega
  obtain ⟨w2, hw2e⟩ : ∃ w2, w2 = w.alloc (.cells #[.bool true, .string d, .int .i64 x] 43) := ⟨_, rfl⟩;have V2 : Hid (w2.heap[w.heap.size]? = some (.cells #[.bool true, .string d, .int .i64 x] 43 (0, 0))) := by rw [hw2e]; exact heap_alloc_new _ _
  have B2 : Hid (Below w.heap.size w w2) := by rw [hw2e]; exact (Below.refl _ _).alloc (Nat.le_refl _) _
  have HP := hZz (pright_call true d x h w2);have y0 := cell_of V2.out 0;have y1 := cell_of V2.out 1;have y2 := cell_of V2.out 2;have hdn : Hid (d.size ≠ 0 -> ¬ d.data.toList = []) := fun h0 => List.ne_nil_of_length_pos (by simp; omega);have hw2 := hw2e.symm;clear hw2e;clear hb1 hb4 hl h T;have q0 : ((d.size : Int) == 0) = false := by rw [beq_eq_false_iff_ne]; omega
  have hne := hdn.out (by omega);have HNE := hZz hne;clear hne hdn;have q1 : decide (0 <= x) = false := by rw [decide_eq_false_iff_not]; omega
  have q2 : decide (x < -20) = true := by rw [decide_eq_true_eq]; omega
  have HV : Hid (nprint true d.data.toList x = [45] ++ d.data.toList ++ 101 :: Lib.itoa x) := by rw [Hid, nprint, if_neg HNE.out, if_neg (by omega), if_pos (by omega)]; rfl
  have s0 : ¬ 9223372036854775807 < 1 + d.size := by omega
  have s1 : ¬ 9223372036854775807 < 1 + d.size + 1 := by omega
  go_enter Tryz.func65, Tryz.ntmps65
  go_wp2_with fail
  refine (Calls.mono HP.out ?_);rintro z w3 ⟨rfl, hb3⟩;have V3 := hst V2 hb3;have B3 := bel B2 hb3;clear hb3 y0 y1 y2 V2 B2 hw2 HP;have y0 := cell_of V3.out 0;have y1 := cell_of V3.out 1;have y2 := cell_of V3.out 2;have HT3 : Hid (Pow10 w3.drew) := HT.out.stays (B3.out.drew);go_wp2_with fail
  go_region_held3 (fun w' => w'.cell? ⟨w.heap.size, 1, none⟩ = some (.string d) /\ w'.cell? ⟨w.heap.size, 2, none⟩ = some (.int .i64 x)) (go_keep)
    ((go_at_call 85; refine (ito_any x hb2 hb3 w3.drew HT3.out).mono ?_; rintro z w4 hz; obtain ⟨r, rfl, hr, hrs, hb4⟩ := hz.to hb2 hb3; have hrs2 : r.size <= 2000 := (by omega); clear hrs; have t0 : ¬ 9223372036854775807 < 1 + d.size + 1 + r.size := (by omega); have V4 := hst (w := w3.drew) V3 hb4; have B4 := hZz ((B3.out.drew).trans (hb4.mono B3.out.size)); clear hb4 y0 y1 y2; have y0 := cell_of V4.out 0; have y1 := cell_of V4.out 1; have y2 := cell_of V4.out 2))
  go_wp2_with fail
  go_ret
  exact NPost.mk _ rfl (by rw [HV.out]; simp [ByteArray.data_append, hr.out]) B4.out
theorem nprint_tb2 (d : ByteArray) (x : Int) (h : Num.right true d.data.toList x = true) (w : World) (T : Pow10 w) (h0 : d.size ≠ 0) (h1 : 20 < x) : Calls Tryz.prog 65 #[.agg #[.bool true, .string d, .int .i64 x]] w (NPost true d.data.toList x w) := by
  obtain ⟨hb1, hb2, hb3, hb4⟩ := right_bounds h;have hl : d.data.toList.length = d.size := by simp
  have HT : Hid (Pow10 w) := T;have HL := hZz hl;have hds : d.size <= 1000 := by omega
  obtain ⟨w2, hw2e⟩ : ∃ w2, w2 = w.alloc (.cells #[.bool true, .string d, .int .i64 x] 43) := ⟨_, rfl⟩;have V2 : Hid (w2.heap[w.heap.size]? = some (.cells #[.bool true, .string d, .int .i64 x] 43 (0, 0))) := by rw [hw2e]; exact heap_alloc_new _ _
  have B2 : Hid (Below w.heap.size w w2) := by rw [hw2e]; exact (Below.refl _ _).alloc (Nat.le_refl _) _
  have HP := hZz (pright_call true d x h w2);have y0 := cell_of V2.out 0;have y1 := cell_of V2.out 1;have y2 := cell_of V2.out 2;have hdn : Hid (d.size ≠ 0 -> ¬ d.data.toList = []) := fun h0 => List.ne_nil_of_length_pos (by simp; omega);have hw2 := hw2e.symm;clear hw2e;clear hb1 hb4 hl h T;have q0 : ((d.size : Int) == 0) = false := by rw [beq_eq_false_iff_ne]; omega
  have hne := hdn.out (by omega);have HNE := hZz hne;clear hne hdn;have q1 : decide (0 <= x) = true := by rw [decide_eq_true_eq]; omega
  have q2 : decide (x <= 20) = false := by rw [decide_eq_false_iff_not]; omega
  have q3 : decide (x < -20) = false := by rw [decide_eq_false_iff_not]; omega
  have q4 : decide (20 < x) = true := by rw [decide_eq_true_eq]; omega
  have HV : Hid (nprint true d.data.toList x = [45] ++ d.data.toList ++ 101 :: Lib.itoa x) := by rw [Hid, nprint, if_neg HNE.out, if_neg (by omega), if_pos (by omega)]; rfl
  have s0 : ¬ 9223372036854775807 < 1 + d.size := by omega
  have s1 : ¬ 9223372036854775807 < 1 + d.size + 1 := by omega
  go_enter Tryz.func65, Tryz.ntmps65
  go_wp2_with fail
  refine (Calls.mono HP.out ?_);rintro z w3 ⟨rfl, hb3⟩;have V3 := hst V2 hb3;have B3 := bel B2 hb3;clear hb3 y0 y1 y2 V2 B2 hw2 HP;have y0 := cell_of V3.out 0;have y1 := cell_of V3.out 1;have y2 := cell_of V3.out 2;have HT3 : Hid (Pow10 w3.drew) := HT.out.stays (B3.out.drew);go_wp2_with fail
  go_region_held3 (fun w' => w'.cell? ⟨w.heap.size, 1, none⟩ = some (.string d) /\ w'.cell? ⟨w.heap.size, 2, none⟩ = some (.int .i64 x)) (go_keep)
    ((go_at_call 85; refine (ito_any x hb2 hb3 w3.drew HT3.out).mono ?_; rintro z w4 hz; obtain ⟨r, rfl, hr, hrs, hb4⟩ := hz.to hb2 hb3; have hrs2 : r.size <= 2000 := (by omega); clear hrs; have t0 : ¬ 9223372036854775807 < 1 + d.size + 1 + r.size := (by omega); have V4 := hst (w := w3.drew) V3 hb4; have B4 := hZz ((B3.out.drew).trans (hb4.mono B3.out.size)); clear hb4 y0 y1 y2; have y0 := cell_of V4.out 0; have y1 := cell_of V4.out 1; have y2 := cell_of V4.out 2))
  go_wp2_with fail
  go_ret
  exact NPost.mk _ rfl (by rw [HV.out]; simp [ByteArray.data_append, hr.out]) B4.out
theorem nprint_tc (d : ByteArray) (x : Int) (h : Num.right true d.data.toList x = true) (w : World) (T : Pow10 w) (h0 : d.size ≠ 0) (h1 : x < 0) (h2 : -20 <= x) (h3 : -x < (d.size : Int)) : Calls Tryz.prog 65 #[.agg #[.bool true, .string d, .int .i64 x]] w (NPost true d.data.toList x w) := by
  obtain ⟨hb1, hb2, hb3, hb4⟩ := right_bounds h;have hl : d.data.toList.length = d.size := by simp
  have HT : Hid (Pow10 w) := T;have HL := hZz hl;have hds : d.size <= 1000 := by omega
  obtain ⟨w2, hw2e⟩ : ∃ w2, w2 = w.alloc (.cells #[.bool true, .string d, .int .i64 x] 43) := ⟨_, rfl⟩;have V2 : Hid (w2.heap[w.heap.size]? = some (.cells #[.bool true, .string d, .int .i64 x] 43 (0, 0))) := by rw [hw2e]; exact heap_alloc_new _ _
  have B2 : Hid (Below w.heap.size w w2) := by rw [hw2e]; exact (Below.refl _ _).alloc (Nat.le_refl _) _
  have HP := hZz (pright_call true d x h w2);have y0 := cell_of V2.out 0;have y1 := cell_of V2.out 1;have y2 := cell_of V2.out 2;have hdn : Hid (d.size ≠ 0 -> ¬ d.data.toList = []) := fun h0 => List.ne_nil_of_length_pos (by simp; omega);have hw2 := hw2e.symm;clear hw2e;clear hb1 hb4 hl h T;have q0 : ((d.size : Int) == 0) = false := by rw [beq_eq_false_iff_ne]; omega
  have hne := hdn.out (by omega);have HNE := hZz hne;clear hne hdn;have q1 : decide (0 <= x) = false := by rw [decide_eq_false_iff_not]; omega
  have q2 : decide (x < -20) = false := by rw [decide_eq_false_iff_not]; omega
  have q3 : decide (20 < x) = false := by rw [decide_eq_false_iff_not]; omega
  have q4 : decide (-x < (d.size : Int)) = true := by rw [decide_eq_true_eq]; omega
  obtain ⟨c, hc⟩ : ∃ c : Nat, (d.size : Int) + x = c := ⟨((d.size : Int) + x).toNat, by omega⟩;have hcd : c <= d.size := by omega
  have hcw : IntKind.i64.wrap (c : Int) = c := IntWalk.i64_in _ (by omega);have HV : Hid (nprint true d.data.toList x = [45] ++ d.data.toList.take c ++ 46 :: d.data.toList.drop c) := by
    have e : (((d.data.toList.length : Nat) : Int) + x).toNat = c := by rw [HL.out]; omega
    rw [Hid, nprint, if_neg HNE.out, if_neg (by omega), if_neg (by omega), if_pos (by rw [HL.out]; omega), e]; rfl
  go_enter Tryz.func65, Tryz.ntmps65
  go_wp2_with fail
  refine (Calls.mono HP.out ?_);rintro z w3 ⟨rfl, hb3⟩;have V3 := hst V2 hb3;have B3 := bel B2 hb3;clear hb3 y0 y1 y2 V2 B2 hw2 HP;have y0 := cell_of V3.out 0;have y1 := cell_of V3.out 1;have y2 := cell_of V3.out 2;go_wp2_with fail
  go_quiet (fail)
  have B4 := hZz (B3.out.trans (below_drewN _ _ nq));go_wp2_with fail
  go_ret
  exact NPost.mk _ rfl (by rw [HV.out]; simp [ByteArray.data_append, Lib.extract_data]; try exact List.take_of_length_le (by rw [List.length_drop, HL.out]; exact Nat.le_refl _)) B4.out
theorem nprint_td (d : ByteArray) (x : Int) (h : Num.right true d.data.toList x = true) (w : World) (T : Pow10 w) (h0 : d.size ≠ 0) (h1 : x < 0) (h2 : -20 <= x) (h3 : ¬ -x < (d.size : Int)) : Calls Tryz.prog 65 #[.agg #[.bool true, .string d, .int .i64 x]] w (NPost true d.data.toList x w) := by
  obtain ⟨hb1, hb2, hb3, hb4⟩ := right_bounds h;have hl : d.data.toList.length = d.size := by simp
  have HT : Hid (Pow10 w) := T;have HL := hZz hl;have hds : d.size <= 1000 := by omega
  obtain ⟨w2, hw2e⟩ : ∃ w2, w2 = w.alloc (.cells #[.bool true, .string d, .int .i64 x] 43) := ⟨_, rfl⟩;have V2 : Hid (w2.heap[w.heap.size]? = some (.cells #[.bool true, .string d, .int .i64 x] 43 (0, 0))) := by rw [hw2e]; exact heap_alloc_new _ _
  have B2 : Hid (Below w.heap.size w w2) := by rw [hw2e]; exact (Below.refl _ _).alloc (Nat.le_refl _) _
  have HP := hZz (pright_call true d x h w2);have y0 := cell_of V2.out 0;have y1 := cell_of V2.out 1;have y2 := cell_of V2.out 2;have hdn : Hid (d.size ≠ 0 -> ¬ d.data.toList = []) := fun h0 => List.ne_nil_of_length_pos (by simp; omega);have hw2 := hw2e.symm;clear hw2e;clear hb1 hb4 hl h T;have q0 : ((d.size : Int) == 0) = false := by rw [beq_eq_false_iff_ne]; omega
  have hne := hdn.out (by omega);have HNE := hZz hne;clear hne hdn;have q1 : decide (0 <= x) = false := by rw [decide_eq_false_iff_not]; omega
  have q2 : decide (x < -20) = false := by rw [decide_eq_false_iff_not]; omega
  have q3 : decide (20 < x) = false := by rw [decide_eq_false_iff_not]; omega
  have q4 : decide (-x < (d.size : Int)) = false := by rw [decide_eq_false_iff_not]; omega
  obtain ⟨c, hc⟩ : ∃ c : Nat, -x - (d.size : Int) = c := ⟨(-x - (d.size : Int)).toNat, by omega⟩;have hcd : c <= 20 := by omega
  have hcw : IntKind.i64.wrap (-x - (d.size : Int)) = (c : Int) := by rw [hc]; exact IntWalk.i64_in _ (by omega)
  have hcx : IntKind.i64.wrap (-x) = -x := IntWalk.i64_in _ (by omega);have HV : Hid (nprint true d.data.toList x = [45] ++ [48, 46] ++ List.replicate c 48 ++ d.data.toList) := by
    have e : (-x - ((d.data.toList.length : Nat) : Int)).toNat = c := by rw [HL.out]; omega
    rw [Hid, nprint, if_neg HNE.out, if_neg (by omega), if_neg (by omega), if_neg (by rw [HL.out]; omega), e]; rfl
  clear hc;go_enter Tryz.func65, Tryz.ntmps65
  go_wp2_with fail
  refine (Calls.mono HP.out ?_);rintro z w3 ⟨rfl, hb3⟩;have V3 := hst V2 hb3;have B3 := bel B2 hb3;clear hb3 y0 y1 y2 V2 B2 hw2 HP;have y0 := cell_of V3.out 0;have y1 := cell_of V3.out 1;have y2 := cell_of V3.out 2;go_wp2_with fail
  go_region_held3 (fun w' => w'.cell? ⟨w.heap.size, 1, none⟩ = some (.string d) /\ w'.cell? ⟨w.heap.size, 2, none⟩ = some (.int .i64 x)) (go_keep)
    ((go_at_call 84; refine (rep0_any c (by omega) w3.drew).mono ?_; rintro z w4 hz; obtain ⟨r, rfl, hr, hrs, hb4⟩ := hz.to; have hrs2 : r.size <= 2000 := (by omega); clear hrs; have t0 : ¬ 9223372036854775807 < 3 + r.size := (by omega); have t1 : ¬ 9223372036854775807 < 3 + r.size + d.size := (by omega); have V4 := hst (w := w3.drew) V3 hb4; have B4 := hZz ((B3.out.drew).trans (hb4.mono B3.out.size)); clear hb4 y0 y1 y2; have y0 := cell_of V4.out 0; have y1 := cell_of V4.out 1; have y2 := cell_of V4.out 2))
  go_wp2_with fail
  go_ret
  exact NPost.mk _ rfl (by rw [HV.out]; simp [ByteArray.data_append, hr.out]) B4.out
theorem nprint_any (n : Bool) (d : ByteArray) (x : Int) (h : Num.right n d.data.toList x = true) (w : World) (T : Pow10 w) : Calls Tryz.prog 65 #[.agg #[.bool n, .string d, .int .i64 x]] w (NPost n d.data.toList x w) := by
  by_cases h0 : d.size = 0
  · obtain ⟨rfl, _⟩ := (right_bounds h).2.2.2 (List.eq_nil_of_length_eq_zero (by simpa using h0));exact nprint_zero d x h w T h0
  by_cases h1 : 0 <= x /\ x <= 20
  · cases n
    · exact nprint_fa d x h w T h0 h1.1 h1.2
    · exact nprint_ta d x h w T h0 h1.1 h1.2
  by_cases h2 : x < -20
  · cases n
    · exact nprint_fb1 d x h w T h0 h2
    · exact nprint_tb1 d x h w T h0 h2
  by_cases h3 : 20 < x
  · cases n
    · exact nprint_fb2 d x h w T h0 h3
    · exact nprint_tb2 d x h w T h0 h3
  by_cases h4 : -x < (d.size : Int)
  · cases n
    · exact nprint_fc d x h w T h0 (by omega) (by omega) h4
    · exact nprint_tc d x h w T h0 (by omega) (by omega) h4
  · cases n
    · exact nprint_fd d x h w T h0 (by omega) (by omega) h4
    · exact nprint_td d x h w T h0 (by omega) (by omega) h4
end Go.Proofs.YtfdjolfenghmaaaGreatDoor.Jdec
