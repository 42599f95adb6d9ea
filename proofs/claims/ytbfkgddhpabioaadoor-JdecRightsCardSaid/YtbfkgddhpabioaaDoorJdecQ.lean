/- tabulariumref08.Same of nothing; tabulariumlaw09.wakes. -/
import Derived.Test.YtbfkgddhpabioaaDoorJdecP
import Derived.Laws.StructEq
namespace Go.Proofs.YtbfkgddhpabioaaDoor.Jdec
open Go.RowKit Go.Proofs.YtbfkgddhpabioaaDoor.Strs
set_option linter.unusedVariables false
set_option linter.unusedSimpArgs false
set_option maxRecDepth 100000

@[go_sem] theorem eqNum (a c : Bool) (b d : Int) (s t : ByteArray) (w : World) : (Op.equalIn 10000 25 (.agg #[.bool a, .string s, .int .i64 b]) (.agg #[.bool c, .string t, .int .i64 d])).run Tryd.prog w = .ok (a == c && (s.toList == t.toList && b == d)) w := by
  have u3 := Tryd.underlying3
  have u9 := Tryd.underlying9
  have u4 := Tryd.underlying4
  have hS : Tryd.prog.underlying 25 = some (.struct (Tryd.prog.fieldsOf 25)) := by kernel_rfl
  have hp : Tryd.prog.stoodInHeld 25 = false := by kernel_rfl
  rw [show (10000 : Nat) = 9999 + 1 from rfl, run_equalIn_agg w 9999 25 _ _ hS hp]
  simp only [Program.fieldsOf, Tryd.underlying25]
  go_simp
  by_cases h1 : a = c <;> by_cases h2 : s.toList = t.toList <;> by_cases h3 : b = d <;> simp [h1, h2, h3]
theorem texts_nil (a a' : Option Addr) (c c' : Nat) (w : World) :
    Calls Tryd.prog 26 #[.slice a 0 c, .slice a' 0 c'] w fun e w' => e = .returned (.bool true) ∧ w = w' := by
  go_enter Tryd.func26, Tryd.ntmps26
  go_wp2_with fail
  go_loop [5] (fun p => p = .int .i64 0) (fun p => 0)
  case atStart => rfl
  case round =>
    obtain rfl := hrel
    go_wp2_with fail
    go_ret
    exact ⟨rfl, rfl⟩
/-- Two values that are nothing are the same. -/
theorem same_nil (ka va ka' va' : Option Addr) (kc vc kc' vc' : Nat) (w : World) :
    Calls Tryd.prog 13 #[(Raw.mk 0 false false ⟨#[]⟩ 0 ⟨#[]⟩ ka 0 kc va 0 vc).val, (Raw.mk 0 false false ⟨#[]⟩ 0 ⟨#[]⟩ ka' 0 kc' va' 0 vc').val] w fun e w' => e = .returned (.bool true) ∧ Below w.heap.size w w' := by
  unfold Raw.val
  go_enter Tryd.func13, Tryd.ntmps13
  go_wp2_with fail
  refine (texts_nil _ _ _ _ _).mono ?_
  rintro e w' ⟨rfl, rfl⟩
  go_wp2_with fail
  go_loop [5] (fun p => p = .int .i64 0) (fun p => 0)
  case atStart => rfl
  case round =>
    obtain rfl := hrel
    go_wp2_with fail
    go_ret
    exact ⟨rfl, ((Below.refl _ _).alloc (Nat.le_refl _) _).alloc (by simp) _⟩
theorem zero_words {w : World} {A : Nat → Prop} {a : Raw} (h : IsV w A a JV.zero) : ∃ ka va kc vc, a = Raw.mk 0 false false ⟨#[]⟩ 0 ⟨#[]⟩ ka 0 kc va 0 vc := by
  generalize hz : JV.zero = z at h
  cases h with
  | mk _ keys kids f h1 h2 h3 h4 h5 =>
    unfold JV.zero at hz
    injection hz with e1 e2 e3 e4 e5 e6 e7 e8
    subst e7 e8
    obtain ⟨kd, is, ng, dg, ex, st, ka, kn, kc, va, vn, vc⟩ := a
    simp only [List.length_nil] at h1 h2
    simp only at e1 e2 e3 e4 e5 e6
    subst e1 e2 e3 e4 e5 e6 h1 h2
    exact ⟨_, _, _, _, rfl⟩
def kindOf : JV → Int
  | .mk k _ _ _ _ _ _ _ => k
theorem kind_words {w : World} {A : Nat → Prop} {a : Raw} {t : JV} (h : IsV w A a t) : a.kind = kindOf t := by
  cases h; rfl
theorem wake1 : kindOf (parse [123, 34, 97, 34, 58, 91, 49, 44, 50, 93, 125]).1 = 6 ∧ (parse [123, 34, 97, 34, 58, 91, 49, 44, 50, 93, 125]).2 = (-1, 0) := by decide +kernel
theorem wake2 : (parse [91, 49, 44, 93]).2 = (3, 3) := by decide +kernel
theorem wake3 : (parse [123, 34, 97, 34, 58, 49, 44, 34, 97, 34, 58, 50, 125]).2 = (7, 6) := by decide +kernel
/-- The tables that Parse leans on. -/
structure JTabs (w : World) : Prop where
  z : Utf.Sizes w
  m : Num.Steps w
theorem JTabs.stays {w w' : World} (T : JTabs w) (h : Below w.heap.size w w') : JTabs w' := ⟨T.z.stays h, T.m.stays h⟩
theorem parse_any (s : ByteArray) (w : World) (hm : s.size ≤ 9223372036854775807) (T : JTabs w) :
    Calls Tryd.prog 11 #[.string s] w (PPost s.data.toList w) := by
  by_cases h : 1048576 < s.size
  · exact parse_big s w h hm
  · exact parse_small s w (by omega) T.z T.m
theorem parse_says (s : ByteArray) (w : World) (at_ : Int) (e : Nat) (hm : s.size ≤ 9223372036854775807) (T : JTabs w) (h : (parse s.data.toList).2 = (at_, e)) :
    Calls Tryd.prog 11 #[.string s] w fun x w' => ∃ a : Raw, x = .returned (.tuple #[a.val, .int .i64 at_, .int .i64 e]) ∧ IsV w' (fun j => w.heap.size ≤ j) a (parse s.data.toList).1 ∧ Below w.heap.size w w' :=
  (parse_any s w hm T).mono fun x w' ⟨a, h1, h2, h3⟩ => ⟨a, by rw [h1, h], h2, h3⟩
theorem wakes_any (w : World) (T : JTabs w) :
    Calls Tryd.prog 10 #[] w fun e w' => e = .returned (.bool true) ∧ Below w.heap.size w w' := by
  have HT := Hid.out (p := Hid _) T; clear T
  go_enter Tryd.func10, Tryd.ntmps10
  go_wp2_with fail
  refine (parse_says ⟨#[123, 34, 97, 34, 58, 91, 49, 44, 50, 93, 125]⟩ w (-1) 0 (by decide) ⟨HT.out.z, HT.out.m⟩ wake1.2).mono ?_
  rintro x w1 ⟨a, rfl, h1, b1⟩
  have hk : a.kind = 6 := (kind_words h1).trans wake1.1
  have B1 := Hid.out (p := Hid _) b1
  have T1 : Hid (JTabs w1) := JTabs.stays ⟨HT.out.z, HT.out.m⟩ b1
  obtain ⟨kd, is, ng, dg, ex, st, ka, kn, kc, va, vn, vc⟩ := a
  simp only at hk
  subst hk
  dsimp only [Raw.val]
  clear h1 b1
  go_wp2_with fail
  obtain ⟨w2, hw2⟩ : ∃ w2, w1.alloc (.cells #[.int .i64 6, .bool is, .bool ng, .string dg, .int .i64 ex, .string st, .slice ka kn kc, .slice va vn vc] 29) = w2 := ⟨_, rfl⟩
  obtain ⟨b, hb⟩ : ∃ b, w1.heap.size = b := ⟨_, rfl⟩
  have V2 : Hid (w2.heap[b]? = some (.cells #[.int .i64 6, .bool is, .bool ng, .string dg, .int .i64 ex, .string st, .slice ka kn kc, .slice va vn vc] 29 (0, 0))) := by rw [← hw2, ← hb]; exact heap_alloc_new _ _
  have B2 : Hid (Below w.heap.size w w2) := by rw [← hw2]; exact B1.out.alloc B1.out.size _
  have T2 : Hid (JTabs w2) := by rw [← hw2]; exact JTabs.stays ⟨T1.out.z, T1.out.m⟩ ((Below.refl _ _).alloc (Nat.le_refl _) _)
  rw [hw2, hb]
  clear hw2 hb B1 T1
  refine (parse_says ⟨#[91, 49, 44, 93]⟩ w2 3 3 (by decide) ⟨T2.out.z, T2.out.m⟩ wake2).mono ?_
  rintro x w3 ⟨a, rfl, _, b3⟩
  have B3 := Hid.out (p := Hid _) (B2.out.trans (b3.mono B2.out.size))
  have T3 : Hid (JTabs w3) := JTabs.stays ⟨T2.out.z, T2.out.m⟩ b3
  have V3 := Hid.out (p := Hid _) ((b3.block b (heap_lt V2.out)).trans V2.out)
  dsimp only [Raw.val]
  clear b3 B2 T2 V2
  go_wp2_with fail
  obtain ⟨w4, hw4⟩ : ∃ w4, w3.alloc (.cells #[.int .i64 a.kind, .bool a.is, .bool a.neg, .string a.dig, .int .i64 a.exp, .string a.str, .slice a.ka a.kn a.kc, .slice a.va a.vn a.vc] 29) = w4 := ⟨_, rfl⟩
  have V4 : Hid (w4.heap[b]? = some (.cells #[.int .i64 6, .bool is, .bool ng, .string dg, .int .i64 ex, .string st, .slice ka kn kc, .slice va vn vc] 29 (0, 0))) := by rw [← hw4]; exact heap_alloc_old V3.out
  have B4 : Hid (Below w.heap.size w w4) := by rw [← hw4]; exact B3.out.alloc B3.out.size _
  have T4 : Hid (JTabs w4) := by rw [← hw4]; exact JTabs.stays ⟨T3.out.z, T3.out.m⟩ ((Below.refl _ _).alloc (Nat.le_refl _) _)
  rw [hw4]
  clear hw4 B3 T3 V3
  refine (parse_says ⟨#[123, 34, 97, 34, 58, 49, 44, 34, 97, 34, 58, 50, 125]⟩ w4 7 6 (by decide) ⟨T4.out.z, T4.out.m⟩ wake3).mono ?_
  rintro x w5 ⟨a', rfl, _, b5⟩
  have B5 := Hid.out (p := Hid _) (B4.out.trans (b5.mono B4.out.size))
  have V5 := Hid.out (p := Hid _) ((b5.block b (heap_lt V4.out)).trans V4.out)
  have c0 := cell_of V5.out 0
  have hbl := heap_lt V5.out
  dsimp only [Raw.val]
  clear b5 B4 T4 V4
  go_wp2_with fail
  go_ret
  exact ⟨rfl, B5.out.alloc B5.out.size _⟩
end Go.Proofs.YtbfkgddhpabioaaDoor.Jdec
