/- state.All. -/
import Derived.Test.YtckflnibkglheaaGreatDoorYSStW
import Derived.Test.YtckflnibkglheaaGreatDoorYSRanV
import Derived.Test.YtckflnibkglheaaGreatDoorZAllA
namespace Go.Proofs.YtckflnibkglheaaGreatDoor.State
open Go.RowKit Go.Shelf Go.Proofs.YtckflnibkglheaaGreatDoor.Utf Go.Proofs.YtckflnibkglheaaGreatDoor.Strs Go.Proofs.YtckflnibkglheaaGreatDoor.Addr
open Go.Proofs.YtckflnibkglheaaGreatDoor.Jdec (IsTexts Turn infoStr gb_set gb_below gb_refl)
set_option linter.unusedVariables false
set_option linter.unusedSimpArgs false
set_option maxRecDepth 100000

theorem one_list (W : World) (a1 : Option Addr) (c1 n1 : Nat) (l1 : List Rec) (e1 : l1.length = n1) (h1 : RecsAt W a1 l1) :
  ∃ w1, W.alloc (.cells #[.slice a1 n1 c1] 22) = w1 ∧ Hid (IsLists w1 W.heap.size 0 [l1]) ∧ Hid (Below W.heap.size W w1) := by
 have hB : Below W.heap.size W (W.alloc (.cells #[.slice a1 n1 c1] 22)) := (Below.refl _ _).alloc (Nat.le_refl _) _
 refine ⟨_, rfl, ⟨by simp, fun i hi => ?_⟩, hB⟩
 have hh := heap_alloc_new W (.cells #[.slice a1 n1 c1] 22)
 match i, hi with
 | 0, _ => exact ⟨a1, c1, by subst e1; exact cell_of hh 0, h1.stays hB⟩
theorem join_one (s : Sta) (ra : Option Addr) (rc : Nat) (lb : Nat) (l1 : List Rec) (w : World) (hL : IsLists w lb 0 [l1]) (hf : l1.length ≤ 3000) :
  Hid (Calls Tryz.prog 53 #[.agg #[.int .u64 s.serial, .string s.lin, .slice ra s.recs.length rc], .slice (some ⟨lb, 0, none⟩) 1 1] w (JnPost s l1 w)) := by
 have h := join_any s ra rc lb 0 1 [l1] w hL (by simp) (by simpa using hf)
 have e : [l1].flatten = l1 := by simp
 rw [e] at h
 exact h
theorem field_R (x y : Value) (a : Option Addr) (n c : Nat) : ∀ w, Sem.run Tryz.prog (Instr.field 26 (.agg #[x, y, .slice a n c]) 2) w = .ok (.slice a n c) w := fun _ => by kernel_rfl
theorem zsl_new (w : World) : ∃ w1, w.alloc (.cells #[.slice none 0 0] 22) = w1 ∧ Hid (w1.heap[w.heap.size]? = some (.cells #[.slice none 0 0] 22 (0, 0))) ∧ Hid (Below w.heap.size w w1) := ⟨_, rfl, heap_alloc_new _ _, (Below.refl _ _).alloc (Nat.le_refl _) _⟩
set_option maxHeartbeats 8000000 in
theorem sall_any (s : Sta) (ra : Option Addr) (rc : Nat) (w : World) (h : RecsAt w ra s.recs) :
  Calls Tryz.prog 31 #[staV ra rc s] w fun e w' => ∃ (bs : Nat) (a : Option Addr) (c : Nat), e = .returned (.func (.func 59) #[] #[.pointer (some ⟨bs, 0, none⟩)]) ∧ w'.heap[bs]? = some (.cells #[.slice a s.recs.length c] 22 (0, 0)) ∧ IsRecs w' (fun b => w.heap.size ≤ b) a s.recs ∧ w.heap.size ≤ bs ∧ Below w.heap.size w w' := by
 obtain ⟨w1, hw1, V1, B1⟩ := sta_new w ra rc s
 have hl1 := heap_lt V1.out
 obtain ⟨w2, hw2, L2, B2⟩ := one_list w1 ra rc s.recs.length s.recs rfl (h.stays B1.out)
 have B02 : Hid (Below w.heap.size w w2) := B1.out.trans (B2.out.mono (by omega))
 have V12 : Hid (w2.heap[w.heap.size]? = some (.cells (staArr ra rc s) 26 (0, 0))) := (B2.out.block _ hl1).trans V1.out
 have HJ := join_one s ra rc w1.heap.size s.recs w2 L2.out h.n
 obtain ⟨x0, x1, x2⟩ := sta_cells V1.out
 unfold staV
 clear h
 go_enter Tryz.func31, Tryz.ntmps31
 go_wp2_with fail
 refine (Calls.mono HJ.out ?_)
 rintro z w3 hz
 obtain ⟨a, c, rfl, hI, hC, hb3⟩ := hz.to
 have B03 : Hid (Below w.heap.size w w3) := B02.out.trans (hb3.out.mono B02.out.size)
 have hfl := field_R (.int .u64 s.serial) (.string s.lin) a s.recs.length c
 obtain ⟨w4, hw4, V4, B4⟩ := zsl_new w3
 obtain ⟨w5, hw5⟩ : ∃ w5, w4.setCell ⟨w3.heap.size, 0, none⟩ (.slice a s.recs.length c) = w5 := ⟨_, rfl⟩
 have G5 : Hid (w4.grownBy w5 (some w3.heap.size)) := by rw [← hw5]; exact gb_set _ _ _ _
 have V5 : Hid (w5.heap[w3.heap.size]? = some (.cells #[.slice a s.recs.length c] 22 (0, 0))) := by rw [← hw5, Hid, heap_set_same V4.out]; rfl
 have B35 : Hid (Below w3.heap.size w3 w5) := B4.out.grown G5.out B4.out.size (fun x hx => by injection hx with hx; omega)
 have f0 := frozen_of V4.out 0
 have c0 : w4.cell? ⟨w3.heap.size, 0, none⟩ = some (.slice none 0 0) := cell_of V4.out 0
 clear hz hb3 HJ
 go_wp2_with fail
 go_ret
 exact ⟨w3.heap.size, a, c, rfl, V5.out, hI.out.turn ⟨B35.out.size, fun b hb hl => ⟨B35.out.block b hl, by have h0 : w2.heap.size ≤ b := hb; have := B02.out.size; show w.heap.size ≤ b; omega⟩⟩, B03.out.size, B03.out.trans (B35.out.mono B03.out.size)⟩
end Go.Proofs.YtckflnibkglheaaGreatDoor.State
