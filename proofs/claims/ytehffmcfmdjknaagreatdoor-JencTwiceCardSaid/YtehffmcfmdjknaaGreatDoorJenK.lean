/- tree.right, tree.Right of whatever is right and not too great. -/
import Derived.Test.YtehffmcfmdjknaaGreatDoorJenJ
namespace Go.Proofs.YtehffmcfmdjknaaGreatDoor.Jdec
open Go.RowKit Go.Proofs.YtehffmcfmdjknaaGreatDoor.Strs
set_option linter.unusedVariables false
set_option linter.unusedSimpArgs false
set_option maxRecDepth 100000

theorem mass_pos (v : JV) : 1 ≤ v.mass := by
  cases v with
  | mk k i n d e s ks vs => rw [mass_mk]; omega
theorem masses_len : ∀ vs : List JV, vs.length ≤ masses vs
  | [] => Nat.zero_le _
  | v :: t => by have := masses_len t; have := mass_pos v; rw [masses_cons, List.length_cons]; omega
theorem masses_mem : ∀ (vs : List JV) (j : Nat) (h : j < vs.length), vs[j].mass ≤ masses vs
  | [], j, h => absurd h (Nat.not_lt_zero _)
  | v :: t, 0, h => by rw [masses_cons]; show v.mass ≤ _; omega
  | v :: t, j + 1, h => by
    have := masses_mem t j (by simpa using h)
    rw [masses_cons, List.getElem_cons_succ]; omega
theorem tright_any (t : JV) (hg : GoodQ t) : Fine t → t.mass ≤ 3000 → TRight t := by
  induction hg with
  | mk k i n d e s ks vs O hk ih =>
    intro hf hm
    rw [mass_mk] at hm
    have hl := masses_len vs
    generalize hz : JV.mk k i n d e s ks vs = z at hf
    cases hf with
    | mk _ _ _ _ _ _ _ _ f1 f2 f3 f4 =>
      injection hz with e1 e2 e3 e4 e5 e6 e7 e8
      subst e1 e2 e3 e4 e5 e6 e7 e8
      exact tright_step k i n d e s ks vs O f2 (by omega) (by omega) f3 (fun j hj => ih j hj (f4 j hj) (by have := masses_mem vs j hj; omega))
/-- tree.Right of what is right. -/
theorem tree_right (t : JV) (hg : GoodQ t) (hf : Fine t) (hm : t.mass ≤ 3000) (hd : t.deepN ≤ 64) (ra : Raw) (A : Nat → Prop) (w : World) (T : Utf.Sizes w) (hi : IsV w A ra t) :
    Calls Tryz.prog 19 #[ra.val] w fun e w' => e = .returned (.bool true) ∧ Below w.heap.size w w' := by
  obtain ⟨w2, hw2, V2, B2⟩ := own_new w ra
  have V2 : Hid (w2.heap[w.heap.size]? = some (.cells ra.arr 29 (0, 0))) := V2.out
  have hc : Calls Tryz.prog 33 #[ra.val, .int .i64 64] w2 fun e w' => e = .returned (.bool true) ∧ Below w2.heap.size w2 w' := tright_any t hg hf hm ra A w2 64 hd (by omega) (T.stays B2.out) (hi.behind B2.out)
  have HC := Hid.out (p := Hid _) hc
  clear hc hi T hf hg
  unfold Raw.val at HC ⊢
  obtain ⟨⟨x0, x1, x2, x3, x4, x5, x6, x7⟩, _⟩ := val_cells V2.out
  go_enter Tryz.func19, Tryz.ntmps19
  go_wp2_with fail
  refine (Calls.mono HC.out ?_)
  rintro z w3 ⟨rfl, hb3⟩
  have B3 := Hid.out (p := Hid _) (B2.out.trans (hb3.mono B2.out.size))
  clear hb3
  go_wp2_with fail
  go_ret
  exact ⟨rfl, B3.out⟩
end Go.Proofs.YtehffmcfmdjknaaGreatDoor.Jdec
