/- tree.holds, tree.plain of a value that is right. (Written by gen/jenh.py.) -/
import Derived.Test.YtfdjolfenghmaaaGreatDoorWJenG
set_option linter.unusedVariables false
set_option linter.unusedSimpArgs false
set_option maxRecDepth 100000
set_option maxHeartbeats 4000000
namespace Go.Proofs.YtfdjolfenghmaaaGreatDoor.Jdec
open Go.RowKit Strs
theorem holds_5 (w : World) : Calls Tryz.prog 98 #[.int .i64 5] w fun e w' => e = .returned (.bool true) /\ w = w' := by
  go_enter Tryz.func98, Tryz.ntmps98
  go_wp2_with fail
  go_ret
  exact ⟨rfl, rfl⟩
theorem holds_6 (w : World) : Calls Tryz.prog 98 #[.int .i64 6] w fun e w' => e = .returned (.bool true) /\ w = w' := by
  go_enter Tryz.func98, Tryz.ntmps98
  go_wp2_with fail
  go_ret
  exact ⟨rfl, rfl⟩
theorem pright_call (n : Bool) (d : ByteArray) (x : Int) (h : Num.right n d.data.toList x = true) (w : World) : Calls Tryz.prog 83 #[.agg #[.bool n, .string d, .int .i64 x]] w fun e w' => e = .returned (.bool true) /\ Below w.heap.size w w' := by
  have hd : d.size <= 1000 := by have := right_size h; simpa using this
  have := Num.right_any n d x w (by omega);rw [h] at this;exact this
theorem plain_k1 (ka va : Option Addr) (kc vc : Nat) (A : Nat -> Prop) (w : World) (T : Utf.Sizes w) : Calls Tryz.prog 82 #[(Raw.mk 1 false false ⟨#[]⟩ 0 ⟨#[]⟩ ka 0 kc va 0 vc).val] w fun e w' => e = .returned (.bool true) /\ Below w.heap.size w w' := by
  obtain ⟨w2, hw2, V2, B2⟩ := own_new w (Raw.mk 1 false false ⟨#[]⟩ 0 ⟨#[]⟩ ka 0 kc va 0 vc);have V2 : Hid (w2.heap[w.heap.size]? = some (.cells (Raw.mk 1 false false ⟨#[]⟩ 0 ⟨#[]⟩ ka 0 kc va 0 vc).arr 46 (0, 0))) := V2.out
  dsimp only at hw2
  dsimp only [Raw.val]
  have hrc := pright_call false ⟨#[]⟩ 0 rfl;have HRC := hZz hrc;have HVC : Hid (∀ w, Utf.Sizes w -> Calls Tryz.prog 37 #[.string ⟨#[]⟩] w fun e w' => e = .returned (.bool true) /\ w = w') := fun w T => valid_yes ⟨#[]⟩ w (Nat.zero_le _) T rfl;have HT : Hid (Utf.Sizes w) := T;have HKC : Hid (∀ w', Below w.heap.size w w' -> Calls Tryz.prog 99 #[.slice ka 0 kc] w' fun e w'' => e = .returned (.bool true) /\ Below w'.heap.size w' w'') := fun w' hb => areKeys_any [] ka kc A w' (.inl rfl) (Nat.zero_le _) (fun x hx => by cases hx) (fun x hx => by cases hx) List.nodup_nil (T.stays hb);obtain ⟨⟨x0, x1, x2, x3, x4, x5, x6, x7⟩, _⟩ := val_cells V2.out;clear hrc T;go_enter Tryz.func82, Tryz.ntmps82
  go_wp2_with fail
  refine (Calls.mono (HRC.out w2) ?_);rintro z w3 ⟨rfl, hb3⟩;have V3 := hst V2 hb3;have B3 := bel B2 hb3;clear hb3 x0 x1 x2 x3 x4 x5 x6 x7 V2 B2 hw2 HRC;obtain ⟨⟨x0, x1, x2, x3, x4, x5, x6, x7⟩, _⟩ := val_cells V3.out;go_wp2_with fail
  refine (Calls.mono (HVC.out w3 (HT.out.stays B3.out)) ?_);rintro z w4 ⟨rfl, rfl⟩;go_wp2_with fail
  refine (Calls.mono (HKC.out w3 B3.out) ?_);rintro z w5 ⟨rfl, hb5⟩;have B5 := bel B3 hb5;clear hb5;go_wp2_with fail
  go_ret
  exact ⟨rfl, B5.out⟩
theorem plain_k2 (ka va : Option Addr) (kc vc : Nat) (A : Nat -> Prop) (w : World) (T : Utf.Sizes w) (is : Bool) : Calls Tryz.prog 82 #[(Raw.mk 2 is false ⟨#[]⟩ 0 ⟨#[]⟩ ka 0 kc va 0 vc).val] w fun e w' => e = .returned (.bool true) /\ Below w.heap.size w w' := by
  obtain ⟨w2, hw2, V2, B2⟩ := own_new w (Raw.mk 2 is false ⟨#[]⟩ 0 ⟨#[]⟩ ka 0 kc va 0 vc);have V2 : Hid (w2.heap[w.heap.size]? = some (.cells (Raw.mk 2 is false ⟨#[]⟩ 0 ⟨#[]⟩ ka 0 kc va 0 vc).arr 46 (0, 0))) := V2.out
  dsimp only at hw2
  dsimp only [Raw.val]
  have hrc := pright_call false ⟨#[]⟩ 0 rfl;have HRC := hZz hrc;have HVC : Hid (∀ w, Utf.Sizes w -> Calls Tryz.prog 37 #[.string ⟨#[]⟩] w fun e w' => e = .returned (.bool true) /\ w = w') := fun w T => valid_yes ⟨#[]⟩ w (Nat.zero_le _) T rfl;have HT : Hid (Utf.Sizes w) := T;have HKC : Hid (∀ w', Below w.heap.size w w' -> Calls Tryz.prog 99 #[.slice ka 0 kc] w' fun e w'' => e = .returned (.bool true) /\ Below w'.heap.size w' w'') := fun w' hb => areKeys_any [] ka kc A w' (.inl rfl) (Nat.zero_le _) (fun x hx => by cases hx) (fun x hx => by cases hx) List.nodup_nil (T.stays hb);obtain ⟨⟨x0, x1, x2, x3, x4, x5, x6, x7⟩, _⟩ := val_cells V2.out;clear hrc T;cases is
  case true =>
    go_enter Tryz.func82, Tryz.ntmps82
    go_wp2_with fail
    refine (Calls.mono (HRC.out w2) ?_);rintro z w3 ⟨rfl, hb3⟩;have V3 := hst V2 hb3;have B3 := bel B2 hb3;clear hb3 x0 x1 x2 x3 x4 x5 x6 x7 V2 B2 hw2 HRC;obtain ⟨⟨x0, x1, x2, x3, x4, x5, x6, x7⟩, _⟩ := val_cells V3.out;go_wp2_with fail
    refine (Calls.mono (HVC.out w3 (HT.out.stays B3.out)) ?_);rintro z w4 ⟨rfl, rfl⟩;go_wp2_with fail
    refine (Calls.mono (HKC.out w3 B3.out) ?_);rintro z w5 ⟨rfl, hb5⟩;have B5 := bel B3 hb5;clear hb5;go_wp2_with fail
    go_ret
    exact ⟨rfl, B5.out⟩
  case false =>
    go_enter Tryz.func82, Tryz.ntmps82
    go_wp2_with fail
    refine (Calls.mono (HRC.out w2) ?_);rintro z w3 ⟨rfl, hb3⟩;have V3 := hst V2 hb3;have B3 := bel B2 hb3;clear hb3 x0 x1 x2 x3 x4 x5 x6 x7 V2 B2 hw2 HRC;obtain ⟨⟨x0, x1, x2, x3, x4, x5, x6, x7⟩, _⟩ := val_cells V3.out;go_wp2_with fail
    refine (Calls.mono (HVC.out w3 (HT.out.stays B3.out)) ?_);rintro z w4 ⟨rfl, rfl⟩;go_wp2_with fail
    refine (Calls.mono (HKC.out w3 B3.out) ?_);rintro z w5 ⟨rfl, hb5⟩;have B5 := bel B3 hb5;clear hb5;go_wp2_with fail
    go_ret
    exact ⟨rfl, B5.out⟩
theorem plain_k3 (ka va : Option Addr) (kc vc : Nat) (A : Nat -> Prop) (w : World) (T : Utf.Sizes w) (ng : Bool) (d : ByteArray) (e : Int) (hr : Num.right ng d.data.toList e = true) : Calls Tryz.prog 82 #[(Raw.mk 3 false ng d e ⟨#[]⟩ ka 0 kc va 0 vc).val] w fun e w' => e = .returned (.bool true) /\ Below w.heap.size w w' := by
  obtain ⟨w2, hw2, V2, B2⟩ := own_new w (Raw.mk 3 false ng d e ⟨#[]⟩ ka 0 kc va 0 vc);have V2 : Hid (w2.heap[w.heap.size]? = some (.cells (Raw.mk 3 false ng d e ⟨#[]⟩ ka 0 kc va 0 vc).arr 46 (0, 0))) := V2.out
  dsimp only at hw2
  dsimp only [Raw.val]
  have hrc := pright_call ng d e hr;have HRC := hZz hrc;have HVC : Hid (∀ w, Utf.Sizes w -> Calls Tryz.prog 37 #[.string ⟨#[]⟩] w fun e w' => e = .returned (.bool true) /\ w = w') := fun w T => valid_yes ⟨#[]⟩ w (Nat.zero_le _) T rfl;have HT : Hid (Utf.Sizes w) := T;have HKC : Hid (∀ w', Below w.heap.size w w' -> Calls Tryz.prog 99 #[.slice ka 0 kc] w' fun e w'' => e = .returned (.bool true) /\ Below w'.heap.size w' w'') := fun w' hb => areKeys_any [] ka kc A w' (.inl rfl) (Nat.zero_le _) (fun x hx => by cases hx) (fun x hx => by cases hx) List.nodup_nil (T.stays hb);obtain ⟨⟨x0, x1, x2, x3, x4, x5, x6, x7⟩, _⟩ := val_cells V2.out;clear hrc T;cases ng
  case true =>
    go_enter Tryz.func82, Tryz.ntmps82
    go_wp2_with fail
    refine (Calls.mono (HRC.out w2) ?_);rintro z w3 ⟨rfl, hb3⟩;have V3 := hst V2 hb3;have B3 := bel B2 hb3;clear hb3 x0 x1 x2 x3 x4 x5 x6 x7 V2 B2 hw2 HRC;obtain ⟨⟨x0, x1, x2, x3, x4, x5, x6, x7⟩, _⟩ := val_cells V3.out;go_wp2_with fail
    refine (Calls.mono (HVC.out w3 (HT.out.stays B3.out)) ?_);rintro z w4 ⟨rfl, rfl⟩;go_wp2_with fail
    refine (Calls.mono (HKC.out w3 B3.out) ?_);rintro z w5 ⟨rfl, hb5⟩;have B5 := bel B3 hb5;clear hb5;go_wp2_with fail
    go_ret
    exact ⟨rfl, B5.out⟩
  case false =>
    by_cases hd0 : d = ⟨#[]⟩
    case neg =>
      have hde := toList_nil hd0;clear hd0;go_enter Tryz.func82, Tryz.ntmps82
      go_wp2_with fail
      refine (Calls.mono (HRC.out w2) ?_);rintro z w3 ⟨rfl, hb3⟩;have V3 := hst V2 hb3;have B3 := bel B2 hb3;clear hb3 x0 x1 x2 x3 x4 x5 x6 x7 V2 B2 hw2 HRC;obtain ⟨⟨x0, x1, x2, x3, x4, x5, x6, x7⟩, _⟩ := val_cells V3.out;go_wp2_with fail
      refine (Calls.mono (HVC.out w3 (HT.out.stays B3.out)) ?_);rintro z w4 ⟨rfl, rfl⟩;go_wp2_with fail
      refine (Calls.mono (HKC.out w3 B3.out) ?_);rintro z w5 ⟨rfl, hb5⟩;have B5 := bel B3 hb5;clear hb5;go_wp2_with fail
      go_ret
      exact ⟨rfl, B5.out⟩
    case pos =>
      subst hd0;by_cases he0 : e = 0
      case neg =>
        have hee : (e == 0) = false := by rw [beq_eq_false_iff_ne]; exact he0
        clear he0;go_enter Tryz.func82, Tryz.ntmps82
        go_wp2_with fail
        refine (Calls.mono (HRC.out w2) ?_);rintro z w3 ⟨rfl, hb3⟩;have V3 := hst V2 hb3;have B3 := bel B2 hb3;clear hb3 x0 x1 x2 x3 x4 x5 x6 x7 V2 B2 hw2 HRC;obtain ⟨⟨x0, x1, x2, x3, x4, x5, x6, x7⟩, _⟩ := val_cells V3.out;go_wp2_with fail
        refine (Calls.mono (HVC.out w3 (HT.out.stays B3.out)) ?_);rintro z w4 ⟨rfl, rfl⟩;go_wp2_with fail
        refine (Calls.mono (HKC.out w3 B3.out) ?_);rintro z w5 ⟨rfl, hb5⟩;have B5 := bel B3 hb5;clear hb5;go_wp2_with fail
        go_ret
        exact ⟨rfl, B5.out⟩
      case pos =>
        subst he0;go_enter Tryz.func82, Tryz.ntmps82
        go_wp2_with fail
        refine (Calls.mono (HRC.out w2) ?_);rintro z w3 ⟨rfl, hb3⟩;have V3 := hst V2 hb3;have B3 := bel B2 hb3;clear hb3 x0 x1 x2 x3 x4 x5 x6 x7 V2 B2 hw2 HRC;obtain ⟨⟨x0, x1, x2, x3, x4, x5, x6, x7⟩, _⟩ := val_cells V3.out;go_wp2_with fail
        refine (Calls.mono (HVC.out w3 (HT.out.stays B3.out)) ?_);rintro z w4 ⟨rfl, rfl⟩;go_wp2_with fail
        refine (Calls.mono (HKC.out w3 B3.out) ?_);rintro z w5 ⟨rfl, hb5⟩;have B5 := bel B3 hb5;clear hb5;go_wp2_with fail
        go_ret
        exact ⟨rfl, B5.out⟩
theorem plain_k4 (ka va : Option Addr) (kc vc : Nat) (A : Nat -> Prop) (w : World) (T : Utf.Sizes w) (s : ByteArray) (hv : Utf.validB s.data.toList = true) (hs : s.size <= 4611686018427387904) : Calls Tryz.prog 82 #[(Raw.mk 4 false false ⟨#[]⟩ 0 s ka 0 kc va 0 vc).val] w fun e w' => e = .returned (.bool true) /\ Below w.heap.size w w' := by
  obtain ⟨w2, hw2, V2, B2⟩ := own_new w (Raw.mk 4 false false ⟨#[]⟩ 0 s ka 0 kc va 0 vc);have V2 : Hid (w2.heap[w.heap.size]? = some (.cells (Raw.mk 4 false false ⟨#[]⟩ 0 s ka 0 kc va 0 vc).arr 46 (0, 0))) := V2.out
  dsimp only at hw2
  dsimp only [Raw.val]
  have hrc := pright_call false ⟨#[]⟩ 0 rfl;have HRC := hZz hrc;have HVC : Hid (∀ w, Utf.Sizes w -> Calls Tryz.prog 37 #[.string s] w fun e w' => e = .returned (.bool true) /\ w = w') := fun w T => valid_yes s w hs T hv;have HT : Hid (Utf.Sizes w) := T;have HKC : Hid (∀ w', Below w.heap.size w w' -> Calls Tryz.prog 99 #[.slice ka 0 kc] w' fun e w'' => e = .returned (.bool true) /\ Below w'.heap.size w' w'') := fun w' hb => areKeys_any [] ka kc A w' (.inl rfl) (Nat.zero_le _) (fun x hx => by cases hx) (fun x hx => by cases hx) List.nodup_nil (T.stays hb);obtain ⟨⟨x0, x1, x2, x3, x4, x5, x6, x7⟩, _⟩ := val_cells V2.out;clear hrc T;by_cases hs0 : s = ⟨#[]⟩
  case neg =>
    have hse := toList_nil hs0;clear hs0;go_enter Tryz.func82, Tryz.ntmps82
    go_wp2_with fail
    refine (Calls.mono (HRC.out w2) ?_);rintro z w3 ⟨rfl, hb3⟩;have V3 := hst V2 hb3;have B3 := bel B2 hb3;clear hb3 x0 x1 x2 x3 x4 x5 x6 x7 V2 B2 hw2 HRC;obtain ⟨⟨x0, x1, x2, x3, x4, x5, x6, x7⟩, _⟩ := val_cells V3.out;go_wp2_with fail
    refine (Calls.mono (HVC.out w3 (HT.out.stays B3.out)) ?_);rintro z w4 ⟨rfl, rfl⟩;go_wp2_with fail
    refine (Calls.mono (HKC.out w3 B3.out) ?_);rintro z w5 ⟨rfl, hb5⟩;have B5 := bel B3 hb5;clear hb5;go_wp2_with fail
    go_ret
    exact ⟨rfl, B5.out⟩
  case pos =>
    subst hs0;go_enter Tryz.func82, Tryz.ntmps82
    go_wp2_with fail
    refine (Calls.mono (HRC.out w2) ?_);rintro z w3 ⟨rfl, hb3⟩;have V3 := hst V2 hb3;have B3 := bel B2 hb3;clear hb3 x0 x1 x2 x3 x4 x5 x6 x7 V2 B2 hw2 HRC;obtain ⟨⟨x0, x1, x2, x3, x4, x5, x6, x7⟩, _⟩ := val_cells V3.out;go_wp2_with fail
    refine (Calls.mono (HVC.out w3 (HT.out.stays B3.out)) ?_);rintro z w4 ⟨rfl, rfl⟩;go_wp2_with fail
    refine (Calls.mono (HKC.out w3 B3.out) ?_);rintro z w5 ⟨rfl, hb5⟩;have B5 := bel B3 hb5;clear hb5;go_wp2_with fail
    go_ret
    exact ⟨rfl, B5.out⟩
theorem plain_k5 (ka va : Option Addr) (kc vc : Nat) (A : Nat -> Prop) (w : World) (T : Utf.Sizes w) (n : Nat) : Calls Tryz.prog 82 #[(Raw.mk 5 false false ⟨#[]⟩ 0 ⟨#[]⟩ ka 0 kc va n vc).val] w fun e w' => e = .returned (.bool true) /\ Below w.heap.size w w' := by
  obtain ⟨w2, hw2, V2, B2⟩ := own_new w (Raw.mk 5 false false ⟨#[]⟩ 0 ⟨#[]⟩ ka 0 kc va n vc);have V2 : Hid (w2.heap[w.heap.size]? = some (.cells (Raw.mk 5 false false ⟨#[]⟩ 0 ⟨#[]⟩ ka 0 kc va n vc).arr 46 (0, 0))) := V2.out
  dsimp only at hw2
  dsimp only [Raw.val]
  have hrc := pright_call false ⟨#[]⟩ 0 rfl;have HRC := hZz hrc;have HVC : Hid (∀ w, Utf.Sizes w -> Calls Tryz.prog 37 #[.string ⟨#[]⟩] w fun e w' => e = .returned (.bool true) /\ w = w') := fun w T => valid_yes ⟨#[]⟩ w (Nat.zero_le _) T rfl;have HT : Hid (Utf.Sizes w) := T;have HKC : Hid (∀ w', Below w.heap.size w w' -> Calls Tryz.prog 99 #[.slice ka 0 kc] w' fun e w'' => e = .returned (.bool true) /\ Below w'.heap.size w' w'') := fun w' hb => areKeys_any [] ka kc A w' (.inl rfl) (Nat.zero_le _) (fun x hx => by cases hx) (fun x hx => by cases hx) List.nodup_nil (T.stays hb);obtain ⟨⟨x0, x1, x2, x3, x4, x5, x6, x7⟩, _⟩ := val_cells V2.out;clear hrc T;by_cases hn0 : 0 < n
  case pos =>
    have g1 : decide (0 < (n : Int)) = true := by rw [decide_eq_true_eq]; omega
    have g2 : decide (0 < n) = true := by rw [decide_eq_true_eq]; exact hn0
    clear hn0;go_enter Tryz.func82, Tryz.ntmps82
    go_wp2_with fail
    refine (holds_5 w2).mono ?_;rintro z w9 ⟨rfl, rfl⟩;go_wp2_with fail
    refine (Calls.mono (HRC.out w2) ?_);rintro z w3 ⟨rfl, hb3⟩;have V3 := hst V2 hb3;have B3 := bel B2 hb3;clear hb3 x0 x1 x2 x3 x4 x5 x6 x7 V2 B2 hw2 HRC;obtain ⟨⟨x0, x1, x2, x3, x4, x5, x6, x7⟩, _⟩ := val_cells V3.out;go_wp2_with fail
    refine (Calls.mono (HVC.out w3 (HT.out.stays B3.out)) ?_);rintro z w4 ⟨rfl, rfl⟩;go_wp2_with fail
    refine (Calls.mono (HKC.out w3 B3.out) ?_);rintro z w5 ⟨rfl, hb5⟩;have B5 := bel B3 hb5;clear hb5;go_wp2_with fail
    go_ret
    exact ⟨rfl, B5.out⟩
  case neg =>
    have g1 : decide (0 < (n : Int)) = false := by rw [decide_eq_false_iff_not]; omega
    have g2 : decide (0 < n) = false := by rw [decide_eq_false_iff_not]; exact hn0
    clear hn0;go_enter Tryz.func82, Tryz.ntmps82
    go_wp2_with fail
    refine (Calls.mono (HRC.out w2) ?_);rintro z w3 ⟨rfl, hb3⟩;have V3 := hst V2 hb3;have B3 := bel B2 hb3;clear hb3 x0 x1 x2 x3 x4 x5 x6 x7 V2 B2 hw2 HRC;obtain ⟨⟨x0, x1, x2, x3, x4, x5, x6, x7⟩, _⟩ := val_cells V3.out;go_wp2_with fail
    refine (Calls.mono (HVC.out w3 (HT.out.stays B3.out)) ?_);rintro z w4 ⟨rfl, rfl⟩;go_wp2_with fail
    refine (Calls.mono (HKC.out w3 B3.out) ?_);rintro z w5 ⟨rfl, hb5⟩;have B5 := bel B3 hb5;clear hb5;go_wp2_with fail
    go_ret
    exact ⟨rfl, B5.out⟩
theorem plain_k6 (ka va : Option Addr) (kc vc : Nat) (A : Nat -> Prop) (w : World) (T : Utf.Sizes w) (ks : List ByteArray) (ht : IsTexts w A ka ks) (hl : ks.length <= 9000) (hz : ∀ x ∈ ks, x.size <= 6000) (hk : ∀ x ∈ ks, Utf.validB x.data.toList = true) (hn : ks.Nodup) : Calls Tryz.prog 82 #[(Raw.mk 6 false false ⟨#[]⟩ 0 ⟨#[]⟩ ka ks.length kc va ks.length vc).val] w fun e w' => e = .returned (.bool true) /\ Below w.heap.size w w' := by
  obtain ⟨w2, hw2, V2, B2⟩ := own_new w (Raw.mk 6 false false ⟨#[]⟩ 0 ⟨#[]⟩ ka ks.length kc va ks.length vc);have V2 : Hid (w2.heap[w.heap.size]? = some (.cells (Raw.mk 6 false false ⟨#[]⟩ 0 ⟨#[]⟩ ka ks.length kc va ks.length vc).arr 46 (0, 0))) := V2.out
  dsimp only at hw2
  dsimp only [Raw.val]
  have hrc := pright_call false ⟨#[]⟩ 0 rfl;have HRC := hZz hrc;have HVC : Hid (∀ w, Utf.Sizes w -> Calls Tryz.prog 37 #[.string ⟨#[]⟩] w fun e w' => e = .returned (.bool true) /\ w = w') := fun w T => valid_yes ⟨#[]⟩ w (Nat.zero_le _) T rfl;have HT : Hid (Utf.Sizes w) := T;have HKC : Hid (∀ w', Below w.heap.size w w' -> Calls Tryz.prog 99 #[.slice ka ks.length kc] w' fun e w'' => e = .returned (.bool true) /\ Below w'.heap.size w' w'') := fun w' hb => areKeys_any ks ka kc A w' (ht.turn (Turn.below hb)) hl hz hk hn (T.stays hb);clear ht hz hk hn;obtain ⟨⟨x0, x1, x2, x3, x4, x5, x6, x7⟩, _⟩ := val_cells V2.out;clear hrc T;by_cases hn0 : 0 < ks.length
  case pos =>
    have g1 : decide (0 < (ks.length : Int)) = true := by rw [decide_eq_true_eq]; omega
    have g2 : decide (0 < ks.length) = true := by rw [decide_eq_true_eq]; exact hn0
    clear hn0;go_enter Tryz.func82, Tryz.ntmps82
    go_wp2_with fail
    refine (holds_6 w2).mono ?_;rintro z w9 ⟨rfl, rfl⟩;go_wp2_with fail
    refine (Calls.mono (HRC.out w2) ?_);rintro z w3 ⟨rfl, hb3⟩;have V3 := hst V2 hb3;have B3 := bel B2 hb3;clear hb3 x0 x1 x2 x3 x4 x5 x6 x7 V2 B2 hw2 HRC;obtain ⟨⟨x0, x1, x2, x3, x4, x5, x6, x7⟩, _⟩ := val_cells V3.out;go_wp2_with fail
    refine (Calls.mono (HVC.out w3 (HT.out.stays B3.out)) ?_);rintro z w4 ⟨rfl, rfl⟩;go_wp2_with fail
    refine (Calls.mono (HKC.out w3 B3.out) ?_);rintro z w5 ⟨rfl, hb5⟩;have B5 := bel B3 hb5;clear hb5;go_wp2_with fail
    go_ret
    exact ⟨rfl, B5.out⟩
  case neg =>
    have g1 : decide (0 < (ks.length : Int)) = false := by rw [decide_eq_false_iff_not]; omega
    have g2 : decide (0 < ks.length) = false := by rw [decide_eq_false_iff_not]; exact hn0
    clear hn0;go_enter Tryz.func82, Tryz.ntmps82
    go_wp2_with fail
    refine (Calls.mono (HRC.out w2) ?_);rintro z w3 ⟨rfl, hb3⟩;have V3 := hst V2 hb3;have B3 := bel B2 hb3;clear hb3 x0 x1 x2 x3 x4 x5 x6 x7 V2 B2 hw2 HRC;obtain ⟨⟨x0, x1, x2, x3, x4, x5, x6, x7⟩, _⟩ := val_cells V3.out;go_wp2_with fail
    refine (Calls.mono (HVC.out w3 (HT.out.stays B3.out)) ?_);rintro z w4 ⟨rfl, rfl⟩;go_wp2_with fail
    refine (Calls.mono (HKC.out w3 B3.out) ?_);rintro z w5 ⟨rfl, hb5⟩;have B5 := bel B3 hb5;clear hb5;go_wp2_with fail
    go_ret
    exact ⟨rfl, B5.out⟩
end Go.Proofs.YtfdjolfenghmaaaGreatDoor.Jdec
