/- tabulariumref17.Print, Compare, Great; addr.Compare; an address that may be printed. -/
import Derived.Test.YtfdjolfenghmaaaGreatDoorWAdW
import Derived.Test.YtfdjolfenghmaaaGreatDoorWJenH
import Derived.Test.YtfdjolfenghmaaaGreatDoorWJenG
import Derived.Test.YtfdjolfenghmaaaGreatDoorWJenW
import Derived.Test.YtfdjolfenghmaaaGreatDoorWJdecE
set_option linter.unusedVariables false
set_option linter.unusedSimpArgs false
set_option maxRecDepth 100000
set_option maxHeartbeats 8000000
namespace Go.Proofs.YtfdjolfenghmaaaGreatDoor.Addr
open Go.RowKit Go.Shelf Utf Strs
open Jdec (IsTexts)
theorem data_size {x : ByteArray} {l : List UInt8} (h : x.data.toList = l) : x.size = l.length := by rw [<-h]; simp
theorem rprint_any (a : Adr) (pa : Option Addr) (pc : Nat) (A : Nat -> Prop) (w : World) (ht : IsTexts w A pa a.path) (hl : a.path.length <= 3000) (hs : ∀ x ∈ a.path, x.size <= 3000) (h1 : a.type.size <= 3000) (h2 : a.name.size <= 3000) (h3 : a.word.size <= 3000) (h4 : a.place < 18446744073709551616) : Calls Tryz.prog 13 #[wordsA pa pc a] w fun e w' => e = .returned (.string ⟨(printA a).toArray⟩) /\ Below w.heap.size w w' := by
  obtain ⟨w1, hw1, V1, B1⟩ := adr_new w pa pc a;obtain ⟨x0, x1, x2, x3, x4, x5⟩ := adr_cells V1.out;have hl1 := heap_lt V1.out;have hr := rright_any a pa pc A w1 (ht.turn (Jdec.Turn.below B1.out)) hl (fun x hx => Nat.le_trans (hs x hx) (by omega)) (by omega) (by omega) (by omega);have HR := hZz hr;have HTX : Hid (∀ w', Below w.heap.size w w' -> IsTexts w' A pa a.path) := fun w' hb => ht.turn (Jdec.Turn.below hb);have HS := hZz hs;obtain ⟨r, hrr⟩ : ∃ r, rightA a = r := ⟨_, rfl⟩;rw [hrr] at HR;have HRR := hZz hrr;unfold wordsA at HR ⊢;clear hr ht hrr hs;go_enter Tryz.func13, Tryz.ntmps13
  go_wp2_with fail
  refine (Calls.mono HR.out ?_);rintro z w2 ⟨rfl, hb2⟩;have B2 : Hid (Below w.heap.size w w2) := B1.out.trans (hb2.mono (by omega));have V2 : Hid (w2.heap[w.heap.size]? = some (.cells (arrA pa pc a) 35 (0, 0))) := (hb2.block _ hl1).trans V1.out;clear hb2 x0 x1 x2 x3 x4 x5 hw1 HR;obtain ⟨x0, x1, x2, x3, x4, x5⟩ := adr_cells V2.out;cases r
  · have HF : Hid (printA a = []) := by rw [Hid, printA, HRR.out]; rfl
    go_wp2_with fail
    go_ret
    exact ⟨by rw [HF.out] <;> rfl, B2.out⟩
  have HPR : Hid (printA a = headL a.path a.type.data.toList a.name.data.toList ++ keyL a) := by rw [Hid, printA, HRR.out]; rfl
  have P := right_parts HRR.out;have hp20 := P.len;have hpl := path_size a.path 3000 HS.out;have hpl2 : (pathL a.path).length <= 60160 := Nat.le_trans hpl (by have := Nat.mul_le_mul_right (3000 + 8) hp20; omega);have HPL := hZz hpl2;obtain ⟨M, hM⟩ : ∃ M, (pathL a.path).length = M := ⟨_, rfl⟩;have hM2 : M <= 60160 := by rw [<-hM]; exact hpl2
  have HM := hZz hM;clear hpl hpl2 P hM;go_wp2_with fail
  go_loopw [3, 4] (fun p3 p4 wr => ∃ (i : Nat) (out : ByteArray), p3 = .string out /\ p4 = .int .i64 i /\ i <= a.path.length /\ out.size <= M /\ Hid (out.data.toList = pathL (a.path.take i)) /\ w2 = wr) (fun _ p4 _ => a.path.length - (intOf p4).toNat)
  case atStart => exact ⟨0, ⟨#[]⟩, rfl, rfl, Nat.zero_le _, Nat.zero_le _, rfl, rfl⟩
  case round =>
    obtain ⟨i, out, rfl, rfl, hi, ho, hO, rfl⟩ := hrel;by_cases hlt : i < a.path.length
    · obtain ⟨b, o, rfl, _, hb, hc⟩ := (HTX.out w2 B2.out).resolve_left (by intro e; rw [e] at hlt; simp at hlt);have k0 := hc i hlt;have hle := path_le hlt;have htk := path_take hlt;obtain ⟨x, hx⟩ : ∃ x, a.path[i] = x := ⟨_, rfl⟩;rw [hx] at k0 hle htk;have hos := data_size hO.out;have hml : (modL x).length = x.size + 8 := by simp [modL, moduleL]
      have hMM := HM.out;have hxs : out.size + x.size + 8 <= M := by omega
      have HN : Hid ((out ++ ⟨#[109, 111, 100, 117, 108, 101, 46]⟩ ++ x ++ ⟨#[46]⟩).data.toList = pathL (a.path.take (i + 1))) := by
        rw [Hid, htk, <-hO.out];simp [modL, moduleL]
      have HZ : Hid ((out ++ ⟨#[109, 111, 100, 117, 108, 101, 46]⟩ ++ x ++ ⟨#[46]⟩).size <= M) := by
        rw [Hid, ByteArray.size_append, ByteArray.size_append, ByteArray.size_append];show out.size + 7 + x.size + 1 <= M;omega
      clear hc hx hle htk hos hml hMM;go_wp2_with fail
      go_roundw
      case rel => exact ⟨i + 1, _, rfl, by go_num, by omega, HZ.out, HN.out, trivial⟩
      case measure => simp [intOf]; omega
    · obtain rfl : i = a.path.length := by omega
      have HH : Hid ((out ++ a.type ++ ⟨#[46]⟩ ++ a.name).data.toList = headL a.path a.type.data.toList a.name.data.toList) := by
        have := hO.out;rw [List.take_length] at this;rw [Hid];simp [headL, this]
      by_cases q1 : a.key = 1
      · have t0 : (a.key == 1) = true := by rw [beq_iff_eq]; exact q1
        have t1 : (a.key == 2) = false := by rw [beq_eq_false_iff_ne]; omega
        have hdg := rdigits_any a.place h4 w2;obtain ⟨dg, hd⟩ : ∃ dg, (⟨(Lib.decDigits a.place).toArray⟩ : ByteArray) = dg := ⟨_, rfl⟩;have hdl : dg.data.toList = Lib.decDigits a.place := by rw [<-hd]
        have hds : dg.size <= 20 := by rw [data_size hdl, Lib.decDigits_length]; exact Lib.nDigits_le20 _ h4
        rw [hd] at hdg;have HDG := hZz hdg;have HF : Hid (out ++ a.type ++ ⟨#[46]⟩ ++ a.name ++ ⟨#[91]⟩ ++ dg ++ ⟨#[93]⟩ = ⟨(printA a).toArray⟩) := by
          apply bytes_ext
          rw [HPR.out, <-HH.out, keyL, if_pos q1, <-hdl];simp
        clear q1 hdg hd hdl;go_wp2_with fail
        refine (Calls.mono HDG.out ?_);rintro z w3 ⟨rfl, hb3⟩;have V3 := hst V2 hb3;have B3 := bel B2 hb3;clear hb3 x0 x1 x2 x3 x4 x5;obtain ⟨x0, x1, x2, x3, x4, x5⟩ := adr_cells V3.out;go_wp2_with fail
        go_ret
        exact ⟨by rw [HF.out] <;> rfl, B3.out⟩
      have t0 : (a.key == 1) = false := by rw [beq_eq_false_iff_ne]; exact q1
      by_cases q2 : a.key = 2
      · have t1 : (a.key == 2) = true := by rw [beq_iff_eq]; exact q2
        have hdg := rqprint_any a.word w2 (by omega);obtain ⟨dg, hd⟩ : ∃ dg, (⟨(Quote.qprint a.word.data.toList).toArray⟩ : ByteArray) = dg := ⟨_, rfl⟩;have hdl : dg.data.toList = Quote.qprint a.word.data.toList := by rw [<-hd]
        have hds : dg.size <= 18002 := by
          have h1 := Quote.qps_len a.word.data.toList;have h2 : a.word.data.toList.length = a.word.size := by simp
          have h3 : Quote.qprint a.word.data.toList = 34 :: (a.word.data.toList.flatMap Quote.qp ++ [34]) := rfl;rw [data_size hdl, h3];simp only [List.length_append, List.length_cons, List.length_nil]
          omega
        rw [hd] at hdg;have HDG := hZz hdg;have HF : Hid (out ++ a.type ++ ⟨#[46]⟩ ++ a.name ++ ⟨#[91]⟩ ++ dg ++ ⟨#[93]⟩ = ⟨(printA a).toArray⟩) := by
          apply bytes_ext
          rw [HPR.out, <-HH.out, keyL, if_neg q1, if_pos q2, <-hdl];simp
        clear q1 q2 hdg hd hdl;go_wp2_with fail
        refine (Calls.mono HDG.out ?_);rintro z w3 ⟨rfl, hb3⟩;have B3 := bel B2 hb3;clear hb3 x0 x1 x2 x3 x4 x5;go_wp2_with fail
        go_ret
        exact ⟨by rw [HF.out] <;> rfl, B3.out⟩
      · have t1 : (a.key == 2) = false := by rw [beq_eq_false_iff_ne]; exact q2
        have HF : Hid (out ++ a.type ++ ⟨#[46]⟩ ++ a.name = ⟨(printA a).toArray⟩) := by
          apply bytes_ext
          rw [HPR.out, <-HH.out, keyL, if_neg q1, if_neg q2, List.append_nil]
        clear q1 q2;go_wp2_with fail
        go_ret
        exact ⟨by rw [HF.out] <;> rfl, B2.out⟩
/-! ## Texts compared -/
theorem cmp_cases : ∀ a b : List UInt8, (Lib.compareBytes a b = -1 /\ Op.bytesLess a b = true /\ a ≠ b) ∨ (Lib.compareBytes a b = 0 /\ Op.bytesLess a b = false /\ a = b) ∨ (Lib.compareBytes a b = 1 /\ Op.bytesLess a b = false /\ a ≠ b) := by
  intro a
  induction a with
  | nil =>
    intro b
    cases b with
    | nil => exact .inr (.inl ⟨rfl, by rw [bytesLess_eq]; rfl, rfl⟩)
    | cons y b => exact .inl ⟨rfl, by rw [bytesLess_eq]; simp, by simp⟩
  | cons x a ih =>
    intro b
    cases b with
    | nil => exact .inr (.inr ⟨rfl, by rw [bytesLess_eq]; simp, by simp⟩)
    | cons y b =>
      rw [bytesLess_eq, Lib.compareBytes];have hiff : ((x :: a) < (y :: b)) ↔ (x < y ∨ x = y /\ a < b) := List.cons_lt_cons_iff;by_cases h1 : x < y
      · rw [if_pos h1];refine .inl ⟨rfl, by rw [decide_eq_true_eq, hiff]; exact .inl h1, fun e => ?_⟩;injection e with e _
        subst e;exact absurd (UInt8.lt_iff_toNat_lt.1 h1) (Nat.lt_irrefl _)
      · by_cases h2 : y < x
        · rw [if_neg h1, if_pos h2];refine .inr (.inr ⟨rfl, ?_, fun e => ?_⟩)
          · rw [decide_eq_false_iff_not, hiff];rintro (h | ⟨h, _⟩)
            · exact h1 h
            · subst h; exact absurd (UInt8.lt_iff_toNat_lt.1 h2) (Nat.lt_irrefl _)
          · injection e with e _
            subst e;exact absurd (UInt8.lt_iff_toNat_lt.1 h2) (Nat.lt_irrefl _)
        · rw [if_neg h1, if_neg h2];have hxy : x = y := UInt8.toNat_inj.1 (by have a1 : ¬ x.toNat < y.toNat := fun h => h1 (UInt8.lt_iff_toNat_lt.2 h); have a2 : ¬ y.toNat < x.toNat := fun h => h2 (UInt8.lt_iff_toNat_lt.2 h); omega);subst hxy;have e : decide ((x :: a) < (x :: b)) = Op.bytesLess a b := by
            rw [bytesLess_eq];apply decide_eq_decide.2
            rw [hiff];constructor
            · rintro (h | ⟨_, h⟩)
              · exact absurd h h1
              · exact h
            · intro h; exact .inr ⟨rfl, h⟩
          rw [e];rcases ih b with h | h | h
          · exact .inl ⟨h.1, h.2.1, fun e => h.2.2 (by injection e)⟩
          · exact .inr (.inl ⟨h.1, h.2.1, by rw [h.2.2]⟩)
          · exact .inr (.inr ⟨h.1, h.2.1, fun e => h.2.2 (by injection e)⟩)
/-! ## An address that may be printed -/
structure AdrAt (w : World) (pa : Option Addr) (a : Adr) : Prop where
  t : IsTexts w (fun _ => True) pa a.path
  l : a.path.length <= 3000
  s : ∀ x ∈ a.path, x.size <= 3000
  ty : a.type.size <= 3000
  nm : a.name.size <= 3000
  wd : a.word.size <= 3000
  p : a.place < 18446744073709551616
theorem AdrAt.rprint {w : World} {pa : Option Addr} {a : Adr} (h : AdrAt w pa a) (pc : Nat) : Calls Tryz.prog 13 #[wordsA pa pc a] w fun e w' => e = .returned (.string ⟨(printA a).toArray⟩) /\ Below w.heap.size w w' := rprint_any a pa pc _ w h.t h.l h.s h.ty h.nm h.wd h.p
theorem AdrAt.right {w : World} {pa : Option Addr} {a : Adr} (h : AdrAt w pa a) (pc : Nat) (T : TabsA w) : Calls Tryz.prog 54 #[wordsA pa pc a] w fun e w' => e = .returned (.bool (rightA a)) /\ Below w.heap.size w w' := right_any a pa pc _ w h.t h.l (fun x hx => Nat.le_trans (h.s x hx) (by omega)) (Nat.le_trans h.ty (by omega)) (Nat.le_trans h.nm (by omega)) (Nat.le_trans h.wd (by omega)) T.t
theorem AdrAt.rright {w : World} {pa : Option Addr} {a : Adr} (h : AdrAt w pa a) (pc : Nat) : Calls Tryz.prog 20 #[wordsA pa pc a] w fun e w' => e = .returned (.bool (rightA a)) /\ Below w.heap.size w w' := rright_any a pa pc _ w h.t h.l (fun x hx => Nat.le_trans (h.s x hx) (by omega)) (Nat.le_trans h.ty (by omega)) (Nat.le_trans h.nm (by omega)) (Nat.le_trans h.wd (by omega))
/-! ## Too great an address -/
def sizesL (ks : List ByteArray) : Nat := (ks.map fun k => k.size).sum
theorem sizes_take {ks : List ByteArray} {i : Nat} (h : i < ks.length) : sizesL (ks.take (i + 1)) = sizesL (ks.take i) + ks[i].size := by
  unfold sizesL;rw [List.take_add_one, List.getElem?_eq_getElem h, List.map_append, List.sum_append];simp
theorem sizes_le : ∀ (ks : List ByteArray) (x : ByteArray), x ∈ ks -> x.size <= sizesL ks := by
  intro ks
  induction ks with
  | nil => intro x h; cases h
  | cons k ks ih =>
    intro x h
    have e : sizesL (k :: ks) = k.size + sizesL ks := by simp [sizesL]
    rw [e];rcases List.mem_cons.1 h with rfl | h
    · omega
    · have := ih x h; omega
structure AdrIn (w : World) (pa : Option Addr) (a : Adr) : Prop where
  t : IsTexts w (fun _ => True) pa a.path
  l : a.path.length <= 140737488351232
  s : ∀ x ∈ a.path, x.size <= 140737488351232
  ty : a.type.size <= 140737488351232
  nm : a.name.size <= 140737488351232
  wd : a.word.size <= 140737488351232
  p : a.place < 18446744073709551616
theorem AdrIn.stays {w w' : World} {pa : Option Addr} {a : Adr} (h : AdrIn w pa a) (hb : Below w.heap.size w w') : AdrIn w' pa a := ⟨h.t.turn (Jdec.Turn.below hb), h.l, h.s, h.ty, h.nm, h.wd, h.p⟩
def greatN (a : Adr) : Nat := a.type.size + a.name.size + a.word.size + sizesL (a.path.take 50)
def greatA (a : Adr) : Bool := decide (1000 < greatN a) || decide (40 < a.path.length)
theorem AdrIn.at {w : World} {pa : Option Addr} {a : Adr} (h : AdrIn w pa a) (hg : greatA a = false) : AdrAt w pa a := by
  unfold greatA greatN at hg;rw [Bool.or_eq_false_iff, decide_eq_false_iff_not, decide_eq_false_iff_not] at hg;obtain ⟨h1, h2⟩ := hg;rw [List.take_of_length_le (by omega)] at h1;exact ⟨h.t, by omega, fun x hx => by have := sizes_le _ x hx; omega, by omega, by omega, by omega, h.p⟩
theorem great_any (a : Adr) (pa : Option Addr) (pc : Nat) (w : World) (h : AdrIn w pa a) : Calls Tryz.prog 17 #[wordsA pa pc a] w fun e w' => e = .returned (.bool (greatA a)) /\ Below w.heap.size w w' := by
  obtain ⟨w1, hw1, V1, B1⟩ := adr_new w pa pc a;obtain ⟨x0, x1, x2, x3, x4, x5⟩ := adr_cells V1.out;have HTX : Hid (IsTexts w1 (fun _ => True) pa a.path) := h.t.turn (Jdec.Turn.below B1.out);have HS : Hid (∀ x ∈ a.path, x.size <= 140737488351232) := h.s;have hlen := h.l;obtain ⟨n1, hn1⟩ : ∃ n1, a.type.size + a.name.size = n1 := ⟨_, rfl⟩;obtain ⟨n2, hn2⟩ : ∃ n2, n1 + a.word.size = n2 := ⟨_, rfl⟩;have g1 : (a.type.size : Int) + (a.name.size : Int) = (n1 : Int) := by omega
  have g2 : (n1 : Int) + (a.word.size : Int) = (n2 : Int) := by omega
  have l1 : n1 <= 281474976702464 := by have := h.ty; have := h.nm; omega
  have l2 : n2 <= 422212465053696 := by have := h.wd; omega
  have HG : Hid (greatN a = n2 + sizesL (a.path.take 50)) := by rw [Hid, greatN, hn1, hn2]
  unfold wordsA;clear h hn1 hn2;go_enter Tryz.func17, Tryz.ntmps17
  go_wp2_with fail
  go_loopw [3, 4] (fun p3 p4 wr => ∃ n i : Nat, p3 = .int .i64 n /\ p4 = .int .i64 i /\ i <= a.path.length /\ i <= 50 /\ n <= 422212465053696 + i * 140737488351232 /\ Hid (n = n2 + sizesL (a.path.take i)) /\ w1 = wr) (fun _ p4 _ => a.path.length - (intOf p4).toNat)
  case atStart => exact ⟨n2, 0, rfl, rfl, Nat.zero_le _, Nat.zero_le _, by omega, by simp [Hid, sizesL], rfl⟩
  case round =>
    obtain ⟨n, i, rfl, rfl, hi, hi5, hn, hN, rfl⟩ := hrel;by_cases hgo : i < a.path.length /\ i < 50
    · obtain ⟨hlt, h50⟩ := hgo;obtain ⟨b, o, rfl, _, hb, hc⟩ := HTX.out.resolve_left (by intro e; rw [e] at hlt; simp at hlt);have k0 := hc i hlt;have hst := sizes_take hlt;have hxs := HS.out _ (List.getElem_mem hlt);obtain ⟨x, hx⟩ : ∃ x, a.path[i] = x := ⟨_, rfl⟩;rw [hx] at k0 hst hxs;obtain ⟨m, hm⟩ : ∃ m, n + x.size = m := ⟨_, rfl⟩;have gm : (n : Int) + (x.size : Int) = (m : Int) := by omega
      have hmb : m <= 422212465053696 + (i + 1) * 140737488351232 := by omega
      have hwr : IntKind.i64.wrap (m : Int) = (m : Int) := IntWalk.i64_in _ (by omega);have HM : Hid (m = n2 + sizesL (a.path.take (i + 1))) := by rw [Hid, hst, <-hm, hN.out]; omega
      have t0 : decide ((i : Int) < (a.path.length : Int)) = true := by rw [decide_eq_true_eq]; omega
      have t1 : decide (i < a.path.length) = true := by rw [decide_eq_true_eq]; omega
      have t2 : decide ((i : Int) < 50) = true := by rw [decide_eq_true_eq]; omega
      have t3 : decide (i < 50) = true := by rw [decide_eq_true_eq]; omega
      clear hc hx hst hm hxs;go_wp2_with fail
      go_roundw
      case rel => exact ⟨m, i + 1, rfl, by go_num, by omega, by omega, hmb, HM.out, trivial⟩
      case measure => simp [intOf]; omega
    · have htk : a.path.take i = a.path.take 50 := by
        by_cases h : i = 50
        · rw [h]
        · rw [List.take_of_length_le (by omega), List.take_of_length_le (by omega)]
      rw [htk] at hN;have HGN : Hid (greatN a = n) := by rw [Hid, HG.out, hN.out]
      obtain ⟨c1, h1⟩ : ∃ c, decide (1000 < n) = c := ⟨_, rfl⟩;obtain ⟨c2, h2⟩ : ∃ c, decide (40 < a.path.length) = c := ⟨_, rfl⟩;have HF : Hid (greatA a = (c1 || c2)) := by rw [Hid, greatA, HGN.out, h1, h2]
      have h1' : decide ((1000 : Int) < (n : Int)) = c1 := by rw [<-h1]; apply decide_eq_decide.2; omega
      have h2' : decide ((40 : Int) < (a.path.length : Int)) = c2 := by rw [<-h2]; apply decide_eq_decide.2; omega
      have hcs : (decide ((i : Int) < (a.path.length : Int)) = false /\ decide (i < a.path.length) = false) ∨ (decide ((i : Int) < (a.path.length : Int)) = true /\ decide (i < a.path.length) = true /\ decide ((i : Int) < 50) = false /\ decide (i < 50) = false) := by
        by_cases h : i < a.path.length
        · refine .inr ⟨?_, ?_, ?_, ?_⟩
          · rw [decide_eq_true_eq]; omega
          · rw [decide_eq_true_eq]; omega
          · rw [decide_eq_false_iff_not]; omega
          · rw [decide_eq_false_iff_not]; omega
        · refine .inl ⟨?_, ?_⟩
          · rw [decide_eq_false_iff_not]; omega
          · rw [decide_eq_false_iff_not]; omega
      clear hgo htk;rcases hcs with ⟨t0, t1⟩ | ⟨t0, t1, t2, t3⟩ <;> cases c1 <;> cases c2
      all_goals
        go_wp2_with fail
        go_ret
        exact ⟨by rw [HF.out]; rfl, B1.out⟩
end Go.Proofs.YtfdjolfenghmaaaGreatDoor.Addr
namespace Go.Proofs.YtfdjolfenghmaaaGreatDoor.Jdec
open Go.RowKit Strs
theorem plain_any (k : Int) (is ng : Bool) (d : ByteArray) (e : Int) (s : ByteArray) (ks : List ByteArray) (n : Nat) (O : OwnQ k is ng d e s ks n) (hs : s.size <= 6000) (hks : ks.length <= 9000) (hz : ∀ x ∈ ks, x.size <= 6000) (ka va : Option Addr) (kc vc : Nat) (A : Nat -> Prop) (w : World) (T : Utf.Sizes w) (ht : IsTexts w A ka ks) : Calls Tryz.prog 82 #[(Raw.mk k is ng d e s ka ks.length kc va n vc).val] w fun e w' => e = .returned (.bool true) /\ Below w.heap.size w w' := by
  obtain ⟨k1, k6, hi, hnum, htx, hkids, hnk, hr, hv, hb, hw, hap⟩ := O;rcases (show k = 1 ∨ k = 2 ∨ k = 3 ∨ k = 4 ∨ k = 5 ∨ k = 6 by omega) with rfl | rfl | rfl | rfl | rfl | rfl
  · obtain ⟨rfl, rfl, rfl⟩ := hnum (by decide);obtain rfl := hi (by decide);obtain rfl := htx (by decide);obtain rfl := hkids (by decide);obtain rfl := hnk (by decide);exact plain_k1 ka va kc vc A w T
  · obtain ⟨rfl, rfl, rfl⟩ := hnum (by decide);obtain rfl := htx (by decide);obtain rfl := hkids (by decide);obtain rfl := hnk (by decide);exact plain_k2 ka va kc vc A w T is
  · obtain rfl := hi (by decide);obtain rfl := htx (by decide);obtain rfl := hkids (by decide);obtain rfl := hnk (by decide);exact plain_k3 ka va kc vc A w T ng d e hr
  · obtain ⟨rfl, rfl, rfl⟩ := hnum (by decide);obtain rfl := hi (by decide);obtain rfl := hkids (by decide);obtain rfl := hnk (by decide);exact plain_k4 ka va kc vc A w T s hv (by omega)
  · obtain ⟨rfl, rfl, rfl⟩ := hnum (by decide);obtain rfl := hi (by decide);obtain rfl := htx (by decide);obtain rfl := hnk (by decide);exact plain_k5 ka va kc vc A w T n
  · obtain ⟨rfl, rfl, rfl⟩ := hnum (by decide);obtain rfl := hi (by decide);obtain rfl := htx (by decide);obtain rfl := hb rfl;exact plain_k6 ka va kc vc A w T ks ht hks hz hw hap
set_option maxHeartbeats 4000000
def TRight (t : JV) : Prop := ∀ (ra : Raw) (A : Nat -> Prop) (w : World) (dp : Nat), t.deepN <= dp -> dp <= 1000 -> Utf.Sizes w -> IsV w A ra t -> Calls Tryz.prog 64 #[ra.val, .int .i64 dp] w fun e w' => e = .returned (.bool true) /\ Below w.heap.size w w'
theorem tright_step (k : Int) (is ng : Bool) (d : ByteArray) (e : Int) (s : ByteArray) (ks : List ByteArray) (vs : List JV) (O : OwnQ k is ng d e s ks vs.length) (hs : s.size <= 6000) (hks : ks.length <= 9000) (hv : vs.length <= 9000) (hz : ∀ x ∈ ks, x.size <= 6000) (IH : ∀ j (h : j < vs.length), TRight vs[j]) : TRight (.mk k is ng d e s ks vs) := by
  intro ra A w dp hdp hdl T h
  have hkk : vs ≠ [] -> k = 5 ∨ k = 6 := fun hne => by
    have h1 := O.kids;have h6 := O.k6;have := List.length_pos_iff.2 hne;omega
  rw [deepN_mk] at hdp;obtain ⟨ka, kc, va, vc, rfl, ht, f, hc, hi⟩ := h.parts;have HIH := hZz IH;have HC := hZz hc;have HI := hZz hi;have HKK := hZz hkk;have HDP := hZz hdp;have HT := hZz T;have hd1 : 1 <= dp := by omega
  obtain ⟨w2, hw2, V2, B2⟩ := own_new w (Raw.mk k is ng d e s ka ks.length kc va vs.length vc);have V2 : Hid (w2.heap[w.heap.size]? = some (.cells (Raw.mk k is ng d e s ka ks.length kc va vs.length vc).arr 46 (0, 0))) := V2.out;have hp := plain_any k is ng d e s ks vs.length O hs hks hz ka va kc vc A w2 (T.stays B2.out) (ht.turn (Turn.below B2.out));have HP := hZz hp;have q1 : decide ((dp : Int) < 1) = false := by rw [decide_eq_false_iff_not]; omega
  have q2 : decide (dp < 1) = false := by rw [decide_eq_false_iff_not]; omega
  clear h ht hc hi IH hp O hz hkk hdp T
  dsimp only at hw2
  unfold Raw.val at HP ⊢;obtain ⟨⟨x0, x1, x2, x3, x4, x5, x6, x7⟩, _⟩ := val_cells V2.out;go_enter Tryz.func64, Tryz.ntmps64
  go_wp2_with fail
  refine (Calls.mono HP.out ?_);rintro z w3 ⟨rfl, hb3⟩;have V3 := hst V2 hb3;have B3 := bel B2 hb3;clear hb3 x0 x1 x2 x3 x4 x5 x6 x7 V2 B2 hw2 HP;have x7 : w3.cell? ⟨w.heap.size, 7, none⟩ = some (.slice va vs.length vc) := cell_of V3.out 7;go_wp2_with fail
  clear x7
  go_loopw [17] (fun p wr => ∃ i : Nat, p = .int .i64 i /\ i <= vs.length /\ Hid (Below w3.heap.size w3 wr)) (fun p _ => vs.length - (intOf p).toNat)
  case atStart => exact ⟨0, rfl, Nat.zero_le _, Below.refl _ _⟩
  case round =>
    obtain ⟨i, rfl, hi, hB⟩ := hrel;by_cases hlt : i < vs.length
    · have hne : vs ≠ [] := fun e => by rw [e] at hlt; simp at hlt
      obtain ⟨g, o, rfl, hg, hcs⟩ := HC.out.resolve_left hne;have Bw := bel B3 hB;have K1 := hZz ((hcs i hlt).below hg Bw.out);have I1 := hZz ((HI.out i hlt).behind Bw.out);have hdd : vs[i].deepN <= dp - 1 := by
        have h1 := HDP.out;rw [if_pos (HKK.out hne)] at h1;have := deepNs_mem vs i hlt;omega
      obtain ⟨w4, hw4, V4, B4⟩ := own_new wr (f i);have hcall := HIH.out i hlt (f i) A w4 (dp - 1) hdd (by omega) ((HT.out.stays Bw.out).stays B4.out) (I1.out.behind B4.out);have hdi : (dp : Int) - 1 = ((dp - 1 : Nat) : Int) := by omega
      clear hcs hdd;generalize f i = x at *;have HCL := hZz hcall;unfold Raw.val at HCL;have K1c : CellsAt wr g (o + i * 8) x := K1.out;obtain ⟨u0, u1, u2, u3, u4, u5, u6, u7⟩ := K1c.eight;have V4 : Hid (w4.heap[wr.heap.size]? = some (.cells x.arr 46 (0, 0))) := V4.out;obtain ⟨⟨y0, y1, y2, y3, y4, y5, y6, y7⟩, _⟩ := val_cells V4.out;clear K1 K1c hcall I1;go_wp2_with fail
      refine (Calls.mono HCL.out ?_);rintro z w5 ⟨rfl, hb5⟩;have B5 : Hid (Below w3.heap.size w3 w5) := (hB.out.trans (B4.out.mono hB.out.size)).trans (hb5.mono (Nat.le_trans hB.out.size B4.out.size));clear hb5;go_wp2_with fail
      go_roundw
      case rel => exact ⟨i + 1, by go_num, by omega, B5.out⟩
      case measure => simp [intOf]; omega
    · go_wp2_with fail
      go_ret
      exact ⟨rfl, B3.out.trans (hB.out.mono B3.out.size)⟩
theorem mass_pos (v : JV) : 1 <= v.mass := by
  cases v with
  | mk k i n d e s ks vs => rw [mass_mk]; omega
theorem masses_len : ∀ vs : List JV, vs.length <= masses vs
  | [] => Nat.zero_le _
  | v :: t => by have := masses_len t; have := mass_pos v; rw [masses_cons, List.length_cons]; omega
theorem masses_mem : ∀ (vs : List JV) (j : Nat) (h : j < vs.length), vs[j].mass <= masses vs
  | [], j, h => absurd h (Nat.not_lt_zero _)
  | v :: t, 0, h => by rw [masses_cons]; show v.mass <= _; omega
  | v :: t, j + 1, h => by
    have := masses_mem t j (by simpa using h);rw [masses_cons, List.getElem_cons_succ]; omega
theorem tright_any (t : JV) (hg : GoodQ t) : Fine t -> t.mass <= 9000 -> TRight t := by
  induction hg with
  | mk k i n d e s ks vs O hk ih =>
    intro hf hm
    rw [mass_mk] at hm;have hl := masses_len vs;generalize hz : JV.mk k i n d e s ks vs = z at hf
    cases hf with
    | mk _ _ _ _ _ _ _ _ f1 f2 f3 f4 =>
      injection hz with e1 e2 e3 e4 e5 e6 e7 e8
      subst e1 e2 e3 e4 e5 e6 e7 e8;exact tright_step k i n d e s ks vs O f2 (by omega) (by omega) f3 (fun j hj => ih j hj (f4 j hj) (by have := masses_mem vs j hj; omega))
theorem tree_right (t : JV) (hg : GoodQ t) (hf : Fine t) (hm : t.mass <= 9000) (hd : t.deepN <= 64) (ra : Raw) (A : Nat -> Prop) (w : World) (T : Utf.Sizes w) (hi : IsV w A ra t) : Calls Tryz.prog 45 #[ra.val] w fun e w' => e = .returned (.bool true) /\ Below w.heap.size w w' := by
  obtain ⟨w2, hw2, V2, B2⟩ := own_new w ra;have V2 : Hid (w2.heap[w.heap.size]? = some (.cells ra.arr 46 (0, 0))) := V2.out;have hc : Calls Tryz.prog 64 #[ra.val, .int .i64 64] w2 fun e w' => e = .returned (.bool true) /\ Below w2.heap.size w2 w' := tright_any t hg hf hm ra A w2 64 hd (by omega) (T.stays B2.out) (hi.behind B2.out);have HC := hZz hc;clear hc hi T hf hg;unfold Raw.val at HC ⊢;obtain ⟨⟨x0, x1, x2, x3, x4, x5, x6, x7⟩, _⟩ := val_cells V2.out;go_enter Tryz.func45, Tryz.ntmps45
  go_wp2_with fail
  refine (Calls.mono HC.out ?_);rintro z w3 ⟨rfl, hb3⟩;have B3 := bel B2 hb3;clear hb3;go_wp2_with fail
  go_ret
  exact ⟨rfl, B3.out⟩
set_option maxHeartbeats 1000000
def PB (T : TypeId) (n : Nat) (W : World) (bs : List UInt8) : Prop := ∃ cs, Bl W n n 0 T cs bs
theorem PB.lt {T : TypeId} {n : Nat} {W : World} {bs : List UInt8} (h : PB T n W bs) : n < W.heap.size := by
  obtain ⟨cs, h⟩ := h;exact heap_lt h.blk
def PW (T : TypeId) (n : Nat) (w : World) (bs : List UInt8) (e : Ending) (w' : World) : Prop := e = .returned (.tuple #[]) /\ PB T n w' bs /\ Keeps n n w w'
theorem pb_text (T : TypeId) (n : Nat) (W : World) (bs : List UInt8) (s : ByteArray) (h : PB T n W bs) (hl : bs.length + s.size <= 140737488355328) : Calls Tryz.prog 41 #[.pointer (some ⟨n, 0, none⟩), .string s] W fun e W' => e = .returned (.tuple #[.int .i64 s.size, .nilIface]) /\ PB T n W' (bs ++ s.data.toList) /\ Keeps n n W W' := by
  have hn := h.lt;obtain ⟨cs, h⟩ := h;exact (writeString_any n n 0 T cs bs s W h hl (by omega)).mono fun e W' ⟨h1, cs', h2, _, _, h3⟩ => ⟨h1, ⟨cs', h2⟩, h3⟩
theorem pb_string (T : TypeId) (n : Nat) (W : World) (bs : List UInt8) (h : PB T n W bs) : Calls Tryz.prog 42 #[.pointer (some ⟨n, 0, none⟩)] W fun e W' => e = .returned (.string ⟨bs.toArray⟩) /\ Below n W W' := by
  have hn := h.lt;obtain ⟨cs, h⟩ := h;exact (string_any n n 0 T cs bs W h (by omega)).mono fun e W' ⟨h1, h2, _⟩ => ⟨h1, h2.below⟩
theorem ptext_any (T : TypeId) (n : Nat) (W : World) (bs : List UInt8) (s : ByteArray) (h : PB T n W bs) (hl : bs.length + s.size <= 140737488355328) : Calls Tryz.prog 196 #[.pointer (some ⟨n, 0, none⟩), .string s] W (PW T n W (bs ++ s.data.toList)) := by
  have hc := pb_text T n W bs s h hl;have HC := hZz hc;clear hc h hl;go_enter Tryz.func196, Tryz.ntmps196
  go_wp2_with fail
  refine (Calls.mono HC.out ?_);rintro e w2 ⟨rfl, k2, b2⟩;have K2 := hZz k2;have B2 := hZz b2;clear k2 b2;go_wp2_with fail
  go_end0
  exact ⟨rfl, K2.out, B2.out⟩
theorem nput_any (T : TypeId) (n : Nat) (W : World) (bs : List UInt8) (s : ByteArray) (x y : Int) (h : PB T n W bs) (hl : bs.length + s.size <= 140737488355328) : Calls Tryz.prog 195 #[.pointer (some ⟨n, 0, none⟩), .string s, .int .i64 x, .int .i64 y] W (PW T n W (bs ++ s.data.toList)) := by
  have hc := pb_text T n W bs s h hl;have HC := hZz hc;clear hc h hl;go_enter Tryz.func195, Tryz.ntmps195
  go_wp2_with fail
  refine (Calls.mono HC.out ?_);rintro e w2 ⟨rfl, k2, b2⟩;have K2 := hZz k2;have B2 := hZz b2;clear k2 b2;go_wp2_with fail
  go_end0
  exact ⟨rfl, K2.out, B2.out⟩
end Go.Proofs.YtfdjolfenghmaaaGreatDoor.Jdec
