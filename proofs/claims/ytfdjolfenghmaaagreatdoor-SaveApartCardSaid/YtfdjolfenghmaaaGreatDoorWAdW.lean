/- References of prints: tabulariumref17.Digits, Great, Compare; tabulariumref07.digit, short, Print; tabulariumref17.Print; addr.Compare. -/
import Derived.Test.YtfdjolfenghmaaaGreatDoorWAdV
import Derived.Test.YtfdjolfenghmaaaGreatDoorWAdF
set_option linter.unusedVariables false
set_option linter.unusedSimpArgs false
set_option maxRecDepth 100000
set_option maxHeartbeats 8000000
namespace Go.Proofs.YtfdjolfenghmaaaGreatDoor.Addr
open Go.RowKit Go.Shelf Utf Strs
open Jdec (IsTexts)
theorem bytes_ext {x y : ByteArray} (h : x.data.toList = y.data.toList) : x = y := by rw [Utf.str_of x _ rfl, Utf.str_of y _ rfl, h]
/-! ## A number's digits -/
theorem rdigits_any : ∀ (n : Nat), n < 18446744073709551616 -> ∀ w : World, Calls Tryz.prog 21 #[.int .u64 n] w fun e w' => e = .returned (.string ⟨(Lib.decDigits n).toArray⟩) /\ Below w.heap.size w w' := by
  intro n
  induction n using Nat.strongRecOn with
  | ind n ih =>
  intro hn w
  obtain ⟨r, hr⟩ : ∃ r : Nat, n % 10 = r := ⟨_, rfl⟩;have gr : (n : Int) % 10 = (r : Int) := by omega
  have lr : r < 10 := by omega
  obtain ⟨q, hq⟩ : ∃ q : Nat, n / 10 = q := ⟨_, rfl⟩;have gq : (n : Int) / 10 = (q : Int) := by omega
  by_cases h10 : n < 10
  · have HD : Hid (Lib.decDigits n = [UInt8.ofNat (48 + r)]) := by rw [Hid, Lib.decDigits, dif_pos h10, show r = n by omega]
    have t0 : decide ((10 : Int) <= (n : Int)) = false := by rw [decide_eq_false_iff_not]; omega
    have t1 : decide (10 <= n) = false := by rw [decide_eq_false_iff_not]; omega
    clear ih hr hq gq;go_enter Tryz.func21, Tryz.ntmps21
    go_wp2_with fail
    rw [conv_back ⟨w.heap.size, 0, none⟩ 1 1 [UInt8.ofNat (48 + r)] rfl (new_cells _ rfl (by
      intro j hj
      match j, hj with
      | 0, _ =>
        show some (Value.int .u8 _) = some (Value.int .u8 ((UInt8.ofNat (48 + r)).toNat : Int));rw [ofNat_u8 _ (by omega)]
        first | done | rfl | (congr 2 <;> omega)
      ))]
    simp only [Result.andThen]
    rw [Oper.upon_value];obtain ⟨o, ho⟩ : ∃ o, (⟨#[UInt8.ofNat (48 + r)]⟩ : ByteArray) = o := ⟨_, rfl⟩;have HF : Hid (o = ⟨(Lib.decDigits n).toArray⟩) := by rw [Hid, HD.out, <-ho]
    have ho' : (⟨[UInt8.ofNat (48 + r)].toArray⟩ : ByteArray) = o := ho;rw [ho'];clear ho ho';go_wp2_with fail
    go_ret
    exact ⟨by rw [HF.out] <;> rfl, (Below.refl _ _).alloc (Nat.le_refl _) _⟩
  · have HD : Hid (Lib.decDigits n = Lib.decDigits q ++ [UInt8.ofNat (48 + r)]) := by rw [Hid, Lib.decDigits, dif_neg h10, hq, hr]
    have t0 : decide ((10 : Int) <= (n : Int)) = true := by rw [decide_eq_true_eq]; omega
    have t1 : decide (10 <= n) = true := by rw [decide_eq_true_eq]; omega
    have HI := hZz (ih q (by omega) (by omega));obtain ⟨dq, hdq⟩ : ∃ dq, (⟨(Lib.decDigits q).toArray⟩ : ByteArray) = dq := ⟨_, rfl⟩;have HDQ := hZz hdq;have hdl : dq.size <= 20 := by
      rw [<-hdq];show (Lib.decDigits q).toArray.size <= 20;rw [List.size_toArray, Lib.decDigits_length];exact Lib.nDigits_le20 _ (by omega)
    rw [hdq] at HI;clear ih hr hq hdq;go_enter Tryz.func21, Tryz.ntmps21
    go_wp2_with fail
    rw [conv_back ⟨w.heap.size, 0, none⟩ 1 1 [UInt8.ofNat (48 + r)] rfl (new_cells _ rfl (by
      intro j hj
      match j, hj with
      | 0, _ =>
        show some (Value.int .u8 _) = some (Value.int .u8 ((UInt8.ofNat (48 + r)).toNat : Int));rw [ofNat_u8 _ (by omega)]
        first | done | rfl | (congr 2 <;> omega)
      ))]
    simp only [Result.andThen]
    rw [Oper.upon_value];obtain ⟨o, ho⟩ : ∃ o, (⟨#[UInt8.ofNat (48 + r)]⟩ : ByteArray) = o := ⟨_, rfl⟩;have HF : Hid (dq ++ o = ⟨(Lib.decDigits n).toArray⟩) := by
      apply bytes_ext
      rw [HD.out, <-HDQ.out, <-ho];simp
    have hos : o.size = 1 := by rw [<-ho]; rfl
    have ho' : (⟨[UInt8.ofNat (48 + r)].toArray⟩ : ByteArray) = o := ho;rw [ho'];clear ho ho';go_wp2_with fail
    refine (Calls.mono (HI.out _) ?_);rintro z w2 ⟨rfl, hb2⟩;have B2 : Hid (Below w.heap.size w w2) := ((Below.refl _ w).alloc (Nat.le_refl _) _).trans (hb2.mono (by simp));clear hb2;go_wp2_with fail
    go_ret
    exact ⟨by rw [HF.out] <;> rfl, B2.out⟩
/-! ## A text's print -/
theorem rdigit_hex (n : Nat) (hn : n < 16) (w : World) : Calls Tryz.prog 36 #[.int .i64 n] w fun e w' => e = .returned (.string ⟨#[Quote.hexd n]⟩) /\ Below w.heap.size w w' := by
  by_cases h10 : n < 10
  · have HD : Hid (Quote.hexd n = UInt8.ofNat (48 + n)) := by
      have : ∀ n, n < 10 -> Quote.hexd n = UInt8.ofNat (48 + n) := by decide
      exact this n h10
    have t0 : decide ((n : Int) < 10) = true := by rw [decide_eq_true_eq]; omega
    have t1 : decide (n < 10) = true := by rw [decide_eq_true_eq]; omega
    go_enter Tryz.func36, Tryz.ntmps36
    go_wp2_with fail
    rw [conv_back ⟨w.heap.size, 0, none⟩ 1 1 [UInt8.ofNat (48 + n)] rfl (new_cells _ rfl (by
      intro j hj
      match j, hj with
      | 0, _ =>
        show some (Value.int .u8 _) = some (Value.int .u8 ((UInt8.ofNat (48 + n)).toNat : Int));rw [ofNat_u8 _ (by omega)]
        first | done | rfl | (congr 2 <;> omega)
      ))]
    simp only [Result.andThen]
    rw [Oper.upon_value];obtain ⟨o, ho⟩ : ∃ o, (⟨#[UInt8.ofNat (48 + n)]⟩ : ByteArray) = o := ⟨_, rfl⟩;have HF : Hid (o = ⟨#[Quote.hexd n]⟩) := by rw [Hid, HD.out, <-ho]
    have ho' : (⟨[UInt8.ofNat (48 + n)].toArray⟩ : ByteArray) = o := ho;rw [ho'];clear ho ho';go_wp2_with fail
    go_ret
    exact ⟨by rw [HF.out] <;> rfl, (Below.refl _ _).alloc (Nat.le_refl _) _⟩
  · have HD : Hid (Quote.hexd n = UInt8.ofNat (87 + n)) := by
      have : ∀ n, n < 16 -> 10 <= n -> Quote.hexd n = UInt8.ofNat (87 + n) := by decide
      exact this n hn (by omega)
    have t0 : decide ((n : Int) < 10) = false := by rw [decide_eq_false_iff_not]; omega
    have t1 : decide (n < 10) = false := by rw [decide_eq_false_iff_not]; omega
    go_enter Tryz.func36, Tryz.ntmps36
    go_wp2_with fail
    rw [conv_back ⟨w.heap.size, 0, none⟩ 1 1 [UInt8.ofNat (87 + n)] rfl (new_cells _ rfl (by
      intro j hj
      match j, hj with
      | 0, _ =>
        show some (Value.int .u8 _) = some (Value.int .u8 ((UInt8.ofNat (87 + n)).toNat : Int));rw [ofNat_u8 _ (by omega)]
        first | done | rfl | (congr 2 <;> omega)
      ))]
    simp only [Result.andThen]
    rw [Oper.upon_value];obtain ⟨o, ho⟩ : ∃ o, (⟨#[UInt8.ofNat (87 + n)]⟩ : ByteArray) = o := ⟨_, rfl⟩;have HF : Hid (o = ⟨#[Quote.hexd n]⟩) := by rw [Hid, HD.out, <-ho]
    have ho' : (⟨[UInt8.ofNat (87 + n)].toArray⟩ : ByteArray) = o := ho;rw [ho'];clear ho ho';go_wp2_with fail
    go_ret
    exact ⟨by rw [HF.out] <;> rfl, (Below.refl _ _).alloc (Nat.le_refl _) _⟩
def shortS (c : Nat) : ByteArray := if Quote.short c ≠ 0 then ⟨#[UInt8.ofNat (Quote.short c)]⟩ else ⟨#[]⟩
theorem rshort_any (c : Nat) (hc : c < 256) (w : World) : Calls Tryz.prog 35 #[.int .u8 c] w fun e w' => e = .returned (.string (shortS c)) /\ w = w' := by
  by_cases h34 : c = 34
  · subst h34;go_enter Tryz.func35, Tryz.ntmps35
    go_wp2_with fail
    go_ret
    exact ⟨rfl, rfl⟩
  by_cases h92 : c = 92
  · subst h92;go_enter Tryz.func35, Tryz.ntmps35
    go_wp2_with fail
    go_ret
    exact ⟨rfl, rfl⟩
  by_cases h8 : c = 8
  · subst h8;go_enter Tryz.func35, Tryz.ntmps35
    go_wp2_with fail
    go_ret
    exact ⟨rfl, rfl⟩
  by_cases h12 : c = 12
  · subst h12;go_enter Tryz.func35, Tryz.ntmps35
    go_wp2_with fail
    go_ret
    exact ⟨rfl, rfl⟩
  by_cases h10 : c = 10
  · subst h10;go_enter Tryz.func35, Tryz.ntmps35
    go_wp2_with fail
    go_ret
    exact ⟨rfl, rfl⟩
  by_cases h13 : c = 13
  · subst h13;go_enter Tryz.func35, Tryz.ntmps35
    go_wp2_with fail
    go_ret
    exact ⟨rfl, rfl⟩
  by_cases h9 : c = 9
  · subst h9;go_enter Tryz.func35, Tryz.ntmps35
    go_wp2_with fail
    go_ret
    exact ⟨rfl, rfl⟩
  have hs : shortS c = ⟨#[]⟩ := by unfold shortS Quote.short; rw [if_neg (show ¬ (c = 34 ∨ c = 92) by omega), if_neg h8, if_neg h12, if_neg h10, if_neg h13, if_neg h9]; rfl
  have HS := hZz hs;have e34 : ((c : Int) == 34) = false := by rw [beq_eq_false_iff_ne]; omega
  have e92 : ((c : Int) == 92) = false := by rw [beq_eq_false_iff_ne]; omega
  have e8 : ((c : Int) == 8) = false := by rw [beq_eq_false_iff_ne]; omega
  have e12 : ((c : Int) == 12) = false := by rw [beq_eq_false_iff_ne]; omega
  have e10 : ((c : Int) == 10) = false := by rw [beq_eq_false_iff_ne]; omega
  have e13 : ((c : Int) == 13) = false := by rw [beq_eq_false_iff_ne]; omega
  have e9 : ((c : Int) == 9) = false := by rw [beq_eq_false_iff_ne]; omega
  clear hs;go_enter Tryz.func35, Tryz.ntmps35
  go_wp2_with fail
  go_ret
  exact ⟨by rw [HS.out] <;> rfl, rfl⟩
theorem qp_take (s : ByteArray) (i : Nat) (h : i < s.size) : (s.data.toList.take (i + 1)).flatMap Quote.qp = (s.data.toList.take i).flatMap Quote.qp ++ Quote.qp s[i] := by
  have hl : i < s.data.toList.length := by simpa using h
  rw [List.take_add_one, List.getElem?_eq_getElem hl, List.flatMap_append];simp
  rfl
theorem rqprint_any (s : ByteArray) (w : World) (hs : s.size <= 1000000) : Calls Tryz.prog 22 #[.string s] w fun e w' => e = .returned (.string ⟨(Quote.qprint s.data.toList).toArray⟩) /\ Below w.heap.size w w' := by
  have hl : s.data.toList.length = s.size := by simp
  have HL := hZz hl;clear hl;go_enter Tryz.func22, Tryz.ntmps22
  go_wp2_with fail
  go_loopw [3, 4] (fun p3 p4 wr => ∃ (i : Nat) (out : ByteArray), p3 = .string out /\ p4 = .int .i64 i /\ i <= s.size /\ out.size <= 6 * i + 1 /\ Hid (out.data.toList = 34 :: (s.data.toList.take i).flatMap Quote.qp) /\ Hid (Below w.heap.size w wr)) (fun _ p4 _ => s.size - (intOf p4).toNat)
  case atStart => exact ⟨0, ⟨#[34]⟩, rfl, rfl, Nat.zero_le _, by decide, rfl, Below.refl _ _⟩
  case round =>
    obtain ⟨i, out, rfl, rfl, hi, ho, hO, hB⟩ := hrel;by_cases hlt : i < s.size
    · have hq := qp_take s i hlt;have HQ := hZz hq;obtain ⟨c, hc⟩ : ∃ c : Nat, s[i].toNat = c := ⟨_, rfl⟩;have hc256 : c < 256 := by rw [<-hc]; exact s[i].toNat_lt
      have HC := hZz hc;have HSH : Hid (∀ w, Calls Tryz.prog 35 #[.int .u8 c] w fun e w' => e = .returned (.string (shortS c)) /\ w = w') := rshort_any c hc256;obtain ⟨i1, hi1⟩ : ∃ i1, i + 1 = i1 := ⟨_, rfl⟩;have hi1i : (i : Int) + 1 = (i1 : Int) := by omega
      clear hq;by_cases h1 : Quote.short c ≠ 0
      · obtain ⟨sh, hsh⟩ : ∃ sh, shortS c = sh := ⟨_, rfl⟩;have hshl : sh.data.toList = [UInt8.ofNat (Quote.short c)] := by rw [<-hsh, shortS, if_pos h1]
        have hshs : sh.size = 1 := by
          have := congrArg List.length hshl
          simpa using this
        have q1 : (sh.toList != []) = true := by rw [bne_iff_ne, Lib.toList_data, hshl]; simp
        have q2 : sh.toList.isEmpty = false := by rw [Lib.toList_data, hshl]; rfl
        have HN : Hid ((out ++ ⟨#[92]⟩ ++ sh).data.toList = 34 :: (s.data.toList.take i1).flatMap Quote.qp) := by
          rw [Hid, <-hi1, HQ.out, Quote.qp, HC.out, if_pos h1];simp [hO.out, hshl]
        have HZ : Hid ((out ++ ⟨#[92]⟩ ++ sh).size <= 6 * i1 + 1) := by
          rw [Hid, ByteArray.size_append, ByteArray.size_append, hshs];show out.size + 1 + 1 <= _;omega
        rw [hsh] at HSH;have HSL := hZz hshl;clear hsh hshl h1;go_wp2_with fail
        refine (Calls.mono (HSH.out _) ?_);rintro z w2 ⟨rfl, rfl⟩;go_wp2_with fail
        refine (Calls.mono (HSH.out _) ?_);rintro z w2 ⟨rfl, rfl⟩;go_wp2_with fail
        go_roundw
        case rel => exact ⟨i1, _, rfl, by go_num, by omega, HZ.out, HN.out, hB.out⟩
        case measure => simp [intOf]; omega
      · have hsh : shortS c = ⟨#[]⟩ := by rw [shortS, if_neg h1]
        rw [hsh] at HSH;have HS0 : Hid (Quote.short c = 0) := by rw [Hid]; omega
        clear h1 hsh;by_cases h32 : c < 32
        · have t1 : decide ((c : Int) < 32) = true := by rw [decide_eq_true_eq]; omega
          have t2 : decide (c < 32) = true := by rw [decide_eq_true_eq]; omega
          obtain ⟨u, hu⟩ : ∃ u : Nat, c / 16 = u := ⟨_, rfl⟩;have gu : (c : Int) / 16 = (u : Int) := by omega
          obtain ⟨v, hv⟩ : ∃ v : Nat, c % 16 = v := ⟨_, rfl⟩;have gv : (c : Int) % 16 = (v : Int) := by omega
          have gvt : (c : Int).tmod 16 = (v : Int) := by rw [Int.tmod_eq_emod_of_nonneg (by omega)]; exact gv
          have lu : u < 16 := by omega
          have lv : v < 16 := by omega
          have HU : Hid (∀ w, Calls Tryz.prog 36 #[.int .i64 u] w fun e w' => e = .returned (.string ⟨#[Quote.hexd u]⟩) /\ Below w.heap.size w w') := rdigit_hex u lu;have HV : Hid (∀ w, Calls Tryz.prog 36 #[.int .i64 v] w fun e w' => e = .returned (.string ⟨#[Quote.hexd v]⟩) /\ Below w.heap.size w w') := rdigit_hex v lv;obtain ⟨du, hdu⟩ : ∃ d, (⟨#[Quote.hexd u]⟩ : ByteArray) = d := ⟨_, rfl⟩;obtain ⟨dv, hdv⟩ : ∃ d, (⟨#[Quote.hexd v]⟩ : ByteArray) = d := ⟨_, rfl⟩;have hdus : du.size = 1 := by rw [<-hdu]; rfl
          have hdvs : dv.size = 1 := by rw [<-hdv]; rfl
          have HN : Hid ((out ++ ⟨#[92, 117, 48, 48]⟩ ++ du ++ dv).data.toList = 34 :: (s.data.toList.take i1).flatMap Quote.qp) := by
            rw [Hid, <-hi1, HQ.out, Quote.qp, HC.out, if_neg (by rw [HS0.out]; simp), if_pos h32, hu, hv, <-hdu, <-hdv];simp [hO.out]
          have HZ : Hid ((out ++ ⟨#[92, 117, 48, 48]⟩ ++ du ++ dv).size <= 6 * i1 + 1) := by
            rw [Hid, ByteArray.size_append, ByteArray.size_append, ByteArray.size_append, hdus, hdvs];show out.size + 4 + 1 + 1 <= _;omega
          have b1 : ¬ 9223372036854775807 < out.size + 4 := by omega
          have b2 : ¬ 9223372036854775807 < out.size + 4 + 1 := by omega
          have b4 : ¬ 9223372036854775807 < out.size + 4 + 1 + 1 := by omega
          have wu8 : IntKind.u8.wrap (u : Int) = (u : Int) := IntWalk.u8_in _ (by omega);have wu6 : IntKind.i64.wrap (u : Int) = (u : Int) := IntWalk.i64_in _ (by omega);have wv8 : IntKind.u8.wrap (v : Int) = (v : Int) := IntWalk.u8_in _ (by omega);have wv6 : IntKind.i64.wrap (v : Int) = (v : Int) := IntWalk.i64_in _ (by omega);rw [hdu] at HU;rw [hdv] at HV;clear hdu hdv hu hv h32;go_wp2_with fail
          refine (Calls.mono (HSH.out _) ?_);rintro z w2 ⟨rfl, rfl⟩;go_wp2_with fail
          go_region_law (first
            | (go_simp; go_at_call 36; refine (Calls.mono (HV.out w4) ?_); rintro z w5 ⟨rfl, hb5⟩; have HB5 := bel HB4 hb5; clear hb5)
            | (go_simp; go_at_call 36; refine (Calls.mono (HU.out wr.drew) ?_); rintro z w4 ⟨rfl, hb4⟩; have HB4 := hZz (hB.out.drew.trans (hb4.mono hB.out.drew.size)); clear hb4))
          all_goals
            go_wp2_with fail
            go_roundw
            case rel => exact ⟨i1, _, rfl, by go_num, by omega, HZ.out, HN.out, HB5.out⟩
            case measure => simp [intOf]; omega
        · have t1 : decide ((c : Int) < 32) = false := by rw [decide_eq_false_iff_not]; omega
          have t2 : decide (c < 32) = false := by rw [decide_eq_false_iff_not]; omega
          obtain ⟨o, ho1⟩ : ∃ o, s.extract i i1 = o := ⟨_, rfl⟩;have hol : o.data.toList = [s[i]] := by
            rw [<-ho1, <-hi1];have hlt' : i < s.data.toList.length := by rw [HL.out]; exact hlt
            have := Utf.str_of (s.extract i (i + 1)) _ rfl;rw [ByteArray.data_extract, Array.toList_extract, List.extract_eq_take_drop, show i + 1 - i = 1 by omega, <-List.getElem_cons_drop hlt', List.take_succ_cons, List.take_zero]
            rfl
          have hos : o.size = 1 := by
            have := congrArg List.length hol
            simpa using this
          have hsl : ∀ wx, (Instr.slice 9 (.string s) (some (.int .i64 i)) (some (.int .i64 i1)) none).run Tryz.prog wx = .ok (.string o) wx := fun wx => by
            rw [run_slice_string (P := Tryz.prog) wx 9 s .i64 .i64 i i1 Tryz.underlying9 (by omega) (by omega) (by omega), Int.toNat_natCast, Int.toNat_natCast, ho1]
          have HN : Hid ((out ++ o).data.toList = 34 :: (s.data.toList.take i1).flatMap Quote.qp) := by
            rw [Hid, <-hi1, HQ.out, Quote.qp, HC.out, if_neg (by rw [HS0.out]; simp), if_neg h32];simp [hO.out, hol]
          have HZ : Hid ((out ++ o).size <= 6 * i1 + 1) := by
            rw [Hid, ByteArray.size_append, hos]; omega
          clear ho1 hol h32;go_wp2_with fail
          refine (Calls.mono (HSH.out _) ?_);rintro z w2 ⟨rfl, rfl⟩;go_wp2_with fail
          go_roundw
          case rel => exact ⟨i1, _, rfl, by go_num, by omega, HZ.out, HN.out, hB.out⟩
          case measure => simp [intOf]; omega
    · have HF : Hid (out ++ ⟨#[34]⟩ = ⟨(Quote.qprint s.data.toList).toArray⟩) := by
        apply bytes_ext
        have := hO.out;rw [List.take_of_length_le (by rw [HL.out]; omega)] at this;simp [Quote.qprint, this]
      go_wp2_with fail
      go_ret
      exact ⟨by rw [HF.out] <;> rfl, hB.out⟩
end Go.Proofs.YtfdjolfenghmaaaGreatDoor.Addr
