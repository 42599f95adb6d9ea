/- A value in memory of its own, opened; what sorting its parts leaves. -/
import Derived.Test.YtehffmcfmdjknaaGreatDoorJenY
namespace Go.Proofs.YtehffmcfmdjknaaGreatDoor.Jdec
open Go.RowKit Go.Proofs.YtehffmcfmdjknaaGreatDoor.Strs Go.Proofs
set_option linter.unusedVariables false
set_option linter.unusedSimpArgs false
set_option maxRecDepth 100000

/-- Nothing turned but blocks of S's. -/
structure Only (S : Nat → Prop) (w w' : World) : Prop where
  os : w'.os = w.os
  tape : w'.tape = w.tape
  output : w'.output = w.output
  size : w.heap.size ≤ w'.heap.size
  block : ∀ b, b < w.heap.size → ¬ S b → w'.heap[b]? = w.heap[b]?
theorem Only.refl (S : Nat → Prop) (w : World) : Only S w w := ⟨rfl, rfl, rfl, Nat.le_refl _, fun _ _ _ => rfl⟩
theorem Only.trans {S : Nat → Prop} {a b c : World} (h : Only S a b) (k : Only S b c) : Only S a c :=
  ⟨k.os.trans h.os, k.tape.trans h.tape, k.output.trans h.output, Nat.le_trans h.size k.size, fun i hi hn => (k.block i (Nat.lt_of_lt_of_le hi h.size) hn).trans (h.block i hi hn)⟩
theorem Only.wide {S S' : Nat → Prop} {a b : World} (h : Only S a b) (hS : ∀ x, S x → S' x) : Only S' a b := ⟨h.os, h.tape, h.output, h.size, fun i hi hn => h.block i hi (fun hx => hn (hS i hx))⟩
theorem Only.below {S : Nat → Prop} {w w' : World} (h : Below w.heap.size w w') : Only S w w' := ⟨h.os, h.tape, h.output, h.size, fun b hb _ => h.block b hb⟩
theorem Only.grown {S : Nat → Prop} {w w' : World} {g : Nat} (h : w.grownBy w' (some g)) (hg : S g ∨ w.heap.size ≤ g) : Only S w w' := ⟨h.os, h.tape, h.output, h.size, fun b hb hn => h.block b hb (fun e => by
  injection e with e
  subst e
  rcases hg with hg | hg
  · exact hn hg
  · omega)⟩
/-- The parts of a value alone in its blocks. -/
structure PartP (w : World) (S : Nat → Prop) (ka va : Option Addr) (kc vc : Nat) (keys : List ByteArray) (nds : List Nd) : Prop where
  keyRow : w.ownsRow 0 9 1 (.slice ka keys.length kc) keys.length (keys.map Value.string)
  kidRow : w.ownsRow 0 29 8 (.slice va nds.length vc) nds.length (nds.flatMap fun x => x.raw.cells)
  kS : ∀ b, inB ka b → S b
  vS : ∀ b, inB va b → S b
  kv : ∀ b, inB ka b → ¬ inB va b
  own : ∀ x ∈ nds, OwnV w x.S x.raw x.jv
  sub : ∀ x ∈ nds, ∀ b, x.S b → S b ∧ ¬ inB ka b ∧ ¬ inB va b
  apart : nds.Pairwise (fun x y => ∀ b, x.S b → ¬ y.S b)
theorem OwnV.parts {w : World} {S : Nat → Prop} {r : Raw} {k : Int} {i n : Bool} {d : ByteArray} {e : Int} {s : ByteArray} {ks : List ByteArray} {vs : List JV} (h : OwnV w S r (.mk k i n d e s ks vs)) :
    ∃ ka kc va vc nds, r = Raw.mk k i n d e s ka ks.length kc va nds.length vc ∧ vs = nds.map Nd.jv ∧ PartP w S ka va kc vc ks nds := by
  generalize hz : JV.mk k i n d e s ks vs = z at h
  cases h with
  | mk _ k' i' n' d' e' s' ka va kc vc keys nds h1 h2 h3 h4 h5 h6 h7 h8 =>
    injection hz with e1 e2 e3 e4 e5 e6 e7 e8
    subst e1 e2 e3 e4 e5 e6 e7
    exact ⟨ka, kc, va, vc, nds, rfl, e8, ⟨h1, h2, h3, h4, h5, h6, h7, h8⟩⟩
theorem PartP.shut {w : World} {S : Nat → Prop} {ka va : Option Addr} {kc vc : Nat} {ks : List ByteArray} {nds : List Nd} (h : PartP w S ka va kc vc ks nds) (k : Int) (i n : Bool) (d : ByteArray) (e : Int) (s : ByteArray) : OwnV w S (Raw.mk k i n d e s ka ks.length kc va nds.length vc) (.mk k i n d e s ks (nds.map Nd.jv)) :=
  OwnV.mk S k i n d e s ka va kc vc ks nds h.keyRow h.kidRow h.kS h.vS h.kv h.own h.sub h.apart
theorem PartP.keep {w w' : World} {S : Nat → Prop} {ka va : Option Addr} {kc vc : Nat} {ks : List ByteArray} {nds : List Nd} (h : PartP w S ka va kc vc ks nds) (hk : ∀ b, S b → b < w.heap.size → w'.heap[b]? = w.heap[b]?) : PartP w' S ka va kc vc ks nds :=
  ⟨row_kept h.keyRow fun b hb hl => hk b (h.kS b hb) hl, row_kept h.kidRow fun b hb hl => hk b (h.vS b hb) hl, h.kS, h.vS, h.kv, fun x hx => (h.own x hx).keep fun b hb hl => hk b (h.sub x hx b hb).1 hl, h.sub, h.apart⟩
/-- A kid's cells. -/
theorem PartP.kid {w : World} {S : Nat → Prop} {ka va : Option Addr} {kc vc : Nat} {ks : List ByteArray} {nds : List Nd} (h : PartP w S ka va kc vc ks nds) (j : Nat) (hj : j < nds.length) : ∃ g, va = some ⟨g, 0, none⟩ ∧ g < w.heap.size ∧ S g ∧ CellsAt w g (j * 8) nds[j].raw := by
  rcases row_form h.kidRow with ⟨h0, _⟩ | ⟨g, rfl, _, hg, _⟩
  · omega
  · refine ⟨g, rfl, hg, h.vS g ⟨_, rfl, rfl⟩, fun p u hu => ?_⟩
    have hp : p < 8 := (List.getElem?_eq_some_iff.1 hu).1
    rw [h.kidRow.cellAt (j * 8 + p) (by omega)]
    exact nds_cells_at nds j hj p u hu
theorem PartP.key {w : World} {S : Nat → Prop} {ka va : Option Addr} {kc vc : Nat} {ks : List ByteArray} {nds : List Nd} (h : PartP w S ka va kc vc ks nds) (j : Nat) (hj : j < ks.length) : ∃ g, ka = some ⟨g, 0, none⟩ ∧ g < w.heap.size ∧ S g ∧ w.cell? ⟨g, j, none⟩ = some (.string ks[j]) := by
  rcases row_form h.keyRow with ⟨h0, _⟩ | ⟨g, rfl, _, hg, _⟩
  · omega
  · refine ⟨g, rfl, hg, h.kS g ⟨_, rfl, rfl⟩, ?_⟩
    rw [h.keyRow.cellAt j (by omega)]
    simp [hj]
theorem set_raws (nds : List Nd) (j : Nat) (hj : j < nds.length) (t : JV) : (nds.set j ⟨nds[j].raw, t, nds[j].S⟩).map Nd.raw = nds.map Nd.raw := by
  apply List.ext_getElem
  · simp
  · intro i h1 h2
    rw [List.getElem_map, List.getElem_map, List.getElem_set]
    split
    · rename_i e; subst e; rfl
    · rfl
theorem flat_raws (nds : List Nd) : (nds.flatMap fun x => x.raw.cells) = (nds.map Nd.raw).flatMap Raw.cells := by rw [List.flatMap_map]
/-- What a turn of one kid leaves. -/
theorem PartP.turned {w w' : World} {S : Nat → Prop} {ka va : Option Addr} {kc vc : Nat} {ks : List ByteArray} {nds : List Nd} (h : PartP w S ka va kc vc ks nds) (j : Nat) (hj : j < nds.length) (t : JV) (ho : OwnV w' nds[j].S nds[j].raw t) (hO : Only nds[j].S w w') :
    PartP w' S ka va kc vc ks (nds.set j ⟨nds[j].raw, t, nds[j].S⟩) ∧ Only S w w' := by
  have hmem := List.getElem_mem hj
  have hsame : ∀ i (hi : i < nds.length), (nds.set j ⟨nds[j].raw, t, nds[j].S⟩)[i]'(by simpa using hi) = nds[i] ∨ (i = j ∧ (nds.set j ⟨nds[j].raw, t, nds[j].S⟩)[i]'(by simpa using hi) = ⟨nds[j].raw, t, nds[j].S⟩) := fun i hi => by
    rw [List.getElem_set]
    split
    · rename_i e; exact .inr ⟨e.symm, rfl⟩
    · exact .inl rfl
  have hSs : ∀ i (hi : i < nds.length), ((nds.set j ⟨nds[j].raw, t, nds[j].S⟩)[i]'(by simpa using hi)).S = nds[i].S := fun i hi => by
    rcases hsame i hi with e | ⟨e, e2⟩
    · rw [e]
    · subst e; rw [e2]
  refine ⟨⟨row_kept h.keyRow fun b hb hl => hO.block b hl (fun hx => (h.sub _ hmem b hx).2.1 hb), ?_, h.kS, h.vS, h.kv, ?_, ?_, ?_⟩, hO.wide fun x hx => (h.sub _ hmem x hx).1⟩
  · rw [flat_raws, set_raws nds j hj t, ← flat_raws, List.length_set]
    exact row_kept h.kidRow fun b hb hl => hO.block b hl (fun hx => (h.sub _ hmem b hx).2.2 hb)
  · intro x hx
    obtain ⟨i, hi, rfl⟩ := List.getElem_of_mem hx
    have hi' : i < nds.length := by simpa using hi
    rcases hsame i hi' with e | ⟨e, e2⟩
    · rw [e]
      by_cases hij : i = j
      · subst hij
        rw [List.getElem_set_self] at e
        have e3 := congrArg Nd.jv e
        have e3 : t = nds[i].jv := e3
        rw [← e3]
        exact ho
      · refine (h.own _ (List.getElem_mem hi')).keep fun b hb hl => hO.block b hl (fun hx => ?_)
        rcases Nat.lt_or_gt_of_ne hij with hlt | hlt
        · exact (List.pairwise_iff_getElem.1 h.apart) i j hi' hj hlt b hb hx
        · exact (List.pairwise_iff_getElem.1 h.apart) j i hj hi' hlt b hx hb
    · rw [e2]; exact ho
  · intro x hx b hb
    obtain ⟨i, hi, rfl⟩ := List.getElem_of_mem hx
    have hi' : i < nds.length := by simpa using hi
    rw [hSs i hi'] at hb
    exact h.sub _ (List.getElem_mem hi') b hb
  · rw [List.pairwise_iff_getElem]
    intro a b ha hb hab x hx hy
    have ha' : a < nds.length := by simpa using ha
    have hb' : b < nds.length := by simpa using hb
    rw [hSs a ha'] at hx
    rw [hSs b hb'] at hy
    exact (List.pairwise_iff_getElem.1 h.apart) a b ha' hb' hab x hx hy
theorem set_jvs (nds : List Nd) (vs : List JV) (f : JV → JV) (j : Nat) (hj : j < nds.length) (hl : nds.length = vs.length) (h : nds.map Nd.jv = (vs.take j).map f ++ vs.drop j) : nds[j].jv = vs[j]'(by omega) ∧ (nds.set j ⟨nds[j].raw, f (vs[j]'(by omega)), nds[j].S⟩).map Nd.jv = (vs.take (j + 1)).map f ++ vs.drop (j + 1) := by
  have hv : j < vs.length := by omega
  have e1 : nds[j].jv = vs[j] := by
    have := List.getElem_of_eq h (i := j) (by simpa using hj)
    rw [List.getElem_map, List.getElem_append_right (by simp; omega)] at this
    rw [this]
    simp [Nat.min_eq_left (Nat.le_of_lt hv)]
  refine ⟨e1, ?_⟩
  rw [List.map_set, h]
  rw [List.drop_eq_getElem_cons hv, List.set_append_right _ _ (by simp; omega)]
  have e2 : ((vs.take j).map f).length = j := by simp; omega
  rw [e2, Nat.sub_self, List.set_cons_zero, List.take_add_one, List.getElem?_eq_getElem hv, List.map_append, List.append_assoc]
  rfl
/-- A value's keys, sorted in place, are told. -/
def SAP (S : Nat → Prop) (ra : Raw) (t : JV) (w : World) (e : Ending) (w' : World) : Prop := e = .returned (.tuple #[]) ∧ OwnV w' S ra t.sort ∧ Only S w w'
theorem SAP.to {S : Nat → Prop} {ra : Raw} {t : JV} {w w' : World} {e : Ending} (h : SAP S ra t w e w') : e = .returned (.tuple #[]) ∧ Hid (OwnV w' S ra t.sort) ∧ Hid (Only S w w') := h
def SortC (t : JV) : Prop := ∀ (ra : Raw) (S : Nat → Prop) (w : World) (pb po : Nat), CellsAt w pb po ra → pb < w.heap.size → ¬ S pb → (∀ b, S b → b < w.heap.size) → OwnV w S ra t → Calls Tryz.prog 35 #[.pointer (some ⟨pb, po, none⟩)] w (SAP S ra t w)
end Go.Proofs.YtehffmcfmdjknaaGreatDoor.Jdec
/- tree.sortAll of a value that is no object. -/
namespace Go.Proofs.YtehffmcfmdjknaaGreatDoor.Jdec
open Go.RowKit Go.Proofs.YtehffmcfmdjknaaGreatDoor.Strs Go.Proofs
set_option linter.unusedVariables false
set_option linter.unusedSimpArgs false
set_option maxRecDepth 100000

/-- So far as the kids are sorted. -/
def HalfP (S : Nat → Prop) (ka va : Option Addr) (kc vc : Nat) (ks : List ByteArray) (vs : List JV) (w : World) (i : Nat) (wr : World) : Prop := ∃ nds : List Nd, PartP wr S ka va kc vc ks nds ∧ nds.length = vs.length ∧ nds.map Nd.jv = (vs.take i).map JV.sort ++ vs.drop i ∧ Only S w wr
set_option maxHeartbeats 4000000 in
theorem sortAll_other (k : Int) (hk : k ≠ 6) (is ng : Bool) (d : ByteArray) (e : Int) (s : ByteArray) (ks : List ByteArray) (vs : List JV) (hvs : vs.length ≤ 3000) (IH : ∀ j (h : j < vs.length), SortC vs[j]) : SortC (.mk k is ng d e s ks vs) := by
  intro ra S w pb po hcl hpb hnS hSw ho
  obtain ⟨ka, kc, va, vc, nds, rfl, hvn, hP⟩ := ho.parts
  have hlen : nds.length = vs.length := by rw [hvn, List.length_map]
  have H0 : Hid (HalfP S ka va kc vc ks vs w 0 w) := ⟨nds, hP, hlen, by rw [hvn]; simp, Only.refl _ _⟩
  have HSRT : Hid ((JV.mk k is ng d e s ks vs).sort = .mk k is ng d e s ks (vs.map JV.sort)) := sort_other k is ng d e s ks vs hk
  rw [hlen] at hcl ⊢
  have q0 : (k != 6) = true := by rw [bne_iff_ne]; exact hk
  have HIH := Hid.out (p := Hid _) IH
  have HSW := Hid.out (p := Hid _) hSw
  have HCL : Hid (CellsAt w pb po (Raw.mk k is ng d e s ka ks.length kc va vs.length vc)) := hcl
  have HNS := Hid.out (p := Hid _) hnS
  obtain ⟨x0, x1, x2, x3, x4, x5, x6, x7⟩ := hcl.eight
  clear hP hvn hlen ho IH hSw hcl hnS
  dsimp only at x0 x1 x2 x3 x4 x5 x6 x7
  go_enter Tryz.func35, Tryz.ntmps35
  go_wp2_with fail
  clear x0 x1 x2 x3 x4 x5 x6 x7
  go_loopw [13] (fun p wr => ∃ i : Nat, p = .int .i64 i ∧ i ≤ vs.length ∧ Hid (HalfP S ka va kc vc ks vs w i wr)) (fun p _ => vs.length - (intOf p).toNat)
  case atStart => exact ⟨0, rfl, Nat.zero_le _, H0.out⟩
  case round =>
    obtain ⟨i, rfl, hi, hH⟩ := hrel
    obtain ⟨nds, hP, hlen, hjv, hO⟩ := hH.out
    have HP := Hid.out (p := Hid _) hP
    have HO := Hid.out (p := Hid _) hO
    have HL := Hid.out (p := Hid _) hlen
    have HJ := Hid.out (p := Hid _) hjv
    have hsz := hO.size
    have K2 : CellsAt wr pb po (Raw.mk k is ng d e s ka ks.length kc va vs.length vc) := fun j u hu => (World.cell?_of_block (w := w) (a := ⟨pb, po + j, none⟩) (hO.block pb hpb HNS.out)).trans (HCL.out j u hu)
    obtain ⟨x0, x1, x2, x3, x4, x5, x6, x7⟩ := K2.eight
    clear hP hO hlen hjv K2
    dsimp only at x0 x1 x2 x3 x4 x5 x6 x7
    by_cases hlt : i < vs.length
    · have hin : i < nds.length := by rw [HL.out]; exact hlt
      obtain ⟨hj1, hj2⟩ := set_jvs nds vs JV.sort i hin HL.out HJ.out
      obtain ⟨g, hva, hg, hSg, hcg⟩ := HP.out.kid i hin
      have hown := HP.out.own _ (List.getElem_mem hin)
      rw [hj1] at hown
      have hsub := HP.out.sub _ (List.getElem_mem hin)
      have hcall := HIH.out i hlt nds[i].raw nds[i].S wr g (i * 8) hcg hg (fun hx => (hsub g hx).2.2 ⟨_, hva, rfl⟩) (fun b hb => Nat.lt_of_lt_of_le (HSW.out b (hsub b hb).1) hsz) hown
      have HCC := Hid.out (p := Hid _) hcall
      have HJ2 := Hid.out (p := Hid _) hj2
      subst hva
      clear hj1 hj2 hown hsub hcall hcg
      go_wp2_with fail
      refine (Calls.mono HCC.out ?_)
      rintro z w5 hz
      obtain ⟨rfl, ho5, hO5⟩ := hz.to
      obtain ⟨hP5, hO6⟩ := HP.out.turned i hin _ ho5.out hO5.out
      have H5 : Hid (HalfP S ka (some ⟨g, 0, none⟩) kc vc ks vs w (i + 1) w5) := ⟨_, hP5, by rw [List.length_set]; exact HL.out, HJ2.out, HO.out.trans hO6⟩
      clear hz hP5 hO6
      go_wp2_with fail
      go_roundw
      case rel => exact ⟨i + 1, by go_num, by omega, H5.out⟩
      case measure => simp [intOf]; omega
    · obtain rfl : i = vs.length := by omega
      have HF : Hid (OwnV wr S (Raw.mk k is ng d e s ka ks.length kc va vs.length vc) (JV.mk k is ng d e s ks vs).sort) := by
        have hj := HJ.out
        rw [List.take_length, List.drop_length, List.append_nil] at hj
        have := HP.out.shut k is ng d e s
        rw [hj, HL.out] at this
        rw [Hid, HSRT.out]
        exact this
      go_wp2_with fail
      go_end0
      exact ⟨rfl, HF.out, HO.out⟩
end Go.Proofs.YtehffmcfmdjknaaGreatDoor.Jdec
/- tree.sortAll of an object: its fields in a row, sorted, and put back. -/
namespace Go.Proofs.YtehffmcfmdjknaaGreatDoor.Jdec
open Go.RowKit Go.Proofs.YtehffmcfmdjknaaGreatDoor.Strs Go.Proofs
set_option linter.unusedVariables false
set_option linter.unusedSimpArgs false
set_option maxRecDepth 100000

theorem infoFld : (Tryz.prog.info? 94).map (fun i => (i.zero, i.size, i.bytes)) = some (some (.agg #[.string ⟨#[]⟩, .int .i64 0, .bool false, .bool false, .string ⟨#[]⟩, .int .i64 0, .string ⟨#[]⟩, .slice none 0 0, .slice none 0 0]), 9, 128) := by kernel_rfl
theorem make_flds (w : World) (n : Nat) (hn : n ≤ 3000) :
    ∃ w' xs, (Instr.makeSlice 92 (.int .i64 (n : Int)) (.int .i64 (n : Int))).run Tryz.prog w = .ok (.slice (some ⟨w.heap.size, 0, none⟩) n n) w' ∧ Hid (w'.ownsRow w.heap.size 94 9 (.slice (some ⟨w.heap.size, 0, none⟩) n n) n xs) ∧ Hid (Below w.heap.size w w') := by
  obtain ⟨i0, hi, hz0, hz1, hz2⟩ := info_parts infoFld
  obtain ⟨w', h1, h2, h3⟩ := run_make_full (P := Tryz.prog) w w.heap.size 92 94 i0 _ 9 Tryz.underlying92 hi hz0 hz1 .i64 .i64 n (by rw [hz2]; omega) (by unfold maxLen; omega) (Nat.le_refl _)
  exact ⟨w', _, h1, h2, h3.os, h3.tape, h3.output, h3.size, fun k hk => h3.block k hk (by simp)⟩
theorem flf_len (l : List Fl) : (l.flatMap encF).length = l.length * 9 := by
  induction l with
  | nil => rfl
  | cons x t ih => rw [List.flatMap_cons, List.length_append, ih, List.length_cons, encF_len]; omega
theorem flf_get : ∀ (l : List Fl) (i : Nat) (h : i < l.length) (c : Nat), c < 9 → (l.flatMap encF)[i * 9 + c]? = (encF l[i])[c]?
  | x :: t, 0, h, c, hc => by
    rw [List.flatMap_cons, Nat.zero_mul, Nat.zero_add, List.getElem?_append_left (by rw [encF_len]; exact hc)]; rfl
  | x :: t, i + 1, h, c, hc => by
    have := flf_get t i (by simpa using h) c hc
    rw [List.flatMap_cons, List.getElem?_append_right (by rw [encF_len]; omega), encF_len, show (i + 1) * 9 + c - 9 = i * 9 + c by omega]
    exact this
/-- The fields so far. -/
structure FillP (w7 : World) (F : Nat) (fls : List Fl) (i : Nat) (wr : World) : Prop where
  row : ∃ rest : List Value, rest.length = (fls.length - i) * 9 ∧ wr.ownsRow F 94 9 (.slice (some ⟨F, 0, none⟩) fls.length fls.length) fls.length ((fls.take i).flatMap encF ++ rest)
  grew : w7.grownBy wr (some F)
theorem FillP.nine {w7 wr : World} {F i : Nat} {fls : List Fl} (h : FillP w7 F fls i wr) (hi : i < fls.length) (c : Nat) (hc : c < 9) : (∃ z, wr.cell? ⟨F, i * 9 + c, none⟩ = some z) ∧ wr.frozen? ⟨F, i * 9 + c, none⟩ = false := by
  obtain ⟨rest, h1, h2⟩ := h.row
  exact ⟨row_cell h2 _ (by omega), h2.frozenAt _⟩
theorem FillP.next {w7 wr : World} {F i : Nat} {fls : List Fl} (h : FillP w7 F fls i wr) (hi : i < fls.length) : FillP w7 F fls (i + 1) (wr.setCells F (i * 9) (encF fls[i])) := by
  obtain ⟨rest, h1, h2⟩ := h.row
  obtain ⟨h4, h5⟩ := row_setCells (w := wr) (encF fls[i]) (i * 9) wr _ h2
  have hl : ((fls.take i).flatMap encF).length = i * 9 := by rw [flf_len, List.length_take]; omega
  have e1 : (fls.take i).flatMap encF ++ rest = (fls.take i).flatMap encF ++ rest.take 9 ++ rest.drop 9 := by rw [List.append_assoc, List.take_append_drop]
  have e2 := setL_mid (encF fls[i]) (rest.take 9) ((fls.take i).flatMap encF) (rest.drop 9) (by rw [List.length_take, encF_len]; omega)
  refine ⟨⟨rest.drop 9, by rw [List.length_drop]; omega, ?_⟩, h5.os.trans h.grew.os, h5.tape.trans h.grew.tape, h5.output.trans h.grew.output, Nat.le_trans h.grew.size h5.size, fun k hk hr => (h5.block k (by have := h.grew.size; omega) hr).trans (h.grew.block k hk hr)⟩
  rw [e1, ← hl, e2] at h4
  rw [List.take_add_one, List.getElem?_eq_getElem hi, List.flatMap_append]
  rw [← hl]
  simpa using h4
theorem FillP.holds {w7 wr : World} {F : Nat} {fls : List Fl} (h : FillP w7 F fls fls.length wr) : Sort.HoldsK encF 9 wr F 0 fls.toArray := by
  obtain ⟨rest, h1, h2⟩ := h.row
  have hr : rest = [] := List.length_eq_zero_iff.1 (by omega)
  rw [hr, List.append_nil, List.take_length] at h2
  intro j hj
  have hj9 : j < fls.length * 9 := by simpa [Sort.flatK] using hj
  refine ⟨?_, h2.frozenAt _⟩
  have hi : j / 9 < fls.length := by omega
  have hc : j % 9 < 9 := Nat.mod_lt _ (by decide)
  have e1 := flf_get fls (j / 9) hi (j % 9) hc
  rw [show j / 9 * 9 + j % 9 = j by omega] at e1
  rw [Nat.zero_add, h2.cellAt j hj9, e1, Sort.get_flatK _ _ _ _ (by simpa using hj9)]
  have hi2 : j / 9 < fls.toArray.size := by simpa using hi
  rw [getElem!_pos fls.toArray (j / 9) hi2]
  have hc2 : j % 9 < (encF fls[j / 9]).length := by rw [encF_len]; exact hc
  rw [List.getElem?_eq_getElem hc2]
  show some _ = some ((encF fls[j / 9])[j % 9]!)
  rw [getElem!_pos (encF fls[j / 9]) (j % 9) hc2]
/-- What is put back so far. -/
structure BackP (w9 : World) (ka va : Option Addr) (kc vc : Nat) (ks : List ByteArray) (nds : List Nd) (l : List Fl) (i : Nat) (wr : World) : Prop where
  keyRow : wr.ownsRow 0 9 1 (.slice ka ks.length kc) ks.length ((l.take i).map (fun x => Value.string x.key) ++ (ks.drop i).map Value.string)
  kidRow : wr.ownsRow 0 29 8 (.slice va nds.length vc) nds.length ((l.take i).flatMap (fun x => x.nd.raw.cells) ++ (nds.drop i).flatMap fun x => x.raw.cells)
  only : Only (fun b => inB ka b ∨ inB va b) w9 wr
theorem BackP.first {w9 : World} {ka va : Option Addr} {kc vc : Nat} {ks : List ByteArray} {nds : List Nd} (l : List Fl) (h1 : w9.ownsRow 0 9 1 (.slice ka ks.length kc) ks.length (ks.map Value.string)) (h2 : w9.ownsRow 0 29 8 (.slice va nds.length vc) nds.length (nds.flatMap fun x => x.raw.cells)) : BackP w9 ka va kc vc ks nds l 0 w9 :=
  ⟨by simpa using h1, by simpa using h2, Only.refl _ _⟩
theorem row_other {w : World} {B : Nat} {T : TypeId} {m n : Nat} {a : Option Addr} {c : Nat} {xs : List Value} (h : w.ownsRow B T m (.slice a n c) n xs) {w' : World} {g : Nat} (hg : w.grownBy w' (some g)) (hn : ¬ inB a g) : w'.ownsRow B T m (.slice a n c) n xs :=
  row_kept h fun b hb hl => hg.block b hl (fun e => by injection e with e; subst e; exact hn hb)
/-- A field put back. -/
theorem BackP.next {w9 wr w15 : World} {kb vb kc vc : Nat} {ks : List ByteArray} {nds : List Nd} {l : List Fl} {i : Nat} (h : BackP w9 (some ⟨kb, 0, none⟩) (some ⟨vb, 0, none⟩) kc vc ks nds l i wr) (hi : i < l.length) (hk : l.length = ks.length) (hv : l.length = nds.length) (hne : kb ≠ vb) (g : Below wr.heap.size wr w15) :
    BackP w9 (some ⟨kb, 0, none⟩) (some ⟨vb, 0, none⟩) kc vc ks nds l (i + 1) ((w15.setCell ⟨kb, i, none⟩ (.string l[i].key)).setCells vb (i * 8) l[i].nd.raw.cells) ∧
    BackP w9 (some ⟨kb, 0, none⟩) (some ⟨vb, 0, none⟩) kc vc ks nds l (i + 1) ((w15.setCells vb (i * 8) l[i].nd.raw.cells).setCell ⟨kb, i, none⟩ (.string l[i].key)) := by
  have hik : i < ks.length := by omega
  have hiv : i < nds.length := by omega
  have K := row_kept (w' := w15) h.keyRow fun b _ hb => g.block b hb
  have V := row_kept (w' := w15) h.kidRow fun b _ hb => g.block b hb
  have ex : ∀ (xs : List Value) (x : Value) (t : List Value) (us : List Value) (n : Nat), us.length = n → xs = us ++ x :: t → ∀ y, xs.set n y = us ++ y :: t := fun xs x t us n hn e y => by
    subst hn; rw [e, List.set_append_right _ _ (Nat.le_refl _), Nat.sub_self, List.set_cons_zero]
  have eK : ∀ y : Value, ((l.take i).map (fun x => Value.string x.key) ++ (ks.drop i).map Value.string).set i y = (l.take i).map (fun x => Value.string x.key) ++ y :: (ks.drop (i + 1)).map Value.string := fun y =>
    ex _ (.string ks[i]) _ _ i (by rw [List.length_map, List.length_take]; omega) (by rw [List.drop_eq_getElem_cons hik]; rfl) y
  have eK2 : (l.take i).map (fun x => Value.string x.key) ++ (Value.string l[i].key :: (ks.drop (i + 1)).map Value.string) = (l.take (i + 1)).map (fun x => Value.string x.key) ++ (ks.drop (i + 1)).map Value.string := by
    rw [List.take_add_one, List.getElem?_eq_getElem hi, List.map_append, List.append_assoc]; rfl
  have hl8 : ((l.take i).flatMap (fun x => x.nd.raw.cells)).length = i * 8 := by
    have := ndcells_len ((l.take i).map Fl.nd)
    rw [List.flatMap_map, List.length_map, List.length_take] at this
    rw [this]; omega
  have eV : setL ((l.take i).flatMap (fun x => x.nd.raw.cells) ++ (nds.drop i).flatMap fun x => x.raw.cells) (i * 8) l[i].nd.raw.cells = (l.take (i + 1)).flatMap (fun x => x.nd.raw.cells) ++ (nds.drop (i + 1)).flatMap fun x => x.raw.cells := by
    have e := setL_mid l[i].nd.raw.cells nds[i].raw.cells ((l.take i).flatMap (fun x => x.nd.raw.cells)) ((nds.drop (i + 1)).flatMap fun x => x.raw.cells) rfl
    rw [hl8] at e
    rw [List.drop_eq_getElem_cons hiv, List.flatMap_cons, ← List.append_assoc, e, List.take_add_one, List.getElem?_eq_getElem hi, List.flatMap_append]
    simp
  have nK : ¬ inB (some (⟨kb, 0, none⟩ : Addr)) vb := fun ⟨x, hx, hxb⟩ => by injection hx with hx; subst hx; exact hne hxb
  have nV : ¬ inB (some (⟨vb, 0, none⟩ : Addr)) kb := fun ⟨x, hx, hxb⟩ => by injection hx with hx; subst hx; exact hne hxb.symm
  have O1 : Only (fun b => inB (some (⟨kb, 0, none⟩ : Addr)) b ∨ inB (some (⟨vb, 0, none⟩ : Addr)) b) w9 w15 := h.only.trans (Only.below g)
  have iK : inB (some (⟨kb, 0, none⟩ : Addr)) kb := ⟨_, rfl, rfl⟩
  have iV : inB (some (⟨vb, 0, none⟩ : Addr)) vb := ⟨_, rfl, rfl⟩
  constructor
  · obtain ⟨k1, k2⟩ := K.stored i (.string l[i].key)
    have V1 := row_other V k2 nV
    obtain ⟨v1, v2⟩ := row_setCells (w := w15) l[i].nd.raw.cells (i * 8) _ _ V1
    have K1 := row_other k1 v2 nK
    rw [eK, eK2] at K1
    rw [eV] at v1
    exact ⟨K1, v1, (O1.trans (Only.grown k2 (.inl (.inl iK)))).trans (Only.grown v2 (.inl (.inr iV)))⟩
  · obtain ⟨v1, v2⟩ := row_setCells (w := w15) l[i].nd.raw.cells (i * 8) _ _ V
    have K1 := row_other K v2 nK
    obtain ⟨k1, k2⟩ := K1.stored i (.string l[i].key)
    have V1 := row_other v1 k2 nV
    rw [eK, eK2] at k1
    rw [eV] at V1
    exact ⟨k1, V1, (O1.trans (Only.grown v2 (.inl (.inr iV)))).trans (Only.grown k2 (.inl (.inl iK)))⟩
/-- An object's fields, as they lie. -/
def flsOf (ks : List ByteArray) (nds : List Nd) : List Fl := (ks.zip nds).map fun p => ⟨p.1, p.2⟩
theorem flsOf_len {ks : List ByteArray} {nds : List Nd} (h : ks.length = nds.length) : (flsOf ks nds).length = ks.length := by simp [flsOf]; omega
theorem flsOf_at {ks : List ByteArray} {nds : List Nd} (i : Nat) (h1 : i < ks.length) (h2 : i < nds.length) : (flsOf ks nds)[i]'(by simp [flsOf]; omega) = ⟨ks[i], nds[i]⟩ := by simp [flsOf]
theorem flsOf_nds {ks : List ByteArray} {nds : List Nd} (h : ks.length = nds.length) : (flsOf ks nds).map Fl.nd = nds := by
  unfold flsOf
  rw [List.map_map]
  exact List.map_snd_zip (by omega)
theorem flsOf_zip {ks : List ByteArray} {nds : List Nd} : (flsOf ks nds).map (fun x => (x.key, x.nd.jv)) = ks.zip (nds.map Nd.jv) := by
  unfold flsOf
  rw [List.map_map, List.zip_map_right]
  rfl
/-- All is put back: the object, its keys rising. -/
theorem back_all {w9 wr W1 : World} {S : Nat → Prop} {ka va : Option Addr} {kc vc : Nat} {ks : List ByteArray} {nds : List Nd} {l : List Fl} (h : BackP w9 ka va kc vc ks nds l l.length wr) (hP : PartP W1 S ka va kc vc ks nds) (hl : ks.length = nds.length) (hn : ks.Nodup) (hp : l.Perm (flsOf ks nds)) (hs : l.Pairwise (fun x y => blt y.key x.key = false)) (hk : ∀ b, S b → ¬ inB ka b → ¬ inB va b → b < W1.heap.size → wr.heap[b]? = W1.heap[b]?)
    (is ng : Bool) (d : ByteArray) (e : Int) (s : ByteArray) (us : List JV) (hj : nds.map Nd.jv = us) :
    OwnV wr S (Raw.mk 6 is ng d e s ka ks.length kc va nds.length vc) (.mk 6 is ng d e s ((flds ks us).map (·.1)) ((flds ks us).map (·.2))) := by
  have hll : l.length = ks.length := by rw [hp.length_eq, flsOf_len hl]
  have hnp : (l.map Fl.nd).Perm nds := by have := hp.map Fl.nd; rwa [flsOf_nds hl] at this
  have hf : l.map (fun x => (x.key, x.nd.jv)) = flds ks us := by
    refine flds_one (by rw [← hj, List.length_map]; exact hl) hn _ ?_ ?_
    · have := hp.map (fun x => (x.key, x.nd.jv))
      rwa [flsOf_zip, hj] at this
    · rw [List.pairwise_map]
      exact hs.imp fun h => by unfold fle; rw [h]; rfl
  have e1 : (flds ks us).map (·.1) = l.map Fl.key := by rw [← hf, List.map_map]; rfl
  have e2 : (flds ks us).map (·.2) = (l.map Fl.nd).map Nd.jv := by rw [← hf, List.map_map, List.map_map]; rfl
  have K := h.keyRow
  have V := h.kidRow
  rw [List.take_length, List.drop_of_length_le (by omega), List.map_nil, List.append_nil] at K
  rw [List.take_length, List.drop_of_length_le (by omega), List.flatMap_nil, List.append_nil] at V
  have PP : PartP wr S ka va kc vc (l.map Fl.key) (l.map Fl.nd) := by
    refine ⟨?_, ?_, hP.kS, hP.vS, hP.kv, ?_, ?_, ?_⟩
    · rw [List.length_map, List.map_map, hll]; exact K
    · rw [List.length_map, List.flatMap_map, hll, hl]; exact V
    · intro x hx
      have hx' := hnp.subset hx
      exact (hP.own x hx').keep fun b hb hlt => hk b (hP.sub x hx' b hb).1 (hP.sub x hx' b hb).2.1 (hP.sub x hx' b hb).2.2 hlt
    · intro x hx
      exact hP.sub x (hnp.subset hx)
    · exact (hnp.pairwise_iff (fun h b h1 h2 => h b h2 h1)).2 hP.apart
  have := PP.shut 6 is ng d e s
  rw [e1, e2]
  rw [List.length_map, List.length_map, hll] at this
  rw [← hl]
  exact this
theorem FillP.stays {w7 wr w10 : World} {F i : Nat} {fls : List Fl} (h : FillP w7 F fls i wr) (g : Below wr.heap.size wr w10) : FillP w7 F fls i w10 := by
  obtain ⟨rest, h1, h2⟩ := h.row
  exact ⟨⟨rest, h1, row_kept h2 fun b _ hb => g.block b hb⟩, g.os.trans h.grew.os, g.tape.trans h.grew.tape, g.output.trans h.grew.output, Nat.le_trans h.grew.size g.size, fun k hk hr => (g.block k (Nat.lt_of_lt_of_le hk h.grew.size)).trans (h.grew.block k hk hr)⟩
theorem chain_only {S' : Nat → Prop} {w1 w7 w10 w13 w3 : World} (h1 : Below w1.heap.size w1 w7) (h2 : w7.grownBy w10 (some w1.heap.size)) (h4 : w10.grownBy w13 (some w1.heap.size)) (h5 : Only S' w13 w3) :
    Only S' w1 w3 := by
  have s1 := h1.size
  have s2 := h2.size
  have s4 := h4.size
  have hne : ∀ b, b < w1.heap.size → some b ≠ some w1.heap.size := fun b hb e => by injection e with e; omega
  exact ⟨h5.os.trans (h4.os.trans (h2.os.trans h1.os)), h5.tape.trans (h4.tape.trans (h2.tape.trans h1.tape)), h5.output.trans (h4.output.trans (h2.output.trans h1.output)), Nat.le_trans s1 (Nat.le_trans s2 (Nat.le_trans s4 h5.size)), fun b hb hn => (h5.block b (by omega) hn).trans ((h4.block b (by omega) (hne b hb)).trans ((h2.block b (by omega) (hne b hb)).trans (h1.block b hb)))⟩
/-- The cells of a sorted field. -/
theorem encF_nine (x : Fl) : (encF x)[0]? = some (.string x.key) ∧ (encF x)[1]? = some (.int .i64 x.nd.raw.kind) ∧ (encF x)[2]? = some (.bool x.nd.raw.is) ∧ (encF x)[3]? = some (.bool x.nd.raw.neg) ∧ (encF x)[4]? = some (.string x.nd.raw.dig) ∧ (encF x)[5]? = some (.int .i64 x.nd.raw.exp) ∧ (encF x)[6]? = some (.string x.nd.raw.str) ∧ (encF x)[7]? = some (.slice x.nd.raw.ka x.nd.raw.kn x.nd.raw.kc) ∧ (encF x)[8]? = some (.slice x.nd.raw.va x.nd.raw.vn x.nd.raw.vc) := ⟨rfl, rfl, rfl, rfl, rfl, rfl, rfl, rfl, rfl⟩
theorem nine_of {w : World} {F i : Nat} {x : Fl} (h : ∀ c, c < 9 → w.cell? ⟨F, i * 9 + c, none⟩ = (encF x)[c]?) :
    w.cell? ⟨F, i * 9, none⟩ = some (.string x.key) ∧ w.cell? ⟨F, i * 9 + 1, none⟩ = some (.int .i64 x.nd.raw.kind) ∧ w.cell? ⟨F, i * 9 + 2, none⟩ = some (.bool x.nd.raw.is) ∧ w.cell? ⟨F, i * 9 + 3, none⟩ = some (.bool x.nd.raw.neg) ∧ w.cell? ⟨F, i * 9 + 4, none⟩ = some (.string x.nd.raw.dig) ∧ w.cell? ⟨F, i * 9 + 5, none⟩ = some (.int .i64 x.nd.raw.exp) ∧ w.cell? ⟨F, i * 9 + 6, none⟩ = some (.string x.nd.raw.str) ∧ w.cell? ⟨F, i * 9 + 7, none⟩ = some (.slice x.nd.raw.ka x.nd.raw.kn x.nd.raw.kc) ∧ w.cell? ⟨F, i * 9 + 8, none⟩ = some (.slice x.nd.raw.va x.nd.raw.vn x.nd.raw.vc) :=
  ⟨h 0 (by omega), h 1 (by omega), h 2 (by omega), h 3 (by omega), h 4 (by omega), h 5 (by omega), h 6 (by omega), h 7 (by omega), h 8 (by omega)⟩
theorem BackP.cells {w9 wr w15 : World} {kb vb kc vc : Nat} {ks : List ByteArray} {nds : List Nd} {l : List Fl} {i : Nat} (h : BackP w9 (some ⟨kb, 0, none⟩) (some ⟨vb, 0, none⟩) kc vc ks nds l i wr) (hk : i < ks.length) (hv : i < nds.length) (g : Below wr.heap.size wr w15) :
    ((∃ z, w15.cell? ⟨kb, i, none⟩ = some z) ∧ w15.frozen? ⟨kb, i, none⟩ = false) ∧ ∀ c, c < 8 → (∃ z, w15.cell? ⟨vb, i * 8 + c, none⟩ = some z) ∧ w15.frozen? ⟨vb, i * 8 + c, none⟩ = false := by
  have K := row_kept (w' := w15) h.keyRow fun b _ hb => g.block b hb
  have V := row_kept (w' := w15) h.kidRow fun b _ hb => g.block b hb
  exact ⟨⟨row_cell K i (by omega), K.frozenAt i⟩, fun c hc => ⟨row_cell V _ (by omega), V.frozenAt _⟩⟩
end Go.Proofs.YtehffmcfmdjknaaGreatDoor.Jdec
