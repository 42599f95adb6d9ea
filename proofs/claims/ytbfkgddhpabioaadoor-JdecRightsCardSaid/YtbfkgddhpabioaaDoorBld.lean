/- strings.Builder at a place of a block: what its writers do. -/
import Derived.Test.YtbfkgddhpabioaaDoorFrame
import Derived.OwnWalk
import Derived.Laws.AppendOwn
import Derived.Laws.OwnMore
import Derived.Laws.Externs
import Derived.Lib.UnsafeStr
import Derived.Lib.AppendStr
import Derived.RegionTactic
import Derived.Outline
namespace Go.Proofs.YtbfkgddhpabioaaDoor
open Go.RowKit
set_option linter.unusedVariables false
set_option linter.unusedSimpArgs false
set_option maxRecDepth 100000


/-- A strings.Builder at place o of block b (a row of the call's own, of type T), that holds the bytes bs. -/
structure Bl (w : World) (B b o : Nat) (T : TypeId) (cs : Array Value) (bs : List UInt8) : Prop where
  hB : B ≤ b
  blk : w.heap[b]? = some (.cells cs T (0, 0))
  size : o + 1 < cs.size
  ptr : cs[o]? = some (.pointer none) ∨ cs[o]? = some (.pointer (some ⟨b, o, none⟩))
  buf : ∃ v, cs[o + 1]? = some v ∧ w.ownsRow B 5 1 v bs.length (Lib.byteCells bs)
  ne : T ≠ 5
  lies : liesAt Tryd.prog Tryd.prog.depth T (cs.size / Tryd.prog.cellsOf T) o 108 1 = true

/-- Two rows that part at o and o + 1 alone. -/
def Beside (o : Nat) (cs cs' : Array Value) : Prop := cs'.size = cs.size ∧ ∀ j, j ≠ o → j ≠ o + 1 → cs'[j]? = cs[j]?
theorem Beside.refl (o : Nat) (cs : Array Value) : Beside o cs cs := ⟨rfl, fun _ _ _ => rfl⟩
theorem Beside.trans {o : Nat} {a b c : Array Value} (h : Beside o a b) (k : Beside o b c) : Beside o a c :=
  ⟨k.1.trans h.1, fun j h1 h2 => (k.2 j h1 h2).trans (h.2 j h1 h2)⟩
theorem Beside.set0 (o : Nat) (cs : Array Value) (v : Value) : Beside o cs (cs.setIfInBounds o v) :=
  ⟨by simp, fun j h1 _ => by rw [Array.getElem?_setIfInBounds_ne (by omega)]⟩
theorem Beside.set1 (o : Nat) (cs : Array Value) (v : Value) : Beside o cs (cs.setIfInBounds (o + 1) v) :=
  ⟨by simp, fun j _ h2 => by rw [Array.getElem?_setIfInBounds_ne (by omega)]⟩

theorem Bl.lt {w : World} {B b o : Nat} {T : TypeId} {cs : Array Value} {bs : List UInt8} (h : Bl w B b o T cs bs) : b < w.heap.size := heap_lt h.blk
theorem Bl.stays {w w' : World} {B b o : Nat} {T : TypeId} {cs : Array Value} {bs : List UInt8} (h : Bl w B b o T cs bs) (hb : Below w.heap.size w w') : Bl w' B b o T cs bs := by
  obtain ⟨v, hv, ho⟩ := h.buf
  refine ⟨h.hB, (hb.block b h.lt).trans h.blk, h.size, h.ptr, ⟨v, hv, ?_⟩, h.ne, h.lies⟩
  exact ho.kept (row := none) ⟨hb.os, hb.tape, hb.output, hb.size, fun k hk _ => hb.block k hk⟩ (by cases v.ownBlock <;> simp)

/-- What a writer leaves. -/
def Wrote (w : World) (B b o : Nat) (T : TypeId) (cs : Array Value) (bs : List UInt8) (w' : World) : Prop :=
  ∃ cs', Bl w' B b o T cs' bs ∧ cs'[o]? = some (.pointer (some ⟨b, o, none⟩)) ∧ Beside o cs cs' ∧ Keeps B b w w'

theorem copyCheck_any (B b o : Nat) (T : TypeId) (cs : Array Value) (bs : List UInt8) (w : World) (h : Bl w B b o T cs bs) :
    Calls Tryd.prog 128 #[.pointer (some ⟨b, o, none⟩)] w fun e w' => e = .returned (.tuple #[]) ∧ Wrote w B b o T cs bs w' := by
  obtain ⟨j, hj, hjs⟩ := Option.map_eq_some_iff.1 (show (Tryd.prog.info? 108).map (fun i => i.size) = some 2 by kernel_rfl)
  have HJ := Hid.out (p := Hid _) hj; clear hj
  have HJS := Hid.out (p := Hid _) hjs; clear hjs
  have c0 := cell_of h.blk o
  have sh := shape_of h.blk
  have fz := frozen_of h.blk o
  have H : Hid (Bl w B b o T cs bs) := h
  have hsz := h.size
  have hlies : Hid _ := h.lies
  rcases h.ptr with hp | hp
  · rw [hp] at c0
    clear h hp
    go_enter Tryd.func128, Tryd.ntmps128
    go_wp2
    rw [Lib.run_to_unsafe w ⟨b, o, none⟩ (by kernel_rfl) (by kernel_rfl) HJ (by rw [HJS]; decide) sh (by simp only; omega)]
    simp only [Result.andThen]
    rw [Oper.upon_value]
    go_wp2
    rw [run_callFunc_extern Tryd.func138 (by kernel_rfl) (by kernel_rfl) (by kernel_rfl) (e := Extern.AbiNoEscape.same) (by kernel_rfl)]
    rw [Lib.run_noEscape]
    simp only [Result.andThen]
    rw [Oper.upon_value]
    go_wp2
    rw [Lib.run_from_unsafe w ⟨b, o, none⟩ (by kernel_rfl) (by kernel_rfl) HJ sh hlies.out]
    simp only [Result.andThen]
    rw [Oper.upon_value]
    go_wp2
    go_end0
    have h := H.out
    have hset : (cs.setIfInBounds o (.pointer (some ⟨b, o, none⟩)))[o]? = some (.pointer (some ⟨b, o, none⟩)) := by
      rw [Array.getElem?_setIfInBounds_self_of_lt (by omega)]
    obtain ⟨v, hv, ho⟩ := h.buf
    have hne := Lib.ownBlock_ne ho h.blk h.ne
    refine ⟨rfl, _, ⟨h.hB, heap_set_same h.blk _, by simpa using h.size, .inr hset, ⟨v, ?_, ?_⟩, h.ne, by simpa using h.lies⟩, hset, Beside.set0 _ _ _, (Keeps.refl B b w).setCell (p := ⟨b, o, none⟩) rfl h.hB _⟩
    · rw [Array.getElem?_setIfInBounds_ne (by omega)]; exact hv
    · exact ho.kept (row := some b) ⟨rfl, rfl, rfl, by simp [World.setCell], fun k _ hk => Below.heap_setCell _ _ _ _ (fun e => hk (by simp [e]))⟩ (Or.inr hne)
  · rw [hp] at c0
    have HP := Hid.out (p := Hid _) hp
    clear h hp
    go_enter Tryd.func128, Tryd.ntmps128
    go_wp2
    rw [Lib.run_neq_ptr_same w _ (by kernel_rfl) HJ]
    go_wp2
    go_end0
    exact ⟨rfl, cs, H.out, HP, Beside.refl _ _, Keeps.refl _ _ _⟩

theorem infoByte : (Tryd.prog.info? 5).map (fun i => (i.zero, i.size, i.bytes)) = some (some (.int .u8 0), 1, 1) := by kernel_rfl

/-- What a new buffer in its place leaves. -/
theorem wrote_of {w w1 w2 : World} {B b o : Nat} {T : TypeId} {cs cs1 : Array Value} {bs bs' : List UInt8} {v' : Value} (h1 : Bl w1 B b o T cs1 bs) (hp : cs1[o]? = some (.pointer (some ⟨b, o, none⟩))) (hbe : Beside o cs cs1)
    (hk : Keeps B b w w2) (hb2 : w2.heap[b]? = some (.cells cs1 T (0, 0))) (hown : w2.ownsRow B 5 1 v' bs'.length (Lib.byteCells bs')) :
    Wrote w B b o T cs bs' (w2.setCell ⟨b, o + 1, none⟩ v') := by
  have hsz := h1.size
  have hne := Lib.ownBlock_ne hown hb2 h1.ne
  refine ⟨cs1.setIfInBounds (o + 1) v', ⟨h1.hB, heap_set_same hb2 _, by simpa using h1.size, .inr ?_, ⟨v', ?_, ?_⟩, h1.ne, by simpa using h1.lies⟩, ?_, hbe.trans (Beside.set1 _ _ _), hk.setCell (p := ⟨b, o + 1, none⟩) rfl h1.hB _⟩
  · rw [Array.getElem?_setIfInBounds_ne (by omega)]; exact hp
  · rw [Array.getElem?_setIfInBounds_self_of_lt (by omega)]
  · exact hown.kept (row := some b) ⟨rfl, rfl, rfl, by simp [World.setCell], fun k _ hk => Below.heap_setCell _ _ _ _ (fun e => hk (by simp [e]))⟩ (Or.inr hne)
  · rw [Array.getElem?_setIfInBounds_ne (by omega)]; exact hp

theorem own_row {w : World} {B : Nat} {v : Value} {n : Nat} {xs : List Value} (h : w.ownsRow B 5 1 v n xs) (k : Nat) (hk : v.ownBlock = some k) : ∃ c fr, w.heap[k]? = some (.cells c 5 fr) := by
  rcases h.2 with ⟨rfl, _⟩ | ⟨g, cap, cur, rfl, _, hg, _⟩
  · simp [Value.ownBlock] at hk
  · simp only [Value.ownBlock, Option.some.injEq] at hk
    subst hk
    exact ⟨_, _, hg⟩

theorem writeByte_any (B b o : Nat) (T : TypeId) (cs : Array Value) (bs : List UInt8) (c : UInt8) (w : World) (h : Bl w B b o T cs bs) (hlen : bs.length + 1 ≤ 140737488355328) (hBw : B ≤ w.heap.size) :
    Calls Tryd.prog 115 #[.pointer (some ⟨b, o, none⟩), .int .u8 c.toNat] w fun e w' => e = .returned .nilIface ∧ Wrote w B b o T cs (bs ++ [c]) w' := by
  obtain ⟨i0, hi, hz0, hz1, hz2⟩ := info_parts infoByte
  have HI := Hid.out (p := Hid _) hi; clear hi
  go_enter Tryd.func115, Tryd.ntmps115
  go_wp2_with fail
  refine (copyCheck_any B b o T cs bs w h).mono ?_
  rintro e w1 ⟨rfl, cs1, h1, hp1, hbe, hk1⟩
  have hsz : o + 1 < cs1.size := h1.size
  obtain ⟨v, hv, hown⟩ := h1.buf
  have hne := Lib.ownBlock_ne hown h1.blk h1.ne
  have c1 : w1.cell? ⟨b, o + 1, none⟩ = some v := by rw [cell_of h1.blk]; exact hv
  have hb1 := hk1.below.size
  have HK := Hid.out (p := Hid _) hk1; clear hk1
  have H1 := Hid.out (p := Hid _) h1; clear h1
  have HP := Hid.out (p := Hid _) hp1; clear hp1
  have HB := Hid.out (p := Hid _) hbe; clear hbe
  have HN := Hid.out (p := Hid _) hne; clear hne hv
  go_wp2_with (at_builtin; refine wpList_append_own _ rfl _ _ 22 rfl B 5 i0 (.int .u8 0) 1 1 Tryd.underlying22 HI hz0 hz1 hz2 rfl (by decide) _ _ _ rfl (hown.alloc _) ⟨w1.heap.size, 0, none⟩ 1 1 [.int .u8 c.toNat] rfl rfl ?c1 ?c2 ?c3 ?c4 ?c5 ?_)
  case c1 =>
    intro j u hj
    match j, hj with
    | 0, hj => simp at hj; subst hj; simp [Addr.add]
  case c2 => intro u hu; simp at hu; subst hu; rfl
  case c3 => unfold maxLen; omega
  case c4 => omega
  case c5 => simp; omega
  intro v' w2 hown' hgrow _
  have hlt : b < w1.heap.size := H1.out.lt
  have hb2 : w2.heap[b]? = some (.cells cs1 T (0, 0)) := by
    rw [hgrow.block b (by simp; omega) (fun e => HN.out e.symm), Lib.alloc_old w1 _ b hlt]
    exact H1.out.blk
  have d1 : w2.cell? ⟨b, o + 1, none⟩ = some v := by rw [cell_of hb2, ← cell_of H1.out.blk]; exact c1
  have f1 : w2.frozen? ⟨b, o + 1, none⟩ = false := frozen_of hb2 _
  have hkk : Hid (Keeps B b w w2) := (HK.out.alloc (by omega) _).grown hgrow (by simp; omega) (fun k hk => (hown.lt k hk).1) (fun k hk => by
    obtain ⟨c, fr, hc⟩ := own_row hown k hk
    exact ⟨c, fr, heap_alloc_old hc⟩)
  have HB2 := Hid.out (p := Hid _) hb2; clear hb2
  have hown2 : Hid (w2.ownsRow B 5 1 v' (bs ++ [c]).length (Lib.byteCells (bs ++ [c]))) := by simpa [Hid, Lib.byteCells] using hown'
  obtain ⟨g, cap, rfl⟩ : ∃ g cap, v' = .slice (some ⟨g, 0, none⟩) (bs.length + 1) cap := by
    rcases hown'.2 with ⟨_, h0⟩ | ⟨g, cap, cur, hv, _⟩
    · omega
    · exact ⟨g, cap, hv⟩
  clear hown' hgrow hown c1
  go_wp2_with fail
  go_ret
  exact ⟨rfl, wrote_of H1.out HP.out HB.out hkk.out HB2.out hown2.out⟩

theorem writeString_any (B b o : Nat) (T : TypeId) (cs : Array Value) (bs : List UInt8) (s : ByteArray) (w : World) (h : Bl w B b o T cs bs) (hlen : bs.length + s.size ≤ 140737488355328) (hBw : B ≤ w.heap.size) :
    Calls Tryd.prog 130 #[.pointer (some ⟨b, o, none⟩), .string s] w fun e w' => e = .returned (.tuple #[.int .i64 s.size, .nilIface]) ∧ Wrote w B b o T cs (bs ++ s.data.toList) w' := by
  obtain ⟨i0, hi, hz0, hz1, hz2⟩ := info_parts infoByte
  have HI := Hid.out (p := Hid _) hi; clear hi
  go_enter Tryd.func130, Tryd.ntmps130
  go_wp2_with fail
  refine (copyCheck_any B b o T cs bs w h).mono ?_
  rintro e w1 ⟨rfl, cs1, h1, hp1, hbe, hk1⟩
  have hsz : o + 1 < cs1.size := h1.size
  obtain ⟨v, hv, hown⟩ := h1.buf
  have hne := Lib.ownBlock_ne hown h1.blk h1.ne
  have c1 : w1.cell? ⟨b, o + 1, none⟩ = some v := by rw [cell_of h1.blk]; exact hv
  have hb1 := hk1.below.size
  have HK := Hid.out (p := Hid _) hk1; clear hk1
  have H1 := Hid.out (p := Hid _) h1; clear h1
  have HP := Hid.out (p := Hid _) hp1; clear hp1
  have HB := Hid.out (p := Hid _) hbe; clear hbe
  have HN := Hid.out (p := Hid _) hne; clear hne hv
  go_wp2_with (at_builtin; refine Lib.wpList_append_own_string _ rfl _ _ 22 9 rfl B 5 i0 Tryd.underlying22 Tryd.underlying9 HI hz0 hz1 hz2 _ _ _ rfl hown s rfl ?c3 ?c4 ?c5 ?_)
  case c3 => unfold maxLen; omega
  case c4 => omega
  case c5 => omega
  intro v' w2 hown' hgrow _
  have hlt : b < w1.heap.size := H1.out.lt
  have hb2 : w2.heap[b]? = some (.cells cs1 T (0, 0)) := by
    rw [hgrow.block b hlt (fun e => HN.out e.symm)]
    exact H1.out.blk
  have d1 : w2.cell? ⟨b, o + 1, none⟩ = some v := by rw [cell_of hb2, ← cell_of H1.out.blk]; exact c1
  have f1 : w2.frozen? ⟨b, o + 1, none⟩ = false := frozen_of hb2 _
  have hkk : Hid (Keeps B b w w2) := HK.out.grown hgrow (by omega) (fun k hk => (hown.lt k hk).1) (fun k hk => own_row hown k hk)
  have HB2 := Hid.out (p := Hid _) hb2; clear hb2
  have hown2 : Hid (w2.ownsRow B 5 1 v' (bs ++ s.data.toList).length (Lib.byteCells (bs ++ s.data.toList))) := by
    have e : Lib.byteCells (bs ++ s.data.toList) = Lib.byteCells bs ++ Lib.strCells s := by simp [Lib.byteCells, Lib.strCells]
    rw [Hid, e]
    simpa using hown'
  obtain ⟨ao, n', cap, rfl⟩ : ∃ ao n' cap, v' = .slice ao n' cap := by
    rcases hown'.2 with ⟨hv, _⟩ | ⟨g, cap, cur, hv, _⟩
    · exact ⟨_, _, _, hv⟩
    · exact ⟨_, _, _, hv⟩
  clear hown' hgrow hown c1
  go_wp2_with fail
  go_ret2
  exact ⟨rfl, wrote_of H1.out HP.out HB.out hkk.out HB2.out hown2.out⟩
end Go.Proofs.YtbfkgddhpabioaaDoor
