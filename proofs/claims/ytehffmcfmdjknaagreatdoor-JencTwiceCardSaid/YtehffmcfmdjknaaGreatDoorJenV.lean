/- jenc.Print, Wide of what is right. (Written by gen/jenv.py.) -/
import Derived.Test.YtehffmcfmdjknaaGreatDoorJenR
namespace Go.Proofs.YtehffmcfmdjknaaGreatDoor.Jdec
open Go.RowKit Go.Proofs.YtehffmcfmdjknaaGreatDoor.Strs
set_option linter.unusedVariables false
set_option linter.unusedSimpArgs false
set_option maxRecDepth 100000

/-- A print is told. -/
def PrP (wd : Bool) (t : JV) (w : World) (e : Ending) (w' : World) : Prop := ∃ s : ByteArray, e = .returned (.tuple #[.string s, .int .i64 0]) ∧ s.data.toList = t.print wd 0 ∧ Below w.heap.size w w'
theorem PrP.mk {wd : Bool} {t : JV} {w w' : World} {e : Ending} (s : ByteArray) (h1 : e = .returned (.tuple #[.string s, .int .i64 0])) (h2 : s.data.toList = t.print wd 0) (h3 : Below w.heap.size w w') : PrP wd t w e w' := ⟨s, h1, h2, h3⟩
theorem PrP.to {wd : Bool} {t : JV} {w w' : World} {e : Ending} (h : PrP wd t w e w') : ∃ s : ByteArray, e = .returned (.tuple #[.string s, .int .i64 0]) ∧ Hid (s.data.toList = t.print wd 0) ∧ Hid (Below w.heap.size w w') := h

theorem pb_newn (w : World) : ∃ w1, w.alloc (.cells #[.pointer none, .slice none 0 0] 52) = w1 ∧ Hid (PB 52 w.heap.size w1 []) ∧ Hid (Below w.heap.size w w1) :=
  ⟨_, rfl, ⟨#[.pointer none, .slice none 0 0], Nat.le_refl _, heap_alloc_new _ _, by decide, .inl rfl, ⟨_, rfl, World.ownsRow_nil _ _ _ _⟩, by decide, by kernel_rfl⟩, (Below.refl _ _).alloc (Nat.le_refl _) _⟩
theorem Alln.to {t : JV} {w0 w w' : World} {e : Ending} (h : Alln t w0 w e w') : ∃ s : ByteArray, e = .returned (.tuple #[.string s, .int .i64 0]) ∧ Hid (s.data.toList = t.print false 0) ∧ Hid (Below w0.heap.size w w') := h
set_option maxHeartbeats 4000000 in
theorem print_any (t : JV) (hg : GoodQ t) (hf : Fine t) (hm : t.mass ≤ 3000) (hd : t.deepN ≤ 64) (ra : Raw) (A : Nat → Prop) (w : World) (T0 : Utf.Sizes w) (P0 : Pow10 w) (hi : IsV w A ra t) :
    Calls Tryz.prog 10 #[ra.val] w (PrP false t w) := by
  obtain ⟨w2, hw2, V2, B2⟩ := own_new w ra
  have V2 : Hid (w2.heap[w.heap.size]? = some (.cells ra.arr 29 (0, 0))) := V2.out
  obtain ⟨w3, hw3, K3, B3⟩ := pb_newn w2
  have hl2 := heap_lt V2.out
  have V3 : Hid (w3.heap[w.heap.size]? = some (.cells ra.arr 29 (0, 0))) := (B3.out.block _ (by omega)).trans V2.out
  have ha := all_n w2 (T0.stays B2.out) (P0.stays B2.out) t hg hf hm hd ra w3 ((hi.behind B2.out).turn (Turn.mono w2 (fun _ _ _ => trivial))) K3.out B3.out
  have HA := Hid.out (p := Hid _) ha
  clear ha hi hg hf T0 P0
  unfold Raw.val pvn at HA
  unfold Raw.val
  obtain ⟨⟨x0, x1, x2, x3, x4, x5, x6, x7⟩, _⟩ := val_cells V3.out
  go_enter Tryz.func10, Tryz.ntmps10
  go_wp2_with fail
  refine (Calls.mono HA.out ?_)
  rintro z w4 hz
  obtain ⟨s, rfl, hs, B4⟩ := hz.to
  clear hz
  go_wp2_with fail
  go_ret2
  exact PrP.mk s rfl hs.out ((B2.out.trans (B3.out.mono (by omega))).trans (B4.out.mono (by omega)))

theorem Allw.to {t : JV} {w0 w w' : World} {e : Ending} (h : Allw t w0 w e w') : ∃ s : ByteArray, e = .returned (.tuple #[.string s, .int .i64 0]) ∧ Hid (s.data.toList = t.print true 0) ∧ Hid (Below w0.heap.size w w') := h
end Go.Proofs.YtehffmcfmdjknaaGreatDoor.Jdec
