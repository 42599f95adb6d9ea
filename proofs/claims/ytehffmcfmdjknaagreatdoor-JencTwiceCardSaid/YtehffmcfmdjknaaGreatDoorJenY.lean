/- The fields of an object, sorted by their keys: slices.SortFunc at tree.field. -/
import Derived.Test.YtehffmcfmdjknaaGreatDoorJenM
import Derived.Test.YtehffmcfmdjknaaGreatDoorSort
import Derived.Test.YtehffmcfmdjknaaGreatDoorShelf
import Derived.Laws.EntriesVeiled
namespace Go.Proofs.YtehffmcfmdjknaaGreatDoor.Jdec
open Go.RowKit Go.Proofs.YtehffmcfmdjknaaGreatDoor.Strs Go.Proofs
set_option linter.unusedVariables false
set_option linter.unusedSimpArgs false
set_option maxRecDepth 100000

/-- A key and its value, in memory. -/
structure Fl where
  key : ByteArray
  nd : Nd
instance : Inhabited Fl := ⟨⟨⟨#[]⟩, ⟨Raw.zero, JV.zero, fun _ => False⟩⟩⟩
def encF (x : Fl) : List Value := .string x.key :: x.nd.raw.cells
def cmpF (x y : Fl) : Int := Lib.compareBytes x.key.data.toList y.key.data.toList
theorem ltF (x y : Fl) : ltOf cmpF x y = blt x.key y.key := rfl
theorem swoF : Sort.SWO (ltOf cmpF) where
  irrefl x := by rw [ltF]; exact blt_irrefl _
  trans x y z h1 h2 := by rw [ltF] at *; exact blt_trans h1 h2
  ntrans x y z h1 h2 := by rw [ltF] at *; exact blt_ntrans h1 h2
theorem encF_len (x : Fl) : (encF x).length = 9 := rfl
theorem encF_one (x : Fl) : ∀ v ∈ encF x, v.oneCell' = true := by
  intro u hu
  simp only [encF, Raw.cells, List.mem_cons, List.not_mem_nil, or_false] at hu
  rcases hu with rfl | rfl | rfl | rfl | rfl | rfl | rfl | rfl | rfl <;> rfl

/-- Draws and new blocks. -/
def Grew (w w' : World) : Prop := ∃ q os, w' = Sort.grow (w.drewN q) os
theorem Grew.refl (w : World) : Grew w w := ⟨0, #[], by simp [World.drewN_zero]⟩
theorem Grew.trans {a b c : World} (h : Grew a b) (k : Grew b c) : Grew a c := by
  obtain ⟨q, os, rfl⟩ := h
  obtain ⟨q', os', rfl⟩ := k
  refine ⟨q + q', os ++ os', ?_⟩
  show Sort.grow (Sort.grow ((a.drewN q).drewN q') os) os' = _
  rw [Sort.grow_grow, World.drewN_drewN]
theorem Grew.alloc (w : World) (o : Obj) : Grew w (w.alloc o) := ⟨0, #[o], by rw [Sort.alloc_eq_grow, World.drewN_zero]⟩
theorem Grew.drew (w : World) : Grew w w.drew := ⟨1, #[], by rw [Sort.grow_empty]; rfl⟩
theorem Grew.below {w w' : World} (h : Grew w w') : Below w.heap.size w w' := by
  obtain ⟨q, os, rfl⟩ := h
  exact ⟨rfl, rfl, rfl, by simp [Sort.grow], fun k hk => by simp only [Sort.grow]; exact Array.getElem?_append_left hk⟩
theorem Grew.cell {w w' : World} (h : Grew w w') {b o : Nat} {v : Value} (hc : w.cell? ⟨b, o, none⟩ = some v) : w'.cell? ⟨b, o, none⟩ = some v :=
  (World.cell?_of_block (w := w) (a := ⟨b, o, none⟩) (h.below.block b (World.block_lt_of_cell? w _ hc))).trans hc
/-- A field's nine cells in a new block. -/
def fldArr (x : Fl) : Array Value := #[.string x.key, .int .i64 x.nd.raw.kind, .bool x.nd.raw.is, .bool x.nd.raw.neg, .string x.nd.raw.dig, .int .i64 x.nd.raw.exp, .string x.nd.raw.str, .slice x.nd.raw.ka x.nd.raw.kn x.nd.raw.kc, .slice x.nd.raw.va x.nd.raw.vn x.nd.raw.vc]
theorem fld_new (w : World) (x : Fl) : ∃ w1, w.alloc (.cells #[.string x.key, .int .i64 x.nd.raw.kind, .bool x.nd.raw.is, .bool x.nd.raw.neg, .string x.nd.raw.dig, .int .i64 x.nd.raw.exp, .string x.nd.raw.str, .slice x.nd.raw.ka x.nd.raw.kn x.nd.raw.kc, .slice x.nd.raw.va x.nd.raw.vn x.nd.raw.vc] 94) = w1 ∧ Hid (w1.heap[w.heap.size]? = some (.cells (fldArr x) 94 (0, 0))) ∧ Hid (Grew w w1) :=
  ⟨_, rfl, heap_alloc_new _ _, Grew.alloc _ _⟩
theorem fld_cells {w : World} {b : Nat} {x : Fl} {T : TypeId} (h : w.heap[b]? = some (.cells (fldArr x) T (0, 0))) :
    w.cell? ⟨b, 0, none⟩ = some (.string x.key) ∧ w.cell? ⟨b, 1, none⟩ = some (.int .i64 x.nd.raw.kind) ∧ w.cell? ⟨b, 2, none⟩ = some (.bool x.nd.raw.is) ∧ w.cell? ⟨b, 3, none⟩ = some (.bool x.nd.raw.neg) ∧ w.cell? ⟨b, 4, none⟩ = some (.string x.nd.raw.dig) ∧ w.cell? ⟨b, 5, none⟩ = some (.int .i64 x.nd.raw.exp) ∧ w.cell? ⟨b, 6, none⟩ = some (.string x.nd.raw.str) ∧ w.cell? ⟨b, 7, none⟩ = some (.slice x.nd.raw.ka x.nd.raw.kn x.nd.raw.kc) ∧ w.cell? ⟨b, 8, none⟩ = some (.slice x.nd.raw.va x.nd.raw.vn x.nd.raw.vc) :=
  ⟨cell_of h 0, cell_of h 1, cell_of h 2, cell_of h 3, cell_of h 4, cell_of h 5, cell_of h 6, cell_of h 7, cell_of h 8⟩

/-- The function that tells a field's key. -/
theorem fkey_any (x : Fl) (w : World) : Calls Tryz.prog 59 #[.agg (encF x).toArray] w fun e w' => e = .returned (.string x.key) ∧ Grew w w' := by
  obtain ⟨w2, hw2, V2, G2⟩ := fld_new w x
  obtain ⟨x0, x1, x2, x3, x4, x5, x6, x7, x8⟩ := fld_cells V2.out
  unfold encF Raw.cells
  go_enter Tryz.func59, Tryz.ntmps59
  go_wp2_with fail
  go_ret
  exact ⟨rfl, G2.out⟩
set_option maxHeartbeats 4000000 in
/-- The function that holds two fields against each other by their keys. -/
theorem fcmp_any (x y : Fl) (B : Nat) (w : World) (hB : w.cell? ⟨B, 0, none⟩ = some (.func (.func 59) #[] #[])) :
    Calls Tryz.prog 86 #[.agg (encF x).toArray, .agg (encF y).toArray, .pointer (some ⟨B, 0, none⟩)] w fun e w' => e = .returned (.int .i64 (cmpF x y)) ∧ Grew w w' := by
  obtain ⟨w2, hw2, V2, G2⟩ := fld_new w x
  obtain ⟨w3, hw3, V3, G3⟩ := fld_new w2 y
  have V23 : Hid (w3.heap[w.heap.size]? = some (.cells (fldArr x) 94 (0, 0))) := (G3.out.below.block _ (heap_lt V2.out)).trans V2.out
  have hB3 : w3.cell? ⟨B, 0, none⟩ = some (.func (.func 59) #[] #[]) := G3.out.cell (G2.out.cell hB)
  have HB3 := Hid.out (p := Hid _) hB3
  obtain ⟨x0, x1, x2, x3, x4, x5, x6, x7, x8⟩ := fld_cells V23.out
  obtain ⟨y0, y1, y2, y3, y4, y5, y6, y7, y8⟩ := fld_cells V3.out
  have hs := Tryz.strings_Compare x.key y.key
  have HS := Hid.out (p := Hid _) hs
  have hkx := fkey_any x
  have hky := fkey_any y
  have HKX := Hid.out (p := Hid _) hkx
  have HKY := Hid.out (p := Hid _) hky
  have G23 : Hid (Grew w w3) := G2.out.trans G3.out
  clear hs hkx hky hB
  unfold encF Raw.cells at HKX HKY ⊢
  unfold cmpF
  go_enter Tryz.func86, Tryz.ntmps86
  go_wp2_with fail
  go_region_held3 (fun w' => w'.cell? ⟨B, 0, none⟩ = some (.func (.func 59) #[] #[]) ∧ w'.cell? ⟨w2.heap.size, 0, none⟩ = some (.string y.key) ∧ w'.cell? ⟨w2.heap.size, 1, none⟩ = some (.int .i64 y.nd.raw.kind) ∧ w'.cell? ⟨w2.heap.size, 2, none⟩ = some (.bool y.nd.raw.is) ∧ w'.cell? ⟨w2.heap.size, 3, none⟩ = some (.bool y.nd.raw.neg) ∧ w'.cell? ⟨w2.heap.size, 4, none⟩ = some (.string y.nd.raw.dig) ∧ w'.cell? ⟨w2.heap.size, 5, none⟩ = some (.int .i64 y.nd.raw.exp) ∧ w'.cell? ⟨w2.heap.size, 6, none⟩ = some (.string y.nd.raw.str) ∧ w'.cell? ⟨w2.heap.size, 7, none⟩ = some (.slice y.nd.raw.ka y.nd.raw.kn y.nd.raw.kc) ∧ w'.cell? ⟨w2.heap.size, 8, none⟩ = some (.slice y.nd.raw.va y.nd.raw.vn y.nd.raw.vc) ∧ w'.cell? ⟨w.heap.size, 0, none⟩ = some (.string x.key) ∧ w'.cell? ⟨w.heap.size, 1, none⟩ = some (.int .i64 x.nd.raw.kind) ∧ w'.cell? ⟨w.heap.size, 2, none⟩ = some (.bool x.nd.raw.is) ∧ w'.cell? ⟨w.heap.size, 3, none⟩ = some (.bool x.nd.raw.neg) ∧ w'.cell? ⟨w.heap.size, 4, none⟩ = some (.string x.nd.raw.dig) ∧ w'.cell? ⟨w.heap.size, 5, none⟩ = some (.int .i64 x.nd.raw.exp) ∧ w'.cell? ⟨w.heap.size, 6, none⟩ = some (.string x.nd.raw.str) ∧ w'.cell? ⟨w.heap.size, 7, none⟩ = some (.slice x.nd.raw.ka x.nd.raw.kn x.nd.raw.kc) ∧ w'.cell? ⟨w.heap.size, 8, none⟩ = some (.slice x.nd.raw.va x.nd.raw.vn x.nd.raw.vc)) (go_keep) ((first
    | (go_at_call 87; refine (HS.out w5).mono ?_; rintro e w6 ⟨rfl, rfl⟩)
    | (go_at_call 59; refine (Calls.mono (HKY.out w4) ?_); rintro e w5 ⟨rfl, g5⟩; have G45 : Hid (Grew w4 w5) := g5; have G5 : Hid (Grew w w5) := G4.out.trans g5; have hB5 := G45.out.cell hB4; have V5 : Hid (w5.heap[w2.heap.size]? = some (.cells (fldArr y) 94 (0, 0))) := (G45.out.below.block _ (heap_lt V4.out)).trans V4.out; obtain ⟨v0, v1, v2, v3, v4, v5, v6, v7, v8⟩ := fld_cells V5.out; have V5x : Hid (w5.heap[w.heap.size]? = some (.cells (fldArr x) 94 (0, 0))) := (G45.out.below.block _ (heap_lt V4x.out)).trans V4x.out; obtain ⟨t0, t1, t2, t3, t4, t5, t6, t7, t8⟩ := fld_cells V5x.out; clear g5)
    | (go_at_call 59; refine (Calls.mono (HKX.out w3.drew) ?_); rintro e w4 ⟨rfl, g4⟩; have G34 : Hid (Grew w3 w4) := (Grew.drew w3).trans g4; have G4 : Hid (Grew w w4) := G23.out.trans G34.out; have hB4 := G34.out.cell HB3.out; have V4 : Hid (w4.heap[w2.heap.size]? = some (.cells (fldArr y) 94 (0, 0))) := (G34.out.below.block _ (heap_lt V3.out)).trans V3.out; obtain ⟨z0, z1, z2, z3, z4, z5, z6, z7, z8⟩ := fld_cells V4.out; have V4x : Hid (w4.heap[w.heap.size]? = some (.cells (fldArr x) 94 (0, 0))) := (G34.out.below.block _ (heap_lt V23.out)).trans V23.out; obtain ⟨s0, s1, s2, s3, s4, s5, s6, s7, s8⟩ := fld_cells V4x.out; clear g4)))
  all_goals
    go_wp2_with fail
    go_ret
    exact ⟨rfl, G5.out⟩
/-- byText at fields. -/
theorem byText_any (w : World) : Calls Tryz.prog 58 #[.func (.func 59) #[] #[]] w fun e w' => e = .returned (.func (.func 86) #[] #[.pointer (some ⟨w.heap.size, 0, none⟩)]) ∧ w' = w.alloc (.cells #[.func (.func 59) #[] #[]] 98) := by
  have hmf : ∀ (fn : Fn) (first cap : Array Value) (w : World), (Instr.makeFunc fn first cap).run Tryz.prog w = .ok (.func fn first cap) w := fun _ _ _ _ => rfl
  go_enter Tryz.func58, Tryz.ntmps58
  go_wp2_with fail
  go_ret
  exact ⟨rfl, rfl⟩

theorem grownBy_sortF (w : World) (g m : Nat) (d : Array Fl) (os : Array Obj) : w.grownBy (sortWorldK encF 9 w g 0 m d os) (some g) := by
  refine ⟨rfl, rfl, rfl, by simp [sortWorldK, Sort.putRowK, Sort.putRow, Sort.mapBlock, Sort.ahead, Sort.grow], fun k hk hne => ?_⟩
  unfold sortWorldK
  have e1 : (Sort.grow (Sort.putRowK encF 9 (Sort.ahead w m) g 0 d) os).heap[k]? = (Sort.putRowK encF 9 (Sort.ahead w m) g 0 d).heap[k]? := by
    simp only [Sort.grow]
    exact Array.getElem?_append_left (by simpa [Sort.putRowK, Sort.putRow, Sort.mapBlock, Sort.ahead] using hk)
  rw [e1]
  have : g ≠ k := fun e => hne (by rw [e])
  simp [Sort.putRowK, Sort.putRow, Sort.mapBlock, Sort.ahead, Array.getElem?_modify, this]
/-- The fields, sorted. -/
def SortP (g : Nat) (l : List Fl) (w : World) (e : Ending) (w' : World) : Prop := e = .returned (.tuple #[]) ∧ ∃ l' : List Fl, l'.Perm l ∧ l'.Pairwise (fun x y => blt y.key x.key = false) ∧ (∀ i (h : i < l'.length) c (hc : c < 9), w'.cell? ⟨g, i * 9 + c, none⟩ = (encF l'[i])[c]?) ∧ w.grownBy w' (some g)
theorem SortP.to {g : Nat} {l : List Fl} {w w' : World} {e : Ending} (h : SortP g l w e w') : e = .returned (.tuple #[]) ∧ ∃ l' : List Fl, Hid (l'.Perm l) ∧ Hid (l'.Pairwise (fun x y => blt y.key x.key = false)) ∧ Hid (∀ i (h : i < l'.length) c (hc : c < 9), w'.cell? ⟨g, i * 9 + c, none⟩ = (encF l'[i])[c]?) ∧ Hid (w.grownBy w' (some g)) := h
theorem isAggF : ∀ w, (isAgg 94).run Tryz.prog w = .ok true w := Tryz.isAgg94
theorem sizeF : ∀ w, (Go.sizeOf 94).run Tryz.prog w = .ok 9 w := Tryz.sizeOf94
theorem sortF_any (w : World) (g cap B : Nat) (l : List Fl) (hl : l.length ≤ 1000000) (hB : w.cell? ⟨B, 0, none⟩ = some (.func (.func 59) #[] #[])) (hBg : B ≠ g) (hg : g < w.heap.size) (hh : Sort.HoldsK encF 9 w g 0 l.toArray) :
    Calls Tryz.prog 57 #[.slice (some ⟨g, 0, none⟩) l.length cap, .func (.func 86) #[] #[.pointer (some ⟨B, 0, none⟩)]] w (SortP g l w) := by
  have eg : ∀ args w, (callFunc 86 args).run Tryz.prog w = .ok (.enter 86 args) w := enters_of Tryz.func86 (by kernel_rfl) rfl
  have hBl := World.block_lt_of_cell? w _ hB
  have hcmp : CmpLays Tryz.prog 86 #[.pointer (some ⟨B, 0, none⟩)] encF 9 cmpF g 0 l.toArray.size w := fun m os dk hdk x y => by
    have hb := (grownBy_sortF w g m dk os).block B hBl (fun e => hBg (by injection e))
    exact (fcmp_any x y B _ ((World.cell?_of_block (w := w) (a := ⟨B, 0, none⟩) hb).trans hB)).mono fun e w' h => h
  have hcon := AnyQ.slices_SortFunc Tryz.sortF 9 isAggF sizeF encF encF_len encF_one cmpF swoF 86 #[.pointer (some ⟨B, 0, none⟩)] g 0 cap l.toArray w eg hcmp hh hg (by simp; omega)
  have hs : l.toArray.size = l.length := by simp
  rw [hs] at hcon
  refine Calls.mono hcon ?_
  rintro e w' ⟨he, d', n, os, hp, hso, rfl⟩
  have hd : d'.size = l.length := by rw [hp.1]; exact hs
  have hH := holdsK_sortWorldK_c encF 9 w g 0 l.toArray d' n os hh hg hp.1
  have hpe : d'.toList.Perm l := by
    have := hp.2.2
    rw [Array.extract_eq_self_of_le (by omega), Array.extract_eq_self_of_le (by simp)] at this
    simpa using this
  refine ⟨he, d'.toList, hpe, ?_, fun i hi c hc => ?_, grownBy_sortF w g n d' os⟩
  · rw [List.pairwise_iff_getElem]
    intro i j hi hj hij
    have hi' : i < d'.size := by simpa using hi
    have hj' : j < d'.size := by simpa using hj
    have := hso i j (Nat.zero_le _) hij (by omega)
    rw [ltF, getElem!_pos d' i hi', getElem!_pos d' j hj'] at this
    simpa using this
  · have hi' : i < d'.size := by simpa using hi
    have := (Sort.HoldsK.cell hH hi' hc).1
    rw [getElem!_pos d' i hi', Nat.zero_add] at this
    rw [this]
    have hl9 : c < (encF d'[i]).length := by rw [encF_len]; exact hc
    rw [getElem!_pos (encF d'[i]) c hl9, List.getElem?_eq_getElem (by simpa using hl9)]
    simp
end Go.Proofs.YtehffmcfmdjknaaGreatDoor.Jdec
