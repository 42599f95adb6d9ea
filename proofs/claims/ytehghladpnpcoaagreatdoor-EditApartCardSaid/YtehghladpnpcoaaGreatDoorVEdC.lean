/- edit.made; has, refused of a book. -/
import Derived.Test.YtehghladpnpcoaaGreatDoorVEdA
import Derived.Test.YtehghladpnpcoaaGreatDoorVEdP
set_option linter.unusedVariables false
set_option linter.unusedSimpArgs false
set_option maxRecDepth 100000
set_option maxHeartbeats 16000000
namespace Go.Proofs.YtehghladpnpcoaaGreatDoor.State.Edit
open Go.RowKit Go.Shelf Go.Proofs.YtehghladpnpcoaaGreatDoor.Utf Go.Proofs.YtehghladpnpcoaaGreatDoor.Strs Go.Proofs.YtehghladpnpcoaaGreatDoor.Addr Go.Proofs.YtehghladpnpcoaaGreatDoor.State
open Go.Proofs.YtehghladpnpcoaaGreatDoor.Jdec (IsTexts Turn infoStr gb_set gb_below gb_refl)
theorem adr_print {w : World} {pa : Option Addr} {a : Adr} (h : AdrAt w pa a) (pc : Nat) (T : TabsA w) {q : ByteArray} (hq : (⟨(printA a).toArray⟩ : ByteArray) = q) : Calls Tryz.prog 43 #[.agg #[.slice pa a.path.length pc, .string a.type, .string a.name, .int .i64 a.key, .int .u64 a.place, .string a.word]] w fun e w' => e = .returned (.string q) ∧ Below w.heap.size w w' := by
  rw [← hq]; exact print_any a pa pc _ w h.t h.l h.s h.ty h.nm h.wd h.p T
structure Key (a : Adr) (q : ByteArray) : Prop where
  p : q.data.toList = printA a
  s : q.size ≤ 100000
  a : a.place < 18446744073709551616
theorem key_of {a : Adr} (h : Small (recOf a)) {q : ByteArray} (hq : (⟨(printA a).toArray⟩ : ByteArray) = q) : Key a q := by
  subst hq
  have := print_len h
  exact ⟨rfl, (by show (printA a).toArray.size ≤ 100000; rw [List.size_toArray]; exact this), h.p⟩
theorem has_any {w0 w : World} {b bm n : Nat} {s : Sta} (h : BkAt w0 w b bm n s) (hg : Good s.recs) {a : Adr} {q : ByteArray} (hq : Key a q) (x : Bool) (hx : hasB s.recs a = x) : Hid (Calls Tryz.prog 281 #[.pointer (some ⟨b, 0, none⟩), .string q] w fun e w' => e = .returned (.bool x) ∧ Below w.heap.size w w') := by
  obtain ⟨p, r, hl⟩ := h.map.has hg hq.a hq.p hq.s
  rw [hx] at hl
  have hl1 : (Instr.lookup 132 (.map (some bm)) (.string q) true).run Tryz.prog w = .ok (.tuple #[.agg #[.slice p.pa r.a.path.length p.pc, .string r.a.type, .string r.a.name, .int .i64 r.a.key, .int .u64 r.a.place, .string r.a.word, .string r.prov, .string r.id, .slice p.ta r.attrs.length p.tc], .bool x]) w := hl
  obtain ⟨x0, x1, x2⟩ := book_cells h.blk
  obtain ⟨z1, hz1, Vz1, Bz1, Zz1⟩ := zrec_new w
  obtain ⟨w1, ht1⟩ : ∃ w1, (((((((((z1.setCell ⟨w.heap.size, 0, none⟩ (.slice p.pa r.a.path.length p.pc)).setCell ⟨w.heap.size, 1, none⟩ (.string r.a.type)).setCell ⟨w.heap.size, 2, none⟩ (.string r.a.name)).setCell ⟨w.heap.size, 3, none⟩ (.int .i64 r.a.key)).setCell ⟨w.heap.size, 4, none⟩ (.int .u64 r.a.place)).setCell ⟨w.heap.size, 5, none⟩ (.string r.a.word)).setCell ⟨w.heap.size, 6, none⟩ (.string r.prov)).setCell ⟨w.heap.size, 7, none⟩ (.string r.id)).setCell ⟨w.heap.size, 8, none⟩ (.slice p.ta r.attrs.length p.tc)) = w1 := ⟨_, rfl⟩
  have Gt1 : Hid (z1.grownBy w1 (some w.heap.size)) := by rw [← ht1]; exact (((((((((gb_set _ _ _ _).trans (gb_set _ _ _ _)).trans (gb_set _ _ _ _)).trans (gb_set _ _ _ _)).trans (gb_set _ _ _ _)).trans (gb_set _ _ _ _)).trans (gb_set _ _ _ _)).trans (gb_set _ _ _ _)).trans (gb_set _ _ _ _))
  have V1 : Hid (w1.heap[w.heap.size]? = some (.cells (recArr p r) 38 (0, 0))) := by rw [← ht1]; exact set9 Vz1.out p r
  have B1 : Hid (Below w.heap.size w w1) := Bz1.out.grown Gt1.out Bz1.out.size (fun x hx => by injection hx with hx; omega)
  obtain ⟨fz10, fz11, fz12, fz13, fz14, fz15, fz16, fz17, fz18⟩ := rec_frozen Vz1.out
  obtain ⟨cz10, cz11, cz12, cz13, cz14, cz15, cz16, cz17, cz18⟩ := rec_cells Vz1.out
  show Calls _ _ _ _ _
  clear hl h hg hq hx x0 x1
  go_enter Tryz.func281, Tryz.ntmps281
  go_wp2_with fail
  go_ret
  exact ⟨rfl, B1.out⟩
theorem drop_refused {w0 w : World} {b bm n : Nat} {s : Sta} (h : BkAt w0 w b bm n s) (hg : Good s.recs) {a : Adr} {f : ByteArray} (hf : Key a f) (x : Bool) (hx : hasB s.recs a = x) : Hid (Calls Tryz.prog 286 #[.agg #[.string f], .pointer (some ⟨b, 0, none⟩)] w fun e w' => e = .returned (.int .i64 (if x then 0 else 12)) ∧ Below w.heap.size w w') := by
  obtain ⟨w1, hw1, V1, B1⟩ : ∃ w1, w.alloc (.cells #[.string f] 142) = w1 ∧ Hid (w1.heap[w.heap.size]? = some (.cells #[.string f] 142 (0, 0))) ∧ Hid (Below w.heap.size w w1) := ⟨_, rfl, heap_alloc_new _ _, (Below.refl _ _).alloc (Nat.le_refl _) _⟩
  have HV : Hid (∀ W, Below w1.heap.size w1 W → W.heap[w.heap.size]? = some (.cells #[.string f] 142 (0, 0))) := fun W hb => (hb.block _ (heap_lt V1.out)).trans V1.out
  have HH := has_any (h.below B1.out) hg hf x hx
  have x0 := cell_of V1.out 0
  clear hf hx
  show Calls _ _ _ _ _
  clear h hg
  go_enter Tryz.func286, Tryz.ntmps286
  go_wp2_with fail
  refine (Calls.mono HH.out ?_)
  rintro z w2 ⟨rfl, hb⟩
  have B2 : Hid (Below w.heap.size w w2) := B1.out.trans (hb.mono B1.out.size)
  clear hb
  cases x
  all_goals
    go_wp2_with fail
    go_ret
    exact ⟨rfl, B2.out⟩
theorem gain_refused {w0 w : World} {b bm n : Nat} {s : Sta} (h : BkAt w0 w b bm n s) (hg : Good s.recs) {k : CAt} {c : Cmd} {a : Adr} {g : ByteArray} (hf : Key a g) (x : Bool) (hx : hasB s.recs a = x) : Hid (Calls Tryz.prog 287 #[.agg #[.string g, .slice k.p.pa c.r.a.path.length k.p.pc, .string c.r.a.type, .string c.r.a.name, .int .i64 c.r.a.key, .int .u64 c.r.a.place, .string c.r.a.word, .string c.r.prov, .string c.r.id, .slice k.p.ta c.r.attrs.length k.p.tc], .pointer (some ⟨b, 0, none⟩)] w fun e w' => e = .returned (.int .i64 (if x then 11 else 0)) ∧ Below w.heap.size w w') := by
  obtain ⟨w1, hw1, V1, B1⟩ : ∃ w1, w.alloc (.cells #[.string g, .slice k.p.pa c.r.a.path.length k.p.pc, .string c.r.a.type, .string c.r.a.name, .int .i64 c.r.a.key, .int .u64 c.r.a.place, .string c.r.a.word, .string c.r.prov, .string c.r.id, .slice k.p.ta c.r.attrs.length k.p.tc] 144) = w1 ∧ Hid (w1.heap[w.heap.size]? = some (.cells #[.string g, .slice k.p.pa c.r.a.path.length k.p.pc, .string c.r.a.type, .string c.r.a.name, .int .i64 c.r.a.key, .int .u64 c.r.a.place, .string c.r.a.word, .string c.r.prov, .string c.r.id, .slice k.p.ta c.r.attrs.length k.p.tc] 144 (0, 0))) ∧ Hid (Below w.heap.size w w1) := ⟨_, rfl, heap_alloc_new _ _, (Below.refl _ _).alloc (Nat.le_refl _) _⟩
  have HV : Hid (∀ W, Below w1.heap.size w1 W → W.heap[w.heap.size]? = some (.cells #[.string g, .slice k.p.pa c.r.a.path.length k.p.pc, .string c.r.a.type, .string c.r.a.name, .int .i64 c.r.a.key, .int .u64 c.r.a.place, .string c.r.a.word, .string c.r.prov, .string c.r.id, .slice k.p.ta c.r.attrs.length k.p.tc] 144 (0, 0))) := fun W hb => (hb.block _ (heap_lt V1.out)).trans V1.out
  have HH := has_any (h.below B1.out) hg hf x hx
  have x0 := cell_of V1.out 0
  clear hf hx
  show Calls _ _ _ _ _
  clear h hg
  go_enter Tryz.func287, Tryz.ntmps287
  go_wp2_with fail
  refine (Calls.mono HH.out ?_)
  rintro z w2 ⟨rfl, hb⟩
  have B2 : Hid (Below w.heap.size w w2) := B1.out.trans (hb.mono B1.out.size)
  clear hb
  cases x
  all_goals
    go_wp2_with fail
    go_ret
    exact ⟨rfl, B2.out⟩
theorem move_refused {w0 w : World} {b bm n : Nat} {s : Sta} (h : BkAt w0 w b bm n s) (hg : Good s.recs) {k : CAt} {c : Cmd} {a a2 : Adr} {f t : ByteArray} (hf : Key a f) (ht : Key a2 t) (x y : Bool) (hx : hasB s.recs a = x) (hy : hasB s.recs a2 = y) : Hid (Calls Tryz.prog 285 #[.agg #[.string f, .string t, .slice k.pt c.ad.path.length k.tc, .string c.ad.type, .string c.ad.name, .int .i64 c.ad.key, .int .u64 c.ad.place, .string c.ad.word], .pointer (some ⟨b, 0, none⟩)] w fun e w' => e = .returned (.int .i64 (if x then (if y then 11 else 0) else 12)) ∧ Below w.heap.size w w') := by
  obtain ⟨w1, hw1, V1, B1⟩ : ∃ w1, w.alloc (.cells #[.string f, .string t, .slice k.pt c.ad.path.length k.tc, .string c.ad.type, .string c.ad.name, .int .i64 c.ad.key, .int .u64 c.ad.place, .string c.ad.word] 140) = w1 ∧ Hid (w1.heap[w.heap.size]? = some (.cells #[.string f, .string t, .slice k.pt c.ad.path.length k.tc, .string c.ad.type, .string c.ad.name, .int .i64 c.ad.key, .int .u64 c.ad.place, .string c.ad.word] 140 (0, 0))) ∧ Hid (Below w.heap.size w w1) := ⟨_, rfl, heap_alloc_new _ _, (Below.refl _ _).alloc (Nat.le_refl _) _⟩
  have HV : Hid (∀ W, Below w1.heap.size w1 W → W.heap[w.heap.size]? = some (.cells #[.string f, .string t, .slice k.pt c.ad.path.length k.tc, .string c.ad.type, .string c.ad.name, .int .i64 c.ad.key, .int .u64 c.ad.place, .string c.ad.word] 140 (0, 0))) := fun W hb => (hb.block _ (heap_lt V1.out)).trans V1.out
  have HH := has_any (h.below B1.out) hg hf x hx
  have HH2 : Hid (∀ W, Below w1.heap.size w1 W → Calls Tryz.prog 281 #[.pointer (some ⟨b, 0, none⟩), .string t] W fun e w' => e = .returned (.bool y) ∧ Below W.heap.size W w') := fun W hb => (has_any ((h.below B1.out).below hb) hg ht y hy).out
  have x0 := cell_of V1.out 0
  have x1 := cell_of V1.out 1
  clear hf hx ht hy
  show Calls _ _ _ _ _
  clear h hg
  go_enter Tryz.func285, Tryz.ntmps285
  go_wp2_with fail
  refine (Calls.mono HH.out ?_)
  rintro z w2 ⟨rfl, hb⟩
  have C2 : Hid (Below w1.heap.size w1 w2) := hb
  have B2 : Hid (Below w.heap.size w w2) := B1.out.trans (hb.mono B1.out.size)
  have y1 := cell_of (HV.out w2 hb) 1
  clear hb x0 x1
  cases x
  case false =>
    go_wp2_with fail
    go_ret
    exact ⟨rfl, B2.out⟩
  go_wp2_with fail
  refine (Calls.mono (HH2.out w2 C2.out) ?_)
  rintro z w3 ⟨rfl, hb⟩
  have B3 : Hid (Below w.heap.size w w3) := B2.out.trans (hb.mono B2.out.size)
  clear hb
  cases y
  all_goals
    go_wp2_with fail
    go_ret
    exact ⟨rfl, B3.out⟩
theorem made2 (k : CAt) (c : Cmd) (w : World) (h : CmdAt w k c) (T : TabsA w) (kk : c.kind = 2) (f : ByteArray) (hf : (⟨(printA c.fr).toArray⟩ : ByteArray) = f) : Hid (Calls Tryz.prog 89 #[.agg #[.int .i64 c.kind, .slice k.pf c.fr.path.length k.fc, .string c.fr.type, .string c.fr.name, .int .i64 c.fr.key, .int .u64 c.fr.place, .string c.fr.word, .slice k.pt c.ad.path.length k.tc, .string c.ad.type, .string c.ad.name, .int .i64 c.ad.key, .int .u64 c.ad.place, .string c.ad.word, .slice k.p.pa c.r.a.path.length k.p.pc, .string c.r.a.type, .string c.r.a.name, .int .i64 c.r.a.key, .int .u64 c.r.a.place, .string c.r.a.word, .string c.r.prov, .string c.r.id, .slice k.p.ta c.r.attrs.length k.p.tc]] w fun e w' => e = .returned (.iface 142 (.agg #[.string f])) ∧ Below w.heap.size w w') := by
  obtain ⟨w1, hw1, V1, B1⟩ := cmd_new w k c
  obtain ⟨x0, x1, x2, x3, x4, x5, x6, x7, x8, x9, x10, x11, x12, x13, x14, x15, x16, x17, x18, x19, x20, x21⟩ := cmd_cells V1.out
  have HV : Hid (∀ W, Below w1.heap.size w1 W → W.heap[w.heap.size]? = some (.cells (cmdArr k c) 44 (0, 0))) := fun W hb => (hb.block _ (heap_lt V1.out)).trans V1.out
  have HC : Hid (∀ W, Below w1.heap.size w1 W → CmdAt W k c) := fun W hb => (h.stays B1.out).stays hb
  have HT : Hid (∀ W, Below w1.heap.size w1 W → TabsA W) := fun W hb => (T.stays B1.out).stays hb
  have HBW : Hid (∀ W, Below w1.heap.size w1 W → Below w.heap.size w W) := fun W hb => B1.out.trans (hb.mono B1.out.size)
  have HP : Hid (∀ W, Below w1.heap.size w1 W → Calls Tryz.prog 43 #[.agg #[.slice k.pf c.fr.path.length k.fc, .string c.fr.type, .string c.fr.name, .int .i64 c.fr.key, .int .u64 c.fr.place, .string c.fr.word]] W fun e w' => e = .returned (.string f) ∧ Below W.heap.size W w') := fun W hb => adr_print (HC.out W hb).f k.fc (HT.out W hb) hf
  have t1 : (c.kind == 1) = false := by rw [kk]; rfl
  have t2 : (c.kind == 2) = true := by rw [kk]; rfl
  clear hf kk
  show Calls _ _ _ _ _
  clear h T
  go_enter Tryz.func89, Tryz.ntmps89
  go_wp2_with fail
  refine (Calls.mono (HP.out w1 (Below.refl _ _)) ?_)
  rintro z w2 ⟨rfl, hb⟩
  have B2 : Hid (Below w.heap.size w w2) := B1.out.trans (hb.mono B1.out.size)
  clear hb
  go_wp2_with fail
  go_ret
  exact ⟨rfl, B2.out⟩
theorem made3 (k : CAt) (c : Cmd) (w : World) (h : CmdAt w k c) (T : TabsA w) (kk : c.kind = 3) (g : ByteArray) (hf : (⟨(printA c.r.a).toArray⟩ : ByteArray) = g) : Hid (Calls Tryz.prog 89 #[.agg #[.int .i64 c.kind, .slice k.pf c.fr.path.length k.fc, .string c.fr.type, .string c.fr.name, .int .i64 c.fr.key, .int .u64 c.fr.place, .string c.fr.word, .slice k.pt c.ad.path.length k.tc, .string c.ad.type, .string c.ad.name, .int .i64 c.ad.key, .int .u64 c.ad.place, .string c.ad.word, .slice k.p.pa c.r.a.path.length k.p.pc, .string c.r.a.type, .string c.r.a.name, .int .i64 c.r.a.key, .int .u64 c.r.a.place, .string c.r.a.word, .string c.r.prov, .string c.r.id, .slice k.p.ta c.r.attrs.length k.p.tc]] w fun e w' => e = .returned (.iface 144 (.agg #[.string g, .slice k.p.pa c.r.a.path.length k.p.pc, .string c.r.a.type, .string c.r.a.name, .int .i64 c.r.a.key, .int .u64 c.r.a.place, .string c.r.a.word, .string c.r.prov, .string c.r.id, .slice k.p.ta c.r.attrs.length k.p.tc])) ∧ Below w.heap.size w w') := by
  obtain ⟨w1, hw1, V1, B1⟩ := cmd_new w k c
  obtain ⟨x0, x1, x2, x3, x4, x5, x6, x7, x8, x9, x10, x11, x12, x13, x14, x15, x16, x17, x18, x19, x20, x21⟩ := cmd_cells V1.out
  have HV : Hid (∀ W, Below w1.heap.size w1 W → W.heap[w.heap.size]? = some (.cells (cmdArr k c) 44 (0, 0))) := fun W hb => (hb.block _ (heap_lt V1.out)).trans V1.out
  have HC : Hid (∀ W, Below w1.heap.size w1 W → CmdAt W k c) := fun W hb => (h.stays B1.out).stays hb
  have HT : Hid (∀ W, Below w1.heap.size w1 W → TabsA W) := fun W hb => (T.stays B1.out).stays hb
  have HBW : Hid (∀ W, Below w1.heap.size w1 W → Below w.heap.size w W) := fun W hb => B1.out.trans (hb.mono B1.out.size)
  have HP : Hid (∀ W, Below w1.heap.size w1 W → Calls Tryz.prog 43 #[.agg #[.slice k.p.pa c.r.a.path.length k.p.pc, .string c.r.a.type, .string c.r.a.name, .int .i64 c.r.a.key, .int .u64 c.r.a.place, .string c.r.a.word]] W fun e w' => e = .returned (.string g) ∧ Below W.heap.size W w') := fun W hb => adr_print ((HC.out W hb).r.adr (HC.out W hb).s) k.p.pc (HT.out W hb) hf
  have t1 : (c.kind == 1) = false := by rw [kk]; rfl
  have t2 : (c.kind == 2) = false := by rw [kk]; rfl
  clear hf kk
  have hdr : Below w1.heap.size w1 w1.drew := (Below.refl _ _).drew
  have HDR : Hid (Below w1.heap.size w1 w1.drew) := hdr
  clear hdr
  show Calls _ _ _ _ _
  clear h T
  go_enter Tryz.func89, Tryz.ntmps89
  go_wp2_with fail
  go_region_held3 (fun w' => w'.cell? ⟨w.heap.size, 0, none⟩ = some (.int .i64 c.kind) ∧ w'.cell? ⟨w.heap.size, 1, none⟩ = some (.slice k.pf c.fr.path.length k.fc) ∧ w'.cell? ⟨w.heap.size, 2, none⟩ = some (.string c.fr.type) ∧ w'.cell? ⟨w.heap.size, 3, none⟩ = some (.string c.fr.name) ∧ w'.cell? ⟨w.heap.size, 4, none⟩ = some (.int .i64 c.fr.key) ∧ w'.cell? ⟨w.heap.size, 5, none⟩ = some (.int .u64 c.fr.place) ∧ w'.cell? ⟨w.heap.size, 6, none⟩ = some (.string c.fr.word) ∧ w'.cell? ⟨w.heap.size, 7, none⟩ = some (.slice k.pt c.ad.path.length k.tc) ∧ w'.cell? ⟨w.heap.size, 8, none⟩ = some (.string c.ad.type) ∧ w'.cell? ⟨w.heap.size, 9, none⟩ = some (.string c.ad.name) ∧ w'.cell? ⟨w.heap.size, 10, none⟩ = some (.int .i64 c.ad.key) ∧ w'.cell? ⟨w.heap.size, 11, none⟩ = some (.int .u64 c.ad.place) ∧ w'.cell? ⟨w.heap.size, 12, none⟩ = some (.string c.ad.word) ∧ w'.cell? ⟨w.heap.size, 13, none⟩ = some (.slice k.p.pa c.r.a.path.length k.p.pc) ∧ w'.cell? ⟨w.heap.size, 14, none⟩ = some (.string c.r.a.type) ∧ w'.cell? ⟨w.heap.size, 15, none⟩ = some (.string c.r.a.name) ∧ w'.cell? ⟨w.heap.size, 16, none⟩ = some (.int .i64 c.r.a.key) ∧ w'.cell? ⟨w.heap.size, 17, none⟩ = some (.int .u64 c.r.a.place) ∧ w'.cell? ⟨w.heap.size, 18, none⟩ = some (.string c.r.a.word) ∧ w'.cell? ⟨w.heap.size, 19, none⟩ = some (.string c.r.prov) ∧ w'.cell? ⟨w.heap.size, 20, none⟩ = some (.string c.r.id) ∧ w'.cell? ⟨w.heap.size, 21, none⟩ = some (.slice k.p.ta c.r.attrs.length k.p.tc)) (go_keep)
    (first
      | (go_at_call 43; refine (Calls.mono (HP.out w1.drew HDR.out) ?_); rintro z w2 ⟨rfl, hb⟩; have C2 : Hid (Below w1.heap.size w1 w2) := HDR.out.trans (hb.mono HDR.out.size); clear hb; obtain ⟨a0, a1, a2, a3, a4, a5, a6, a7, a8, a9, a10, a11, a12, a13, a14, a15, a16, a17, a18, a19, a20, a21⟩ := cmd_cells (HV.out w2 C2.out)))
  all_goals
    go_wp2_with fail
    go_ret
    exact ⟨rfl, HBW.out _ C2.out⟩
theorem made1 (k : CAt) (c : Cmd) (w : World) (h : CmdAt w k c) (T : TabsA w) (kk : c.kind = 1) (f t : ByteArray) (hf : (⟨(printA c.fr).toArray⟩ : ByteArray) = f) (ht : (⟨(printA c.ad).toArray⟩ : ByteArray) = t) : Hid (Calls Tryz.prog 89 #[.agg #[.int .i64 c.kind, .slice k.pf c.fr.path.length k.fc, .string c.fr.type, .string c.fr.name, .int .i64 c.fr.key, .int .u64 c.fr.place, .string c.fr.word, .slice k.pt c.ad.path.length k.tc, .string c.ad.type, .string c.ad.name, .int .i64 c.ad.key, .int .u64 c.ad.place, .string c.ad.word, .slice k.p.pa c.r.a.path.length k.p.pc, .string c.r.a.type, .string c.r.a.name, .int .i64 c.r.a.key, .int .u64 c.r.a.place, .string c.r.a.word, .string c.r.prov, .string c.r.id, .slice k.p.ta c.r.attrs.length k.p.tc]] w fun e w' => e = .returned (.iface 140 (.agg #[.string f, .string t, .slice k.pt c.ad.path.length k.tc, .string c.ad.type, .string c.ad.name, .int .i64 c.ad.key, .int .u64 c.ad.place, .string c.ad.word])) ∧ Below w.heap.size w w') := by
  obtain ⟨w1, hw1, V1, B1⟩ := cmd_new w k c
  obtain ⟨x0, x1, x2, x3, x4, x5, x6, x7, x8, x9, x10, x11, x12, x13, x14, x15, x16, x17, x18, x19, x20, x21⟩ := cmd_cells V1.out
  have HV : Hid (∀ W, Below w1.heap.size w1 W → W.heap[w.heap.size]? = some (.cells (cmdArr k c) 44 (0, 0))) := fun W hb => (hb.block _ (heap_lt V1.out)).trans V1.out
  have HC : Hid (∀ W, Below w1.heap.size w1 W → CmdAt W k c) := fun W hb => (h.stays B1.out).stays hb
  have HT : Hid (∀ W, Below w1.heap.size w1 W → TabsA W) := fun W hb => (T.stays B1.out).stays hb
  have HBW : Hid (∀ W, Below w1.heap.size w1 W → Below w.heap.size w W) := fun W hb => B1.out.trans (hb.mono B1.out.size)
  have HP : Hid (∀ W, Below w1.heap.size w1 W → Calls Tryz.prog 43 #[.agg #[.slice k.pf c.fr.path.length k.fc, .string c.fr.type, .string c.fr.name, .int .i64 c.fr.key, .int .u64 c.fr.place, .string c.fr.word]] W fun e w' => e = .returned (.string f) ∧ Below W.heap.size W w') := fun W hb => adr_print (HC.out W hb).f k.fc (HT.out W hb) hf
  have HP2 : Hid (∀ W, Below w1.heap.size w1 W → Calls Tryz.prog 43 #[.agg #[.slice k.pt c.ad.path.length k.tc, .string c.ad.type, .string c.ad.name, .int .i64 c.ad.key, .int .u64 c.ad.place, .string c.ad.word]] W fun e w' => e = .returned (.string t) ∧ Below W.heap.size W w') := fun W hb => adr_print (HC.out W hb).t k.tc (HT.out W hb) ht
  have t1 : (c.kind == 1) = true := by rw [kk]; rfl
  clear hf ht kk
  have hdr : Below w1.heap.size w1 w1.drew := (Below.refl _ _).drew
  have HDR : Hid (Below w1.heap.size w1 w1.drew) := hdr
  clear hdr
  show Calls _ _ _ _ _
  clear h T
  go_enter Tryz.func89, Tryz.ntmps89
  go_wp2_with fail
  go_region_held3 (fun w' => w'.cell? ⟨w.heap.size, 0, none⟩ = some (.int .i64 c.kind) ∧ w'.cell? ⟨w.heap.size, 1, none⟩ = some (.slice k.pf c.fr.path.length k.fc) ∧ w'.cell? ⟨w.heap.size, 2, none⟩ = some (.string c.fr.type) ∧ w'.cell? ⟨w.heap.size, 3, none⟩ = some (.string c.fr.name) ∧ w'.cell? ⟨w.heap.size, 4, none⟩ = some (.int .i64 c.fr.key) ∧ w'.cell? ⟨w.heap.size, 5, none⟩ = some (.int .u64 c.fr.place) ∧ w'.cell? ⟨w.heap.size, 6, none⟩ = some (.string c.fr.word) ∧ w'.cell? ⟨w.heap.size, 7, none⟩ = some (.slice k.pt c.ad.path.length k.tc) ∧ w'.cell? ⟨w.heap.size, 8, none⟩ = some (.string c.ad.type) ∧ w'.cell? ⟨w.heap.size, 9, none⟩ = some (.string c.ad.name) ∧ w'.cell? ⟨w.heap.size, 10, none⟩ = some (.int .i64 c.ad.key) ∧ w'.cell? ⟨w.heap.size, 11, none⟩ = some (.int .u64 c.ad.place) ∧ w'.cell? ⟨w.heap.size, 12, none⟩ = some (.string c.ad.word) ∧ w'.cell? ⟨w.heap.size, 13, none⟩ = some (.slice k.p.pa c.r.a.path.length k.p.pc) ∧ w'.cell? ⟨w.heap.size, 14, none⟩ = some (.string c.r.a.type) ∧ w'.cell? ⟨w.heap.size, 15, none⟩ = some (.string c.r.a.name) ∧ w'.cell? ⟨w.heap.size, 16, none⟩ = some (.int .i64 c.r.a.key) ∧ w'.cell? ⟨w.heap.size, 17, none⟩ = some (.int .u64 c.r.a.place) ∧ w'.cell? ⟨w.heap.size, 18, none⟩ = some (.string c.r.a.word) ∧ w'.cell? ⟨w.heap.size, 19, none⟩ = some (.string c.r.prov) ∧ w'.cell? ⟨w.heap.size, 20, none⟩ = some (.string c.r.id) ∧ w'.cell? ⟨w.heap.size, 21, none⟩ = some (.slice k.p.ta c.r.attrs.length k.p.tc)) (go_keep)
    (first
      | (go_at_call 43; refine (Calls.mono (HP2.out w2 C2.out) ?_); rintro z w3 ⟨rfl, hb⟩; have C3 : Hid (Below w1.heap.size w1 w3) := C2.out.trans (hb.mono C2.out.size); clear hb; obtain ⟨b0, b1, b2, b3, b4, b5, b6, b7, b8, b9, b10, b11, b12, b13, b14, b15, b16, b17, b18, b19, b20, b21⟩ := cmd_cells (HV.out w3 C3.out))
      | (go_at_call 43; refine (Calls.mono (HP.out w1.drew HDR.out) ?_); rintro z w2 ⟨rfl, hb⟩; have C2 : Hid (Below w1.heap.size w1 w2) := HDR.out.trans (hb.mono HDR.out.size); clear hb; obtain ⟨a0, a1, a2, a3, a4, a5, a6, a7, a8, a9, a10, a11, a12, a13, a14, a15, a16, a17, a18, a19, a20, a21⟩ := cmd_cells (HV.out w2 C2.out)))
  all_goals
    go_wp2_with fail
    go_ret
    exact ⟨rfl, HBW.out _ C3.out⟩
end Go.Proofs.YtehghladpnpcoaaGreatDoor.State.Edit
