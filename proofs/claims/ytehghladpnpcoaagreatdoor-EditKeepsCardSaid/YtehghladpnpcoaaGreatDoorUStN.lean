/- state.copied. -/
import Derived.Test.YtehghladpnpcoaaGreatDoorUStG
import Derived.Laws.OwnMore
import Derived.OwnWalk
set_option linter.unusedVariables false
set_option linter.unusedSimpArgs false
set_option maxRecDepth 100000
set_option maxHeartbeats 8000000
namespace Go.Proofs.YtehghladpnpcoaaGreatDoor.State
open Go.RowKit Go.Shelf Utf Strs Go.Proofs.YtehghladpnpcoaaGreatDoor.Addr
open Jdec (IsTexts Turn infoStr gb_set gb_below gb_refl)
def Part (B : Nat) (w : World) (b : Nat) : Prop := B <= b /\ ∀ cs fr, w.heap[b]? ≠ some (.cells cs 38 fr)
theorem part_turn {w w' : World} {B B' : Nat} (hs : w.heap.size <= w'.heap.size) (hB : B' <= B) (h : ∀ b, Part B w b -> b < w.heap.size -> w'.heap[b]? = w.heap[b]?) : Turn w w' (Part B w) (Part B' w') :=
 ⟨hs, fun b hb hl => ⟨h b hb hl, Nat.le_trans hB hb.1, fun cs fr e => hb.2 cs fr (by rw [<-h b hb hl]; exact e)⟩⟩
def PartT (T : TypeId) (B : Nat) (w : World) (b : Nat) : Prop := B <= b /\ ∃ cs, w.heap[b]? = some (.cells cs T (0, 0))
theorem partT_turn {T : TypeId} {w w' : World} {B B' : Nat} (hs : w.heap.size <= w'.heap.size) (hB : B' <= B) (h : ∀ b, PartT T B w b -> b < w.heap.size -> w'.heap[b]? = w.heap[b]?) : Turn w w' (PartT T B w) (PartT T B' w') :=
 ⟨hs, fun b hb hl => ⟨h b hb hl, Nat.le_trans hB hb.1, by obtain ⟨_, cs, e⟩ := hb; exact ⟨cs, by rw [h b ⟨by assumption, cs, e⟩ hl]; exact e⟩⟩⟩
theorem partT_below {T : TypeId} {w w' : World} {B B' : Nat} (h : Below w.heap.size w w') (hB : B' <= B) : Turn w w' (PartT T B w) (PartT T B' w') := partT_turn h.size hB (fun b _ hl => h.block b hl)
theorem partT_grown {T U : TypeId} {w w' : World} {B B' k : Nat} {cs : Array Value} {fr : Nat × Nat} (hT : T ≠ U) (h : w.grownBy w' (some k)) (hB : B' <= B) (hk : w.heap[k]? = some (.cells cs U fr)) : Turn w w' (PartT T B w) (PartT T B' w') :=
 partT_turn h.size hB (fun b hb hl => h.block b hl (fun e => by
  injection e with e; subst e
  obtain ⟨_, cs', e2⟩ := hb;rw [hk] at e2;injection e2 with e2
  injection e2 with _ e2 _
  exact hT e2.symm))
theorem partT_part {T : TypeId} {w : World} {B b : Nat} (hT : T ≠ 38) (h : PartT T B w b) : Part B w b := ⟨h.1, fun cs fr e => by
 obtain ⟨_, cs', e2⟩ := h;rw [e] at e2;injection e2 with e2
 injection e2 with _ e2 _
 exact hT e2.symm⟩
theorem texts_and {w : World} {A P : Nat -> Prop} {a : Option Addr} {l : List ByteArray} (h : IsTexts w A a l) (hP : ∀ b o, a = some ⟨b, o, none⟩ -> l ≠ [] -> A b -> P b) : IsTexts w P a l := by
 rcases h with h | ⟨b, o, ha, hA, hb, hc⟩
 ·exact .inl h
 ·by_cases h0 : l = []
  ·exact .inl h0
  ·exact .inr ⟨b, o, ha, hP b o ha h0 hA, hb, hc⟩
theorem infoPair : (Tryz.prog.info? 72).map (fun i => (i.zero, i.size, i.bytes)) = some (some (.agg #[.string ⟨#[]⟩, .string ⟨#[]⟩]), 2, 32) := by kernel_rfl
def pairC (x : ByteArray × ByteArray) : List Value := [.string x.1, .string x.2]
theorem pairs_len (l : List (ByteArray × ByteArray)) : (l.flatMap pairC).length = l.length * 2 := by
 induction l with
 | nil => rfl
 | cons x t ih => rw [List.flatMap_cons, List.length_append, ih, List.length_cons]; simp [pairC]; omega
theorem pairs_get : ∀ (l : List (ByteArray × ByteArray)) (i : Nat) (h : i < l.length), (l.flatMap pairC)[i * 2]? = some (.string l[i].1) /\ (l.flatMap pairC)[i * 2 + 1]? = some (.string l[i].2) := by
 intro l
 induction l with
 | nil => intro i h; cases h
 | cons x t ih =>
  intro i h
  cases i with
  | zero => exact ⟨rfl, rfl⟩
  | succ i =>
   have hi : i < t.length := by simpa using h
   have := ih i hi;rw [List.flatMap_cons];have e1 : (pairC x ++ t.flatMap pairC)[(i + 1) * 2]? = (t.flatMap pairC)[i * 2]? := by
    rw [List.getElem?_append_right (by simp [pairC]; omega)]
    congr 1
    simp [pairC]; omega
   have e2 : (pairC x ++ t.flatMap pairC)[(i + 1) * 2 + 1]? = (t.flatMap pairC)[i * 2 + 1]? := by
    rw [List.getElem?_append_right (by simp [pairC]; omega)]
    congr 1
    simp [pairC]; omega
   rw [e1, e2];exact this
theorem pairs_one (l : List (ByteArray × ByteArray)) : ∀ u ∈ l.flatMap pairC, u.oneCell' = true := by
 intro u hu
 obtain ⟨x, _, hx⟩ := List.mem_flatMap.1 hu;simp only [pairC, List.mem_cons, List.not_mem_nil, or_false] at hx
 rcases hx with rfl | rfl <;> rfl
theorem zrec_new (w : World) : ∃ w1, w.alloc (.cells #[.slice none 0 0, .string ⟨#[]⟩, .string ⟨#[]⟩, .int .i64 0, .int .u64 0, .string ⟨#[]⟩, .string ⟨#[]⟩, .string ⟨#[]⟩, .slice none 0 0] 38) = w1 /\ Hid (w1.heap[w.heap.size]? = some (.cells (recArr At.zero Rec.zero) 38 (0, 0))) /\ Hid (Below w.heap.size w w1) /\ Hid (w1.heap.size = w.heap.size + 1) :=
 ⟨_, rfl, heap_alloc_new _ _, (Below.refl _ _).alloc (Nat.le_refl _) _, by simp [Hid]⟩
theorem set9 {w : World} {b : Nat} {p : At} {r : Rec} {T : TypeId} (h : w.heap[b]? = some (.cells (recArr p r) T (0, 0))) (q : At) (s : Rec) : (((((((((w.setCell ⟨b, 0, none⟩ (.slice q.pa s.a.path.length q.pc)).setCell ⟨b, 1, none⟩ (.string s.a.type)).setCell ⟨b, 2, none⟩ (.string s.a.name)).setCell ⟨b, 3, none⟩ (.int .i64 s.a.key)).setCell ⟨b, 4, none⟩ (.int .u64 s.a.place)).setCell ⟨b, 5, none⟩ (.string s.a.word)).setCell ⟨b, 6, none⟩ (.string s.prov)).setCell ⟨b, 7, none⟩ (.string s.id)).setCell ⟨b, 8, none⟩ (.slice q.ta s.attrs.length q.tc)).heap[b]? = some (.cells (recArr q s) T (0, 0)) := by
 have h0 := heap_set_same h (i := 0) (.slice q.pa s.a.path.length q.pc);have h1 := heap_set_same h0 (i := 1) (.string s.a.type);have h2 := heap_set_same h1 (i := 2) (.string s.a.name);have h3 := heap_set_same h2 (i := 3) (.int .i64 s.a.key);have h4 := heap_set_same h3 (i := 4) (.int .u64 s.a.place);have h5 := heap_set_same h4 (i := 5) (.string s.a.word);have h6 := heap_set_same h5 (i := 6) (.string s.prov);have h7 := heap_set_same h6 (i := 7) (.string s.id);have h8 := heap_set_same h7 (i := 8) (.slice q.ta s.attrs.length q.tc);rw [h8];simp [recArr]
theorem gb9 (w : World) (b : Nat) (x0 x1 x2 x3 x4 x5 x6 x7 x8 : Value) : w.grownBy (((((((((w.setCell ⟨b, 0, none⟩ x0).setCell ⟨b, 1, none⟩ x1).setCell ⟨b, 2, none⟩ x2).setCell ⟨b, 3, none⟩ x3).setCell ⟨b, 4, none⟩ x4).setCell ⟨b, 5, none⟩ x5).setCell ⟨b, 6, none⟩ x6).setCell ⟨b, 7, none⟩ x7).setCell ⟨b, 8, none⟩ x8) (some b) :=
 (((((((((gb_set _ _ _ _).trans (gb_set _ _ _ _)).trans (gb_set _ _ _ _)).trans (gb_set _ _ _ _)).trans (gb_set _ _ _ _)).trans (gb_set _ _ _ _)).trans (gb_set _ _ _ _)).trans (gb_set _ _ _ _)).trans (gb_set _ _ _ _))
theorem rec_frozen {w : World} {b : Nat} {p : At} {r : Rec} (h : w.heap[b]? = some (.cells (recArr p r) 38 (0, 0))) : w.frozen? ⟨b, 0, none⟩ = false /\ w.frozen? ⟨b, 1, none⟩ = false /\ w.frozen? ⟨b, 2, none⟩ = false /\ w.frozen? ⟨b, 3, none⟩ = false /\ w.frozen? ⟨b, 4, none⟩ = false /\ w.frozen? ⟨b, 5, none⟩ = false /\ w.frozen? ⟨b, 6, none⟩ = false /\ w.frozen? ⟨b, 7, none⟩ = false /\ w.frozen? ⟨b, 8, none⟩ = false :=
 ⟨frozen_of h 0, frozen_of h 1, frozen_of h 2, frozen_of h 3, frozen_of h 4, frozen_of h 5, frozen_of h 6, frozen_of h 7, frozen_of h 8⟩
def recL (x : At × Rec) : List Value := (recArr x.1 x.2).toList
theorem recs_get : ∀ (l : List (At × Rec)) (i : Nat) (h : i < l.length) (j : Nat), j < 9 -> (l.flatMap recL)[i * 9 + j]? = (recArr l[i].1 l[i].2)[j]? := by
 intro l
 induction l with
 | nil => intro i h; cases h
 | cons x t ih =>
  intro i h j hj
  have hx : (recL x).length = 9 := by simp [recL, recArr]
  rw [List.flatMap_cons]
  cases i with
  | zero =>
   rw [List.getElem?_append_left (by omega)];simp [recL]
  | succ i =>
   have hi : i < t.length := by simpa using h
   rw [List.getElem?_append_right (by omega), hx, show (i + 1) * 9 + j - 9 = i * 9 + j by omega];exact ih i hi j hj
theorem recs_one (l : List (At × Rec)) : ∀ u ∈ l.flatMap recL, u.oneCell' = true := by
 intro u hu
 obtain ⟨x, _, hx⟩ := List.mem_flatMap.1 hu;simp only [recL, recArr, List.mem_cons, List.not_mem_nil, or_false] at hx
 rcases hx with rfl | rfl | rfl | rfl | rfl | rfl | rfl | rfl | rfl <;> rfl
def RecRow (w : World) (B : Nat) (v : Value) (l : List Rec) : Prop := ∃ ps : List (At × Rec), ps.map (·.2) = l /\ w.ownsRow B 38 9 v ps.length (ps.flatMap recL) /\ ∀ x ∈ ps, IsRec w (Part B w) x.1 x.2
theorem RecRow.nil (w : World) (B : Nat) : RecRow w B (.slice none 0 0) [] := ⟨[], rfl, World.ownsRow_nil _ _ _ _, fun x h => by cases h⟩
theorem RecRow.cap {w : World} {B : Nat} {a : Option Addr} {c n : Nat} {l : List Rec} (h : RecRow w B (.slice a n c) l) : l.length <= c := by
 obtain ⟨ps, rfl, ho, _⟩ := h;rw [List.length_map];rcases ho.2 with ⟨_, e0⟩ | ⟨g, cap, cur, hv, _, _, hc, _⟩
 ·omega
 ·injection hv with _ _ hv; omega
theorem RecRow.kept {w w' : World} {B : Nat} {v : Value} {l : List Rec} {r : Option Nat} (h : RecRow w B v l) (hg : w.grownBy w' r) (hr : ∀ b, r = some b -> b < B) : RecRow w' B v l := by
 obtain ⟨ps, hl, ho, hi⟩ := h;refine ⟨ps, hl, World.ownsRow.kept ho hg ?_, fun x hx => (hi x hx).turn (part_turn hg.size (Nat.le_refl _) (fun b hb hlt => hg.block b hlt (fun e => by have := hr b e.symm; have := hb.1; omega)))⟩
 cases hv : v.ownBlock with
 | none => exact .inl rfl
 | some k => exact .inr (fun e => by have h1 := hr k e.symm; have h2 := (World.ownsRow.lt ho k hv).1; omega)
theorem RecRow.below {w w' : World} {B : Nat} {v : Value} {l : List Rec} (h : RecRow w B v l) (hb : Below w.heap.size w w') : RecRow w' B v l := h.kept (gb_below hb none) (fun b e => by cases e)
theorem RecRow.recs {w : World} {B : Nat} {a : Option Addr} {c : Nat} {l : List Rec} (h : RecRow w B (.slice a l.length c) l) : IsRecs w (fun b => B <= b) a l := by
 obtain ⟨ps, rfl, ho, hi⟩ := h;rw [List.length_map] at ho;rcases Nat.eq_zero_or_pos ps.length with h0 | h0
 ·left; rw [List.length_eq_zero_iff.1 h0]; rfl
 ·obtain ⟨g, rfl⟩ : ∃ g, a = some ⟨g, 0, none⟩ := by
   rcases ho.2 with ⟨_, e0⟩ | ⟨g, cap, cur, hv, _⟩
   ·omega
   ·injection hv with hv; exact ⟨g, hv⟩
  have hgl := World.ownsRow.lt ho g (by simp [Value.ownBlock]);refine .inr ⟨g, 0, rfl, hgl.1, hgl.2, fun i => (ps.getD i (At.zero, Rec.zero)).1, fun i hi2 => ?_⟩;have hip : i < ps.length := by simpa using hi2
  have hgd : ps.getD i (At.zero, Rec.zero) = ps[i] := by simp [List.getD_eq_getElem?_getD, hip]
  show (∀ j u, (recArr (ps.getD i (At.zero, Rec.zero)).1 (ps.map (·.2))[i])[j]? = some u -> w.cell? ⟨g, 0 + i * 9 + j, none⟩ = some u) /\ IsRec w (fun b => B <= b) (ps.getD i (At.zero, Rec.zero)).1 (ps.map (·.2))[i];rw [hgd, List.getElem_map];refine ⟨fun j u hu => ?_, (hi _ (List.getElem_mem hip)).turn (Turn.mono _ (fun b hb _ => hb.1))⟩;have hj : j < 9 := by
   have := (Array.getElem?_eq_some_iff.1 hu).1
   simpa [recArr] using this
  rw [Nat.zero_add, World.ownsRow.cellAt ho (i * 9 + j) (by omega), recs_get ps i hip j hj];exact hu
theorem infoRec : (Tryz.prog.info? 38).map (fun i => (i.zero, i.size, i.bytes)) = some (some (.agg #[.slice none 0 0, .string ⟨#[]⟩, .string ⟨#[]⟩, .int .i64 0, .int .u64 0, .string ⟨#[]⟩, .string ⟨#[]⟩, .string ⟨#[]⟩, .slice none 0 0]), 9, 144) := by kernel_rfl
theorem app_rec (w : World) (B : Nat) (v : Value) (l : List Rec) (p : At) (r : Rec) (h : RecRow w B v l) (hI : IsRec w (Part B w) p r) (hl : l.length <= 3000) (hB : B <= w.heap.size) :
  ∃ g cap w', (Builtin.append_ #[23, 23] 23 #[v, .slice (some ⟨w.heap.size, 0, none⟩) 1 1]).run Tryz.prog (w.alloc (.cells #[.slice p.pa r.a.path.length p.pc, .string r.a.type, .string r.a.name, .int .i64 r.a.key, .int .u64 r.a.place, .string r.a.word, .string r.prov, .string r.id, .slice p.ta r.attrs.length p.tc] 38)) = .ok (.slice (some ⟨g, 0, none⟩) (l.length + 1) cap) w' ∧
   Hid (RecRow w' B (.slice (some ⟨g, 0, none⟩) (l.length + 1) cap) (l ++ [r])) /\ Hid (w.grownBy w' v.ownBlock) /\ Hid (B <= g) := by
 obtain ⟨ps, rfl, ho, hi⟩ := h;obtain ⟨i0, hi0, hz0, hz1, hz2⟩ := info_parts infoRec;obtain ⟨w1, hw1, V1, B1⟩ := rec_new w p r;have hnews : ∀ j u, (recL (p, r))[j]? = some u -> w1.cell? ((⟨w.heap.size, 0, none⟩ : Addr).add j) = some u := fun j u hu => by
  have e : (⟨w.heap.size, 0, none⟩ : Addr).add j = ⟨w.heap.size, j, none⟩ := by unfold Addr.add; split <;> simp_all
  rw [e, cell_of V1.out j]
  simpa [recL] using hu
 have ho1 : w1.ownsRow B 38 9 v ps.length (ps.flatMap recL) := World.ownsRow.kept ho (gb_below B1.out none) (by cases v.ownBlock <;> simp);have hs1 := B1.out.size;rw [List.length_map] at hl;obtain ⟨v', w', hr, hn, hg, _⟩ := run_append_own (P := Tryz.prog) w1 B 23 23 38 i0 _ 9 144 Tryz.underlying23 hi0 hz0 hz1 hz2 rfl (by decide) v ps.length (ps.flatMap recL) ho1 ⟨w.heap.size, 0, none⟩ 1 1 (recL (p, r)) (by simp [recL, recArr]) hnews (recs_one [(p, r)] |> fun h u hu => h u (by simpa using hu)) (by unfold maxLen; omega) (by omega) (by omega);have hnl : ps.flatMap recL ++ recL (p, r) = (ps ++ [(p, r)]).flatMap recL := by simp
 rw [hnl] at hn;obtain ⟨g, c, rfl⟩ : ∃ g c, v' = .slice (some ⟨g, 0, none⟩) (ps.length + 1) c := by
  rcases hn.2 with ⟨rfl, e0⟩ | ⟨g, cap, cur, rfl, _⟩
  ·omega
  ·exact ⟨_, _, rfl⟩
 have hgl := World.ownsRow.lt hn g (by simp [Value.ownBlock]);have hgw : w.grownBy w' v.ownBlock := ⟨hg.os.trans B1.out.os, hg.tape.trans B1.out.tape, hg.output.trans B1.out.output, Nat.le_trans hs1 hg.size, fun k hk hne => (hg.block k (by omega) hne).trans (B1.out.block k hk)⟩;have hturn : Turn w w' (Part B w) (Part B w') := part_turn hgw.size (Nat.le_refl _) (fun b hb hlt => hgw.block b hlt (fun e => by
  rcases ho.2 with ⟨rfl, _⟩ | ⟨g2, cap2, cur2, rfl, _, hb2, _⟩
  ·cases e
  ·simp [Value.ownBlock] at e
   subst e;exact hb.2 _ _ hb2))
 refine ⟨g, c, w', ?_, ⟨ps ++ [(p, r)], by simp, ?_, fun x hx => ?_⟩, hgw, hgl.1⟩
 ·rw [hw1, List.length_map]; exact hr
 ·rw [List.length_append, List.length_singleton, List.length_map]; exact hn
 ·rcases List.mem_append.1 hx with hx | hx
  ·exact (hi x hx).turn hturn
  ·rw [List.mem_singleton.1 hx]; exact hI.turn hturn
def JnPost (s : Sta) (l : List Rec) (w : World) (e : Ending) (w' : World) : Prop := ∃ a c, e = .returned (staV a c { s with recs := l }) /\ IsRecs w' (fun b => w.heap.size <= b) a l /\ l.length <= c /\ Below w.heap.size w w'
theorem set3 {w : World} {b : Nat} {a a' : Option Addr} {c c' : Nat} {s t : Sta} {T : TypeId} (h : w.heap[b]? = some (.cells (staArr a c s) T (0, 0))) : (((w.setCell ⟨b, 0, none⟩ (.int .u64 t.serial)).setCell ⟨b, 1, none⟩ (.string t.lin)).setCell ⟨b, 2, none⟩ (.slice a' t.recs.length c')).heap[b]? = some (.cells (staArr a' c' t) T (0, 0)) := by
 have h0 := heap_set_same h (i := 0) (.int .u64 t.serial);have h1 := heap_set_same h0 (i := 1) (.string t.lin);have h2 := heap_set_same h1 (i := 2) (.slice a' t.recs.length c');rw [h2];simp [staArr]
theorem zsta_new (w : World) : ∃ w1, w.alloc (.cells #[.int .u64 0, .string ⟨#[]⟩, .slice none 0 0] 25) = w1 /\ Hid (w1.heap[w.heap.size]? = some (.cells (staArr none 0 ⟨0, ⟨#[]⟩, []⟩) 25 (0, 0))) /\ Hid (Below w.heap.size w w1) /\ Hid (w1.heap.size = w.heap.size + 1) :=
 ⟨_, rfl, heap_alloc_new _ _, (Below.refl _ _).alloc (Nat.le_refl _) _, by simp [Hid]⟩
end Go.Proofs.YtehghladpnpcoaaGreatDoor.State
set_option linter.unusedVariables false
set_option linter.unusedSimpArgs false
set_option maxRecDepth 100000
set_option maxHeartbeats 16000000
namespace Go.Proofs.YtehghladpnpcoaaGreatDoor.State
open Go.RowKit Go.Shelf Utf Strs Go.Proofs.YtehghladpnpcoaaGreatDoor.Addr
open Jdec (IsTexts Turn infoStr gb_set gb_below gb_refl)
theorem less_trans {x y z : List UInt8} (h1 : Op.bytesLess x y = true) (h2 : Op.bytesLess y z = true) : Op.bytesLess x z = true := by
 rw [bytesLess_eq, dtQ] at *;exact List.lt_trans h1 h2
theorem less_irrefl (x : List UInt8) : Op.bytesLess x x = false := by
 rw [bytesLess_eq, dfQ];exact List.lt_irrefl x
def Sorted (l : List Rec) : Prop := ∀ i j (hi : i < l.length) (hj : j < l.length), i < j -> Op.bytesLess (printA l[i].a) (printA l[j].a) = true
structure Place (l : List Rec) (t : List UInt8) (i : Nat) : Prop where
 n : i <= l.length
 lo : ∀ m (h : m < l.length), m < i -> Op.bytesLess (printA l[m].a) t = true
 hi : ∀ m (h : m < l.length), i <= m -> Op.bytesLess (printA l[m].a) t = false
theorem RecsAt.nil (w : World) (a : Option Addr) : RecsAt w a [] := ⟨.inl rfl, by simp, fun r h => by cases h⟩
def Is (l : List Rec) (t : List UInt8) (i : Nat) : Prop := ∃ h : i < l.length, printA l[i].a = t
theorem one_rec {w : World} {b : Nat} {p : At} {r : Rec} (h : w.heap[b]? = some (.cells (recArr p r) 38 (0, 0))) (hI : IsRec w (fun _ => True) p r) (hs : Small r) : RecsAt w (some ⟨b, 0, none⟩) [r] := by
 refine ⟨.inr ⟨b, 0, rfl, trivial, heap_lt h, fun _ => p, fun i hi => ?_⟩, by simp, fun x hx => by rw [List.mem_singleton.1 hx]; exact hs⟩;obtain rfl : i = 0 := by simpa using hi
 refine ⟨fun j u hu => ?_, hI⟩;rw [Nat.zero_mul, Nat.zero_add, cell_of h j];exact hu
theorem rec_ok (r : Rec) (p : At) (w : World) (h : IsRec w (fun _ => True) p r) (hs : Small r) (T : TabsA w) (b : Bool) (hb : recB r = b) : Hid (Calls Tryz.prog 14 #[.agg #[.slice p.pa r.a.path.length p.pc, .string r.a.type, .string r.a.name, .int .i64 r.a.key, .int .u64 r.a.place, .string r.a.word, .string r.prov, .string r.id, .slice p.ta r.attrs.length p.tc]] w fun e w' => e = .returned (.bool b) /\ Below w.heap.size w w') := by
 rw [<-hb];exact record_any r p w h hs T
def Next (l : List Rec) (t : List UInt8) (i nx : Nat) : Prop := (Is l t i /\ nx = i + 1) ∨ (¬ Is l t i /\ nx = i)
end Go.Proofs.YtehghladpnpcoaaGreatDoor.State
