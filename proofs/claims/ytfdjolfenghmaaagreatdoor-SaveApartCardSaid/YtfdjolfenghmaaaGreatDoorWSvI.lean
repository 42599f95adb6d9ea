/- save.Tree. -/
import Derived.Test.YtfdjolfenghmaaaGreatDoorWSvH
import Derived.Test.YtfdjolfenghmaaaGreatDoorWSvO
set_option linter.unusedVariables false
set_option linter.unusedSimpArgs false
set_option maxRecDepth 100000
set_option maxHeartbeats 64000000
namespace Go.Proofs.YtfdjolfenghmaaaGreatDoor.Save
open Go.RowKit Go.Shelf Utf Strs Go.Proofs.YtfdjolfenghmaaaGreatDoor.Addr Go.Proofs.YtfdjolfenghmaaaGreatDoor.State
open Jdec (Raw JV IsV IsTexts Turn gb_set gb_below gb_refl gb8 set8 val_ret val_cells own_new KidsA listOf objectOf)
theorem Caps.stays {w w' : World} {a : Option Addr} {l : List Rec} (h : Caps w a l) (hb : Below w.heap.size w w') : Caps w' a l := fun i hi b o e => by
  obtain ⟨pa, pc, h1, h2⟩ := h i hi b o e;exact ⟨pa, pc, by rw [cell_blk (hb.block b (World.block_lt_of_cell? w _ h1))]; exact h1, h2⟩
/-! ## A key in memory -/
def keyArr (k : Key) : Array Value := #[.string k.1, .string k.2.1, .string k.2.2.1, .string k.2.2.2]
theorem key_new (w : World) : ∃ w1, w.alloc (.cells #[.string ⟨#[]⟩, .string ⟨#[]⟩, .string ⟨#[]⟩, .string ⟨#[]⟩] 60) = w1 /\ Hid (w1.heap[w.heap.size]? = some (.cells #[.string ⟨#[]⟩, .string ⟨#[]⟩, .string ⟨#[]⟩, .string ⟨#[]⟩] 60 (0, 0))) /\ Hid (Below w.heap.size w w1) :=
  ⟨_, rfl, heap_alloc_new _ _, (Below.refl _ _).alloc (Nat.le_refl _) _⟩
theorem gb4 (w : World) (b : Nat) (x0 x1 x2 x3 : Value) : w.grownBy ((((w.setCell ⟨b, 0, none⟩ x0).setCell ⟨b, 1, none⟩ x1).setCell ⟨b, 2, none⟩ x2).setCell ⟨b, 3, none⟩ x3) (some b) :=
  (((gb_set _ _ _ _).trans (gb_set _ _ _ _)).trans (gb_set _ _ _ _)).trans (gb_set _ _ _ _)
theorem key_set {w : World} {b : Nat} {x0 x1 x2 x3 : Value} {T : TypeId} (h : w.heap[b]? = some (.cells #[x0, x1, x2, x3] T (0, 0))) {s0 s1 s2 s3 : ByteArray} : ((((w.setCell ⟨b, 0, none⟩ (.string s0)).setCell ⟨b, 1, none⟩ (.string s1)).setCell ⟨b, 2, none⟩ (.string s2)).setCell ⟨b, 3, none⟩ (.string s3)).heap[b]? = some (.cells (keyArr (s0, s1, s2, s3)) T (0, 0)) := by
  rw [heap_set_same (heap_set_same (heap_set_same (heap_set_same h (i := 0) _) (i := 1) _) (i := 2) _) (i := 3) _]; simp [keyArr]
theorem key_set_other (w : World) (b : Nat) (x0 x1 x2 x3 : Value) {k : Nat} (hk : k < b) (h : k < w.heap.size) : ((((w.setCell ⟨b, 0, none⟩ x0).setCell ⟨b, 1, none⟩ x1).setCell ⟨b, 2, none⟩ x2).setCell ⟨b, 3, none⟩ x3).heap[k]? = w.heap[k]? :=
  (gb4 w b x0 x1 x2 x3).block k h (by simp; omega)
theorem group_add {n : Nat} {gs : List (List Rec)} (h : ∀ g ∈ gs, g.length <= n) (r : Rec) : ∀ g ∈ addG gs r, g.length <= n + 1 := by
  unfold addG;split
  next i hp =>
    obtain ⟨hi, _⟩ := place_some hp;intro g hg
    rcases (mem_set_iff hi).1 hg with rfl | ⟨j, hj, _, rfl⟩
    · rw [List.length_append, List.getD_eq_getElem?_getD, List.getElem?_eq_getElem hi];have := h _ (List.getElem_mem hi);simp; exact this
    · have := h _ (List.getElem_mem hj); omega
  next hp =>
    intro g hg
    rcases List.mem_append.1 hg with hg | hg
    · have := h g hg; omega
    · rw [List.mem_singleton.1 hg]; simp
theorem group_fold : ∀ (m : List Rec) (n : Nat) (gs : List (List Rec)), (∀ g ∈ gs, g.length <= n) -> ∀ g ∈ m.foldl addG gs, g.length <= n + m.length
  | [], n, gs, h => h
  | r :: m, n, gs, h => fun g hg => by
    have := group_fold m (n + 1) _ (group_add h r) g hg;rw [List.length_cons]; omega
theorem group_len (l : List Rec) : ∀ g ∈ groups l, g.length <= l.length := fun g hg => by
  have := group_fold l 0 [] (fun g h => by cases h) g hg;omega
theorem map_not {w : World} {k : TypeId} {R : Value -> Option (DataW Value × List MemPlace)} {b n : Nat} {D : DataW Value} (h : w.ownsMap Tryz.prog k R b n D) (cs : Array Value) (fr : Nat × Nat) : w.heap[b]? ≠ some (.cells cs 46 fr) := by
  intro e
  obtain ⟨es, c, h1, _⟩ := h;rw [h1] at e;cases e
def TreeP (s : Sta) (w : World) (e : Ending) (w' : World) : Prop := ∃ ra : Raw, e = .returned (.tuple #[ra.val, .int .i64 0]) /\ IsV w' (fun b => w.heap.size <= b) ra (saveV s) /\ Below w.heap.size w w'
theorem res2v {F : Func} {p q : Tmp} (hr : F.results = #[.cell p 46, .tmp q]) (tm : Array Value) {w' : World} {b : Nat} {a : Raw}
    (hb : w'.heap[b]? = some (.cells a.arr 46 (0, 0))) (hp : tm.getD p undef = .pointer (some ⟨b, 0, none⟩)) :
    (results F tm).run Tryz.prog w' = .ok (.tuple #[a.val, tm.getD q undef]) w' := by
  have hp' : tm[p]?.getD undef = .pointer (some ⟨b, 0, none⟩) := by simpa using hp
  have hl := run_loadVar_row (P := Tryz.prog) w' b _ 46 _ _ _ hb Tryz.underlying46 rfl Jdec.infoVal;simp [results, hr, hp', asAddr, hl]
  rfl
def keysS : List ByteArray := [kLin, kRes, kSer, kVer]
def raws4 (s : ByteArray) (a : Option Addr) (n c : Nat) (d1 : ByteArray) (e1 : Int) (d2 : ByteArray) (e2 : Int) : List Raw := [strR s, lstR a n c, numR d1 e1, numR d2 e2]
theorem keys4_new (w : World) : ∃ w1, w.alloc (.cells #[.string ⟨#[108, 105, 110, 101, 97, 103, 101]⟩, .string ⟨#[114, 101, 115, 111, 117, 114, 99, 101, 115]⟩, .string ⟨#[115, 101, 114, 105, 97, 108]⟩, .string ⟨#[118, 101, 114, 115, 105, 111, 110]⟩] 9) = w1 /\ Hid (w1.heap[w.heap.size]? = some (.cells (keysS.map Value.string).toArray 9 (0, 0))) /\ Hid (Below w.heap.size w w1) :=
  ⟨_, rfl, heap_alloc_new _ _, (Below.refl _ _).alloc (Nat.le_refl _) _⟩
theorem kids4_new (w : World) (s : ByteArray) (a : Option Addr) (n c : Nat) (d1 : ByteArray) (e1 : Int) (d2 : ByteArray) (e2 : Int) : ∃ w1, w.alloc (.cells #[.int .i64 4, .bool false, .bool false, .string ⟨#[]⟩, .int .i64 0, .string s, .slice none 0 0, .slice none 0 0, .int .i64 5, .bool false, .bool false, .string ⟨#[]⟩, .int .i64 0, .string ⟨#[]⟩, .slice none 0 0, .slice a n c, .int .i64 3, .bool false, .bool false, .string d1, .int .i64 e1, .string ⟨#[]⟩, .slice none 0 0, .slice none 0 0, .int .i64 3, .bool false, .bool false, .string d2, .int .i64 e2, .string ⟨#[]⟩, .slice none 0 0, .slice none 0 0] 46) = w1 /\ Hid (w1.heap[w.heap.size]? = some (.cells ((raws4 s a n c d1 e1 d2 e2).flatMap Raw.cells).toArray 46 (0, 0))) /\ Hid (Below w.heap.size w w1) :=
  ⟨_, rfl, heap_alloc_new _ _, (Below.refl _ _).alloc (Nat.le_refl _) _⟩
theorem num_is (w : World) (A : Nat -> Prop) {n : Nat} {d : ByteArray} {x : Nat} (h : (⟨(ofN n).1.toArray⟩ : ByteArray) = d /\ (ofN n).2 = x) : IsV w A (numR d (x : Int)) (numV n) := by
  obtain ⟨rfl, rfl⟩ := h;exact IsV.bare w A 3 false false _ _ ⟨#[]⟩ none none 0 0
theorem treeP_mk {s : Sta} {w q : World} {kk kb rb B : Nat} {a : Option Addr} {n c : Nat} {d1 d2 : ByteArray} {e1 e2 : Nat} {x0 x1 x2 x3 x4 x5 x6 x7 : Value} (hk : q.heap[kk]? = some (.cells (keysS.map Value.string).toArray 9 (0, 0))) (hv : q.heap[kb]? = some (.cells ((raws4 s.lin a n c d1 e1 d2 e2).flatMap Raw.cells).toArray 46 (0, 0)))
    (ha : IsV q (fun b => B <= b) (lstR a n c) (listOf ((groups s.recs).map resV))) (h1 : (⟨(ofN s.serial).1.toArray⟩ : ByteArray) = d1 /\ (ofN s.serial).2 = e1) (h2 : (⟨(ofN 4).1.toArray⟩ : ByteArray) = d2 /\ (ofN 4).2 = e2)
    (hb : Below w.heap.size w q) (hB : B <= kk) (hB2 : B <= kb) (hr : rb < B) (hw : w.heap.size <= rb) :
    TreeP s w (.returned (.tuple #[(objR (some ⟨kk, 0, none⟩) 4 4 (some ⟨kb, 0, none⟩) 4 4).val, .int .i64 0])) ((((((((q.setCell ⟨rb, 0, none⟩ x0).setCell ⟨rb, 1, none⟩ x1).setCell ⟨rb, 2, none⟩ x2).setCell ⟨rb, 3, none⟩ x3).setCell ⟨rb, 4, none⟩ x4).setCell ⟨rb, 5, none⟩ x5).setCell ⟨rb, 6, none⟩ x6).setCell ⟨rb, 7, none⟩ x7) := by
  have G := gb8 q rb x0 x1 x2 x3 x4 x5 x6 x7;generalize ((((((((q.setCell ⟨rb, 0, none⟩ x0).setCell ⟨rb, 1, none⟩ x1).setCell ⟨rb, 2, none⟩ x2).setCell ⟨rb, 3, none⟩ x3).setCell ⟨rb, 4, none⟩ x4).setCell ⟨rb, 5, none⟩ x5).setCell ⟨rb, 6, none⟩ x6).setCell ⟨rb, 7, none⟩ x7) = q' at G ⊢;have hk' : q'.heap[kk]? = some (.cells (keysS.map Value.string).toArray 9 (0, 0)) := (G.block _ (heap_lt hk) (by simp; omega)).trans hk;have hv' : q'.heap[kb]? = some (.cells ((raws4 s.lin a n c d1 e1 d2 e2).flatMap Raw.cells).toArray 46 (0, 0)) := (G.block _ (heap_lt hv) (by simp; omega)).trans hv;have ha' : IsV q' (fun b => w.heap.size <= b) (lstR a n c) (listOf ((groups s.recs).map resV)) := ha.turn ⟨G.size, fun b hb hl => ⟨G.block b hl (by have hb : B <= b := hb; simp; omega), by have hb : B <= b := hb; show w.heap.size <= b; omega⟩⟩;refine ⟨_, rfl, ?_, hb.grown G hb.size (fun k hk => by injection hk with hk; omega)⟩;refine .mk (objR (some ⟨kk, 0, none⟩) 4 4 (some ⟨kb, 0, none⟩) 4 4) keysS [strV s.lin, listOf ((groups s.recs).map resV), numV s.serial, numV 4] (fun i => (raws4 s.lin a n c d1 e1 d2 e2).getD i Raw.zero) rfl rfl (.inr ⟨kk, 0, rfl, by show _ <= kk; omega, heap_lt hk', fun i hi => ?_⟩) (.inr ⟨kb, 0, rfl, by show _ <= kb; omega, heap_lt hv', fun i hi j u hu => ?_⟩) (fun i hi => ?_)
  · rw [Nat.zero_add, cell_of hk']
    match i, hi with
    | 0, _ => rfl
    | 1, _ => rfl
    | 2, _ => rfl
    | 3, _ => rfl
  · rw [Nat.zero_add, cell_of hv'];have hl : (raws4 s.lin a n c d1 e1 d2 e2).getD i Raw.zero = (raws4 s.lin a n c d1 e1 d2 e2)[i]'hi := by rw [List.getD_eq_getElem?_getD, List.getElem?_eq_getElem (show i < (raws4 s.lin a n c d1 e1 d2 e2).length from hi)]; rfl
    rw [hl] at hu;have := Jdec.flat_cells_at (raws4 s.lin a n c d1 e1 d2 e2) i hi j u hu
    simpa using this
  · match i, hi with
    | 0, _ => exact strR_is _ _ _
    | 1, _ => exact ha'
    | 2, _ => exact num_is _ _ h1
    | 3, _ => exact num_is _ _ h2
theorem key_ok {r : Rec} (hr : rightA r.a = true) (hs : Small r) : KeyOk (keyR r) := by
  have h1 := joinP_size (right_parts hr).2.2.2.2 hs.s;have h2 := hs.ty;have h3 := hs.nm;have h4 := hs.pr;refine ⟨?_, ?_, ?_, ?_⟩
  · show (joinP r.a.path).size <= 100000;unfold joinP;rw [Lib.size_mk]; omega
  · show r.a.type.size <= 100000; omega
  · show r.a.name.size <= 100000; omega
  · show r.prov.size <= 100000; omega
theorem tree_any (s : Sta) (ra : Option Addr) (rc : Nat) (w : World) (h : RecsAt w ra s.recs) (hcp : Caps w ra s.recs) (hr : rightS s = true) (hn : s.recs.length <= 30) (hl : s.lin.size <= 1000) (hs : s.serial < 18446744073709551616) (T : TabsA w) : Hid (Calls Tryz.prog 14 #[.agg #[.int .u64 s.serial, .string s.lin, .slice ra s.recs.length rc]] w (TreeP s w)) := by
  show Calls _ _ _ _ _;have HGOOD := hZz (rightS_good hr h.s);obtain ⟨w1, hw1, V1, B1⟩ := sta_new w ra rc s;obtain ⟨w2, hw2, V2, B2⟩ := own_new w1 Raw.zero
  dsimp only [Raw.zero] at hw2
  have B02 := bel B1 B2;have HSB : Hid (∀ W, Below w2.heap.size w2 W -> W.heap[w.heap.size]? = some (.cells (staArr ra rc s) 25 (0, 0))) := fun W hb => (hb.block _ (Nat.lt_of_lt_of_le (heap_lt V1.out) B2.out.size)).trans ((B2.out.block _ (heap_lt V1.out)).trans V1.out);have HZZ : Hid (∀ W, Below w2.heap.size w2 W -> W.heap[w1.heap.size]? = some (.cells Raw.zero.arr 46 (0, 0))) := fun W hb => (hb.block _ (heap_lt V2.out)).trans V2.out;have HR : Hid (∀ W, Below w2.heap.size w2 W -> RecsAt W ra s.recs) := fun W hb => (h.stays B02.out).stays hb;have HC : Hid (∀ W, Below w2.heap.size w2 W -> Caps W ra s.recs) := fun W hb => Caps.stays (Caps.stays hcp B02.out) hb;have HT : Hid (∀ W, Below w2.heap.size w2 W -> TabsA W) := fun W hb => (T.stays B02.out).stays hb;have HRT := pr18_ok s ra rc w2 (HR.out w2 (Below.refl _ _)) (by omega) (HT.out w2 (Below.refl _ _)) true hr;have HSZ : Hid (s.lin.size <= 1000 /\ s.serial < 18446744073709551616) := ⟨hl, hs⟩;clear h hcp hr T hl hs;obtain ⟨x0, x1, x2⟩ := sta_cells (HSB.out w2 (Below.refl _ _));have hmm := @Go.RowKit.run_makeMap Tryz.prog;go_enter Tryz.func14, Tryz.ntmps14
  go_wp2_with fail
  refine (Calls.mono HRT.out ?_);rintro z w3 ⟨rfl, hb3⟩;obtain ⟨w3m, hw3m⟩ : ∃ x, w3.alloc (.map #[] 0) = x := ⟨_, rfl⟩;obtain ⟨M, hM⟩ : ∃ M, w3.heap.size = M := ⟨_, rfl⟩;have P3 : Hid (Places w3m M 0 []) := by rw [<-hw3m, <-hM]; exact Places.made w3
  have C3 : Hid (Below w2.heap.size w2 w3m) := by rw [<-hw3m]; exact hb3.alloc hb3.size _
  have HM2 : Hid (w2.heap.size <= M) := by rw [<-hM]; exact hb3.size
  have T3 : Hid (Tr w3m w2.heap.size M (.slice none 0 0) []) := Tr.nil P3.out.lt;clear hb3 HRT x0 x1 x2;obtain ⟨x0, x1, x2⟩ := sta_cells (HSB.out w3m C3.out);go_wp2_with fail
  clear x0 x1 x2 hw3m hM hmm hw1 hw2
  go_loopw [5, 20] (fun p5 p20 wr => ∃ (i : Nat) (a3 : Option Addr) (c3 : Nat), p5 = .slice a3 (groups (s.recs.take i)).length c3 /\ p20 = .int .i64 i /\ i <= s.recs.length /\ Hid (Tr wr w2.heap.size M (.slice a3 (groups (s.recs.take i)).length c3) (groups (s.recs.take i))) /\ Hid (Places wr M i (groups (s.recs.take i))) /\ Hid (Below w2.heap.size w2 wr)) (fun _ p20 _ => s.recs.length - (intOf p20).toNat)
  case atStart => exact ⟨0, none, 0, rfl, rfl, Nat.zero_le _, T3.out, P3.out, C3.out⟩
  case round =>
    obtain ⟨i, a3, c3, rfl, rfl, hi, hT, hP, hB⟩ := hrel;by_cases hlt : i < s.recs.length
    · obtain ⟨rb, ro, hra, _, hrb, f, hcf⟩ := (HR.out w2 (Below.refl _ _)).t.resolve_left (by intro e; rw [e] at hlt; simp at hlt);obtain ⟨hcr2, hir⟩ := hcf i hlt;have hcr : ∀ j u, (recArr (f i) s.recs[i])[j]? = some u -> wr.cell? ⟨rb, ro + i * 9 + j, none⟩ = some u := fun j u hu => by rw [cell_blk (hB.out.block rb hrb)]; exact hcr2 j u hu
      obtain ⟨pq, cq, hcq, hcap⟩ := HC.out wr hB.out i hlt rb ro hra;obtain ⟨r, hre⟩ : ∃ r, s.recs[i] = r := ⟨_, rfl⟩;obtain ⟨p, hpe⟩ : ∃ p, f i = p := ⟨_, rfl⟩;have hcap2 : r.a.path.length <= p.pc := by
        have := hcr 0 _ rfl;rw [hcq, hre, hpe] at this;injection this with this
        injection this with _ _ this
        rw [hre, this] at hcap;exact hcap
      have HMEM : Hid (r ∈ s.recs) := hre ▸ List.getElem_mem hlt;have HGR : Hid (groups (s.recs.take (i + 1)) = addG (groups (s.recs.take i)) r) := by rw [Hid, groups_take hlt, hre]
      rw [hre, hpe] at hcr hir;have HRI := hZz (HGOOD.out.r r HMEM.out);have HSM := hZz (HGOOD.out.s r HMEM.out);have HRA := hZz (recB_right HRI.out);have HIRA : Hid (∀ W, Below w2.heap.size w2 W -> IsRec W (fun _ => True) p r) := fun W hb => hir.turn (Turn.below hb);have HIR : Hid (∀ W, Below wr.heap.size wr W -> IsRec W (fun _ => True) p r) := fun W hb => HIRA.out W (hB.out.trans (hb.mono hB.out.size));obtain ⟨z0, z1, z2, z3, z4, z5, z6, z7, z8⟩ := recs_nine hcr;obtain ⟨w4, hw4, V4, B4⟩ := rec_new wr p r;have RBX : Hid (∀ W, Below w4.heap.size w4 W -> W.heap[wr.heap.size]? = some (.cells (recArr p r) 38 (0, 0))) := fun W hb => (hb.block _ (heap_lt V4.out)).trans V4.out;have C4 := bel hB B4;have HIR4 : Hid (∀ W, Below w4.heap.size w4 W -> IsRec W (fun _ => True) p r) := fun W hb => HIR.out W (B4.out.trans (hb.mono B4.out.size));have HJ : Hid (∀ W, Below w4.heap.size w4 W -> Hid (Calls Tryz.prog 24 #[.slice p.pa r.a.path.length p.pc, .string ⟨#[46]⟩] W fun e w' => e = .returned (.string (joinP r.a.path)) /\ Below W.heap.size W w')) := fun W hb => join_ok (HIR4.out W hb).path hcap2 (right_parts HRA.out).2.2.2.2 HSM.out.s;have T4 := hZz (hT.out.below B4.out);have P4 := hZz (hP.out.below B4.out);have HKO := hZz (key_ok HRA.out HSM.out);have HGL : Hid ((groups (s.recs.take i)).length <= 30) := by
        have := (ginv (s.recs.take i)).len;rw [List.length_take] at this;show _ <= 30;omega
      have HGN := hZz (ginv (s.recs.take i)).ne;have HG30 : Hid (∀ g ∈ groups (s.recs.take i), g.length <= 30) := fun g hg => by
        have := group_len _ g hg;rw [List.length_take] at this;omega
      have hP5 : Hid (M < wr.heap.size) := hP.out.lt;obtain ⟨gs, hgs⟩ : ∃ gs, groups (s.recs.take i) = gs := ⟨_, rfl⟩;have HGI := hZz (ginv (s.recs.take i));rw [hgs] at T4 P4 HGR HGL HGN HGI HG30 ⊢;subst hra;clear hcr hcr2 hir hre hpe hcf hrb hcq hcap hcap2 hT hP
      go_upto_region 8 with (fail)
      go_cut [8, 20] from 20 to 73 (fun p8 p20 wx => ∃ kb : Nat, p8 = .pointer (some ⟨kb, 0, none⟩) /\ p20 = .int .i64 i /\ Hid (wx.heap[kb]? = some (.cells (keyArr (keyR r)) 60 (0, 0))) /\ Hid (Below w4.heap.size w4 wx))
      case first =>
        clear z0 z1 z2 z3 z4 z5 z6 z7 z8 hw4;go_wp2_with fail
        refine wp_region_held_drew (S := (fun W => W.heap[wr.heap.size]? = some (.cells (recArr p r) 38 (0, 0)))) (by kernel_rfl) ?_ (fun hHeld => ?_)
        · exact RBX.out _ (Below.refl _ _).drew
        have DR : Hid (Below w4.heap.size w4 w4.drew) := (Below.refl _ _).drew;refine tk 0 ?_;refine tk 1 ?_;refine tv 2 (.slice p.pa r.a.path.length p.pc) ?_ ?_
        · (intro w hs; have ee := (rec_cells hs).1; clear hs; go_simp <;> with_reducible rfl)
        try simp only [nz]
        refine tk 4 ?_;refine tk 5 ?_;refine tv 6 (.string r.a.type) ?_ ?_
        · (intro w hs; have ee := (rec_cells hs).2.1; clear hs; go_simp <;> with_reducible rfl)
        try simp only [nz]
        refine tk 7 ?_;refine tk 8 ?_;refine tv 9 (.string r.a.name) ?_ ?_
        · (intro w hs; have ee := (rec_cells hs).2.2.1; clear hs; go_simp <;> with_reducible rfl)
        try simp only [nz]
        refine tk 10 ?_;refine tv 11 (.string r.prov) ?_ ?_
        · (intro w hs; have ee := (rec_cells hs).2.2.2.2.2.2.1; clear hs; go_simp <;> with_reducible rfl)
        try simp only [nz]
        refine wpAnyH_ready (rs := [3, 13]) (by kernel_rfl) (by simp) ?_;refine (AllReadyH.cons rfl (fun K hK => ?_) (AllReadyH.cons rfl (fun K hK => ?_) AllReadyH.nil))
        ·
          try simp only [nz]
          go_simp
          go_at_call 24; refine (Calls.mono (HJ.out w4.drew DR.out).out ?_); rintro z q5 ⟨rfl, hb⟩; have Eq5 : Hid (Below w4.drew.heap.size w4.drew q5) := hb; clear hb
          have Dq5 := bel DR Eq5;clear hHeld;refine hK.out _ _ ?_ (fun hHeld => ?_)
          · exact RBX.out _ Dq5.out
          clear hK K
          try simp only [nz]
          refine tk 12 ?_
          try simp only [nz]
          refine rd 13 (fun K hK => ?_);obtain ⟨q6, hq6, Zq6, Eq6⟩ := key_new q5;have Zq6 : Hid (q6.heap[q5.heap.size]? = some (.cells #[.string ⟨#[]⟩, .string ⟨#[]⟩, .string ⟨#[]⟩, .string ⟨#[]⟩] 60 (0, 0))) := Zq6.out;have Dq6 := bel Dq5 Eq6
          try simp only [nz]
          go_simp
          clear hq6;clear hHeld;refine hK.out _ _ ?_ (fun hHeld => ?_)
          · exact RBX.out _ Dq6.out
          clear hK K
          try simp only [nz]
          refine rd 14 (fun K hK => ?_);have z0 := cell_of Zq6.out 0;have z1 := cell_of Zq6.out 1;have z2 := cell_of Zq6.out 2;have z3 := cell_of Zq6.out 3;have y0 := frozen_of Zq6.out 0;have y1 := frozen_of Zq6.out 1;have y2 := frozen_of Zq6.out 2;have y3 := frozen_of Zq6.out 3
          try simp only [nz]
          go_simp
          clear z0 z1 z2 z3 y0 y1 y2 y3;clear hHeld;refine hK.out _ _ ?_ (fun hHeld => ?_)
          · exact (key_set_other _ _ _ _ _ _ (by have := Dq5.out.size; have := heap_lt V4.out; omega) (by have := Dq6.out.size; have := heap_lt V4.out; omega)).trans (RBX.out _ Dq6.out)
          clear hK K
          try simp only [nz]
          refine wpAnyH_done (by kernel_rfl) ?_ _;clear hHeld;go_wp2_with fail
          go_meet
          exact ⟨q5.heap.size, rfl, rfl, key_set Zq6.out, Dq6.out.grown (gb4 _ _ _ _ _ _) Dq6.out.size (fun x hx => by injection hx with hx; have := Dq5.out.size; omega)⟩
        ·
          obtain ⟨q5, hq5, Zq5, Eq5⟩ := key_new w4.drew;have Zq5 : Hid (q5.heap[w4.heap.size]? = some (.cells #[.string ⟨#[]⟩, .string ⟨#[]⟩, .string ⟨#[]⟩, .string ⟨#[]⟩] 60 (0, 0))) := Zq5.out;have Dq5 := bel DR Eq5
          try simp only [nz]
          go_simp
          clear hq5;clear hHeld;refine hK.out _ _ ?_ (fun hHeld => ?_)
          · exact RBX.out _ Dq5.out
          clear hK K
          try simp only [nz]
          refine rd 3 (fun K hK => ?_)
          try simp only [nz]
          go_simp
          go_at_call 24; refine (Calls.mono (HJ.out q5 Dq5.out).out ?_); rintro z q6 ⟨rfl, hb⟩; have Eq6 : Hid (Below q5.heap.size q5 q6) := hb; clear hb
          have Dq6 := bel Dq5 Eq6;have Zq6 := hst Zq5 Eq6;clear hHeld;refine hK.out _ _ ?_ (fun hHeld => ?_)
          · exact RBX.out _ Dq6.out
          clear hK K
          try simp only [nz]
          refine tk 12 ?_
          try simp only [nz]
          refine rd 14 (fun K hK => ?_);have z0 := cell_of Zq6.out 0;have z1 := cell_of Zq6.out 1;have z2 := cell_of Zq6.out 2;have z3 := cell_of Zq6.out 3;have y0 := frozen_of Zq6.out 0;have y1 := frozen_of Zq6.out 1;have y2 := frozen_of Zq6.out 2;have y3 := frozen_of Zq6.out 3
          try simp only [nz]
          go_simp
          clear z0 z1 z2 z3 y0 y1 y2 y3;clear hHeld;refine hK.out _ _ ?_ (fun hHeld => ?_)
          · exact (key_set_other _ _ _ _ _ _ (by have := DR.out.size; have := heap_lt V4.out; omega) (by have := Dq6.out.size; have := heap_lt V4.out; omega)).trans (RBX.out _ Dq6.out)
          clear hK K
          try simp only [nz]
          refine wpAnyH_done (by kernel_rfl) ?_ _;clear hHeld;go_wp2_with fail
          go_meet
          exact ⟨w4.heap.size, rfl, rfl, key_set Zq6.out, Dq6.out.grown (gb4 _ _ _ _ _ _) Dq6.out.size (fun x hx => by injection hx with hx; have := DR.out.size; omega)⟩
      case rest =>
      obtain ⟨kb, rfl, rfl, hKB, hbx⟩ := hcut;clear z0 z1 z2 z3 z4 z5 z6 z7 z8 hw4 HJ;have CX := bel C4 hbx;have RX : Hid (wc.heap[wr.heap.size]? = some (.cells (recArr p r) 38 (0, 0))) := RBX.out wc hbx.out;have TX := hZz (Tr.below T4.out hbx.out);have PX := hZz (P4.out.below hbx.out);have HIRX : Hid (∀ W, Below wc.heap.size wc W -> IsRec W (fun _ => True) p r) := fun W hb => HIR4.out W (hbx.out.trans (hb.mono hbx.out.size));have hlk := PX.out.look HKO.out;obtain ⟨pl, hpl⟩ : ∃ pl, (placeG gs (keyR r)).getD 0 = pl := ⟨_, rfl⟩;obtain ⟨ok, hok⟩ : ∃ ok, (placeG gs (keyR r)).isSome = ok := ⟨_, rfl⟩;rw [hpl, hok] at hlk;have hlk2 : (Instr.lookup 57 (.map (some M)) (.agg #[.string (joinP r.a.path), .string r.a.type, .string r.a.name, .string r.prov]) true).run Tryz.prog wc = .ok (.tuple #[.int .i64 (pl : Nat), .bool ok]) wc := hlk;have k0 : wc.cell? ⟨kb, 0, none⟩ = some (.string (joinP r.a.path)) := cell_of hKB.out 0;have k1 : wc.cell? ⟨kb, 1, none⟩ = some (.string r.a.type) := cell_of hKB.out 1;have k2 : wc.cell? ⟨kb, 2, none⟩ = some (.string r.a.name) := cell_of hKB.out 2;have k3 : wc.cell? ⟨kb, 3, none⟩ = some (.string r.prov) := cell_of hKB.out 3;have HPO : Hid ((placeG gs (keyR r)).getD 0 = pl /\ (placeG gs (keyR r)).isSome = ok) := ⟨hpl, hok⟩;clear hpl hok hlk
      go_upto_if 44 with (fail)
      clear hlk2
      go_cut [5, 9, 20] from 20 to 73 (fun p5 p9 p20 wy => ∃ (a5 : Option Addr) (c5 : Nat) (gt : List (List Rec)) (pl : Nat), p5 = .slice a5 gt.length c5 /\ p9 = .int .i64 pl /\ p20 = .int .i64 i /\ pl < gt.length /\ gt.length <= 31 /\ Hid (Tr1 wy w2.heap.size M (.slice a5 gt.length c5) gt r) /\ Hid (gt.set pl (gt.getD pl [] ++ [r]) = addG gs r) /\ Hid (Places wy M (i + 1) (addG gs r)) /\ Hid (wy.heap[wr.heap.size]? = some (.cells (recArr p r) 38 (0, 0))) /\ Hid (Below w2.heap.size w2 wy) /\ Hid (∀ g ∈ gt, g.length <= 30))
      case first =>
        cases ok with
        | true =>
          clear k0 k1 k2 k3;obtain ⟨pl', hpp⟩ : ∃ x, placeG gs (keyR r) = some x := Option.isSome_iff_exists.1 HPO.out.2;obtain rfl : pl' = pl := by have := HPO.out.1; rw [hpp] at this; exact this
          have HPP := hZz hpp;clear hpp;go_wp2_with fail
          go_meet
          obtain ⟨hlt2, _⟩ := place_some HPP.out;refine ⟨a3, c3, gs, pl', rfl, rfl, rfl, hlt2, by have := HGL.out; omega, Tr.one TX.out HGN.out r, ?_, (PX.out.mono (by omega)).turn fun k => ?_, RX.out, CX.out, HG30.out⟩
          · show _ = addG gs r;unfold addG; rw [HPP.out]
          · rw [place_add HGI.out, HPP.out]
        | false =>
          have hpp : placeG gs (keyR r) = none := by have := HPO.out.2; cases hq : placeG gs (keyR r) with
            | none => rfl
            | some x => rw [hq] at this; cases this
          have HPP := hZz hpp;obtain ⟨wm, hup, hPm, hgm⟩ := PX.out.store (gs' := addG gs r) HKO.out gs.length (by have := hi; omega) (fun k' => by rw [place_add HGI.out, HPP.out]);have hup2 : (Instr.mapUpdate 57 (.map (some M)) (.agg #[.string (joinP r.a.path), .string r.a.type, .string r.a.name, .string r.prov]) (.int .i64 (gs.length : Nat))).run Tryz.prog wc = .ok () wm := hup;have HPm := hZz hPm;have Tm := hZz (Tr.map TX.out hgm);have HMN : Hid (wr.heap.size ≠ M) := fun e => by
            have h3 := hP5.out;omega
          have Cm : Hid (Below w2.heap.size w2 wm) := CX.out.grown hgm CX.out.size (fun x hx => by injection hx with hx; have := HM2.out; omega);have Rm : Hid (wm.heap[wr.heap.size]? = some (.cells (recArr p r) 38 (0, 0))) := (hgm.block _ (heap_lt RX.out) (by simp; exact HMN.out)).trans RX.out;have HIm : Hid (∀ W, Below wm.heap.size wm W -> IsRec W (fun _ => True) p r) := fun W hb => HIRA.out W (Cm.out.trans (hb.mono Cm.out.size));have HRS := resource_any r p wm (HIm.out wm (Below.refl _ _)) (right_parts HRA.out).2.2.2.2;obtain ⟨m0, m1, m2, m3, m4, m5, m6, m7, m8⟩ := rec_cells Rm.out;clear hpp hup hPm hgm;go_wp2_with fail
          refine (Calls.mono HRS.out ?_);rintro z w5 ⟨kk, kb5, pa5, pc5, rfl, hres, hb5⟩;obtain ⟨w6, hw6, V6, B6⟩ := own_new w5 (grpRaw kk kb5);have V6' : Hid (w6.heap[w5.heap.size]? = some (.cells (grpRaw kk kb5).arr 46 (0, 0))) := V6.out
          dsimp only [grpRaw, objR] at hw6
          obtain ⟨a7, c7, w7, hrun, hT7, hg7, hB7, hN7⟩ := Tr.new Tm.out hb5 hres B6.out V6'.out Cm.out.size (by have := HGL.out; omega) HGN.out;have HR7 := hZz hrun;have HT7 := hZz hT7;have HNC : Hid (∀ b cs T fr, wm.heap[b]? = some (.cells cs T fr) -> T ≠ 46 -> some b ≠ (Value.slice a3 gs.length c3).ownBlock) := fun b cs T fr h1 h2 => hN7 b fun cs' fr' h3 => by rw [h1] at h3; injection h3 with h3; injection h3 with _ h3 _; exact h2 h3
          have HMo : Hid (some M ≠ (Value.slice a3 gs.length c3).ownBlock) := hN7 M fun cs' fr' h3 => by
            obtain ⟨D, ho, _⟩ := HPm.out.m;exact absurd h3 (map_not ho _ _)
          have C6 : Hid (Below w2.heap.size w2 w6) := Cm.out.trans ((hb5.trans (B6.out.mono hb5.size)).mono Cm.out.size);have C7 : Hid (Below w2.heap.size w2 w7) := C6.out.grown hg7 C6.out.size hB7;have R7 : Hid (w7.heap[wr.heap.size]? = some (.cells (recArr p r) 38 (0, 0))) := by
            have h1 := heap_lt Rm.out;rw [hg7.block _ (by have := hb5.size; have := B6.out.size; omega) (HNC.out _ _ _ _ Rm.out (by decide)), B6.out.block _ (by have := hb5.size; omega), hb5.block _ h1];exact Rm.out
          have P7 : Hid (Places w7 M (i + 1) (addG gs r)) := ((HPm.out.below hb5).below B6.out).kept hg7 HMo.out;clear hrun hT7 hg7 hB7 hN7 hres hb5 m0 m1 m2 m3 m4 m5 m6 m7 m8 k0 k1 k2 k3 V6 V6';unfold Raw.val
          dsimp only [objR]
          go_wp2_with (at_builtin; refine Jdec.wpList_append_run (.slice a3 gs.length c3) (.slice (some ⟨w5.heap.size, 0, none⟩) 1 1) 44 HR7.out rfl _ _ rfl rfl rfl ?_)
          go_meet
          refine ⟨a7, c7, gs ++ [[]], gs.length, by rw [List.length_append]; rfl, rfl, rfl, by simp, by rw [List.length_append]; have := HGL.out; simp; omega, by rw [List.length_append]; exact HT7.out, ?_, P7.out, R7.out, C7.out, fun g hg => ?_⟩
          · show _ = addG gs r;unfold addG; rw [HPP.out];simp
          · rcases List.mem_append.1 hg with hg | hg
            · exact HG30.out g hg
            · rw [List.mem_singleton.1 hg]; simp
      case rest =>
      obtain ⟨a5, c5, gt, pl2, rfl, rfl, rfl, hpt, hgt, HT1, HSE, HPS, HRY, CY, HG3⟩ := hcut;clear HPO TX PX RX;have hgl : gt[pl2].length <= 30 := HG3.out _ (List.getElem_mem hpt);obtain ⟨R, cR, kb6, ia, ic, hv5, hc57, hcia, hkl, hkB, hadd⟩ := Tr1.add HT1.out hpt CY.out.size (by omega);have HADD := hZz hadd;obtain ⟨n, hn6⟩ : ∃ n, gt[pl2].length = n := ⟨_, rfl⟩;rw [hn6] at hcia hgl HADD;have HN6 := hZz hn6;injection hv5 with hv5a hv5b hv5c
      subst hv5a hv5c;have HKL := hZz hkl;have HCI := hZz hcia;have HIN : Hid (∀ W, Below wc.heap.size wc W -> Hid (Calls Tryz.prog 26 #[.agg #[.slice p.pa r.a.path.length p.pc, .string r.a.type, .string r.a.name, .int .i64 r.a.key, .int .u64 r.a.place, .string r.a.word, .string r.prov, .string r.id, .slice p.ta r.attrs.length p.tc]] W (InsP r W))) := fun W hb => instance_any r p W (HIRA.out W (CY.out.trans (hb.mono CY.out.size))) HSM.out (HT.out W (CY.out.trans (hb.mono CY.out.size))).p;have hnn : ((n : Nat) : Int) < ((n : Nat) : Int) + 1 := by omega
      clear hadd hn6 hv5b;go_wp2_with fail
      clear hc57 hcia hkl;refine wp_region_held_drew (S := (fun W => W.heap[wr.heap.size]? = some (.cells (recArr p r) 38 (0, 0)))) (by kernel_rfl) ?_ (fun hHeld => ?_)
      · exact HRY.out
      have DR : Hid (Below wc.heap.size wc wc.drew) := (Below.refl _ _).drew;have RR : Hid (wc.drew.heap[wr.heap.size]? = some (.cells (recArr p r) 38 (0, 0))) := HRY.out;refine tk 0 ?_;refine tk 1 ?_;refine tk 2 ?_
      try simp only [nz]
      refine tv 4 (.agg #[.slice p.pa r.a.path.length p.pc, .string r.a.type, .string r.a.name, .int .i64 r.a.key, .int .u64 r.a.place, .string r.a.word, .string r.prov, .string r.id, .slice p.ta r.attrs.length p.tc]) ?_ ?_
      · (intro w hs; obtain ⟨c0, c1, c2, c3, c4, c5, c6, c7, c8⟩ := rec_cells hs; clear hs; go_simp <;> with_reducible rfl)
      try simp only [nz]
      refine wpAnyH_ready (rs := [3, 5, 7]) (by kernel_rfl) (by simp) ?_;refine (AllReadyH.cons rfl (fun K hK => ?_) (AllReadyH.cons rfl (fun K hK => ?_) (AllReadyH.cons rfl (fun K hK => ?_) AllReadyH.nil)));have ee7 : wc.drew.cell? ⟨kb6, 7, none⟩ = some (.slice ia n ic) := (cell_blk (DR.out.block kb6 HKL.out)).trans HCI.out
      try simp only [nz]
      go_simp
      clear ee7;clear hHeld;refine hK.out _ _ ?_ (fun hHeld => ?_)
      · exact RR.out
      clear hK K
      try simp only [nz]
      refine tk 6 ?_
      try simp only [nz]
      refine wpAnyH_ready (rs := [5, 7]) (by kernel_rfl) (by simp) ?_;refine (AllReadyH.cons rfl (fun K hK => ?_) (AllReadyH.cons rfl (fun K hK => ?_) AllReadyH.nil))
      try simp only [nz]
      go_simp
      go_at_call 26; refine (Calls.mono (HIN.out wc.drew DR.out).out ?_); rintro z q10 ⟨x5, rfl, hins, hb⟩; have Eq10 : Hid (Below wc.drew.heap.size wc.drew q10) := hb; clear hb
      have Dq10 := bel DR Eq10;have Rq10 := hst RR Eq10;have Iq10 : Hid (IsV q10 (fun b => wc.heap.size <= b) x5 (insV r)) := hins.turn (Turn.mono _ fun b h1 _ => Nat.le_trans DR.out.size h1);clear hins;unfold Raw.val;clear hHeld;refine hK.out _ _ ?_ (fun hHeld => ?_)
      · exact Rq10.out
      clear hK K
      try simp only [nz]
      refine rd 7 (fun K hK => ?_);obtain ⟨q11, hq11, Zq11, Eq11⟩ := own_new q10 Raw.zero;have Zq11 : Hid (q11.heap[q10.heap.size]? = some (.cells Raw.zero.arr 46 (0, 0))) := Zq11.out
      dsimp only [Raw.zero] at hq11
      have Dq11 := bel Dq10 Eq11;have Rq11 := hst Rq10 Eq11;have Iq11 : Hid (IsV q11 (fun b => wc.heap.size <= b) x5 (insV r)) := Iq10.out.turn (Turn.below Eq11.out)
      try simp only [nz]
      go_simp
      clear hq11;clear hHeld;refine hK.out _ _ ?_ (fun hHeld => ?_)
      · exact Rq11.out
      clear hK K
      try simp only [nz]
      obtain ⟨zb, hzb⟩ : ∃ zb, q10.heap.size = zb := ⟨_, rfl⟩;have ZU := Zq11;rw [hzb] at ZU ⊢;clear hzb;have DU := Dq11;have RU := Rq11;have IU := Iq11;generalize q11 = u at *;rotate_left 1
      obtain ⟨q10, hq10, Zq10, Eq10⟩ := own_new wc.drew Raw.zero;have Zq10 : Hid (q10.heap[wc.heap.size]? = some (.cells Raw.zero.arr 46 (0, 0))) := Zq10.out
      dsimp only [Raw.zero] at hq10
      have Dq10 := bel DR Eq10;have Rq10 := hst RR Eq10
      try simp only [nz]
      go_simp
      clear hq10;clear hHeld;refine hK.out _ _ ?_ (fun hHeld => ?_)
      · exact Rq10.out
      clear hK K
      try simp only [nz]
      refine rd 5 (fun K hK => ?_)
      try simp only [nz]
      go_simp
      go_at_call 26; refine (Calls.mono (HIN.out q10 Dq10.out).out ?_); rintro z q11 ⟨x5, rfl, hins, hb⟩; have Eq11 : Hid (Below q10.heap.size q10 q11) := hb; clear hb
      have Dq11 := bel Dq10 Eq11;have Rq11 := hst Rq10 Eq11;have Zq11 := hst Zq10 Eq11;have Iq11 : Hid (IsV q11 (fun b => wc.heap.size <= b) x5 (insV r)) := hins.turn (Turn.mono _ fun b h1 _ => Nat.le_trans Dq10.out.size h1);clear hins;unfold Raw.val;clear hHeld;refine hK.out _ _ ?_ (fun hHeld => ?_)
      · exact Rq11.out
      clear hK K
      try simp only [nz]
      obtain ⟨zb, hzb⟩ : ∃ zb, wc.heap.size = zb := ⟨_, rfl⟩;have ZU := Zq11;rw [hzb] at ZU ⊢;clear hzb;have DU := Dq11;have RU := Rq11;have IU := Iq11;generalize q11 = u at *;rotate_left 1
      try simp only [nz]
      go_simp
      go_at_call 26; refine (Calls.mono (HIN.out wc.drew DR.out).out ?_); rintro z q10 ⟨x5, rfl, hins, hb⟩; have Eq10 : Hid (Below wc.drew.heap.size wc.drew q10) := hb; clear hb
      have Dq10 := bel DR Eq10;have Rq10 := hst RR Eq10;have Iq10 : Hid (IsV q10 (fun b => wc.heap.size <= b) x5 (insV r)) := hins.turn (Turn.mono _ fun b h1 _ => Nat.le_trans DR.out.size h1);clear hins;unfold Raw.val;clear hHeld;refine hK.out _ _ ?_ (fun hHeld => ?_)
      · exact Rq10.out
      clear hK K
      try simp only [nz]
      refine wpAnyH_ready (rs := [3, 7]) (by kernel_rfl) (by simp) ?_;refine (AllReadyH.cons rfl (fun K hK => ?_) (AllReadyH.cons rfl (fun K hK => ?_) AllReadyH.nil));have ee7 : q10.cell? ⟨kb6, 7, none⟩ = some (.slice ia n ic) := (cell_blk (Dq10.out.block kb6 HKL.out)).trans HCI.out
      try simp only [nz]
      go_simp
      clear ee7;clear hHeld;refine hK.out _ _ ?_ (fun hHeld => ?_)
      · exact Rq10.out
      clear hK K
      try simp only [nz]
      refine tk 6 ?_
      try simp only [nz]
      refine rd 7 (fun K hK => ?_);obtain ⟨q11, hq11, Zq11, Eq11⟩ := own_new q10 Raw.zero;have Zq11 : Hid (q11.heap[q10.heap.size]? = some (.cells Raw.zero.arr 46 (0, 0))) := Zq11.out
      dsimp only [Raw.zero] at hq11
      have Dq11 := bel Dq10 Eq11;have Rq11 := hst Rq10 Eq11;have Iq11 : Hid (IsV q11 (fun b => wc.heap.size <= b) x5 (insV r)) := Iq10.out.turn (Turn.below Eq11.out)
      try simp only [nz]
      go_simp
      clear hq11;clear hHeld;refine hK.out _ _ ?_ (fun hHeld => ?_)
      · exact Rq11.out
      clear hK K
      try simp only [nz]
      obtain ⟨zb, hzb⟩ : ∃ zb, q10.heap.size = zb := ⟨_, rfl⟩;have ZU := Zq11;rw [hzb] at ZU ⊢;clear hzb;have DU := Dq11;have RU := Rq11;have IU := Iq11;generalize q11 = u at *;rotate_left 1
      obtain ⟨q11, hq11, Zq11, Eq11⟩ := own_new q10 Raw.zero;have Zq11 : Hid (q11.heap[q10.heap.size]? = some (.cells Raw.zero.arr 46 (0, 0))) := Zq11.out
      dsimp only [Raw.zero] at hq11
      have Dq11 := bel Dq10 Eq11;have Rq11 := hst Rq10 Eq11;have Iq11 : Hid (IsV q11 (fun b => wc.heap.size <= b) x5 (insV r)) := Iq10.out.turn (Turn.below Eq11.out)
      try simp only [nz]
      go_simp
      clear hq11;clear hHeld;refine hK.out _ _ ?_ (fun hHeld => ?_)
      · exact Rq11.out
      clear hK K
      try simp only [nz]
      refine rd 3 (fun K hK => ?_);have ee7 : q11.cell? ⟨kb6, 7, none⟩ = some (.slice ia n ic) := (cell_blk (Dq11.out.block kb6 HKL.out)).trans HCI.out
      try simp only [nz]
      go_simp
      clear ee7;clear hHeld;refine hK.out _ _ ?_ (fun hHeld => ?_)
      · exact Rq11.out
      clear hK K
      try simp only [nz]
      refine tk 6 ?_
      try simp only [nz]
      obtain ⟨zb, hzb⟩ : ∃ zb, q10.heap.size = zb := ⟨_, rfl⟩;have ZU := Zq11;rw [hzb] at ZU ⊢;clear hzb;have DU := Dq11;have RU := Rq11;have IU := Iq11;generalize q11 = u at *;rotate_left 1
      obtain ⟨q10, hq10, Zq10, Eq10⟩ := own_new wc.drew Raw.zero;have Zq10 : Hid (q10.heap[wc.heap.size]? = some (.cells Raw.zero.arr 46 (0, 0))) := Zq10.out
      dsimp only [Raw.zero] at hq10
      have Dq10 := bel DR Eq10;have Rq10 := hst RR Eq10
      try simp only [nz]
      go_simp
      clear hq10;clear hHeld;refine hK.out _ _ ?_ (fun hHeld => ?_)
      · exact Rq10.out
      clear hK K
      try simp only [nz]
      refine wpAnyH_ready (rs := [3, 5]) (by kernel_rfl) (by simp) ?_;refine (AllReadyH.cons rfl (fun K hK => ?_) (AllReadyH.cons rfl (fun K hK => ?_) AllReadyH.nil));have ee7 : q10.cell? ⟨kb6, 7, none⟩ = some (.slice ia n ic) := (cell_blk (Dq10.out.block kb6 HKL.out)).trans HCI.out
      try simp only [nz]
      go_simp
      clear ee7;clear hHeld;refine hK.out _ _ ?_ (fun hHeld => ?_)
      · exact Rq10.out
      clear hK K
      try simp only [nz]
      refine tk 6 ?_
      try simp only [nz]
      refine rd 5 (fun K hK => ?_)
      try simp only [nz]
      go_simp
      go_at_call 26; refine (Calls.mono (HIN.out q10 Dq10.out).out ?_); rintro z q11 ⟨x5, rfl, hins, hb⟩; have Eq11 : Hid (Below q10.heap.size q10 q11) := hb; clear hb
      have Dq11 := bel Dq10 Eq11;have Rq11 := hst Rq10 Eq11;have Zq11 := hst Zq10 Eq11;have Iq11 : Hid (IsV q11 (fun b => wc.heap.size <= b) x5 (insV r)) := hins.turn (Turn.mono _ fun b h1 _ => Nat.le_trans Dq10.out.size h1);clear hins;unfold Raw.val;clear hHeld;refine hK.out _ _ ?_ (fun hHeld => ?_)
      · exact Rq11.out
      clear hK K
      try simp only [nz]
      obtain ⟨zb, hzb⟩ : ∃ zb, wc.heap.size = zb := ⟨_, rfl⟩;have ZU := Zq11;rw [hzb] at ZU ⊢;clear hzb;have DU := Dq11;have RU := Rq11;have IU := Iq11;generalize q11 = u at *;rotate_left 1
      try simp only [nz]
      go_simp
      go_at_call 26; refine (Calls.mono (HIN.out q10 Dq10.out).out ?_); rintro z q11 ⟨x5, rfl, hins, hb⟩; have Eq11 : Hid (Below q10.heap.size q10 q11) := hb; clear hb
      have Dq11 := bel Dq10 Eq11;have Rq11 := hst Rq10 Eq11;have Zq11 := hst Zq10 Eq11;have Iq11 : Hid (IsV q11 (fun b => wc.heap.size <= b) x5 (insV r)) := hins.turn (Turn.mono _ fun b h1 _ => Nat.le_trans Dq10.out.size h1);clear hins;unfold Raw.val;clear hHeld;refine hK.out _ _ ?_ (fun hHeld => ?_)
      · exact Rq11.out
      clear hK K
      try simp only [nz]
      refine rd 3 (fun K hK => ?_);have ee7 : q11.cell? ⟨kb6, 7, none⟩ = some (.slice ia n ic) := (cell_blk (Dq11.out.block kb6 HKL.out)).trans HCI.out
      try simp only [nz]
      go_simp
      clear ee7;clear hHeld;refine hK.out _ _ ?_ (fun hHeld => ?_)
      · exact Rq11.out
      clear hK K
      try simp only [nz]
      refine tk 6 ?_
      try simp only [nz]
      obtain ⟨zb, hzb⟩ : ∃ zb, wc.heap.size = zb := ⟨_, rfl⟩;have ZU := Zq11;rw [hzb] at ZU ⊢;clear hzb;have DU := Dq11;have RU := Rq11;have IU := Iq11;generalize q11 = u at *;rotate_left 1
      all_goals
        refine rd 8 (fun K hK => ?_);obtain ⟨gb, c8, q20, hrun, hk7, he8, hc7, hf7, htr, ⟨row, hg8, hg84, hnv⟩, hbel⟩ := HADD.out u zb x5 DU.out ZU.out IU.out;have HE8 := hZz he8;have HK7 := hZz hk7;have HC7 := hZz hc7;have HF7 := hZz hf7;have HTR := hZz htr;have HG8 := hZz hg8;have HG84 := hZz hg84;have HBEL := hZz hbel;have HNV := hZz hnv;have HRN := hZz (hnv wr.heap.size (heap_lt HRY.out) (fun cs fr h3 => by rw [HRY.out] at h3; injection h3 with h3; injection h3 with _ h3 _; exact absurd h3 (by decide)));have Rq20 : Hid (q20.heap[wr.heap.size]? = some (.cells (recArr p r) 38 (0, 0))) := (HG8.out.block _ (heap_lt RU.out) HRN.out.1).trans RU.out;clear hk7 he8 hc7 hf7 htr hg8 hg84 hbel hnv;rw [if_pos (by rfl)];refine wp_append_run (.slice ia n ic) (.slice (some ⟨zb, 0, none⟩) 1 1) 44 hrun _ _ rfl rfl rfl ?_;clear hrun;clear hHeld;refine hK.out _ _ ?_ (fun hHeld => ?_)
        · exact Rq20.out
        clear hK K
        try simp only [nz]
        refine tk 9 ?_;refine tk 11 ?_;refine tk 12 ?_
        try simp only [nz]
        refine wpAnyH_ready (rs := [10, 13]) (by kernel_rfl) (by simp) ?_;refine (AllReadyH.cons rfl (fun K hK => ?_) (AllReadyH.cons rfl (fun K hK => ?_) AllReadyH.nil))
        ·
          obtain ⟨⟨_, e0⟩, g0⟩ := HE8.out 0 (by omega);obtain ⟨⟨_, e1⟩, g1⟩ := HE8.out 1 (by omega);obtain ⟨⟨_, e2⟩, g2⟩ := HE8.out 2 (by omega);obtain ⟨⟨_, e3⟩, g3⟩ := HE8.out 3 (by omega);obtain ⟨⟨_, e4⟩, g4⟩ := HE8.out 4 (by omega);obtain ⟨⟨_, e5⟩, g5⟩ := HE8.out 5 (by omega);obtain ⟨⟨_, e6⟩, g6⟩ := HE8.out 6 (by omega);obtain ⟨⟨_, e7⟩, g7⟩ := HE8.out 7 (by omega);rw [Nat.add_zero] at e0 g0
          try simp only [nz]
          go_simp
          clear e0 e1 e2 e3 e4 e5 e6 e7 g0 g1 g2 g3 g4 g5 g6 g7;obtain ⟨y4, hy4⟩ : ∃ y4, q20.setCells gb (n * 8) x5.cells = y4 := ⟨_, rfl⟩;have hy5 : (((((((q20.setCell ⟨gb, n * 8, none⟩ (.int .i64 x5.kind)).setCell ⟨gb, n * 8 + 1, none⟩ (.bool x5.is)).setCell ⟨gb, n * 8 + 2, none⟩ (.bool x5.neg)).setCell ⟨gb, n * 8 + 3, none⟩ (.string x5.dig)).setCell ⟨gb, n * 8 + 4, none⟩ (.int .i64 x5.exp)).setCell ⟨gb, n * 8 + 5, none⟩ (.string x5.str)).setCell ⟨gb, n * 8 + 6, none⟩ (.slice x5.ka x5.kn x5.kc)).setCell ⟨gb, n * 8 + 7, none⟩ (.slice x5.va x5.vn x5.vc) = y4 := hy4;rw [hy5];rw [hy4] at HC7 HF7 HTR HG84 HBEL;clear hy5 hy4;have Ry4 : Hid (y4.heap[wr.heap.size]? = some (.cells (recArr p r) 38 (0, 0))) := (HG84.out.block _ (heap_lt Rq20.out) (by simp; exact HRN.out.2.1)).trans Rq20.out;clear hHeld;refine hK.out _ _ ?_ (fun hHeld => ?_)
          · exact Ry4.out
          clear hK K
          try simp only [nz]
          refine rd 13 (fun K hK => ?_);have e7 := HC7.out;have g7 := HF7.out
          try simp only [nz]
          go_simp
          clear e7 g7;clear hHeld;refine hK.out _ _ ?_ (fun hHeld => ?_)
          · exact ((gb_set _ _ _ _).block _ (heap_lt Ry4.out) (by simp; exact HRN.out.2.2)).trans Ry4.out
          clear hK K
          try simp only [nz]
          refine wpAnyH_done (by kernel_rfl) ?_ _;clear hHeld;go_wp2_with fail
          go_roundw
          case rel =>
            have hmn := HNV.out M HPS.out.lt (by obtain ⟨D, ho, _⟩ := HPS.out.m; exact map_not ho);have e9 : gt.set pl2 (gt[pl2] ++ [r]) = groups (s.recs.take (i + 1)) := by rw [HGR.out, <-HSE.out, List.getD_eq_getElem?_getD, List.getElem?_eq_getElem hpt]; rfl
            have e10 : gt.length = (groups (s.recs.take (i + 1))).length := by rw [<-e9, List.length_set]
            refine ⟨i + 1, some ⟨R, 0, none⟩, c5, by rw [<-e10], by go_num, by omega, ?_, ?_, CY.out.trans HBEL.out⟩
            · rw [<-e10, <-e9]; exact HTR.out
            · rw [HGR.out]; exact (((HPS.out.below DU.out).kept HG8.out hmn.1).kept HG84.out (by simp; exact hmn.2.1)).kept (gb_set _ _ _ _) (by simp; exact hmn.2.2)
          case measure => simp [intOf]; omega
        ·
          have e7 := HK7.out.2.1;have g7 := HK7.out.2.2
          try simp only [nz]
          go_simp
          clear e7 g7;obtain ⟨x4, hx4⟩ : ∃ x4, q20.setCell ⟨kb6, 7, none⟩ (.slice (some ⟨gb, 0, none⟩) (n + 1) c8) = x4 := ⟨_, rfl⟩;rw [hx4];have HX4 := hZz hx4;clear hx4;have Rx4 : Hid (x4.heap[wr.heap.size]? = some (.cells (recArr p r) 38 (0, 0))) := by rw [<-HX4.out]; exact ((gb_set _ _ _ _).block _ (heap_lt Rq20.out) (by simp; exact HRN.out.2.2)).trans Rq20.out
          clear hHeld;refine hK.out _ _ ?_ (fun hHeld => ?_)
          · exact Rx4.out
          clear hK K
          try simp only [nz]
          refine rd 10 (fun K hK => ?_);obtain ⟨⟨_, e0⟩, g0⟩ := set_other HX4.out HK7.out.1 (HE8.out 0 (by omega));obtain ⟨⟨_, e1⟩, g1⟩ := set_other HX4.out HK7.out.1 (HE8.out 1 (by omega));obtain ⟨⟨_, e2⟩, g2⟩ := set_other HX4.out HK7.out.1 (HE8.out 2 (by omega));obtain ⟨⟨_, e3⟩, g3⟩ := set_other HX4.out HK7.out.1 (HE8.out 3 (by omega));obtain ⟨⟨_, e4⟩, g4⟩ := set_other HX4.out HK7.out.1 (HE8.out 4 (by omega));obtain ⟨⟨_, e5⟩, g5⟩ := set_other HX4.out HK7.out.1 (HE8.out 5 (by omega));obtain ⟨⟨_, e6⟩, g6⟩ := set_other HX4.out HK7.out.1 (HE8.out 6 (by omega));obtain ⟨⟨_, e7⟩, g7⟩ := set_other HX4.out HK7.out.1 (HE8.out 7 (by omega));rw [Nat.add_zero] at e0 g0
          try simp only [nz]
          go_simp
          clear e0 e1 e2 e3 e4 e5 e6 e7 g0 g1 g2 g3 g4 g5 g6 g7;obtain ⟨y4, hy4⟩ : ∃ y4, q20.setCells gb (n * 8) x5.cells = y4 := ⟨_, rfl⟩;have hy5 : (((((((x4.setCell ⟨gb, n * 8, none⟩ (.int .i64 x5.kind)).setCell ⟨gb, n * 8 + 1, none⟩ (.bool x5.is)).setCell ⟨gb, n * 8 + 2, none⟩ (.bool x5.neg)).setCell ⟨gb, n * 8 + 3, none⟩ (.string x5.dig)).setCell ⟨gb, n * 8 + 4, none⟩ (.int .i64 x5.exp)).setCell ⟨gb, n * 8 + 5, none⟩ (.string x5.str)).setCell ⟨gb, n * 8 + 6, none⟩ (.slice x5.ka x5.kn x5.kc)).setCell ⟨gb, n * 8 + 7, none⟩ (.slice x5.va x5.vn x5.vc) = y4.setCell ⟨kb6, 7, none⟩ (.slice (some ⟨gb, 0, none⟩) (n + 1) c8) := by rw [<-hy4]; exact sets_comm HX4.out HK7.out.1 (n * 8) x5.cells
          rw [hy5];rw [hy4] at HC7 HF7 HTR HG84 HBEL;clear hy5 hy4;have Ry4 : Hid (y4.heap[wr.heap.size]? = some (.cells (recArr p r) 38 (0, 0))) := (HG84.out.block _ (heap_lt Rq20.out) (by simp; exact HRN.out.2.1)).trans Rq20.out;clear hHeld;refine hK.out _ _ ?_ (fun hHeld => ?_)
          · exact ((gb_set _ _ _ _).block _ (heap_lt Ry4.out) (by simp; exact HRN.out.2.2)).trans Ry4.out
          clear hK K
          try simp only [nz]
          refine wpAnyH_done (by kernel_rfl) ?_ _;clear hHeld;go_wp2_with fail
          go_roundw
          case rel =>
            have hmn := HNV.out M HPS.out.lt (by obtain ⟨D, ho, _⟩ := HPS.out.m; exact map_not ho);have e9 : gt.set pl2 (gt[pl2] ++ [r]) = groups (s.recs.take (i + 1)) := by rw [HGR.out, <-HSE.out, List.getD_eq_getElem?_getD, List.getElem?_eq_getElem hpt]; rfl
            have e10 : gt.length = (groups (s.recs.take (i + 1))).length := by rw [<-e9, List.length_set]
            refine ⟨i + 1, some ⟨R, 0, none⟩, c5, by rw [<-e10], by go_num, by omega, ?_, ?_, CY.out.trans HBEL.out⟩
            · rw [<-e10, <-e9]; exact HTR.out
            · rw [HGR.out]; exact (((HPS.out.below DU.out).kept HG8.out hmn.1).kept HG84.out (by simp; exact hmn.2.1)).kept (gb_set _ _ _ _) (by simp; exact hmn.2.2)
          case measure => simp [intOf]; omega
    · have hie : i = s.recs.length := by omega
      subst hie;rw [List.take_length] at hT ⊢;have HTV := hZz (Tr.isV hT.out (ginv s.recs).ne);clear hi hlt hP hT;obtain ⟨gl, hgl⟩ : ∃ gl, (groups s.recs).length = gl := ⟨_, rfl⟩;rw [hgl] at HTV ⊢;have HST : Hid (∀ W, Below wr.heap.size wr W -> W.heap[w.heap.size]? = some (.cells (staArr ra rc s) 25 (0, 0))) := fun W hb => HSB.out W (hB.out.trans (hb.mono hB.out.size));have HNE : Hid (¬ w.heap.size = w1.heap.size) := by have := heap_lt V1.out; show ¬ _; omega
      have HLT : Hid (w.heap.size < wr.heap.size) := Nat.lt_of_lt_of_le (heap_lt V1.out) (Nat.le_trans B2.out.size hB.out.size);have HTP : Hid (∀ W, Below wr.heap.size wr W -> Jdec.Pow10 W) := fun W hb => (HT.out W (hB.out.trans (hb.mono hB.out.size))).p;clear hgl;go_wp2_with fail
      refine wp_region_held_drew (S := (fun W => W.heap[w.heap.size]? = some (.cells (staArr ra rc s) 25 (0, 0)))) (by kernel_rfl) ?_ (fun hHeld => ?_)
      · exact HST.out _ (Below.refl _ _).drew
      have DR : Hid (Below wr.heap.size wr wr.drew) := (Below.refl _ _).drew;refine tk 1 ?_;refine tv 2 (.string s.lin) ?_ ?_
      · (intro w hs; have ee := (sta_cells hs).2.1; clear hs; go_simp <;> with_reducible rfl)
      refine tk 4 ?_
      try simp only [nz]
      refine tk 5 ?_;refine tk 6 ?_;refine tv 7 (.int .u64 s.serial) ?_ ?_
      · (intro w hs; have ee := (sta_cells hs).1; clear hs; go_simp <;> with_reducible rfl)
      try simp only [nz]
      refine wpAnyH_ready (rs := [0, 3]) (by kernel_rfl) (by simp) ?_;refine (AllReadyH.cons rfl (fun K hK => ?_) (AllReadyH.cons rfl (fun K hK => ?_) AllReadyH.nil));obtain ⟨q5, hq5, KKq5, Eq5⟩ := keys4_new wr.drew;have Dq5 := bel DR Eq5
      try simp only [nz]
      go_simp
      clear hq5;clear hHeld;refine hK.out _ _ ?_ (fun hHeld => ?_)
      · exact HST.out _ Dq5.out
      clear hK K
      try simp only [nz]
      refine rd 3 (fun K hK => ?_)
      try simp only [nz]
      go_simp
      go_at_call 28; refine (Calls.mono (text_any s.lin q5).out ?_); rintro z q6 ⟨rfl, hb⟩; have Eq6 : Hid (Below q5.heap.size q5 q6) := hb; clear hb
      have Dq6 := bel Dq5 Eq6;have KKq6 := hst KKq5 Eq6;clear hHeld;refine hK.out _ _ ?_ (fun hHeld => ?_)
      · exact HST.out _ Dq6.out
      clear hK K
      try simp only [nz]
      refine rd 8 (fun K hK => ?_)
      try simp only [nz]
      go_simp
      go_at_call 29; refine (Calls.mono (of_any s.serial HSZ.out.2 q6 (HTP.out q6 Dq6.out)).out ?_); rintro z q7 hz; obtain ⟨d1, e1, rfl, N1, Eq7⟩ := hz.to; clear hz
      have Dq7 := bel Dq6 Eq7;have KKq7 := hst KKq6 Eq7;clear hHeld;refine hK.out _ _ ?_ (fun hHeld => ?_)
      · exact HST.out _ Dq7.out
      clear hK K
      try simp only [nz]
      refine tk 9 ?_
      try simp only [nz]
      refine rd 10 (fun K hK => ?_)
      try simp only [nz]
      go_simp
      go_at_call 29; refine (Calls.mono (of_any 4 (by decide) q7 (HTP.out q7 Dq7.out)).out ?_); rintro z q8 hz; obtain ⟨d2, e2, rfl, N2, Eq8⟩ := hz.to; clear hz
      have Dq8 := bel Dq7 Eq8;have KKq8 := hst KKq7 Eq8;clear hHeld;refine hK.out _ _ ?_ (fun hHeld => ?_)
      · exact HST.out _ Dq8.out
      clear hK K
      try simp only [nz]
      refine tk 11 ?_
      try simp only [nz]
      refine rd 12 (fun K hK => ?_);obtain ⟨q9, hq9, VBq9, Eq9⟩ := kids4_new q8 s.lin a3 gl c3 d1 e1 d2 e2;have Dq9 := bel Dq8 Eq9;have KKq9 := hst KKq8 Eq9
      try simp only [nz]
      go_simp
      clear hq9;clear hHeld;refine hK.out _ _ ?_ (fun hHeld => ?_)
      · exact HST.out _ Dq9.out
      clear hK K
      try simp only [nz]
      obtain ⟨kn, hkn⟩ : ∃ k, wr.heap.size = k := ⟨_, rfl⟩;obtain ⟨vn, hvn⟩ : ∃ k, q8.heap.size = k := ⟨_, rfl⟩;have KU : Hid (q9.heap[wr.heap.size]? = some (.cells (keysS.map Value.string).toArray 9 (0, 0))) := KKq9;have VU := VBq9;have CKN : Hid (wr.heap.size <= kn) := by rw [<-hkn]; exact DR.out.size
      have CVN : Hid (wr.heap.size <= vn) := by rw [<-hvn]; exact Dq8.out.size
      rw [hvn] at VU ⊢;rw [hkn] at KU ⊢;clear hkn hvn;have DU := Dq9;generalize q9 = u at *;rotate_left 1
      try simp only [nz]
      go_simp
      go_at_call 28; refine (Calls.mono (text_any s.lin wr.drew).out ?_); rintro z q5 ⟨rfl, hb⟩; have Eq5 : Hid (Below wr.drew.heap.size wr.drew q5) := hb; clear hb
      have Dq5 := bel DR Eq5;clear hHeld;refine hK.out _ _ ?_ (fun hHeld => ?_)
      · exact HST.out _ Dq5.out
      clear hK K
      try simp only [nz]
      refine wpAnyH_ready (rs := [0, 8]) (by kernel_rfl) (by simp) ?_;refine (AllReadyH.cons rfl (fun K hK => ?_) (AllReadyH.cons rfl (fun K hK => ?_) AllReadyH.nil));obtain ⟨q6, hq6, KKq6, Eq6⟩ := keys4_new q5;have Dq6 := bel Dq5 Eq6
      try simp only [nz]
      go_simp
      clear hq6;clear hHeld;refine hK.out _ _ ?_ (fun hHeld => ?_)
      · exact HST.out _ Dq6.out
      clear hK K
      try simp only [nz]
      refine rd 8 (fun K hK => ?_)
      try simp only [nz]
      go_simp
      go_at_call 29; refine (Calls.mono (of_any s.serial HSZ.out.2 q6 (HTP.out q6 Dq6.out)).out ?_); rintro z q7 hz; obtain ⟨d1, e1, rfl, N1, Eq7⟩ := hz.to; clear hz
      have Dq7 := bel Dq6 Eq7;have KKq7 := hst KKq6 Eq7;clear hHeld;refine hK.out _ _ ?_ (fun hHeld => ?_)
      · exact HST.out _ Dq7.out
      clear hK K
      try simp only [nz]
      refine tk 9 ?_
      try simp only [nz]
      refine rd 10 (fun K hK => ?_)
      try simp only [nz]
      go_simp
      go_at_call 29; refine (Calls.mono (of_any 4 (by decide) q7 (HTP.out q7 Dq7.out)).out ?_); rintro z q8 hz; obtain ⟨d2, e2, rfl, N2, Eq8⟩ := hz.to; clear hz
      have Dq8 := bel Dq7 Eq8;have KKq8 := hst KKq7 Eq8;clear hHeld;refine hK.out _ _ ?_ (fun hHeld => ?_)
      · exact HST.out _ Dq8.out
      clear hK K
      try simp only [nz]
      refine tk 11 ?_
      try simp only [nz]
      refine rd 12 (fun K hK => ?_);obtain ⟨q9, hq9, VBq9, Eq9⟩ := kids4_new q8 s.lin a3 gl c3 d1 e1 d2 e2;have Dq9 := bel Dq8 Eq9;have KKq9 := hst KKq8 Eq9
      try simp only [nz]
      go_simp
      clear hq9;clear hHeld;refine hK.out _ _ ?_ (fun hHeld => ?_)
      · exact HST.out _ Dq9.out
      clear hK K
      try simp only [nz]
      obtain ⟨kn, hkn⟩ : ∃ k, q5.heap.size = k := ⟨_, rfl⟩;obtain ⟨vn, hvn⟩ : ∃ k, q8.heap.size = k := ⟨_, rfl⟩;have KU : Hid (q9.heap[q5.heap.size]? = some (.cells (keysS.map Value.string).toArray 9 (0, 0))) := KKq9;have VU := VBq9;have CKN : Hid (wr.heap.size <= kn) := by rw [<-hkn]; exact Dq5.out.size
      have CVN : Hid (wr.heap.size <= vn) := by rw [<-hvn]; exact Dq8.out.size
      rw [hvn] at VU ⊢;rw [hkn] at KU ⊢;clear hkn hvn;have DU := Dq9;generalize q9 = u at *;rotate_left 1
      try simp only [nz]
      go_simp
      go_at_call 29; refine (Calls.mono (of_any s.serial HSZ.out.2 q5 (HTP.out q5 Dq5.out)).out ?_); rintro z q6 hz; obtain ⟨d1, e1, rfl, N1, Eq6⟩ := hz.to; clear hz
      have Dq6 := bel Dq5 Eq6;clear hHeld;refine hK.out _ _ ?_ (fun hHeld => ?_)
      · exact HST.out _ Dq6.out
      clear hK K
      try simp only [nz]
      refine tk 9 ?_
      try simp only [nz]
      refine wpAnyH_ready (rs := [0, 10]) (by kernel_rfl) (by simp) ?_;refine (AllReadyH.cons rfl (fun K hK => ?_) (AllReadyH.cons rfl (fun K hK => ?_) AllReadyH.nil));obtain ⟨q7, hq7, KKq7, Eq7⟩ := keys4_new q6;have Dq7 := bel Dq6 Eq7
      try simp only [nz]
      go_simp
      clear hq7;clear hHeld;refine hK.out _ _ ?_ (fun hHeld => ?_)
      · exact HST.out _ Dq7.out
      clear hK K
      try simp only [nz]
      refine rd 10 (fun K hK => ?_)
      try simp only [nz]
      go_simp
      go_at_call 29; refine (Calls.mono (of_any 4 (by decide) q7 (HTP.out q7 Dq7.out)).out ?_); rintro z q8 hz; obtain ⟨d2, e2, rfl, N2, Eq8⟩ := hz.to; clear hz
      have Dq8 := bel Dq7 Eq8;have KKq8 := hst KKq7 Eq8;clear hHeld;refine hK.out _ _ ?_ (fun hHeld => ?_)
      · exact HST.out _ Dq8.out
      clear hK K
      try simp only [nz]
      refine tk 11 ?_
      try simp only [nz]
      refine rd 12 (fun K hK => ?_);obtain ⟨q9, hq9, VBq9, Eq9⟩ := kids4_new q8 s.lin a3 gl c3 d1 e1 d2 e2;have Dq9 := bel Dq8 Eq9;have KKq9 := hst KKq8 Eq9
      try simp only [nz]
      go_simp
      clear hq9;clear hHeld;refine hK.out _ _ ?_ (fun hHeld => ?_)
      · exact HST.out _ Dq9.out
      clear hK K
      try simp only [nz]
      obtain ⟨kn, hkn⟩ : ∃ k, q6.heap.size = k := ⟨_, rfl⟩;obtain ⟨vn, hvn⟩ : ∃ k, q8.heap.size = k := ⟨_, rfl⟩;have KU : Hid (q9.heap[q6.heap.size]? = some (.cells (keysS.map Value.string).toArray 9 (0, 0))) := KKq9;have VU := VBq9;have CKN : Hid (wr.heap.size <= kn) := by rw [<-hkn]; exact Dq6.out.size
      have CVN : Hid (wr.heap.size <= vn) := by rw [<-hvn]; exact Dq8.out.size
      rw [hvn] at VU ⊢;rw [hkn] at KU ⊢;clear hkn hvn;have DU := Dq9;generalize q9 = u at *;rotate_left 1
      try simp only [nz]
      go_simp
      go_at_call 29; refine (Calls.mono (of_any 4 (by decide) q6 (HTP.out q6 Dq6.out)).out ?_); rintro z q7 hz; obtain ⟨d2, e2, rfl, N2, Eq7⟩ := hz.to; clear hz
      have Dq7 := bel Dq6 Eq7;clear hHeld;refine hK.out _ _ ?_ (fun hHeld => ?_)
      · exact HST.out _ Dq7.out
      clear hK K
      try simp only [nz]
      refine tk 11 ?_
      try simp only [nz]
      refine wpAnyH_ready (rs := [0, 12]) (by kernel_rfl) (by simp) ?_;refine (AllReadyH.cons rfl (fun K hK => ?_) (AllReadyH.cons rfl (fun K hK => ?_) AllReadyH.nil));obtain ⟨q8, hq8, KKq8, Eq8⟩ := keys4_new q7;have Dq8 := bel Dq7 Eq8
      try simp only [nz]
      go_simp
      clear hq8;clear hHeld;refine hK.out _ _ ?_ (fun hHeld => ?_)
      · exact HST.out _ Dq8.out
      clear hK K
      try simp only [nz]
      refine rd 12 (fun K hK => ?_);obtain ⟨q9, hq9, VBq9, Eq9⟩ := kids4_new q8 s.lin a3 gl c3 d1 e1 d2 e2;have Dq9 := bel Dq8 Eq9;have KKq9 := hst KKq8 Eq9
      try simp only [nz]
      go_simp
      clear hq9;clear hHeld;refine hK.out _ _ ?_ (fun hHeld => ?_)
      · exact HST.out _ Dq9.out
      clear hK K
      try simp only [nz]
      obtain ⟨kn, hkn⟩ : ∃ k, q7.heap.size = k := ⟨_, rfl⟩;obtain ⟨vn, hvn⟩ : ∃ k, q8.heap.size = k := ⟨_, rfl⟩;have KU : Hid (q9.heap[q7.heap.size]? = some (.cells (keysS.map Value.string).toArray 9 (0, 0))) := KKq9;have VU := VBq9;have CKN : Hid (wr.heap.size <= kn) := by rw [<-hkn]; exact Dq7.out.size
      have CVN : Hid (wr.heap.size <= vn) := by rw [<-hvn]; exact Dq8.out.size
      rw [hvn] at VU ⊢;rw [hkn] at KU ⊢;clear hkn hvn;have DU := Dq9;generalize q9 = u at *;rotate_left 1
      obtain ⟨q8, hq8, VBq8, Eq8⟩ := kids4_new q7 s.lin a3 gl c3 d1 e1 d2 e2;have Dq8 := bel Dq7 Eq8
      try simp only [nz]
      go_simp
      clear hq8;clear hHeld;refine hK.out _ _ ?_ (fun hHeld => ?_)
      · exact HST.out _ Dq8.out
      clear hK K
      try simp only [nz]
      refine rd 0 (fun K hK => ?_);obtain ⟨q9, hq9, KKq9, Eq9⟩ := keys4_new q8;have Dq9 := bel Dq8 Eq9;have VBq9 := hst VBq8 Eq9
      try simp only [nz]
      go_simp
      clear hq9;clear hHeld;refine hK.out _ _ ?_ (fun hHeld => ?_)
      · exact HST.out _ Dq9.out
      clear hK K
      try simp only [nz]
      obtain ⟨kn, hkn⟩ : ∃ k, q8.heap.size = k := ⟨_, rfl⟩;obtain ⟨vn, hvn⟩ : ∃ k, q7.heap.size = k := ⟨_, rfl⟩;have KU : Hid (q9.heap[q8.heap.size]? = some (.cells (keysS.map Value.string).toArray 9 (0, 0))) := KKq9;have VU := VBq9;have CKN : Hid (wr.heap.size <= kn) := by rw [<-hkn]; exact Dq8.out.size
      have CVN : Hid (wr.heap.size <= vn) := by rw [<-hvn]; exact Dq7.out.size
      rw [hvn] at VU ⊢;rw [hkn] at KU ⊢;clear hkn hvn;have DU := Dq9;generalize q9 = u at *;rotate_left 1
      all_goals
        refine rd 13 (fun K hK => ?_)
        try simp only [nz]
        go_simp
        go_at_call 27; refine (Calls.mono (object_any _ _ _ _ _ _ u).out ?_); rintro z q30 ⟨rfl, hb⟩; have Eq30 : Hid (Below u.heap.size u q30) := hb; clear hb
        have Dq30 := bel DU Eq30;have KKq30 := hst KU Eq30;have VBq30 := hst VU Eq30;clear hHeld;refine hK.out _ _ ?_ (fun hHeld => ?_)
        · exact HST.out _ Dq30.out
        clear hK K
        try simp only [nz]
        refine rd 14 (fun K hK => ?_);have ZZ := hZz (HZZ.out q30 (hB.out.trans (Dq30.out.mono hB.out.size)));obtain ⟨⟨z0, z1, z2, z3, z4, z5, z6, z7⟩, y0, y1, y2, y3, y4, y5, y6, y7⟩ := val_cells ZZ.out
        try simp only [nz]
        go_simp
        clear z0 z1 z2 z3 z4 z5 z6 z7 y0 y1 y2 y3 y4 y5 y6 y7;clear hHeld;refine hK.out _ _ ?_ (fun hHeld => ?_)
        · exact ((gb8 _ _ _ _ _ _ _ _ _ _).block _ (Nat.lt_of_lt_of_le HLT.out Dq30.out.size) (by simp; exact HNE.out)).trans (HST.out _ Dq30.out)
        clear hK K
        try simp only [nz]
        refine tk 15 ?_
        try simp only [nz]
        refine wpAnyH_done (by kernel_rfl) ?_ _;clear hHeld;go_wp2_with fail
        refine bodyPost_ret (res2v rfl _ (b := w1.heap.size) (a := (objR (some ⟨kn, 0, none⟩) 4 4 (some ⟨vn, 0, none⟩) 4 4)) (set8 ZZ.out (objR (some ⟨kn, 0, none⟩) 4 4 (some ⟨vn, 0, none⟩) 4 4)) rfl) rfl ?_;exact treeP_mk (B := w2.heap.size) KKq30.out VBq30.out (HTV.out.turn (Turn.below Dq30.out)) N1.out N2.out (B02.out.trans ((hB.out.trans (Dq30.out.mono hB.out.size)).mono B02.out.size)) (Nat.le_trans hB.out.size CKN.out) (Nat.le_trans hB.out.size CVN.out) (heap_lt V2.out) B1.out.size
end Go.Proofs.YtfdjolfenghmaaaGreatDoor.Save
