/- tabulariumref26.Run. -/
import Derived.Test.YtehghladpnpcoaaGreatDoorUEdN
import Derived.Test.YtehghladpnpcoaaGreatDoorUEdL
set_option linter.unusedVariables false
set_option linter.unusedSimpArgs false
set_option maxRecDepth 100000
set_option maxHeartbeats 64000000
namespace Go.Proofs.YtehghladpnpcoaaGreatDoor.State.Edit
open Go.RowKit Go.Shelf Utf Strs Go.Proofs.YtehghladpnpcoaaGreatDoor.Addr Go.Proofs.YtehghladpnpcoaaGreatDoor.State
open Jdec (IsTexts Turn infoStr gb_set gb_below gb_refl)
theorem identB_nil : identB [] = false := by kernel_rfl
theorem str_keep {W W' : World} {B : Nat} {T : TypeId} {a a' : Option Addr} {c c' : Nat} {s s' : Sta} (h : W.heap[B]? = some (.cells (staArr a c s) T (0, 0))) (h' : W'.heap[B]? = some (.cells (staArr a' c' s') T (0, 0))) (hg : W.grownBy W' (some B)) {b o : Nat} {x : ByteArray} (hl : x = s.lin -> s'.lin = s.lin) (hb : b < W.heap.size) (hc : W.cell? ⟨b, o, none⟩ = some (.string x)) : W'.cell? ⟨b, o, none⟩ = some (.string x) := by
  by_cases e : b = B
  · subst e;rw [cell_of h] at hc;rw [cell_of h']
    match o, hc with
    | 0, hc => simp [staArr] at hc
    | 1, hc =>
      have e1 : s.lin = x := by simpa [staArr] using hc
      have e2 := hl e1.symm;simp [staArr, e2, e1]
    | 2, hc => simp [staArr] at hc
    | n + 3, hc => simp [staArr] at hc
  · rw [cell_blk (hg.block b hb (fun h => e (by injection h)))]; exact hc
theorem two_str {W : World} {B : Nat} {T : TypeId} {a : Option Addr} {c : Nat} {s : Sta} (h : W.heap[B]? = some (.cells (staArr a c s) T (0, 0))) {b o : Nat} {x y : ByteArray} (c1 : W.cell? ⟨b, o, none⟩ = some (.string x)) (c2 : W.cell? ⟨b, o + 1, none⟩ = some (.string y)) : b ≠ B := fun e => by
  subst e;rw [cell_of h] at c1 c2
  match o, c1, c2 with
  | 0, c1, c2 => simp [staArr] at c1
  | 1, c1, c2 => simp [staArr] at c2
  | n + 2, c1, c2 => simp [staArr] at c2
theorem recs_keep {W W' : World} {B : Nat} {T : TypeId} {a a' : Option Addr} {c c' : Nat} {s s' : Sta} (h : W.heap[B]? = some (.cells (staArr a c s) T (0, 0))) (h' : W'.heap[B]? = some (.cells (staArr a' c' s') T (0, 0))) (hg : W.grownBy W' (some B)) {ra : Option Addr} {l : List Rec} (hl : ∀ r ∈ l, ∀ n ∈ r.a.path, n = s.lin -> s'.lin = s.lin) (hr : RecsAt W ra l) : RecsAt W' ra l := by
  refine ⟨?_, hr.n, hr.s⟩;rcases hr.t with e | ⟨b, o, ha, hA, hb, f, hc⟩
  · exact .inl e
  · refine .inr ⟨b, o, ha, trivial, Nat.lt_of_lt_of_le hb hg.size, f, fun i hi => ?_⟩;obtain ⟨h1, h2⟩ := hc i hi;have hne : b ≠ B := two_str h (h1 1 _ rfl) (h1 2 _ rfl);refine ⟨fun j u hu => by rw [cell_blk (hg.block b hb (fun e => hne (by injection e)))]; exact h1 j u hu, ?_, ?_⟩
    · rcases h2.path with e | ⟨b2, o2, ha2, _, hb2, hc2⟩
      · exact .inl e
      · exact .inr ⟨b2, o2, ha2, trivial, Nat.lt_of_lt_of_le hb2 hg.size, fun j hj => str_keep h h' hg (hl _ (List.getElem_mem hi) _ (List.getElem_mem hj)) hb2 (hc2 j hj)⟩
    · rcases h2.attrs with e | ⟨b2, o2, ha2, _, hb2, hc2⟩
      · exact .inl e
      · refine .inr ⟨b2, o2, ha2, trivial, Nat.lt_of_lt_of_le hb2 hg.size, fun j hj => ?_⟩;have hn2 : b2 ≠ B := two_str h (hc2 j hj).1 (hc2 j hj).2;have hk := hg.block b2 hb2 (fun e => hn2 (by injection e));exact ⟨by rw [cell_blk hk]; exact (hc2 j hj).1, by rw [cell_blk hk]; exact (hc2 j hj).2⟩
theorem names_full {l : List Rec} (hg : Good l) : ∀ r ∈ l, ∀ n ∈ r.a.path, n ≠ ⟨#[]⟩ := fun r hr n hn e => by
  have h1 := recB_right (hg.r r hr);unfold rightA at h1;simp only [Bool.and_eq_true] at h1
  have h2 := List.all_eq_true.1 h1.1.2 n hn;subst e;have h3 : identB [] = true := h2;rw [identB_nil] at h3; cases h3
def IntsBlk (w : World) (g : Nat) : Prop := ∃ cs T fr, w.heap[g]? = some (.cells cs T fr) /\ ∀ u ∈ cs.toList, ∃ n : Int, u = .int .i64 n
theorem zeros_ints (n : Nat) : ∀ u ∈ (Builtin.zeroCells (Value.int .i64 0).cells n).toList, ∃ k : Int, u = .int .i64 k := fun u hu => by
  unfold Builtin.zeroCells at hu;rw [Array.mem_toList_iff, Array.mem_map] at hu;obtain ⟨i, _, rfl⟩ := hu;exact ⟨0, by simp [Value.cells, Nat.mod_one]⟩
theorem app_ints {t T : TypeId} (ht : Tryz.prog.underlying t = some (.slice T)) (hiT : (Tryz.prog.info? T).map (fun i => (i.zero, i.size, i.bytes)) = some (some (.int .i64 0), 1, 8)) (ty : TypeId) (w : World) (B : Nat) (v : Value) (l : List Int) (e : Int) (h : IntRow T w B v l) (hI : ∀ g, v.ownBlock = some g -> IntsBlk w g) (hl : l.length <= 3000) (hB : B <= w.heap.size) : ∃ v' w', (Builtin.append_ #[t, t] ty #[v, .slice (some ⟨w.heap.size, 0, none⟩) 1 1]).run Tryz.prog (w.alloc (.cells #[.int .i64 e] T)) = .ok v' w' /\ Hid (IntRow T w' B v' (l ++ [e])) /\ Hid ((w.alloc (.cells #[.int .i64 e] T)).grownBy w' v.ownBlock) /\ Hid (∀ g, v'.ownBlock = some g -> IntsBlk w' g) := by
  obtain ⟨v', w', hr, h2, h3⟩ := app_int ht hiT ty w B v l e h hl hB;refine ⟨v', w', hr, h2, h3, ?_⟩;obtain ⟨i0, hi, hz0, hz1, hz2⟩ := info_parts hiT;have V1 := heap_alloc_new w (.cells #[.int .i64 e] T (0, 0));have hnews : ∀ j u, [Value.int .i64 e][j]? = some u -> (w.alloc (.cells #[.int .i64 e] T)).cell? ((⟨w.heap.size, 0, none⟩ : Addr).add j) = some u := fun j u hu => by
    have hj : j = 0 := by have := (List.getElem?_eq_some_iff.1 hu).1; simpa using this
    subst hj;have e2 : (⟨w.heap.size, 0, none⟩ : Addr).add 0 = ⟨w.heap.size, 0, none⟩ := by unfold Addr.add; split <;> simp_all
    rw [e2, cell_of V1 0];exact hu
  have h0 : IntRow T (w.alloc (.cells #[.int .i64 e] T)) B v l := h.moves (fun g hg => ((Below.refl _ w).alloc (Nat.le_refl _) _).block g (World.ownsRow.lt h g hg).2);have hown := h0;obtain ⟨h4, h5⟩ := h0;rcases h5 with ⟨rfl, e0⟩ | ⟨g, cap, cur, rfl, h6, h7, h8, h9, h10, h11⟩
  · have hl0 : l = [] := List.length_eq_zero_iff.1 e0;subst hl0;have hr2 := run_append_nil (P := Tryz.prog) (w.alloc (.cells #[.int .i64 e] T)) t ty T i0 _ ht hi hz0 ⟨w.heap.size, 0, none⟩ 1 1 [.int .i64 e] (by rw [hz1]; rfl) hnews (by omega) (by omega) (by rw [hz2]; omega);rw [hr] at hr2;injection hr2 with e1 e2
    subst e1 e2;intro g hg
    simp only [Value.ownBlock, Option.some.injEq] at hg
    subst hg;refine ⟨_, _, _, heap_alloc_new _ _, fun u hu => ?_⟩;rw [Array.toList_append, List.mem_append] at hu;rcases hu with hu | hu
    · exact ⟨e, by simpa using hu⟩
    · exact zeros_ints _ u hu
  · have hold : ∀ u ∈ cur.toList, ∃ n : Int, u = .int .i64 n := by
      obtain ⟨cs, T2, fr, q1, q2⟩ := hI g rfl;have : (w.alloc (.cells #[.int .i64 e] T)).heap[g]? = w.heap[g]? := ((Below.refl _ w).alloc (Nat.le_refl _) _).block g (World.ownsRow.lt h g rfl).2;rw [this, q1] at h7;injection h7 with h7
      injection h7 with h7 _ _
      subst h7;exact q2
    have hlen : (l.map (Value.int .i64)).length = l.length * 1 := h4;by_cases hroom : l.length + 1 <= cap
    · have hr2 := run_append_room (P := Tryz.prog) (w.alloc (.cells #[.int .i64 e] T)) t ty T i0 ht hi g l.length cap cur h7 ⟨w.heap.size, 0, none⟩ 1 1 [.int .i64 e] (by rw [hz1]; rfl) hnews (fun u hu => by rw [List.mem_singleton.1 hu]; rfl) hroom (by rw [hz1, h10]; simp; omega);rw [hr] at hr2;injection hr2 with e1 e2
      subst e1 e2;intro g2 hg2
      simp only [Value.ownBlock, Option.some.injEq] at hg2
      subst hg2;refine ⟨_, _, _, setRow_heap _ _ _ _ _ _ h7, fun u hu => ?_⟩;simp only [List.mem_append] at hu
      rcases hu with (hu | hu) | hu
      · exact hold u (List.mem_of_mem_take hu)
      · exact ⟨e, List.mem_singleton.1 hu⟩
      · exact hold u (List.mem_of_mem_drop hu)
    · have hr2 := run_append_grow (P := Tryz.prog) (w.alloc (.cells #[.int .i64 e] T)) t ty T i0 _ ht hi hz0 ⟨g, 0, none⟩ l.length cap (l.map (Value.int .i64)) (by rw [hz1]; exact hlen) (World.ownsRow.cells hown (g := g) rfl) ⟨w.heap.size, 0, none⟩ 1 1 [.int .i64 e] (by rw [hz1]; rfl) hnews (by omega) (by omega) (growslice_fits (by omega) (by rw [hz2]; omega));rw [hr] at hr2;injection hr2 with e1 e2
      subst e1 e2;intro g2 hg2
      simp only [Value.ownBlock, Option.some.injEq] at hg2
      subst hg2;refine ⟨_, _, _, heap_alloc_new _ _, fun u hu => ?_⟩;simp only [Array.toList_append, List.mem_append] at hu
      rcases hu with (hu | hu) | hu
      · obtain ⟨n, _, rfl⟩ := List.mem_map.1 hu;exact ⟨n, rfl⟩
      · exact ⟨e, by simpa using hu⟩
      · exact zeros_ints _ u hu
theorem recs_apart {W W' : World} {row : Option Nat} (hg : W.grownBy W' row) (hI : ∀ g, row = some g -> IntsBlk W g) {ra : Option Addr} {l : List Rec} (hr : RecsAt W ra l) : RecsAt W' ra l := by
  have key : ∀ b o x, W.cell? ⟨b, o, none⟩ = some (.string x) -> some b ≠ row := fun b o x hc e => by
    obtain ⟨cs, T, fr, q1, q2⟩ := hI b e.symm;unfold World.cell? at hc;simp only [q1] at hc
    have hm := List.mem_of_getElem? (l := cs.toList) (by simpa using hc);obtain ⟨n, hn⟩ := q2 _ hm;cases hn
  refine ⟨?_, hr.n, hr.s⟩;rcases hr.t with e | ⟨b, o, ha, hA, hb, f, hc⟩
  · exact .inl e
  · refine .inr ⟨b, o, ha, trivial, Nat.lt_of_lt_of_le hb hg.size, f, fun i hi => ?_⟩;obtain ⟨h1, h2⟩ := hc i hi;refine ⟨fun j u hu => by rw [cell_blk (hg.block b hb (key _ _ _ (h1 1 _ rfl)))]; exact h1 j u hu, ?_, ?_⟩
    · rcases h2.path with e | ⟨b2, o2, ha2, _, hb2, hc2⟩
      · exact .inl e
      · exact .inr ⟨b2, o2, ha2, trivial, Nat.lt_of_lt_of_le hb2 hg.size, fun j hj => by rw [cell_blk (hg.block b2 hb2 (key _ _ _ (hc2 j hj)))]; exact hc2 j hj⟩
    · rcases h2.attrs with e | ⟨b2, o2, ha2, _, hb2, hc2⟩
      · exact .inl e
      · refine .inr ⟨b2, o2, ha2, trivial, Nat.lt_of_lt_of_le hb2 hg.size, fun j hj => ?_⟩;have hk := hg.block b2 hb2 (key _ _ _ (hc2 j hj).1);exact ⟨by rw [cell_blk hk]; exact (hc2 j hj).1, by rw [cell_blk hk]; exact (hc2 j hj).2⟩
theorem rrun_ret (s : Sta) (u : Value) (w' : World) (tm : Array Value) (b : Nat) (a : Option Addr) (c : Nat) (Q : Ending -> World -> Prop) (hb : w'.heap[b]? = some (.cells (staArr a c s) 25 (0, 0))) (h2 : tm[4]? = some (.pointer (some ⟨b, 0, none⟩))) (h3 : tm[5]? = some u) (hq : Q (.returned (.tuple #[staV a c s, u])) w') : bodyPost Tryz.prog Tryz.f32 Q Exit.ret { tmps := tm, defers := [] } w' := by
  obtain ⟨c0, c1, c2⟩ := sta_cells hb;refine bodyPost_ret (v := .tuple #[staV a c s, u]) ?_ rfl hq;simp [results, Tryz.results32, go_sem, h2, h3, c0, c1, c2, staV]
structure RU (w w1 w3 wr : World) (s : Sta) (l : List Cmd) (i : Nat) (s1 : Sta) (es : List Int) (a a1 : Option Addr) (c c1 : Nat) : Prop where
  blk : wr.heap[w.heap.size]? = some (.cells (staArr a1 c1 s1) 25 (0, 0))
  out : wr.heap[w1.heap.size]? = some (.cells (staArr none 0 ⟨0, ⟨#[]⟩, []⟩) 25 (0, 0))
  recs : RecsAt wr a1 s1.recs
  n : s1.recs.length <= c1 /\ s1.recs.length <= s.recs.length + i
  ch : ChainR s (l.take i).reverse s1 es
  row : IntRow 3 wr w3.heap.size (.slice a es.length c) es
  ints : ∀ g, (Value.slice a es.length c).ownBlock = some g -> IntsBlk wr g
  up : Below w.heap.size w wr
  z : w3.heap.size <= wr.heap.size
theorem rrun_any (s : Sta) (ra : Option Addr) (rc : Nat) (l : List Cmd) (la : Option Addr) (lc : Nat) (w : World) (h : RecsAt w ra s.recs) (hcp : s.recs.length <= rc) (hg : Good s.recs) (hcm : CmdsAt w la l) (hl : l.length <= 20) (hn : s.recs.length <= 2000) (hsn : s.serial < 18446744073709551616) : Hid (Calls Tryz.prog 32 #[.agg #[.int .u64 s.serial, .string s.lin, .slice ra s.recs.length rc], .slice la l.length lc] w (RnPost s l w)) := by
  show Calls _ _ _ _ _;obtain ⟨w1, hw1, V1, B1⟩ := sta_new w ra rc s;obtain ⟨w3, hw3, V3, B3, Z3⟩ := zsta_new w1;have hl1 := heap_lt V1.out;have hs1 := B1.out.size;have hs3 : w3.heap.size = w1.heap.size + 1 := Z3.out;have HSZ : Hid (w.heap.size < w1.heap.size /\ w1.heap.size < w3.heap.size) := ⟨hl1, by omega⟩;have B03 : Hid (Below w.heap.size w w3) := B1.out.trans (B3.out.mono hs1);have V13 : Hid (w3.heap[w.heap.size]? = some (.cells (staArr ra rc s) 25 (0, 0))) := (B3.out.block _ hl1).trans V1.out;have HR3 : Hid (RecsAt w3 ra s.recs) := h.stays B03.out;have HCM : Hid (∀ W, Below w.heap.size w W -> CmdsAt W la l) := fun W hb => hcm.stays hb;have HG := hdQ hg;have HSN := hdQ hsn;have HN := hdQ hn;have HCP := hdQ hcp;clear h hg hcm hn hsn hcp hl1 hs1 hs3;go_enter Tryz.func32, Tryz.ntmps32
  go_wp2_with fail
  clear hw1 hw3
  go_loopw [6, 7] (fun p6 p7 wr => ∃ (i : Nat) (s1 : Sta) (es : List Int) (a a1 : Option Addr) (c c1 : Nat), p6 = .slice a es.length c /\ p7 = .int .i64 i /\ i <= l.length /\ Hid (RU w w1 w3 wr s l i s1 es a a1 c c1)) (fun _ p7 _ => l.length - (intOf p7).toNat)
  case atStart => exact ⟨0, s, [], none, ra, 0, rc, rfl, rfl, Nat.zero_le _, ⟨V13.out, V3.out, HR3.out, ⟨HCP.out, Nat.le_refl _⟩, ⟨rfl, rfl⟩, World.ownsRow_nil _ _ _ _, (fun g hg => by cases hg), B03.out, Nat.le_refl _⟩⟩
  case round =>
    obtain ⟨i, s1, es, a, a1, c, c1, rfl, rfl, hi, hI⟩ := hrel;by_cases hlt : i < l.length
    · obtain ⟨lb, lo, hla, hlb, f, hf⟩ := (HCM.out wr hI.out.up).resolve_left (by intro e; rw [e] at hlt; simp at hlt);obtain ⟨hf1, hf2⟩ := hf i hlt;have htk : (l.take (i + 1)).reverse = l[i] :: (l.take i).reverse := by
        rw [List.take_add_one, List.getElem?_eq_getElem hlt, List.reverse_append]; rfl
      obtain ⟨cm, hcm⟩ : ∃ cm, l[i] = cm := ⟨_, rfl⟩;obtain ⟨k, hk⟩ : ∃ k, f i = k := ⟨_, rfl⟩;rw [hcm] at hf1 hf2 htk;rw [hk] at hf1 hf2;have HTK := hdQ htk;have HLD : Hid (∀ W, Below wr.heap.size wr W -> (Instr.loadAt 44 (.pointer (some ⟨lb, lo + i * 22, none⟩))).run Tryz.prog W = .ok (.agg #[.int .i64 cm.kind, .slice k.pf cm.fr.path.length k.fc, .string cm.fr.type, .string cm.fr.name, .int .i64 cm.fr.key, .int .u64 cm.fr.place, .string cm.fr.word, .slice k.pt cm.ad.path.length k.tc, .string cm.ad.type, .string cm.ad.name, .int .i64 cm.ad.key, .int .u64 cm.ad.place, .string cm.ad.word, .slice k.p.pa cm.r.a.path.length k.p.pc, .string cm.r.a.type, .string cm.r.a.name, .int .i64 cm.r.a.key, .int .u64 cm.r.a.place, .string cm.r.a.word, .string cm.r.prov, .string cm.r.id, .slice k.p.ta cm.r.attrs.length k.p.tc]) W) := fun W hb => (cmd_load3 (w := W) (b := lb) (o := lo + i * 22) (k := k) (c := cm) (fun j u hu => by rw [cell_blk (hb.block lb hlb)]; exact hf1 j u hu)).out;have HBK : Hid (∀ W, Below wr.heap.size wr W -> W.heap[w.heap.size]? = some (.cells (staArr a1 c1 s1) 25 (0, 0))) := fun W hb => (hb.block _ (heap_lt hI.out.blk)).trans hI.out.blk;have HCF := Chain.facts HG.out HSN.out _ hI.out.ch;have HGS : Hid (Good s1.recs /\ s1.serial < 18446744073709551616 /\ es.length <= 20) := ⟨HCF.1, HCF.2.1, by rw [HCF.2.2.2.1, List.length_reverse, List.length_take]; omega⟩;have HDO : Hid (∀ W, Below wr.heap.size wr W -> Calls Tryz.prog 24 #[.agg #[.int .u64 s1.serial, .string s1.lin, .slice a1 s1.recs.length c1], .agg #[.int .i64 cm.kind, .slice k.pf cm.fr.path.length k.fc, .string cm.fr.type, .string cm.fr.name, .int .i64 cm.fr.key, .int .u64 cm.fr.place, .string cm.fr.word, .slice k.pt cm.ad.path.length k.tc, .string cm.ad.type, .string cm.ad.name, .int .i64 cm.ad.key, .int .u64 cm.ad.place, .string cm.ad.word, .slice k.p.pa cm.r.a.path.length k.p.pc, .string cm.r.a.type, .string cm.r.a.name, .int .i64 cm.r.a.key, .int .u64 cm.r.a.place, .string cm.r.a.word, .string cm.r.prov, .string cm.r.id, .slice k.p.ta cm.r.attrs.length k.p.tc]] W (EdPost s1 cm W)) := fun W hb => (rdo_any s1 a1 c1 k cm W (hI.out.recs.stays hb) hI.out.n.1 HGS.out.1 (hf2.stays hb) (by have := hI.out.n.2; have := HN.out; omega) HGS.out.2.1).out;subst hla;clear hf hf1 hf2 htk hcm hk HCF hlb;go_wp2_with fail
      refine wp_region_held_drew (S := (fun W => Below wr.heap.size wr W)) (by kernel_rfl) ?_ (fun hHeld => ?_)
      · exact (Below.refl _ _).drew
      have HDW : Hid (Below wr.heap.size wr wr.drew) := (Below.refl _ _).drew;refine tv 0 (.agg #[.int .u64 s1.serial, .string s1.lin, .slice a1 s1.recs.length c1]) ?_ ?_
      · (intro W hs; exact exec_load rfl rfl (sta_load (HBK.out W hs)).out)
      refine tk 1 ?_;refine tk 2 ?_;refine tk 3 ?_
      try simp only [nz]
      refine tv 4 (.agg #[.int .i64 cm.kind, .slice k.pf cm.fr.path.length k.fc, .string cm.fr.type, .string cm.fr.name, .int .i64 cm.fr.key, .int .u64 cm.fr.place, .string cm.fr.word, .slice k.pt cm.ad.path.length k.tc, .string cm.ad.type, .string cm.ad.name, .int .i64 cm.ad.key, .int .u64 cm.ad.place, .string cm.ad.word, .slice k.p.pa cm.r.a.path.length k.p.pc, .string cm.r.a.type, .string cm.r.a.name, .int .i64 cm.r.a.key, .int .u64 cm.r.a.place, .string cm.r.a.word, .string cm.r.prov, .string cm.r.id, .slice k.p.ta cm.r.attrs.length k.p.tc]) ?_ ?_
      · (intro W hs; exact exec_load rfl rfl (HLD.out W hs))
      try simp only [nz]
      refine wpAnyH_ready (rs := [5, 9]) (by kernel_rfl) (by simp) ?_;refine (AllReadyH.cons rfl (fun K hK => ?_) (AllReadyH.cons rfl (fun K hK => ?_) AllReadyH.nil))
      try simp only [nz]
      go_simp
      go_at_call 24; refine (Calls.mono (HDO.out wr.drew HDW.out) ?_); rintro z w5 hz; obtain ⟨a5, c5, s5, rfl, HD5, HR5, HL5, hb5⟩ := hz.to
      have B5 : Hid (Below wr.drew.heap.size wr.drew w5) := hb5.out;have C5 : Hid (Below wr.heap.size wr w5) := HDW.out.trans (hb5.out.mono HDW.out.size);clear hb5 hz;obtain ⟨e, he⟩ : ∃ e, errC s1 cm = e := ⟨_, rfl⟩;have HE := hdQ he;clear hHeld;refine hK.out _ _ C5.out (fun hHeld => ?_);clear hK K
      try simp only [nz]
      refine tk 6 ?_;refine tk 7 ?_;refine tk 8 ?_
      try simp only [nz]
      obtain ⟨z6, hz6, Vz6, Bz6, Zz6⟩ := zsta_new w5;have Cz6 : Hid (Below wr.heap.size wr z6) := C5.out.trans (Bz6.out.mono C5.out.size);obtain ⟨w6, ht6⟩ : ∃ w6, (((z6.setCell ⟨w5.heap.size, 0, none⟩ (.int .u64 s5.serial)).setCell ⟨w5.heap.size, 1, none⟩ (.string s5.lin)).setCell ⟨w5.heap.size, 2, none⟩ (.slice a5 s5.recs.length c5)) = w6 := ⟨_, rfl⟩;have Gt6 : Hid (z6.grownBy w6 (some w5.heap.size)) := by rw [<-ht6]; exact (((gb_set _ _ _ _).trans (gb_set _ _ _ _)).trans (gb_set _ _ _ _))
      have V6 : Hid (w6.heap[w5.heap.size]? = some (.cells (staArr a5 c5 s5) 25 (0, 0))) := by rw [<-ht6]; exact set3 (t := s5) Vz6.out
      have fz60 := frozen_of Vz6.out 0;have fz61 := frozen_of Vz6.out 1;have fz62 := frozen_of Vz6.out 2;obtain ⟨cz60, cz61, cz62⟩ := sta_cells Vz6.out;have C6 : Hid (Below wr.heap.size wr w6) := Cz6.out.grown Gt6.out Cz6.out.size (fun x hx => by injection hx with hx; have := C5.out.size; omega);have B56 : Hid (Below w5.heap.size w5 w6) := Bz6.out.grown Gt6.out Bz6.out.size (fun x hx => by injection hx with hx; omega);have R6 : Hid (RecsAt w6 a5 s5.recs) := HR5.out.stays B56.out;refine rd 9 (fun K hK => ?_)
      try simp only [nz]
      go_simp
      clear hHeld;refine hK.out _ _ Cz6.out (fun hHeld => ?_);clear hK K
      try simp only [nz]
      refine rd 10 (fun K hK => ?_)
      try simp only [nz]
      go_simp
      clear hHeld;refine hK.out _ _ C6.out (fun hHeld => ?_);clear hK K
      try simp only [nz]
      refine tk 11 ?_
      try simp only [nz]
      refine wpAnyH_done (by kernel_rfl) ?_ _;clear hHeld hz6 ht6 fz60 fz61 fz62 cz60 cz61 cz62;rotate_left 1
      obtain ⟨z4, hz4, Vz4, Bz4, Zz4⟩ := zsta_new wr;have Cz4 : Hid (Below wr.heap.size wr z4.drew) := Bz4.out.drew
      try simp only [nz]
      go_simp
      clear hHeld;refine hK.out _ _ Cz4.out (fun hHeld => ?_);clear hK K
      try simp only [nz]
      refine rd 5 (fun K hK => ?_)
      try simp only [nz]
      go_simp
      go_at_call 24; refine (Calls.mono (HDO.out z4.drew Cz4.out) ?_); rintro z w5 hz; obtain ⟨a5, c5, s5, rfl, HD5, HR5, HL5, hb5⟩ := hz.to
      have B5 : Hid (Below z4.drew.heap.size z4.drew w5) := hb5.out;have C5 : Hid (Below wr.heap.size wr w5) := Cz4.out.trans (hb5.out.mono Cz4.out.size);clear hb5 hz;obtain ⟨e, he⟩ : ∃ e, errC s1 cm = e := ⟨_, rfl⟩;have HE := hdQ he;clear hHeld;refine hK.out _ _ C5.out (fun hHeld => ?_);clear hK K
      try simp only [nz]
      refine tk 6 ?_;refine tk 7 ?_;refine tk 8 ?_
      try simp only [nz]
      have Vz5 : Hid (w5.heap[wr.heap.size]? = some (.cells (staArr none 0 ⟨0, ⟨#[]⟩, []⟩) 25 (0, 0))) := (B5.out.block _ (heap_lt (w := z4.drew) Vz4.out)).trans Vz4.out;obtain ⟨w6, ht6⟩ : ∃ w6, (((w5.setCell ⟨wr.heap.size, 0, none⟩ (.int .u64 s5.serial)).setCell ⟨wr.heap.size, 1, none⟩ (.string s5.lin)).setCell ⟨wr.heap.size, 2, none⟩ (.slice a5 s5.recs.length c5)) = w6 := ⟨_, rfl⟩;have Gt6 : Hid (w5.grownBy w6 (some wr.heap.size)) := by rw [<-ht6]; exact (((gb_set _ _ _ _).trans (gb_set _ _ _ _)).trans (gb_set _ _ _ _))
      have V6 : Hid (w6.heap[wr.heap.size]? = some (.cells (staArr a5 c5 s5) 25 (0, 0))) := by rw [<-ht6]; exact set3 (t := s5) Vz5.out
      have fz60 := frozen_of Vz5.out 0;have fz61 := frozen_of Vz5.out 1;have fz62 := frozen_of Vz5.out 2;obtain ⟨cz60, cz61, cz62⟩ := sta_cells Vz5.out;have C6 : Hid (Below wr.heap.size wr w6) := C5.out.grown Gt6.out C5.out.size (fun x hx => by injection hx with hx; omega);have HNF := names_full HD5.out.good;have R6 : Hid (RecsAt w6 a5 s5.recs) := recs_keep Vz5.out V6.out Gt6.out (fun r hr n hn e => absurd e (HNF r hr n hn)) HR5.out;clear HNF;refine rd 10 (fun K hK => ?_)
      try simp only [nz]
      go_simp
      clear hHeld;refine hK.out _ _ C6.out (fun hHeld => ?_);clear hK K
      try simp only [nz]
      refine tk 11 ?_
      try simp only [nz]
      refine wpAnyH_done (by kernel_rfl) ?_ _;clear hHeld hz4 ht6 fz60 fz61 fz62 cz60 cz61 cz62;rotate_left 1
      all_goals
        have Vs6 : Hid (w6.heap[w.heap.size]? = some (.cells (staArr a1 c1 s1) 25 (0, 0))) := (C6.out.block _ (heap_lt hI.out.blk)).trans hI.out.blk;obtain ⟨w7, hw7⟩ : ∃ w7, (((w6.setCell ⟨w.heap.size, 0, none⟩ (.int .u64 s5.serial)).setCell ⟨w.heap.size, 1, none⟩ (.string s5.lin)).setCell ⟨w.heap.size, 2, none⟩ (.slice a5 s5.recs.length c5)) = w7 := ⟨_, rfl⟩;have G7 : Hid (w6.grownBy w7 (some w.heap.size)) := by rw [<-hw7]; exact (((gb_set _ _ _ _).trans (gb_set _ _ _ _)).trans (gb_set _ _ _ _))
        have V7 : Hid (w7.heap[w.heap.size]? = some (.cells (staArr a5 c5 s5) 25 (0, 0))) := by rw [<-hw7]; exact set3 (t := s5) Vs6.out
        have fs0 := frozen_of Vs6.out 0;have fs1 := frozen_of Vs6.out 1;have fs2 := frozen_of Vs6.out 2;obtain ⟨cs0, cs1, cs2⟩ := sta_cells Vs6.out;obtain ⟨cx0, cx1, cx2⟩ := sta_cells V6.out;have R7 : Hid (RecsAt w7 a5 s5.recs) := recs_keep Vs6.out V7.out G7.out (fun _ _ _ _ _ => HD5.out.lin) R6.out;have HS := HSZ.out;have hrow7 : IntRow 3 w7 w3.heap.size (.slice a es.length c) es := hI.out.row.moves (fun g hg => by
          obtain ⟨h1, h2⟩ := World.ownsRow.lt hI.out.row g hg;rw [G7.out.block g (Nat.lt_of_lt_of_le h2 C6.out.size) (fun e => by injection e with e; omega), C6.out.block g h2])
        have hs37 : w3.heap.size <= w7.heap.size := Nat.le_trans hI.out.z (Nat.le_trans C6.out.size G7.out.size);have hint7 : ∀ g, (Value.slice a es.length c).ownBlock = some g -> IntsBlk w7 g := fun g hg => by
          obtain ⟨h1, h2⟩ := World.ownsRow.lt hI.out.row g hg;obtain ⟨cs, T, fr, q1, q2⟩ := hI.out.ints g hg;exact ⟨cs, T, fr, by rw [G7.out.block g (Nat.lt_of_lt_of_le h2 C6.out.size) (fun e => by injection e with e; omega), C6.out.block g h2]; exact q1, q2⟩
        obtain ⟨v', w9, hap, hrow, hgr, hint⟩ := app_ints Tryz.underlying58 infoInt 58 w7 w3.heap.size (.slice a es.length c) es e hrow7 hint7 (by have := HGS.out.2.2; omega) hs37;obtain ⟨w8, hw8, B8⟩ : ∃ w8, w7.alloc (.cells #[.int .i64 e] 3) = w8 /\ Hid (Below w7.heap.size w7 w8) := ⟨_, rfl, (Below.refl _ _).alloc (Nat.le_refl _) _⟩;rw [hw8] at hap hgr;have HAP := hdQ hap;have hown : ∀ k, (Value.slice a es.length c).ownBlock = some k -> w3.heap.size <= k := fun k hk => (World.ownsRow.lt hI.out.row k hk).1;obtain ⟨a', c', rfl, _, _⟩ := hrow.out.form;have hup7 : Below w.heap.size w w7 := (hI.out.up.trans (C6.out.mono hI.out.up.size)).grown G7.out (Nat.le_trans hI.out.up.size C6.out.size) (fun x hx => by injection hx with hx; omega);have hk9 : ∀ x, x < w7.heap.size -> some x ≠ (Value.slice a es.length c).ownBlock -> w9.heap[x]? = w7.heap[x]? := fun x hx hne => (hgr.out.block x (Nat.lt_of_lt_of_le hx B8.out.size) hne).trans (B8.out.block x hx);have hlt3 : ∀ x, x < w3.heap.size -> some x ≠ (Value.slice a es.length c).ownBlock := fun x hx e => by have := hown x e.symm; omega
        have R9 : RecsAt w9 a5 s5.recs := recs_apart hgr.out (fun g hg => by
          obtain ⟨cs, T, fr, q1, q2⟩ := hint7 g hg;exact ⟨cs, T, fr, by rw [B8.out.block g (heap_lt q1)]; exact q1, q2⟩) (R7.out.stays B8.out)
        have HR : Hid (RU w w1 w3 w9 s l (i + 1) s5 (es ++ [e]) a' a5 c' c5) := ⟨(hk9 _ (heap_lt V7.out) (hlt3 _ (by omega))).trans V7.out, (hk9 _ (by have := G7.out.size; have := C6.out.size; have := hI.out.z; omega) (hlt3 _ (by omega))).trans ((G7.out.block _ (by have := C6.out.size; have := hI.out.z; omega) (fun e => by injection e with e; omega)).trans ((C6.out.block _ (by have := hI.out.z; omega)).trans hI.out.out)), R9, ⟨HL5.out.1, by have := HL5.out.2; have := hI.out.n.2; omega⟩, by rw [HTK.out]; exact ⟨s1, es, hI.out.ch, HD5.out, by rw [HE.out]⟩, hrow.out, hint.out, (hup7.trans (B8.out.mono hup7.size)).grown hgr.out (Nat.le_trans hup7.size B8.out.size) (fun x hx => by have := hown x hx; omega), Nat.le_trans hs37 (Nat.le_trans B8.out.size hgr.out.size)⟩;clear hap hown hrow7 hint7 hint hs37 hrow hup7 hk9 hlt3 R9 HS;go_wp2_with (at_builtin; refine wpList_append_run (.slice a es.length c) (.slice (some ⟨w7.heap.size, 0, none⟩) 1 1) 58 HAP.out rfl _ _ rfl rfl rfl ?_)
        go_roundw
        case rel => exact ⟨i + 1, s5, es ++ [e], a', a5, c', c5, by rw [List.length_append]; rfl, by go_num, by omega, HR.out⟩
        case measure => simp [intOf]; omega
    · have hie : i = l.length := by omega
      have HI : Hid (RU w w1 w3 wr s l l.length s1 es a a1 c c1) := by rw [<-hie]; exact hI.out
      have HCF := hdQ (Chain.facts HG.out HSN.out _ HI.out.ch);clear hie hI;have f0 := frozen_of HI.out.out 0;have f1 := frozen_of HI.out.out 1;have f2 := frozen_of HI.out.out 2;obtain ⟨r0, r1, r2⟩ := sta_cells HI.out.out;obtain ⟨x0, x1, x2⟩ := sta_cells HI.out.blk;go_wp2_with fail
      have hg6 : wr.grownBy ((((wr.setCell ⟨w1.heap.size, 0, none⟩ (.int .u64 s1.serial)).setCell ⟨w1.heap.size, 1, none⟩ (.string s1.lin)).setCell ⟨w1.heap.size, 2, none⟩ (.slice a1 s1.recs.length c1))) (some w1.heap.size) := ((gb_set _ _ _ _).trans (gb_set _ _ _ _)).trans (gb_set _ _ _ _);have HS := HSZ.out;refine rrun_ret s1 (.slice a es.length c) _ _ w1.heap.size a1 c1 _ (set3 (t := s1) HI.out.out) rfl rfl ⟨a1, c1, s1, a, c, es, rfl, by have := HI.out.ch; rw [List.take_length] at this; exact this, ?_, HI.out.n, ?_, HI.out.up.grown hg6 HI.out.up.size (fun x hx => by injection hx with hx; omega)⟩
      · have HNF := names_full HCF.out.1;exact recs_keep HI.out.out (set3 (t := s1) HI.out.out) hg6 (fun r hr n hn e => absurd e (HNF r hr n hn)) HI.out.recs
      · have hm := HI.out.row.moves (w' := ((((wr.setCell ⟨w1.heap.size, 0, none⟩ (.int .u64 s1.serial)).setCell ⟨w1.heap.size, 1, none⟩ (.string s1.lin)).setCell ⟨w1.heap.size, 2, none⟩ (.slice a1 s1.recs.length c1)))) (fun g hg => by
          obtain ⟨h1, h2⟩ := World.ownsRow.lt HI.out.row g hg;rw [hg6.block g h2 (fun e => by injection e with e; omega)])
        obtain ⟨a3, c3, e3, h3, _⟩ := hm.form;injection e3 with e3 _ _
        rw [e3]; exact h3
theorem same26_any (l : List Int) (a b : Option Addr) (c d : Nat) (w : World) (h1 : IsInts w a l) (h2 : IsInts w b l) (hl : l.length <= 20) : Hid (Calls Tryz.prog 33 #[.slice a l.length c, .slice b l.length d] w fun e w' => e = .returned (.bool true) /\ Below w.heap.size w w') := by
  show Calls _ _ _ _ _;have H1 : Hid (∀ W, Below w.heap.size w W -> IsInts W a l) := fun W hb => h1.stays hb;have H2 : Hid (∀ W, Below w.heap.size w W -> IsInts W b l) := fun W hb => h2.stays hb;clear h1 h2;go_enter Tryz.func33, Tryz.ntmps33
  go_wp2_with fail
  go_loopw [13] (fun p13 wr => ∃ i : Nat, p13 = .int .i64 i /\ i <= l.length /\ Hid (Below w.heap.size w wr)) (fun p13 _ => l.length - (intOf p13).toNat)
  case atStart => exact ⟨0, rfl, Nat.zero_le _, Below.refl _ _⟩
  case round =>
    obtain ⟨i, rfl, hi, hB⟩ := hrel;by_cases hlt : i < l.length
    · obtain ⟨b1, o1, ha1, hb1, hc1⟩ := (H1.out wr hB.out).resolve_left (by intro e; rw [e] at hlt; simp at hlt);obtain ⟨b2, o2, ha2, hb2, hc2⟩ := (H2.out wr hB.out).resolve_left (by intro e; rw [e] at hlt; simp at hlt);obtain ⟨x, hx⟩ : ∃ x, l[i] = x := ⟨_, rfl⟩;have HC1 : Hid (∀ W, Below wr.heap.size wr W -> W.cell? ⟨b1, o1 + i, none⟩ = some (.int .i64 x)) := fun W hb => by rw [cell_blk (hb.block b1 hb1), <-hx]; exact hc1 i hlt
      have HC2 : Hid (∀ W, Below wr.heap.size wr W -> W.cell? ⟨b2, o2 + i, none⟩ = some (.int .i64 x)) := fun W hb => by rw [cell_blk (hb.block b2 hb2), <-hx]; exact hc2 i hlt
      subst ha1 ha2;clear hx hb1 hc1 hb2 hc2;go_wp2_with fail
      refine wp_region_held_drew (S := fun W => Below wr.heap.size wr W) (by kernel_rfl) ?_ (fun hHeld => ?_)
      · exact (Below.refl _ _).drew
      refine tk 0 ?_;refine tk 1 ?_;refine tk 2 ?_
      try simp only [nz]
      refine tv 3 (.int .i64 x) ?_ ?_
      · intro W hW; have ee := HC1.out W hW; clear hW; go_simp <;> with_reducible rfl
      try simp only [nz]
      refine tk 4 ?_;refine tk 5 ?_;refine tk 6 ?_
      try simp only [nz]
      refine tv 7 (.int .i64 x) ?_ ?_
      · intro W hW; have ee := HC2.out W hW; clear hW; go_simp <;> with_reducible rfl
      try simp only [nz]
      refine tk 8 ?_
      try simp only [nz]
      refine wpAnyH_done (by kernel_rfl) ?_ _;have HDW : Hid (Below w.heap.size w wr.drew) := hB.out.drew;clear hHeld;go_wp2_with fail
      go_roundw
      case rel => exact ⟨i + 1, by go_num, by omega, HDW.out⟩
      case measure => simp [intOf]; omega
    · have hie : i = l.length := by omega
      clear H1 H2;subst hie;go_wp2_with fail
      go_ret
      exact ⟨rfl, hB.out⟩
open Go.ChangeShapes Go.WideShapes Go.ChangeAt
def CmdlArg (w : World) (v : Value) (l : List Cmd) : Prop := ∃ la lc, v = .slice la l.length lc /\ IsCmds w la l
theorem open_cmdl {H : Type} {enc : TypeId × Value -> H} {W : World} {base : Nat} {v : Value} {d : DataW H} {p : List MemPlace} (hval : Value.okWide Tryz.prog W .any base 46 v) (h : DataW.Trod enc Tryz.prog W 0 (fun _ => true) true 46 v d p) (hR : ∀ n ∈ d.weights Tryz.prog 46, n <= rb) : ∃ l : List Cmd, CmdlArg W v l := by
  obtain ⟨a, n, c, rfl⟩ := okWide_slice Tryz.underlying46 hval;obtain ⟨fuel, hf⟩ := h;have hf2 : DataW.trod enc Tryz.prog W 0 (fun _ => true) true fuel 46 [.slice a n c] = some (d, p) := by simpa [Value.cells] using hf
  obtain ⟨ka, kc, l, hc, hlc, hl, hw⟩ := open_row (⟨none, 0, none, 0, At.zero⟩, ⟨0, zeroA, zeroA, Rec.zero⟩) (CmdR W) Tryz.underlying46 22 328 cellsCmd (by omega) bytesCmd (by omega) open_cmdcells hf2 hR;refine ⟨l.map (·.2), ka, kc, by rw [List.length_map]; exact hc, ?_⟩;rcases hw with e | ⟨b, o, ha, hb, hi⟩
  · exact .inl (by rw [e]; rfl)
  · refine .inr ⟨b, o, ha, hb, fun i => ((l[i]?).map (·.1)).getD ⟨none, 0, none, 0, At.zero⟩, fun i h => ?_⟩;have h' : i < l.length := by rw [List.length_map] at h; exact h
    obtain ⟨cs, hl2, hcs, e, hin⟩ := hi i h';have ef : ((l[i]?).map (·.1)).getD ⟨none, 0, none, 0, At.zero⟩ = l[i].1 := by rw [List.getElem?_eq_getElem h']; rfl
    rw [List.getElem_map];simp only [ef]
    refine ⟨fun j u hu => hcs j u ?_, hin⟩;rw [e, Array.getElem?_toList];exact hu
theorem RnPost.to {s : Sta} {l : List Cmd} {w w' : World} {e : Ending} (h : RnPost s l w e w') : ∃ a1 c1 s1 a2 c2, ∃ es : List Int, e = .returned (.tuple #[.agg #[.int .u64 s1.serial, .string s1.lin, .slice a1 s1.recs.length c1], .slice a2 es.length c2]) /\ Hid (ChainR s l.reverse s1 es) /\ Hid (RecsAt w' a1 s1.recs) /\ Hid (s1.recs.length <= c1 /\ s1.recs.length <= s.recs.length + l.length) /\ Hid (IsInts w' a2 es) /\ Hid (Below w.heap.size w w') := h
theorem oks_take {l : List Int} {i : Nat} (h : i < l.length) : oks (l.take (i + 1)) = oks (l.take i) + (if l[i] = 0 then 1 else 0) := by
  rw [List.take_add_one, List.getElem?_eq_getElem h, oks_append];simp [oks]
theorem oks_le : ∀ l : List Int, oks l <= l.length
  | [] => Nat.le_refl _
  | e :: l => by have := oks_le l; rw [oks, List.length_cons]; split <;> omega
theorem editRuns_any (s : Sta) (ra : Option Addr) (rc : Nat) (l : List Cmd) (la : Option Addr) (lc : Nat) (w : World) (T : TabsA w) (h : StaIn w ra s) (hcp : s.recs.length <= rc) (hcs : IsCmds w la l) (hsn : s.serial < 18446744073709551616) : Calls Tryz.prog 8 #[.agg #[.int .u64 s.serial, .string s.lin, .slice ra s.recs.length rc], .slice la l.length lc] w fun e w' => e = .returned (.bool true) /\ Below w.heap.size w w' := by
  obtain ⟨w2, hw2, V2, B2⟩ := sta_new w ra rc s;have hl2 := heap_lt V2.out;have HSB : Hid (∀ W, Below w2.heap.size w2 W -> W.heap[w.heap.size]? = some (.cells (staArr ra rc s) 25 (0, 0))) := fun W hb => (hb.block _ hl2).trans V2.out;have HBW : Hid (∀ W, Below w2.heap.size w2 W -> Below w.heap.size w W) := fun W hb => B2.out.trans (hb.mono B2.out.size);have HT : Hid (∀ W, Below w2.heap.size w2 W -> TabsA W) := fun W hb => T.stays (HBW.out W hb);have HS : Hid (∀ W, Below w2.heap.size w2 W -> StaIn W ra s) := fun W hb => h.stays (HBW.out W hb);have HC : Hid (∀ W, Below w2.heap.size w2 W -> IsCmds W la l) := fun W hb => hcs.stays (HBW.out W hb);have HWK := wakes26 w2 (HT.out w2 (Below.refl _ _));have HSN := hdQ hsn;have HCP := hdQ hcp;clear T h hcs hsn hcp hl2;go_enter Tryz.func8, Tryz.ntmps8
  go_wp2_with fail
  refine (Calls.mono HWK.out ?_);rintro z w3 ⟨rfl, hb⟩;have C3 : Hid (Below w2.heap.size w2 w3) := hb;clear hb HWK hw2;have HGS := gs_ok s ra rc w3 (HS.out w3 C3.out);obtain ⟨x0, x1, x2⟩ := sta_cells (HSB.out w3 C3.out);go_wp2_with fail
  refine (Calls.mono HGS.out ?_);rintro z w4 hz;obtain ⟨g, rfl, hg, hb⟩ := hz.to;have C4 : Hid (Below w2.heap.size w2 w4) := C3.out.trans (hb.out.mono C3.out.size);clear hz hb HGS x0 x1 x2;cases g
  case true =>
    go_wp2_with fail
    go_ret
    exact ⟨rfl, HBW.out _ C4.out⟩
  have hsz := hg.out rfl;have hn3 : s.recs.length <= 3000 := by omega
  have HN : Hid (s.recs.length <= 30) := hsz.1;have hl6 : s.lin.size <= 6000 := by omega
  have HSM := hdQ hsz.2.2;have HR : Hid (∀ W, Below w2.heap.size w2 W -> RecsAt W ra s.recs) := fun W hb => ⟨(HS.out W hb).t, hn3, HSM.out⟩;obtain ⟨rs, hrs⟩ : ∃ b, rightS s = b := ⟨_, rfl⟩;have HRR := rr_ok s ra rc w4 (HR.out w4 C4.out) hl6 rs hrs;have HRS := hdQ hrs;obtain ⟨x0, x1, x2⟩ := sta_cells (HSB.out w4 C4.out);clear hsz hg hrs hl6 hn3;go_wp2_with fail
  refine (Calls.mono HRR.out ?_);rintro z w5 ⟨rfl, hb⟩;have C5 : Hid (Below w2.heap.size w2 w5) := C4.out.trans (hb.mono C4.out.size);clear hb HRR x0 x1 x2;cases rs
  case false =>
    go_wp2_with fail
    go_ret
    exact ⟨rfl, HBW.out _ C5.out⟩
  have HG : Hid (Good s.recs) := rightS_good HRS.out HSM.out;have HGC : Hid (Calls Tryz.prog 22 #[.slice la l.length lc] w5 (GcPost l w5)) := rgreat26_any l la lc w5 (HC.out w5 C5.out);go_wp2_with fail
  refine (Calls.mono HGC.out ?_);rintro z w7 hz;obtain ⟨g, rfl, hg, hb⟩ := hz.to;have C7 : Hid (Below w2.heap.size w2 w7) := C5.out.trans (hb.out.mono C5.out.size);clear hz hb HGC;cases g
  case true =>
    go_wp2_with fail
    go_ret
    exact ⟨rfl, HBW.out _ C7.out⟩
  have hft := hg.out rfl;have HL20 := hdQ hft.1;have HCM : Hid (∀ W, Below w2.heap.size w2 W -> CmdsAt W la l) := fun W hb => (HC.out W hb).at hft.2;clear hg hft;obtain ⟨x0, x1, x2⟩ := sta_cells (HSB.out w7 C7.out);have HRN : Hid (Calls Tryz.prog 31 #[.agg #[.int .u64 s.serial, .string s.lin, .slice ra s.recs.length rc], .slice la l.length lc] w7 (RnPost s l w7)) := run_any s ra rc l la lc w7 (HR.out w7 C7.out) HG.out (HCM.out w7 C7.out) HL20.out (by have := HN.out; omega) HSN.out (HT.out w7 C7.out);go_wp2_with fail
  refine (Calls.mono HRN.out ?_);rintro z w8 hz;obtain ⟨a9, c9, s9, ka, kc, es, rfl, CH9, HR9, HL9, IN9, hb⟩ := hz.to;have C8 : Hid (Below w2.heap.size w2 w8) := C7.out.trans (hb.out.mono C7.out.size);clear hz hb HRN x0 x1 x2;obtain ⟨z9, hz9, Vz9, Bz9, Zz9⟩ := zsta_new w8;obtain ⟨w9, ht9⟩ : ∃ w9, (((z9.setCell ⟨w8.heap.size, 0, none⟩ (.int .u64 s9.serial)).setCell ⟨w8.heap.size, 1, none⟩ (.string s9.lin)).setCell ⟨w8.heap.size, 2, none⟩ (.slice a9 s9.recs.length c9)) = w9 := ⟨_, rfl⟩;have Gt9 : Hid (z9.grownBy w9 (some w8.heap.size)) := by rw [<-ht9]; exact (((gb_set _ _ _ _).trans (gb_set _ _ _ _)).trans (gb_set _ _ _ _))
  have V9 : Hid (w9.heap[w8.heap.size]? = some (.cells (staArr a9 c9 s9) 25 (0, 0))) := by rw [<-ht9]; exact set3 (t := s9) Vz9.out
  have B9 : Hid (Below w8.heap.size w8 w9) := Bz9.out.grown Gt9.out Bz9.out.size (fun x hx => by injection hx with hx; omega);have fz90 := frozen_of Vz9.out 0;have fz91 := frozen_of Vz9.out 1;have fz92 := frozen_of Vz9.out 2;obtain ⟨cz90, cz91, cz92⟩ := sta_cells Vz9.out;have C9 : Hid (Below w2.heap.size w2 w9) := C8.out.trans (B9.out.mono C8.out.size);obtain ⟨x0, x1, x2⟩ := sta_cells (HSB.out w9 C9.out);have HRN : Hid (Calls Tryz.prog 32 #[.agg #[.int .u64 s.serial, .string s.lin, .slice ra s.recs.length rc], .slice la l.length lc] w9 (RnPost s l w9)) := rrun_any s ra rc l la lc w9 (HR.out w9 C9.out) HCP.out HG.out (HCM.out w9 C9.out) HL20.out (by have := HN.out; omega) HSN.out;go_wp2_with fail
  refine (Calls.mono HRN.out ?_);rintro z w10 hz;obtain ⟨a11, c11, s11, kb, kd, fs, rfl, CH11, HR11, HL11, IN11, hb⟩ := hz.to;have C10 : Hid (Below w2.heap.size w2 w10) := C9.out.trans (hb.out.mono C9.out.size);have K10 : Hid (Below w9.heap.size w9 w10) := hb.out;clear hz hb HRN x0 x1 x2;obtain ⟨z11, hz11, Vz11, Bz11, Zz11⟩ := zsta_new w10;obtain ⟨w11, ht11⟩ : ∃ w11, (((z11.setCell ⟨w10.heap.size, 0, none⟩ (.int .u64 s11.serial)).setCell ⟨w10.heap.size, 1, none⟩ (.string s11.lin)).setCell ⟨w10.heap.size, 2, none⟩ (.slice a11 s11.recs.length c11)) = w11 := ⟨_, rfl⟩;have Gt11 : Hid (z11.grownBy w11 (some w10.heap.size)) := by rw [<-ht11]; exact (((gb_set _ _ _ _).trans (gb_set _ _ _ _)).trans (gb_set _ _ _ _))
  have V11 : Hid (w11.heap[w10.heap.size]? = some (.cells (staArr a11 c11 s11) 25 (0, 0))) := by rw [<-ht11]; exact set3 (t := s11) Vz11.out
  have B11 : Hid (Below w10.heap.size w10 w11) := Bz11.out.grown Gt11.out Bz11.out.size (fun x hx => by injection hx with hx; omega);have fz110 := frozen_of Vz11.out 0;have fz111 := frozen_of Vz11.out 1;have fz112 := frozen_of Vz11.out 2;obtain ⟨cz110, cz111, cz112⟩ := sta_cells Vz11.out;have C11 : Hid (Below w2.heap.size w2 w11) := C10.out.trans (B11.out.mono C10.out.size);obtain ⟨hss, hee⟩ := ChainR.uniq _ CH9.out CH11.out;subst hss hee;have HCF := hdQ (Chain.facts HG.out HSN.out _ CH9.out);have HE20 : Hid (es.length <= 20) := by have := HCF.out.2.2.2.1; rw [List.length_reverse] at this; have := HL20.out; show es.length <= 20; omega
  have B911 : Hid (Below w9.heap.size w9 w11) := K10.out.trans (B11.out.mono K10.out.size);have HW : Hid (∀ W, Below w11.heap.size w11 W -> Below w2.heap.size w2 W) := fun W hb => C11.out.trans (hb.mono C11.out.size);have HXB : Hid (∀ W, Below w11.heap.size w11 W -> W.heap[w8.heap.size]? = some (.cells (staArr a9 c9 s9) 25 (0, 0))) := fun W hb => (hb.block _ (Nat.lt_of_lt_of_le (heap_lt V9.out) B911.out.size)).trans ((B911.out.block _ (heap_lt V9.out)).trans V9.out);have HYB : Hid (∀ W, Below w11.heap.size w11 W -> W.heap[w10.heap.size]? = some (.cells (staArr a11 c11 s9) 25 (0, 0))) := fun W hb => (hb.block _ (heap_lt V11.out)).trans V11.out;have HXR : Hid (∀ W, Below w11.heap.size w11 W -> RecsAt W a9 s9.recs) := fun W hb => ((HR9.out.stays B9.out).stays B911.out).stays hb;have HYR : Hid (∀ W, Below w11.heap.size w11 W -> RecsAt W a11 s9.recs) := fun W hb => (HR11.out.stays B11.out).stays hb;have HI1 : Hid (∀ W, Below w11.heap.size w11 W -> IsInts W ka es) := fun W hb => ((IN9.out.stays B9.out).stays B911.out).stays hb;have HI2 : Hid (∀ W, Below w11.heap.size w11 W -> IsInts W kb es) := fun W hb => (IN11.out.stays B11.out).stays hb;clear hz9 ht9 fz90 fz91 fz92 cz90 cz91 cz92;go_wp2_with fail
  clear hz11 ht11 fz110 fz111 fz112 cz110 cz111 cz112;have hE20 := HE20.out
  go_loopw [9, 39] (fun p9 p39 wr => ∃ i n : Nat, p9 = .int .u64 n /\ p39 = .int .i64 i /\ i <= es.length /\ Hid (n = oks (es.take i)) /\ Hid (Below w11.heap.size w11 wr)) (fun _ p39 _ => es.length - (intOf p39).toNat)
  case atStart => exact ⟨0, 0, rfl, rfl, Nat.zero_le _, rfl, Below.refl _ _⟩
  case round =>
    obtain ⟨i, n, rfl, rfl, hi, hN, hB⟩ := hrel;by_cases hlt : i < es.length
    · obtain ⟨b1, o1, ha1, hb1, hc1⟩ := (HI1.out wr hB.out).resolve_left (by intro e; rw [e] at hlt; simp at hlt);obtain ⟨x, hx⟩ : ∃ x, es[i] = x := ⟨_, rfl⟩;have ee := hc1 i hlt;rw [hx] at ee;have htk := oks_take hlt;rw [hx] at htk;have hn20 : n <= 20 := by have h1 := oks_le (es.take i); have h2 := hN.out; have h3 := HE20.out; rw [List.length_take] at h1; omega
      obtain ⟨q, hq⟩ : ∃ q : Int, ((n + 1 : Nat) : Int) = q := ⟨_, rfl⟩;have hwr := tick_wrap (n := n) (by omega) hq;have HQ := hdQ hq;have HTK := hdQ htk;subst ha1;clear hx hb1 hc1 htk hq hn20;by_cases hx0 : x = 0
      · have q1 : (x == 0) = true := by rw [hx0]; rfl
        have HN2 : Hid (n + 1 = oks (es.take (i + 1))) := by rw [Hid, HTK.out, if_pos hx0, hN.out]
        clear hx0;go_wp2_with fail
        go_roundw
        case rel => exact ⟨i + 1, n + 1, by rw [HQ.out], by go_num, by omega, HN2.out, hB.out⟩
        case measure => simp [intOf]; omega
      · have q1 : (x == 0) = false := by rw [bnQ]; exact hx0
        have HN2 : Hid (n = oks (es.take (i + 1))) := by rw [Hid, HTK.out, if_neg hx0, hN.out, Nat.add_zero]
        clear hx0 hwr;go_wp2_with fail
        go_roundw
        case rel => exact ⟨i + 1, n, rfl, by go_num, by omega, HN2.out, hB.out⟩
        case measure => simp [intOf]; omega
    · have hie : i = es.length := by omega
      have HNO : Hid (n = oks es) := by have := hN.out; rw [hie, List.take_length] at this; exact this
      have CR := HW.out wr hB.out;have HCR := hdQ CR;have KSM : Hid (Calls Tryz.prog 18 #[.agg #[.int .u64 s9.serial, .string s9.lin, .slice a9 s9.recs.length c9], .agg #[.int .u64 s9.serial, .string s9.lin, .slice a11 s9.recs.length c11]] wr fun e w' => e = .returned (.bool true) /\ Below wr.heap.size wr w') := (sm_ok s9 s9 a9 a11 c9 c11 wr (HXR.out wr hB.out) (HYR.out wr hB.out) true ((sameSta_iff _ _).2 rfl));have KIN : Hid (∀ W, Below w11.heap.size w11 W -> Calls Tryz.prog 33 #[.slice ka es.length kc, .slice kb es.length kd] W fun e w' => e = .returned (.bool true) /\ Below W.heap.size W w') := fun W hb => (same26_any es ka kb kc kd W (HI1.out W hb) (HI2.out W hb) HE20.out).out;obtain ⟨x0, x1, x2⟩ := sta_cells (HXB.out wr hB.out);obtain ⟨y0, y1, y2⟩ := sta_cells (HYB.out wr hB.out);have hsub : IntKind.u64.wrap ((s9.serial : Int) - (s.serial : Int)) = (n : Int) := by
        have h1 := HCF.out.2.2.2.2;have h2 := HNO.out;have h3 := HE20.out;have h4 := oks_le es;have h5 : (s9.serial : Int) - (s.serial : Int) = (n : Int) := by omega
        rw [h5, IntKind.wrap_u64];omega
      clear hie hN CR;go_wp2_with fail
      refine (Calls.mono KSM.out ?_);rintro z w12 ⟨rfl, hb⟩;have D12 : Hid (Below w11.heap.size w11 w12) := hB.out.trans (hb.mono hB.out.size);clear hb x0 x1 x2 y0 y1 y2 KSM;go_wp2_with fail
      refine (Calls.mono (KIN.out w12 D12.out) ?_);rintro z w13 ⟨rfl, hb⟩;have D13 : Hid (Below w11.heap.size w11 w13) := D12.out.trans (hb.mono D12.out.size);clear hb KIN;obtain ⟨x0, x1, x2⟩ := sta_cells (HXB.out w13 D13.out);obtain ⟨y0, y1, y2⟩ := sta_cells (HSB.out w13 (HW.out w13 D13.out));go_wp2_with fail
      go_ret
      exact ⟨by simp, HBW.out _ (HW.out _ D13.out)⟩
theorem editRuns_arg (v : Value) (s : Sta) (u : Value) (l : List Cmd) (w : World) (h : StaArg w v s) (h' : CmdlArg w u l) (T : TabsA w) : Calls Tryz.prog 8 #[v, u] w fun e w' => e = .returned (.bool true) /\ Below w.heap.size w w' := by
  obtain ⟨ra, rc, rfl, h1, h2, h3, _⟩ := h;obtain ⟨la, lc, rfl, h4⟩ := h';exact editRuns_any s ra rc l la lc w T h1 h2 h4 h3
end Go.Proofs.YtehghladpnpcoaaGreatDoor.State.Edit
