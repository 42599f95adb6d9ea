/- save.instance. -/
import Derived.Test.YtfdjolfenghmaaaGreatDoorWSvF
set_option linter.unusedVariables false
set_option linter.unusedSimpArgs false
set_option maxRecDepth 100000
set_option maxHeartbeats 32000000
namespace Go.Proofs.YtfdjolfenghmaaaGreatDoor.Save
open Go.RowKit Go.Shelf Utf Strs Go.Proofs.YtfdjolfenghmaaaGreatDoor.Addr Go.Proofs.YtfdjolfenghmaaaGreatDoor.State
open Jdec (Raw JV IsV IsTexts Turn gb_set gb_below gb_refl gb8 set8 val_ret val_cells own_new KidsA listOf objectOf)
theorem row_ne {w : World} {B : Nat} {C : Nat -> Prop} {v : Value} {ts : List JV} {k : Nat} {cs : Array Value} {T : TypeId} {fr : Nat × Nat} (h : KidsA w B C v ts) (hk : w.heap[k]? = some (.cells cs T fr)) (hT : T ≠ 46) : some k ≠ v.ownBlock := by
  obtain ⟨rs, h1, h2, h3⟩ := h;rcases h2.2 with ⟨rfl, _⟩ | ⟨g, cap, cur, rfl, _, hg, _⟩
  · simp [Value.ownBlock]
  · intro e
    simp only [Value.ownBlock, Option.some.injEq] at e
    subst e;rw [hk] at hg;injection hg with hg
    injection hg with _ hg _
    exact hT hg
def InsP (r : Rec) (w : World) (e : Ending) (w' : World) : Prop := ∃ ra : Raw, e = .returned ra.val /\ IsV w' (fun b => w.heap.size <= b) ra (insV r) /\ Below w.heap.size w w'
def keysI : List ByteArray := [kAtt, kId, kKey]
theorem keys3_new (w : World) : ∃ w1, w.alloc (.cells #[.string ⟨#[97, 116, 116, 114, 105, 98, 117, 116, 101, 115]⟩, .string ⟨#[105, 100]⟩, .string ⟨#[107, 101, 121]⟩] 9) = w1 /\ Hid (w1.heap[w.heap.size]? = some (.cells (keysI.map Value.string).toArray 9 (0, 0))) /\ Hid (Below w.heap.size w w1) :=
  ⟨_, rfl, heap_alloc_new _ _, (Below.refl _ _).alloc (Nat.le_refl _) _⟩
def kids3 (a : Raw) (s : ByteArray) (x : Raw) : Array Value := ([a, strR s, x].flatMap Raw.cells).toArray
theorem kids3_new (w : World) (ka va : Option Addr) (n kc vc : Nat) (s : ByteArray) (x : Raw) : ∃ w1, w.alloc (.cells #[.int .i64 6, .bool false, .bool false, .string ⟨#[]⟩, .int .i64 0, .string ⟨#[]⟩, .slice ka n kc, .slice va n vc, .int .i64 4, .bool false, .bool false, .string ⟨#[]⟩, .int .i64 0, .string s, .slice none 0 0, .slice none 0 0, .int .i64 x.kind, .bool x.is, .bool x.neg, .string x.dig, .int .i64 x.exp, .string x.str, .slice x.ka x.kn x.kc, .slice x.va x.vn x.vc] 46) = w1 /\ Hid (w1.heap[w.heap.size]? = some (.cells (kids3 (objR ka n kc va n vc) s x) 46 (0, 0))) /\ Hid (Below w.heap.size w w1) :=
  ⟨_, rfl, heap_alloc_new _ _, (Below.refl _ _).alloc (Nat.le_refl _) _⟩
theorem insP_mk {r : Rec} {w q : World} {kk kb rb : Nat} {a x : Raw} {x0 x1 x2 x3 x4 x5 x6 x7 : Value} (hk : q.heap[kk]? = some (.cells (keysI.map Value.string).toArray 9 (0, 0))) (hv : q.heap[kb]? = some (.cells (kids3 a r.id x) 46 (0, 0)))
    (ha : IsV q (fun b => w.heap.size <= b /\ b ≠ rb) a (attV r.attrs)) (hx : ∀ W C, IsV W C x (keyV r.a)) (hb : Below w.heap.size w q) (h1 : w.heap.size <= kk) (h2 : w.heap.size <= kb) (h3 : w.heap.size <= rb) (n1 : kk ≠ rb) (n2 : kb ≠ rb) :
    InsP r w (.returned (objR (some ⟨kk, 0, none⟩) 3 3 (some ⟨kb, 0, none⟩) 3 3).val) ((((((((q.setCell ⟨rb, 0, none⟩ x0).setCell ⟨rb, 1, none⟩ x1).setCell ⟨rb, 2, none⟩ x2).setCell ⟨rb, 3, none⟩ x3).setCell ⟨rb, 4, none⟩ x4).setCell ⟨rb, 5, none⟩ x5).setCell ⟨rb, 6, none⟩ x6).setCell ⟨rb, 7, none⟩ x7) := by
  have G := gb8 q rb x0 x1 x2 x3 x4 x5 x6 x7;generalize ((((((((q.setCell ⟨rb, 0, none⟩ x0).setCell ⟨rb, 1, none⟩ x1).setCell ⟨rb, 2, none⟩ x2).setCell ⟨rb, 3, none⟩ x3).setCell ⟨rb, 4, none⟩ x4).setCell ⟨rb, 5, none⟩ x5).setCell ⟨rb, 6, none⟩ x6).setCell ⟨rb, 7, none⟩ x7) = q' at G ⊢;have hk' : q'.heap[kk]? = some (.cells (keysI.map Value.string).toArray 9 (0, 0)) := (G.block _ (heap_lt hk) (by simpa using n1)).trans hk;have hv' : q'.heap[kb]? = some (.cells (kids3 a r.id x) 46 (0, 0)) := (G.block _ (heap_lt hv) (by simpa using n2)).trans hv;have ha' : IsV q' (fun b => w.heap.size <= b) a (attV r.attrs) := ha.turn ⟨G.size, fun b hb hl => ⟨G.block b hl (by simpa using hb.2), hb.1⟩⟩;refine ⟨_, rfl, ?_, hb.grown G hb.size (fun k hk => by injection hk with hk; omega)⟩;refine .mk (objR (some ⟨kk, 0, none⟩) 3 3 (some ⟨kb, 0, none⟩) 3 3) [kAtt, kId, kKey] [attV r.attrs, strV r.id, keyV r.a] (fun i => [a, strR r.id, x].getD i Raw.zero) rfl rfl (.inr ⟨kk, 0, rfl, h1, heap_lt hk', fun i hi => ?_⟩) (.inr ⟨kb, 0, rfl, h2, heap_lt hv', fun i hi j u hu => ?_⟩) (fun i hi => ?_)
  · rw [Nat.zero_add, cell_of hk']
    match i, hi with
    | 0, _ => rfl
    | 1, _ => rfl
    | 2, _ => rfl
  · rw [Nat.zero_add, cell_of hv'];have hl : [a, strR r.id, x].getD i Raw.zero = [a, strR r.id, x][i]'hi := by rw [List.getD_eq_getElem?_getD, List.getElem?_eq_getElem (show i < [a, strR r.id, x].length from hi)]; rfl
    rw [hl] at hu;have := Jdec.flat_cells_at [a, strR r.id, x] i hi j u hu;unfold kids3
    simpa using this
  · match i, hi with
    | 0, _ => exact ha'
    | 1, _ => exact strR_is _ _ _
    | 2, _ => exact hx _ _
theorem instance_any (r : Rec) (p : At) (w : World) (h : IsRec w (fun _ => True) p r) (hs : Small r) (T : Jdec.Pow10 w) : Hid (Calls Tryz.prog 26 #[.agg #[.slice p.pa r.a.path.length p.pc, .string r.a.type, .string r.a.name, .int .i64 r.a.key, .int .u64 r.a.place, .string r.a.word, .string r.prov, .string r.id, .slice p.ta r.attrs.length p.tc]] w (InsP r w)) := by
  show Calls _ _ _ _ _;obtain ⟨pa, pc, ta, tc⟩ := p;obtain ⟨w1, hw1, V1, B1⟩ := rec_new w ⟨pa, pc, ta, tc⟩ r;obtain ⟨w2, hw2, V2, B2⟩ := own_new w1 Raw.zero;obtain ⟨z3, hz3, Vz3, Bz3⟩ := own_new w2 Raw.zero
  dsimp only [Raw.zero] at hw2 hz3
  obtain ⟨w3, hw3⟩ : ∃ w3, ((((((((z3.setCell ⟨w2.heap.size, 0, none⟩ (.int .i64 6)).setCell ⟨w2.heap.size, 1, none⟩ (.bool false)).setCell ⟨w2.heap.size, 2, none⟩ (.bool false)).setCell ⟨w2.heap.size, 3, none⟩ (.string ⟨#[]⟩)).setCell ⟨w2.heap.size, 4, none⟩ (.int .i64 0)).setCell ⟨w2.heap.size, 5, none⟩ (.string ⟨#[]⟩)).setCell ⟨w2.heap.size, 6, none⟩ (.slice none 0 0)).setCell ⟨w2.heap.size, 7, none⟩ (.slice none 0 0)) = w3 := ⟨_, rfl⟩;have B02 := bel B1 B2;have V3' : Hid (w3.heap[w2.heap.size]? = some (.cells (objR none 0 0 none 0 0).arr 46 (0, 0))) := by rw [<-hw3]; exact set8 Vz3.out (objR none 0 0 none 0 0)
  have B3 : Hid (Below w2.heap.size w2 w3) := by rw [<-hw3]; exact Bz3.out.grown (gb8 _ _ _ _ _ _ _ _ _ _) Bz3.out.size (fun x hx => by injection hx with hx; omega)
  obtain ⟨⟨zc0, zc1, zc2, zc3, zc4, zc5, zc6, zc7⟩, y0, y1, y2, y3, y4, y5, y6, y7⟩ := val_cells Vz3.out;have HBB : Hid (∀ W, Below w2.heap.size w2 W -> W.heap[w.heap.size]? = some (.cells (recArr ⟨pa, pc, ta, tc⟩ r) 38 (0, 0))) := fun W hb => (hb.block _ (Nat.lt_of_lt_of_le (heap_lt V1.out) B2.out.size)).trans ((B2.out.block _ (heap_lt V1.out)).trans V1.out);have HZZ : Hid (∀ W, Below w2.heap.size w2 W -> W.heap[w1.heap.size]? = some (.cells Raw.zero.arr 46 (0, 0))) := fun W hb => (hb.block _ (heap_lt V2.out)).trans V2.out;have HAT : Hid (∀ W, Below w2.heap.size w2 W -> IsPairs W (fun _ => True) ta r.attrs) := fun W hb => h.attrs.turn (Turn.below (B02.out.trans (hb.mono B02.out.size)));have HT : Hid (∀ W, Below w2.heap.size w2 W -> Jdec.Pow10 W) := fun W hb => (T.stays B02.out).stays hb;have HSM := hZz hs;have hn60 := hs.m;have C3 : Hid (Below w2.heap.size w2 w3) := B3.out;have A3 := hZz (AttAt.nil V3'.out);obtain ⟨x0, x1, x2, x3, x4, x5, x6, x7, x8⟩ := rec_cells (HBB.out w3 C3.out);clear h hs T Vz3 Bz3
  dsimp only at hw1 ⊢
  go_enter Tryz.func26, Tryz.ntmps26
  go_wp2_with fail
  clear x0 x1 x2 x3 x4 x5 x6 x7 x8 zc0 zc1 zc2 zc3 zc4 zc5 zc6 zc7 y0 y1 y2 y3 y4 y5 y6 y7 hz3 hw3
  go_loopw [11] (fun p11 wr => ∃ (i : Nat) (ka : Option Addr) (kc : Nat) (va : Option Addr) (vc : Nat), p11 = .int .i64 i /\ i <= r.attrs.length /\ Hid (AttAt wr w2.heap.size (r.attrs.take i) ka kc va vc) /\ Hid (Below w2.heap.size w2 wr)) (fun p11 _ => r.attrs.length - (intOf p11).toNat)
  case atStart => exact ⟨0, none, 0, none, 0, rfl, Nat.zero_le _, A3.out, C3.out⟩
  case round =>
    obtain ⟨i, ka, kc, va, vc, rfl, hi, hA, hB⟩ := hrel;by_cases hlt : i < r.attrs.length
    · obtain ⟨tb, t0, hta, _, htb, htc⟩ := (HAT.out wr hB.out).resolve_left (by intro e; rw [e] at hlt; simp at hlt);obtain ⟨hc0, hc1⟩ := htc i hlt;obtain ⟨x, hx⟩ : ∃ x, r.attrs[i].1 = x := ⟨_, rfl⟩;obtain ⟨y, hy⟩ : ∃ y, r.attrs[i].2 = y := ⟨_, rfl⟩;rw [hx] at hc0;rw [hy] at hc1;have HLEN : Hid ((r.attrs.take i).length = i) := by show _ = _; rw [List.length_take]; omega
      have HTK : Hid (r.attrs.take (i + 1) = r.attrs.take i ++ [(x, y)]) := by show _ = _; rw [List.take_add_one, List.getElem?_eq_getElem hlt, <-hx, <-hy]; rfl
      subst hta;clear hx hy htc;obtain ⟨w4, hw4, P4, B4⟩ := pair_new wr x y;have C4 := bel hB B4;have A4 := hZz (hA.out.below B4.out);obtain ⟨w5, hw5, K5, B5⟩ := key1_new w4 x;have C5 := bel C4 B5;have A5 := hZz (A4.out.below B5.out);have P5 := hst P4 B5;have hK5 := A5.out.K;rw [<-List.length_map (f := (·.1))] at hK5;obtain ⟨a6, c6, w6, hrun, hk6, hg6⟩ := app_key hK5 w4.heap.size x K5.out (by rw [List.length_map, HLEN.out]; omega) (by have := heap_lt A5.out.V; omega);rw [List.length_map, HLEN.out] at hrun hk6 hg6;have HR := hZz hrun;obtain ⟨w7, hw7⟩ : ∃ w7, w6.setCell ⟨w2.heap.size, 6, none⟩ (.slice a6 (i + 1) c6) = w7 := ⟨_, rfl⟩;have hgo : ∀ k, (Value.slice ka i kc).ownBlock = some k -> w2.heap.size + 1 <= k := fun k hk => by
        have h9 := A5.out.K;rw [HLEN.out] at h9;exact (h9.lt k hk).1
      have K7 := hZz (AttAt.key (x := x) A5.out (by rw [HLEN.out]; exact hk6) (by rw [HLEN.out]; exact hg6));rw [HLEN.out, hw7] at K7;have P6 : w6.heap[wr.heap.size]? = some (.cells #[.string x, .string y] 53 (0, 0)) := by
        have h9 := A5.out.K;rw [HLEN.out] at h9;rw [hg6.block _ (heap_lt P5.out) (fun e => ?_)]
        · exact P5.out
        · rcases h9.2 with ⟨hz, _⟩ | ⟨g, cap, cur, hz, _, hg, _⟩
          · injection hz with hz; rw [hz] at e; cases e
          · injection hz with hz
            rw [hz] at e;simp only [Value.ownBlock, Option.some.injEq] at e
            subst e;rw [P5.out] at hg;injection hg with hg
            injection hg with _ hg _
            exact absurd hg (by decide)
      have HNE : Hid (¬ wr.heap.size = w2.heap.size) := by have := heap_lt hA.out.V; show ¬ _; omega
      have PV7 : Hid (w7.heap[wr.heap.size]? = some (.cells #[.string x, .string y] 53 (0, 0))) := by
        rw [<-hw7, (gb_set w6 _ _ _).block _ (heap_lt P6) (by simp; exact HNE.out)]; exact P6
      have C7 : Hid (Below w2.heap.size w2 w7) := by
        rw [<-hw7];refine (C5.out.grown hg6 C5.out.size (fun k hk => by have := hgo k hk; omega)).grown (gb_set _ _ _ _) (by have := C5.out.size; have := hg6.size; omega) (fun k hk => by injection hk with hk; omega)
      have hV6 : w6.heap[w2.heap.size]? = some (.cells (objR ka i kc va i vc).arr 46 (0, 0)) := by
        have h9 := A5.out.V;rw [HLEN.out] at h9;exact (hg6.block _ (heap_lt h9) (fun e => by have := hgo _ e.symm; omega)).trans h9
      have ee6 := cell_of hV6 6;have ff6 := frozen_of hV6 6;have ea6 : w4.cell? ⟨w2.heap.size, 6, none⟩ = some (.slice ka i kc) := by have := cell_of A4.out.V 6; rw [HLEN.out] at this; exact this
      have ep0 := cell_of P4.out 0;clear hrun hk6 hg6 hgo P6 hV6 hK5;go_wp2_with (at_builtin; refine Jdec.wpList_append_run (.slice ka i kc) (.slice (some ⟨w4.heap.size, 0, none⟩) 1 1) 33 HR.out rfl _ _ rfl rfl rfl ?_)
      clear ee6 ff6 ea6 ep0 hw4 hw5 hw7 hc0 hc1;refine wp_region_held_drew (S := (fun W => W.heap[wr.heap.size]? = some (.cells #[.string x, .string y] 53 (0, 0)))) (by kernel_rfl) ?_ (fun hHeld => ?_)
      · exact PV7.out
      have DR : Hid (Below w7.heap.size w7 w7.drew) := (Below.refl _ _).drew;have KR := hZz (K7.out.below (Below.refl w7.heap.size w7).drew);have PR : Hid (w7.drew.heap[wr.heap.size]? = some (.cells #[.string x, .string y] 53 (0, 0))) := PV7.out;refine tk 0 ?_;refine tk 2 ?_;refine tv 3 (.string y) ?_ ?_
      · (intro w hs; have ee := cell_of hs 1; clear hs; go_simp <;> with_reducible rfl)
      try simp only [nz]
      refine wpAnyH_ready (rs := [1, 4]) (by kernel_rfl) (by simp) ?_;refine (AllReadyH.cons rfl (fun K hK => ?_) (AllReadyH.cons rfl (fun K hK => ?_) AllReadyH.nil));have ee7 : w7.drew.cell? ⟨w2.heap.size, 7, none⟩ = some (.slice va i vc) := by have := cell_of KR.out.V 7; rw [HLEN.out] at this; exact this
      try simp only [nz]
      go_simp
      clear ee7;clear hHeld;refine hK.out _ _ ?_ (fun hHeld => ?_)
      · exact PR.out
      clear hK K
      try simp only [nz]
      refine rd 4 (fun K hK => ?_)
      try simp only [nz]
      go_simp
      go_at_call 28; refine (Calls.mono (text_any y w7.drew).out ?_); rintro z q8 ⟨rfl, hb⟩; have Eq8 : Hid (Below w7.drew.heap.size w7.drew q8) := hb; clear hb
      have Pq8 := hst PR Eq8;have Kq8 := hZz (KR.out.below Eq8.out);have Dq8 := bel DR Eq8;clear hHeld;refine hK.out _ _ ?_ (fun hHeld => ?_)
      · exact Pq8.out
      clear hK K
      try simp only [nz]
      refine rd 5 (fun K hK => ?_);obtain ⟨q9, hq9, Vq9, Eq9⟩ := own_new q8 (strR y);have Vq9 : Hid (q9.heap[q8.heap.size]? = some (.cells (strR y).arr 46 (0, 0))) := Vq9.out
      dsimp only [strR] at hq9
      have Pq9 := hst Pq8 Eq9;have Kq9 := hZz (Kq8.out.below Eq9.out);have Dq9 := bel Dq8 Eq9
      try simp only [nz]
      go_simp
      clear hq9;clear hHeld;refine hK.out _ _ ?_ (fun hHeld => ?_)
      · exact Pq9.out
      clear hK K
      try simp only [nz]
      obtain ⟨vn, hvn⟩ : ∃ k, q8.heap.size = k := ⟨_, rfl⟩;have VU := Vq9;rw [hvn] at VU ⊢;clear hvn;have DU := Dq9;have KU := Kq9;have PU := Pq9;generalize q9 = u at *;rotate_left 1
      try simp only [nz]
      go_simp
      go_at_call 28; refine (Calls.mono (text_any y w7.drew).out ?_); rintro z q8 ⟨rfl, hb⟩; have Eq8 : Hid (Below w7.drew.heap.size w7.drew q8) := hb; clear hb
      have Pq8 := hst PR Eq8;have Kq8 := hZz (KR.out.below Eq8.out);have Dq8 := bel DR Eq8;clear hHeld;refine hK.out _ _ ?_ (fun hHeld => ?_)
      · exact Pq8.out
      clear hK K
      try simp only [nz]
      refine wpAnyH_ready (rs := [1, 5]) (by kernel_rfl) (by simp) ?_;refine (AllReadyH.cons rfl (fun K hK => ?_) (AllReadyH.cons rfl (fun K hK => ?_) AllReadyH.nil));have ee7 : q8.cell? ⟨w2.heap.size, 7, none⟩ = some (.slice va i vc) := by have := cell_of Kq8.out.V 7; rw [HLEN.out] at this; exact this
      try simp only [nz]
      go_simp
      clear ee7;clear hHeld;refine hK.out _ _ ?_ (fun hHeld => ?_)
      · exact Pq8.out
      clear hK K
      try simp only [nz]
      refine rd 5 (fun K hK => ?_);obtain ⟨q9, hq9, Vq9, Eq9⟩ := own_new q8 (strR y);have Vq9 : Hid (q9.heap[q8.heap.size]? = some (.cells (strR y).arr 46 (0, 0))) := Vq9.out
      dsimp only [strR] at hq9
      have Pq9 := hst Pq8 Eq9;have Kq9 := hZz (Kq8.out.below Eq9.out);have Dq9 := bel Dq8 Eq9
      try simp only [nz]
      go_simp
      clear hq9;clear hHeld;refine hK.out _ _ ?_ (fun hHeld => ?_)
      · exact Pq9.out
      clear hK K
      try simp only [nz]
      obtain ⟨vn, hvn⟩ : ∃ k, q8.heap.size = k := ⟨_, rfl⟩;have VU := Vq9;rw [hvn] at VU ⊢;clear hvn;have DU := Dq9;have KU := Kq9;have PU := Pq9;generalize q9 = u at *;rotate_left 1
      obtain ⟨q9, hq9, Vq9, Eq9⟩ := own_new q8 (strR y);have Vq9 : Hid (q9.heap[q8.heap.size]? = some (.cells (strR y).arr 46 (0, 0))) := Vq9.out
      dsimp only [strR] at hq9
      have Pq9 := hst Pq8 Eq9;have Kq9 := hZz (Kq8.out.below Eq9.out);have Dq9 := bel Dq8 Eq9
      try simp only [nz]
      go_simp
      clear hq9;clear hHeld;refine hK.out _ _ ?_ (fun hHeld => ?_)
      · exact Pq9.out
      clear hK K
      try simp only [nz]
      refine rd 1 (fun K hK => ?_);have ee7 : q9.cell? ⟨w2.heap.size, 7, none⟩ = some (.slice va i vc) := by have := cell_of Kq9.out.V 7; rw [HLEN.out] at this; exact this
      try simp only [nz]
      go_simp
      clear ee7;clear hHeld;refine hK.out _ _ ?_ (fun hHeld => ?_)
      · exact Pq9.out
      clear hK K
      try simp only [nz]
      obtain ⟨vn, hvn⟩ : ∃ k, q8.heap.size = k := ⟨_, rfl⟩;have VU := Vq9;rw [hvn] at VU ⊢;clear hvn;have DU := Dq9;have KU := Kq9;have PU := Pq9;generalize q9 = u at *;rotate_left 1
      all_goals
        refine rd 6 (fun K hK => ?_);obtain ⟨a8, c8, q30, hrun, hk8, hg8, _⟩ := app_kids KU.out.W vn (strR y) (strV y) VU.out (strR_is _ _ _) (by rw [List.length_map, HLEN.out]; omega) (by have := heap_lt KU.out.V; omega);rw [List.length_map, HLEN.out] at hrun hk8;rw [HLEN.out] at hg8;have HR8 := hZz hrun;have HK8 := hZz hk8;have HG8 := hZz hg8;clear hrun hk8 hg8;have Pq30 : Hid (q30.heap[wr.heap.size]? = some (.cells #[.string x, .string y] 53 (0, 0))) := (HG8.out.block _ (heap_lt PU.out) (by have := row_ne KU.out.W PU.out (by decide); rw [HLEN.out] at this; exact this)).trans PU.out;rw [if_pos (by rfl)];refine wp_append_run (.slice va i vc) (.slice (some ⟨vn, 0, none⟩) 1 1) 44 HR8.out _ _ rfl rfl rfl ?_;clear hHeld;refine hK.out _ _ ?_ (fun hHeld => ?_)
        · exact Pq30.out
        clear hK K
        try simp only [nz]
        refine tk 7 ?_
        try simp only [nz]
        refine rd 8 (fun K hK => ?_);have hV8 : q30.heap[w2.heap.size]? = some (.cells (objR a6 (i + 1) c6 va i vc).arr 46 (0, 0)) := by have h1 := KU.out.V; rw [HLEN.out] at h1; exact (HG8.out.block _ (heap_lt h1) (by have := KidsA.lt KU.out.W; rw [HLEN.out] at this; intro e; have := (this _ e.symm).1; omega)).trans h1
        have ee7 := cell_of hV8 7;have ff7 := frozen_of hV8 7;clear hV8
        try simp only [nz]
        go_simp
        clear ee7 ff7;clear hHeld;refine hK.out _ _ ?_ (fun hHeld => ?_)
        · exact ((gb_set _ _ _ _).block _ (heap_lt Pq30.out) (by simp; exact HNE.out)).trans Pq30.out
        clear hK K
        try simp only [nz]
        refine wpAnyH_done (by kernel_rfl) ?_ _;clear hHeld;have HAT := AttK.val (y := y) KU.out (by rw [HLEN.out]; exact HK8.out) (by rw [HLEN.out]; exact HG8.out);rw [HLEN.out] at HAT;have HFA := hZz HAT;clear HAT;have GB8 : Hid (Below w2.heap.size w2 (q30.setCell ⟨w2.heap.size, 7, none⟩ (.slice a8 (i + 1) c8))) := ((C7.out.trans (DU.out.mono C7.out.size)).grown HG8.out (by have := C7.out.size; have := DU.out.size; omega) (fun k hk => by have h9 := KidsA.lt KU.out.W; rw [HLEN.out] at h9; have := (h9 k hk).1; omega)).grown (gb_set _ _ _ _) (by have := C7.out.size; have := DU.out.size; have := HG8.out.size; omega) (fun k hk => by injection hk with hk; omega);go_wp2_with fail
        go_roundw
        case rel => exact ⟨i + 1, a6, c6, a8, c8, by go_num, by omega, by rw [HTK.out]; exact HFA.out, GB8.out⟩
        case measure => simp [intOf]; omega
    · have hie : i = r.attrs.length := by omega
      subst hie;rw [List.take_length] at hA;clear hi hlt;obtain ⟨kz, hkz, Vkz, Bkz⟩ := own_new wr Raw.zero
      dsimp only [Raw.zero] at hkz
      obtain ⟨k1, hk1⟩ : ∃ k1, ((((((((kz.setCell ⟨wr.heap.size, 0, none⟩ (.int .i64 1)).setCell ⟨wr.heap.size, 1, none⟩ (.bool false)).setCell ⟨wr.heap.size, 2, none⟩ (.bool false)).setCell ⟨wr.heap.size, 3, none⟩ (.string ⟨#[]⟩)).setCell ⟨wr.heap.size, 4, none⟩ (.int .i64 0)).setCell ⟨wr.heap.size, 5, none⟩ (.string ⟨#[]⟩)).setCell ⟨wr.heap.size, 6, none⟩ (.slice none 0 0)).setCell ⟨wr.heap.size, 7, none⟩ (.slice none 0 0)) = k1 := ⟨_, rfl⟩;have VK1 : Hid (k1.heap[wr.heap.size]? = some (.cells nullR.arr 46 (0, 0))) := by rw [<-hk1]; exact set8 Vkz.out nullR
      have BK1 : Hid (Below wr.heap.size wr k1) := by rw [<-hk1]; exact Bkz.out.grown (gb8 _ _ _ _ _ _ _ _ _ _) Bkz.out.size (fun x hx => by injection hx with hx; omega)
      obtain ⟨⟨zc0, zc1, zc2, zc3, zc4, zc5, zc6, zc7⟩, y0, y1, y2, y3, y4, y5, y6, y7⟩ := val_cells Vkz.out;have CK1 := bel hB BK1;obtain ⟨x0, x1, x2, x3, x4, x5, x6, x7, x8⟩ := rec_cells (HBB.out k1 CK1.out);have HKI : Hid (∀ x : Raw, (x = nullR /\ ¬ r.a.key = 1 /\ ¬ r.a.key = 2) ∨ (∃ d e, x = numR d e /\ r.a.key = 1 /\ (⟨(ofN r.a.place).1.toArray⟩ : ByteArray) = d /\ ((ofN r.a.place).2 : Int) = e) ∨ (x = strR r.a.word /\ ¬ r.a.key = 1 /\ r.a.key = 2) -> ∀ W C, IsV W C x (keyV r.a)) := fun x hx W C => by
        unfold keyV;rcases hx with ⟨rfl, h1, h2⟩ | ⟨d, e, rfl, h1, rfl, rfl⟩ | ⟨rfl, h1, h2⟩
        · rw [if_neg h1, if_neg h2]; exact IsV.bare W C 1 false false ⟨#[]⟩ 0 ⟨#[]⟩ none none 0 0
        · rw [if_pos h1]; exact IsV.bare W C 3 false false _ _ ⟨#[]⟩ none none 0 0
        · rw [if_neg h1, if_pos h2]; exact strR_is W C _
      have AK1 := hZz (hA.out.below BK1.out)
      go_upto_block 2 with (fail)
      go_cut [] (fun wx => ∃ x : Raw, Hid (wx.heap[wr.heap.size]? = some (.cells x.arr 46 (0, 0))) /\ Hid (∀ W C, IsV W C x (keyV r.a)) /\ Hid (Below wr.heap.size wr wx))
      case first =>
        clear zc0 zc1 zc2 zc3 zc4 zc5 zc6 zc7 y0 y1 y2 y3 y4 y5 y6 y7 hkz hk1;by_cases h1 : r.a.key = 1
        · have q1 : (r.a.key == 1) = true := by rw [h1]; rfl
          have H1 := hZz h1;have HOF := of_any r.a.place HSM.out.p k1 (HT.out k1 CK1.out);clear h1;go_wp2_with fail
          refine (Calls.mono HOF.out ?_);rintro z k2 hz;obtain ⟨d, e, rfl, hde, hb⟩ := hz.to;have VK2 := hst VK1 hb;have BK2 := bel BK1 hb;obtain ⟨⟨zc0, zc1, zc2, zc3, zc4, zc5, zc6, zc7⟩, y0, y1, y2, y3, y4, y5, y6, y7⟩ := val_cells VK2.out;clear hz hb HOF x0 x1 x2 x3 x4 x5 x6 x7 x8;go_wp2_with fail
          go_meet
          exact ⟨numR d e, set8 VK2.out (numR d e), HKI.out _ (.inr (.inl ⟨d, e, rfl, H1.out, hde.out.1, by rw [hde.out.2]⟩)), BK2.out.grown (gb8 _ _ _ _ _ _ _ _ _ _) BK2.out.size (fun x hx => by injection hx with hx; omega)⟩
        · have q1 : (r.a.key == 1) = false := by rw [beq_eq_false_iff_ne]; exact h1
          have H1 := hZz h1;by_cases h2 : r.a.key = 2
          · have q2 : (r.a.key == 2) = true := by rw [h2]; rfl
            have H2 := hZz h2;have HTX := text_any r.a.word k1;clear h1 h2;go_wp2_with fail
            refine (Calls.mono HTX.out ?_);rintro z k2 ⟨rfl, hb⟩;have VK2 := hst VK1 hb;have BK2 := bel BK1 hb;obtain ⟨⟨zc0, zc1, zc2, zc3, zc4, zc5, zc6, zc7⟩, y0, y1, y2, y3, y4, y5, y6, y7⟩ := val_cells VK2.out;clear hb HTX x0 x1 x2 x3 x4 x5 x6 x7 x8;go_wp2_with fail
            go_meet
            exact ⟨strR r.a.word, set8 VK2.out (strR r.a.word), HKI.out _ (.inr (.inr ⟨rfl, H1.out, H2.out⟩)), BK2.out.grown (gb8 _ _ _ _ _ _ _ _ _ _) BK2.out.size (fun x hx => by injection hx with hx; omega)⟩
          · have q2 : (r.a.key == 2) = false := by rw [beq_eq_false_iff_ne]; exact h2
            have H2 := hZz h2;clear h1 h2;go_wp2_with fail
            go_meet
            exact ⟨nullR, VK1.out, HKI.out _ (.inl ⟨rfl, H1.out, H2.out⟩), BK1.out⟩
      case rest =>
      obtain ⟨x, hvx, HKX, hbx⟩ := hcut;clear HKI x0 x1 x2 x3 x4 x5 x6 x7 x8 zc0 zc1 zc2 zc3 zc4 zc5 zc6 zc7 y0 y1 y2 y3 y4 y5 y6 y7 hkz hk1;have CX := bel hB hbx;have AX := hZz (hA.out.below hbx.out);go_wp2_with fail
      have FX : Hid (∀ W : World, Below wc.heap.size wc W -> (W.heap[w2.heap.size]? = some (.cells (objR ka r.attrs.length kc va r.attrs.length vc).arr 46 (0, 0)) /\ W.heap[wr.heap.size]? = some (.cells x.arr 46 (0, 0)) /\ W.heap[w.heap.size]? = some (.cells (recArr ⟨pa, pc, ta, tc⟩ r) 38 (0, 0)))) := fun W hb => ⟨(hb.block _ (heap_lt AX.out.V)).trans AX.out.V, (hb.block _ (heap_lt hvx.out)).trans hvx.out, HBB.out W (CX.out.trans (hb.mono CX.out.size))⟩;have FS : Hid (∀ W W' : World, (W.heap[w2.heap.size]? = some (.cells (objR ka r.attrs.length kc va r.attrs.length vc).arr 46 (0, 0)) /\ W.heap[wr.heap.size]? = some (.cells x.arr 46 (0, 0)) /\ W.heap[w.heap.size]? = some (.cells (recArr ⟨pa, pc, ta, tc⟩ r) 38 (0, 0))) -> W.grownBy W' (some w1.heap.size) -> (W'.heap[w2.heap.size]? = some (.cells (objR ka r.attrs.length kc va r.attrs.length vc).arr 46 (0, 0)) /\ W'.heap[wr.heap.size]? = some (.cells x.arr 46 (0, 0)) /\ W'.heap[w.heap.size]? = some (.cells (recArr ⟨pa, pc, ta, tc⟩ r) 38 (0, 0)))) := fun W W' h g => by
        have s1 := heap_lt V1.out;have s2 := heap_lt V2.out;have s3 := hB.out.size;exact ⟨(g.block _ (heap_lt h.1) (by simp; omega)).trans h.1, (g.block _ (heap_lt h.2.1) (by simp; omega)).trans h.2.1, (g.block _ (heap_lt h.2.2) (by simp; omega)).trans h.2.2⟩
      refine wp_region_held_drew (S := (fun W => (W.heap[w2.heap.size]? = some (.cells (objR ka r.attrs.length kc va r.attrs.length vc).arr 46 (0, 0)) /\ W.heap[wr.heap.size]? = some (.cells x.arr 46 (0, 0)) /\ W.heap[w.heap.size]? = some (.cells (recArr ⟨pa, pc, ta, tc⟩ r) 38 (0, 0))))) (by kernel_rfl) ?_ (fun hHeld => ?_)
      · exact FX.out _ (Below.refl _ _).drew
      have DR : Hid (Below wc.heap.size wc wc.drew) := (Below.refl _ _).drew;refine tv 1 (.agg #[.int .i64 6, .bool false, .bool false, .string ⟨#[]⟩, .int .i64 0, .string ⟨#[]⟩, .slice ka r.attrs.length kc, .slice va r.attrs.length vc]) ?_ ?_
      · (intro w hs; obtain ⟨⟨c0, c1, c2, c3, c4, c5, c6, c7⟩, _⟩ := val_cells hs.1; dsimp only [objR] at c0 c1 c2 c3 c4 c5 c6 c7; clear hs; go_simp <;> with_reducible rfl)
      refine tk 2 ?_;refine tv 3 (.string r.id) ?_ ?_
      · (intro w hs; have ee := (rec_cells (p := ⟨pa, pc, ta, tc⟩) hs.2.2).2.2.2.2.2.2.2.1; clear hs; go_simp <;> with_reducible rfl)
      try simp only [nz]
      refine tv 5 (.agg #[.int .i64 x.kind, .bool x.is, .bool x.neg, .string x.dig, .int .i64 x.exp, .string x.str, .slice x.ka x.kn x.kc, .slice x.va x.vn x.vc]) ?_ ?_
      · (intro w hs; obtain ⟨⟨c0, c1, c2, c3, c4, c5, c6, c7⟩, _⟩ := val_cells hs.2.1; clear hs; go_simp <;> with_reducible rfl)
      try simp only [nz]
      refine wpAnyH_ready (rs := [0, 4]) (by kernel_rfl) (by simp) ?_;refine (AllReadyH.cons rfl (fun K hK => ?_) (AllReadyH.cons rfl (fun K hK => ?_) AllReadyH.nil));obtain ⟨q20, hq20, KKq20, Eq20⟩ := keys3_new wc.drew;have Dq20 := bel DR Eq20
      try simp only [nz]
      go_simp
      clear hq20;clear hHeld;refine hK.out _ _ ?_ (fun hHeld => ?_)
      · exact FX.out _ Dq20.out
      clear hK K
      try simp only [nz]
      refine rd 4 (fun K hK => ?_)
      try simp only [nz]
      go_simp
      go_at_call 28; refine (Calls.mono (text_any r.id q20).out ?_); rintro z q21 ⟨rfl, hb⟩; have Eq21 : Hid (Below q20.heap.size q20 q21) := hb; clear hb
      have Dq21 := bel Dq20 Eq21;have KKq21 := hst KKq20 Eq21;clear hHeld;refine hK.out _ _ ?_ (fun hHeld => ?_)
      · exact FX.out _ Dq21.out
      clear hK K
      try simp only [nz]
      refine rd 6 (fun K hK => ?_);obtain ⟨q22, hq22, VBq22, Eq22⟩ := kids3_new q21 ka va r.attrs.length kc vc r.id x;have Dq22 := bel Dq21 Eq22;have KKq22 := hst KKq21 Eq22
      try simp only [nz]
      go_simp
      clear hq22;clear hHeld;refine hK.out _ _ ?_ (fun hHeld => ?_)
      · exact FX.out _ Dq22.out
      clear hK K
      try simp only [nz]
      obtain ⟨kn, hkn⟩ : ∃ k, wc.heap.size = k := ⟨_, rfl⟩;obtain ⟨vn, hvn⟩ : ∃ k, q21.heap.size = k := ⟨_, rfl⟩;have KU : Hid (q22.heap[wc.heap.size]? = some (.cells (keysI.map Value.string).toArray 9 (0, 0))) := KKq22;have VU := VBq22;have CKN : Hid (wc.heap.size <= kn) := by rw [<-hkn]; exact DR.out.size
      have CVN : Hid (wc.heap.size <= vn) := by rw [<-hvn]; exact Dq21.out.size
      rw [hvn] at VU ⊢;rw [hkn] at KU ⊢;clear hkn hvn;have DU := Dq22;generalize q22 = u at *;rotate_left 1
      try simp only [nz]
      go_simp
      go_at_call 28; refine (Calls.mono (text_any r.id wc.drew).out ?_); rintro z q20 ⟨rfl, hb⟩; have Eq20 : Hid (Below wc.drew.heap.size wc.drew q20) := hb; clear hb
      have Dq20 := bel DR Eq20;clear hHeld;refine hK.out _ _ ?_ (fun hHeld => ?_)
      · exact FX.out _ Dq20.out
      clear hK K
      try simp only [nz]
      refine wpAnyH_ready (rs := [0, 6]) (by kernel_rfl) (by simp) ?_;refine (AllReadyH.cons rfl (fun K hK => ?_) (AllReadyH.cons rfl (fun K hK => ?_) AllReadyH.nil));obtain ⟨q21, hq21, KKq21, Eq21⟩ := keys3_new q20;have Dq21 := bel Dq20 Eq21
      try simp only [nz]
      go_simp
      clear hq21;clear hHeld;refine hK.out _ _ ?_ (fun hHeld => ?_)
      · exact FX.out _ Dq21.out
      clear hK K
      try simp only [nz]
      refine rd 6 (fun K hK => ?_);obtain ⟨q22, hq22, VBq22, Eq22⟩ := kids3_new q21 ka va r.attrs.length kc vc r.id x;have Dq22 := bel Dq21 Eq22;have KKq22 := hst KKq21 Eq22
      try simp only [nz]
      go_simp
      clear hq22;clear hHeld;refine hK.out _ _ ?_ (fun hHeld => ?_)
      · exact FX.out _ Dq22.out
      clear hK K
      try simp only [nz]
      obtain ⟨kn, hkn⟩ : ∃ k, q20.heap.size = k := ⟨_, rfl⟩;obtain ⟨vn, hvn⟩ : ∃ k, q21.heap.size = k := ⟨_, rfl⟩;have KU : Hid (q22.heap[q20.heap.size]? = some (.cells (keysI.map Value.string).toArray 9 (0, 0))) := KKq22;have VU := VBq22;have CKN : Hid (wc.heap.size <= kn) := by rw [<-hkn]; exact Dq20.out.size
      have CVN : Hid (wc.heap.size <= vn) := by rw [<-hvn]; exact Dq21.out.size
      rw [hvn] at VU ⊢;rw [hkn] at KU ⊢;clear hkn hvn;have DU := Dq22;generalize q22 = u at *;rotate_left 1
      obtain ⟨q21, hq21, VBq21, Eq21⟩ := kids3_new q20 ka va r.attrs.length kc vc r.id x;have Dq21 := bel Dq20 Eq21
      try simp only [nz]
      go_simp
      clear hq21;clear hHeld;refine hK.out _ _ ?_ (fun hHeld => ?_)
      · exact FX.out _ Dq21.out
      clear hK K
      try simp only [nz]
      refine rd 0 (fun K hK => ?_);obtain ⟨q22, hq22, KKq22, Eq22⟩ := keys3_new q21;have Dq22 := bel Dq21 Eq22;have VBq22 := hst VBq21 Eq22
      try simp only [nz]
      go_simp
      clear hq22;clear hHeld;refine hK.out _ _ ?_ (fun hHeld => ?_)
      · exact FX.out _ Dq22.out
      clear hK K
      try simp only [nz]
      obtain ⟨kn, hkn⟩ : ∃ k, q21.heap.size = k := ⟨_, rfl⟩;obtain ⟨vn, hvn⟩ : ∃ k, q20.heap.size = k := ⟨_, rfl⟩;have KU : Hid (q22.heap[q21.heap.size]? = some (.cells (keysI.map Value.string).toArray 9 (0, 0))) := KKq22;have VU := VBq22;have CKN : Hid (wc.heap.size <= kn) := by rw [<-hkn]; exact Dq21.out.size
      have CVN : Hid (wc.heap.size <= vn) := by rw [<-hvn]; exact Dq20.out.size
      rw [hvn] at VU ⊢;rw [hkn] at KU ⊢;clear hkn hvn;have DU := Dq22;generalize q22 = u at *;rotate_left 1
      all_goals
        refine rd 7 (fun K hK => ?_)
        try simp only [nz]
        go_simp
        go_at_call 27; refine (Calls.mono (object_any _ _ _ _ _ _ u).out ?_); rintro z q30 ⟨rfl, hb⟩; have Eq30 : Hid (Below u.heap.size u q30) := hb; clear hb
        have Dq30 := bel DU Eq30;have KKq30 := hst KU Eq30;have VBq30 := hst VU Eq30;clear hHeld;refine hK.out _ _ ?_ (fun hHeld => ?_)
        · exact FX.out _ Dq30.out
        clear hK K
        try simp only [nz]
        refine rd 8 (fun K hK => ?_);have ZZ := hZz (HZZ.out q30 (CX.out.trans (Dq30.out.mono CX.out.size)));obtain ⟨⟨z0, z1, z2, z3, z4, z5, z6, z7⟩, y0, y1, y2, y3, y4, y5, y6, y7⟩ := val_cells ZZ.out
        try simp only [nz]
        go_simp
        clear z0 z1 z2 z3 z4 z5 z6 z7 y0 y1 y2 y3 y4 y5 y6 y7;clear hHeld;refine hK.out _ _ ?_ (fun hHeld => ?_)
        · exact FS.out _ _ (FX.out _ Dq30.out) (gb8 _ _ _ _ _ _ _ _ _ _)
        clear hK K
        try simp only [nz]
        refine wpAnyH_done (by kernel_rfl) ?_ _;clear hHeld;go_wp2_with fail
        refine val_ret (a := (objR (some ⟨kn, 0, none⟩) 3 3 (some ⟨vn, 0, none⟩) 3 3)) (b := w1.heap.size) rfl (set8 ZZ.out (objR (some ⟨kn, 0, none⟩) 3 3 (some ⟨vn, 0, none⟩) 3 3)) rfl ?_;exact insP_mk (x := x) KKq30.out VBq30.out ((AttAt.isV (AX.out.below Dq30.out) (Nat.le_refl _)).turn (Turn.mono _ (fun b hb _ => by have := B02.out.size; have := heap_lt V2.out; have hb : w2.heap.size <= b := hb; exact ⟨by omega, by omega⟩))) HKX.out (B02.out.trans ((CX.out.trans (Dq30.out.mono CX.out.size)).mono B02.out.size)) (by have := CKN.out; have := CX.out.size; have := B02.out.size; omega) (by have := CVN.out; have := CX.out.size; have := B02.out.size; omega) B1.out.size (by have := CKN.out; have := CX.out.size; have := heap_lt V2.out; omega) (by have := CVN.out; have := CX.out.size; have := heap_lt V2.out; omega)
end Go.Proofs.YtfdjolfenghmaaaGreatDoor.Save
