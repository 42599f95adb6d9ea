/- save.resource. -/
import Derived.Test.YtfdjolfenghmaaaGreatDoorWSvD
set_option linter.unusedVariables false
set_option linter.unusedSimpArgs false
set_option maxRecDepth 100000
set_option maxHeartbeats 16000000
namespace Go.Proofs.YtfdjolfenghmaaaGreatDoor.Save
open Go.RowKit Go.Shelf Utf Strs Go.Proofs.YtfdjolfenghmaaaGreatDoor.Addr Go.Proofs.YtfdjolfenghmaaaGreatDoor.State
open Jdec (Raw JV IsV IsTexts Turn gb_set gb_below gb_refl gb8 set8 val_ret val_cells own_new KidsA listOf objectOf)
/-! ## What save.resource tells -/
def keysR : List ByteArray := [kIns, kMod, kNam, kPro, kTyp]
def rawsR (ia : Option Addr) (n ic : Nat) (a : Option Addr) (c : Nat) (r : Rec) : List Raw := [lstR ia n ic, lstR a r.a.path.length c, strR r.a.name, strR r.prov, strR r.a.type]
def resArr (a : Option Addr) (c : Nat) (r : Rec) : Array Value := ((rawsR none 0 0 a c r).flatMap Raw.cells).toArray
theorem keys_new (w : World) : ∃ w1, w.alloc (.cells #[.string ⟨#[105, 110, 115, 116, 97, 110, 99, 101, 115]⟩, .string ⟨#[109, 111, 100, 117, 108, 101]⟩, .string ⟨#[110, 97, 109, 101]⟩, .string ⟨#[112, 114, 111, 118, 105, 100, 101, 114]⟩, .string ⟨#[116, 121, 112, 101]⟩] 9) = w1 /\ Hid (w1.heap[w.heap.size]? = some (.cells (keysR.map Value.string).toArray 9 (0, 0))) /\ Hid (Below w.heap.size w w1) :=
  ⟨_, rfl, heap_alloc_new _ _, (Below.refl _ _).alloc (Nat.le_refl _) _⟩
theorem kids_new (w : World) (a : Option Addr) (c : Nat) (r : Rec) : ∃ w1, w.alloc (.cells #[.int .i64 5, .bool false, .bool false, .string ⟨#[]⟩, .int .i64 0, .string ⟨#[]⟩, .slice none 0 0, .slice none 0 0, .int .i64 5, .bool false, .bool false, .string ⟨#[]⟩, .int .i64 0, .string ⟨#[]⟩, .slice none 0 0, .slice a r.a.path.length c, .int .i64 4, .bool false, .bool false, .string ⟨#[]⟩, .int .i64 0, .string r.a.name, .slice none 0 0, .slice none 0 0, .int .i64 4, .bool false, .bool false, .string ⟨#[]⟩, .int .i64 0, .string r.prov, .slice none 0 0, .slice none 0 0, .int .i64 4, .bool false, .bool false, .string ⟨#[]⟩, .int .i64 0, .string r.a.type, .slice none 0 0, .slice none 0 0] 46) = w1 /\ Hid (w1.heap[w.heap.size]? = some (.cells (resArr a c r) 46 (0, 0))) /\ Hid (Below w.heap.size w w1) :=
  ⟨_, rfl, heap_alloc_new _ _, (Below.refl _ _).alloc (Nat.le_refl _) _⟩
structure ResAt (B : Nat) (w : World) (r : Rec) (kk kb : Nat) (a : Option Addr) (c : Nat) : Prop where
  hk : B <= kk
  hb : B <= kb
  ne : kk ≠ kb
  K : w.heap[kk]? = some (.cells (keysR.map Value.string).toArray 9 (0, 0))
  V : w.heap[kb]? = some (.cells (resArr a c r) 46 (0, 0))
  P : KidsA w B (fun b => B <= b /\ b ≠ kk /\ b ≠ kb) (.slice a r.a.path.length c) (r.a.path.map strV)
  p : ∀ k, (Value.slice a r.a.path.length c).ownBlock = some k -> k ≠ kk /\ k ≠ kb
def ResP (r : Rec) (w : World) (e : Ending) (w' : World) : Prop := ∃ kk kb a c, e = .returned (objR (some ⟨kk, 0, none⟩) 5 5 (some ⟨kb, 0, none⟩) 5 5).val /\ ResAt w.heap.size w' r kk kb a c /\ Below w.heap.size w w'
theorem resP_mk {r : Rec} {w w2 wr q : World} {kk kb w1s : Nat} {a : Option Addr} {c : Nat} {x0 x1 x2 x3 x4 x5 x6 x7 : Value} (b02 : Below w.heap.size w w2) (b2r : Below w2.heap.size w2 wr) (brq : Below wr.heap.size wr q)
    (hk : q.heap[kk]? = some (.cells (keysR.map Value.string).toArray 9 (0, 0))) (hv : q.heap[kb]? = some (.cells (resArr a c r) 46 (0, 0)))
    (hp : KidsA wr w2.heap.size (fun b => w2.heap.size <= b) (.slice a r.a.path.length c) (r.a.path.map strV)) (h2 : w1s < w2.heap.size) (h1 : w.heap.size <= w1s) (ck : wr.heap.size <= kk) (cv : wr.heap.size <= kb) :
    ResP r w (.returned (objR (some ⟨kk, 0, none⟩) 5 5 (some ⟨kb, 0, none⟩) 5 5).val) ((((((((q.setCell ⟨w1s, 0, none⟩ x0).setCell ⟨w1s, 1, none⟩ x1).setCell ⟨w1s, 2, none⟩ x2).setCell ⟨w1s, 3, none⟩ x3).setCell ⟨w1s, 4, none⟩ x4).setCell ⟨w1s, 5, none⟩ x5).setCell ⟨w1s, 6, none⟩ x6).setCell ⟨w1s, 7, none⟩ x7) := by
  have G := gb8 q w1s x0 x1 x2 x3 x4 x5 x6 x7;have s1 := b02.size;have s2 := b2r.size;have s3 := brq.size;have hlt := KidsA.lt hp;have hne : kk ≠ kb := fun e => by
    rw [e, hv] at hk;injection hk with hk
    injection hk with _ hk _
    exact absurd hk (by decide)
  refine ⟨_, _, a, c, rfl, ⟨by omega, by omega, hne, ?_, ?_, ?_, fun k hkk => ?_⟩, ?_⟩
  · rw [G.block _ (heap_lt hk) (by simp; omega)]; exact hk
  · rw [G.block _ (heap_lt hv) (by simp; omega)]; exact hv
  · have h4 := KidsA.below hp brq (C' := fun b => w2.heap.size <= b /\ b < wr.heap.size) (fun b hb hl => ⟨hb, hl⟩);have h5 := h4.turn G (by
      cases ho : (Value.slice a r.a.path.length c).ownBlock with
      | none => exact .inl rfl
      | some k => exact .inr (by have := (hlt k ho).1; simp; omega)) (A' := fun b => w.heap.size <= b /\ b ≠ kk /\ b ≠ kb) (fun b hb hl => ⟨by simp; omega, by omega, by omega, by omega⟩)
    obtain ⟨rs, k1, k2, k3⟩ := h5;exact ⟨rs, k1, ⟨k2.1, by
      rcases k2.2 with h | ⟨g, cap, cur, e, hB, h⟩
      · exact .inl h
      · exact .inr ⟨g, cap, cur, e, by omega, h⟩⟩, k3⟩
  · have := hlt k hkk;omega
  · exact (b02.trans ((b2r.trans (brq.mono b2r.size)).mono b02.size)).grown G (by omega) (fun k hk => by injection hk with hk; omega)
theorem resource_any (r : Rec) (p : At) (w : World) (h : IsRec w (fun _ => True) p r) (hl : r.a.path.length <= 20) : Hid (Calls Tryz.prog 25 #[.agg #[.slice p.pa r.a.path.length p.pc, .string r.a.type, .string r.a.name, .int .i64 r.a.key, .int .u64 r.a.place, .string r.a.word, .string r.prov, .string r.id, .slice p.ta r.attrs.length p.tc]] w (ResP r w)) := by
  show Calls _ _ _ _ _;obtain ⟨pa, pc, ta, tc⟩ := p;obtain ⟨w1, hw1, V1, B1⟩ := rec_new w ⟨pa, pc, ta, tc⟩ r;obtain ⟨w2, hw2, V2, B2⟩ := own_new w1 Raw.zero
  dsimp only [Raw.zero] at hw2
  have B02 := bel B1 B2;have HBB : Hid (∀ W, Below w2.heap.size w2 W -> W.heap[w.heap.size]? = some (.cells (recArr ⟨pa, pc, ta, tc⟩ r) 38 (0, 0))) := fun W hb => (hb.block _ (Nat.lt_of_lt_of_le (heap_lt V1.out) B2.out.size)).trans ((B2.out.block _ (heap_lt V1.out)).trans V1.out);have HPT : Hid (∀ W, Below w2.heap.size w2 W -> IsTexts W (fun _ => True) pa r.a.path) := fun W hb => h.path.turn (Turn.below (B02.out.trans (hb.mono B02.out.size)));obtain ⟨x0, x1, x2, x3, x4, x5, x6, x7, x8⟩ := rec_cells (HBB.out w2 (Below.refl _ _));clear h
  dsimp only at hw1 ⊢
  go_enter Tryz.func25, Tryz.ntmps25
  go_wp2_with fail
  clear x0 x1 x2 x3 x4 x5 x6 x7 x8
  go_loopw [3, 10] (fun p3 p10 wr => ∃ (i : Nat) (a3 : Option Addr) (c3 : Nat), p3 = .slice a3 i c3 /\ p10 = .int .i64 i /\ i <= r.a.path.length /\ Hid (KidsA wr w2.heap.size (fun b => w2.heap.size <= b) (.slice a3 i c3) ((r.a.path.take i).map strV)) /\ Hid (Below w2.heap.size w2 wr)) (fun _ p10 _ => r.a.path.length - (intOf p10).toNat)
  case atStart => exact ⟨0, none, 0, rfl, rfl, Nat.zero_le _, KidsA.nil _ _ _, Below.refl _ _⟩
  case round =>
    obtain ⟨i, a3, c3, rfl, rfl, hi, hK, hB⟩ := hrel;by_cases hlt : i < r.a.path.length
    · obtain ⟨pb, po, hpa, _, hpb, hpc⟩ := (HPT.out wr hB.out).resolve_left (by intro e; rw [e] at hlt; simp at hlt);have hci := hpc i hlt;obtain ⟨s, hs⟩ : ∃ s, r.a.path[i] = s := ⟨_, rfl⟩;rw [hs] at hci;have HS := hZz hs;have hlen : ((r.a.path.take i).map strV).length = i := by simp; omega
      subst hpa;have HTX := text_any s wr;clear hs hpc;go_wp2_with fail
      refine (Calls.mono HTX.out ?_);rintro z w4 ⟨rfl, hb4⟩;obtain ⟨w5, hw5, V5, B5⟩ := own_new w4 (strR s);have V5' : Hid (w5.heap[w4.heap.size]? = some (.cells (strR s).arr 46 (0, 0))) := V5.out;have B45 : Hid (Below wr.heap.size wr w5) := hb4.trans (B5.out.mono hb4.size);have C5 := bel hB B45;obtain ⟨a6, c6, w6, hrun, hk6, hg6, hl6⟩ := app_kids (KidsA.below hK.out B45.out (C' := fun b => w2.heap.size <= b) (fun b h _ => h)) w4.heap.size (strR s) (strV s) V5'.out (strR_is _ _ _) (by omega) C5.out.size;rw [hlen] at hrun hk6;have HR := hZz hrun;have HK6 := hZz hk6;have C6 : Hid (Below w2.heap.size w2 w6) := C5.out.grown hg6 C5.out.size (fun x hx => (KidsA.lt (KidsA.below hK.out B45.out (C' := fun b => w2.heap.size <= b) (fun b h _ => h)) x hx).1);clear hrun hk6 hg6 hl6 hlen hb4 V5 V5' B5 B45 HTX hci
      dsimp only [strR] at hw5
      go_wp2_with (at_builtin; refine Jdec.wpList_append_run (.slice a3 i c3) (.slice (some ⟨w4.heap.size, 0, none⟩) 1 1) 44 HR.out rfl _ _ rfl rfl rfl ?_)
      go_roundw
      case rel =>
        refine ⟨i + 1, a6, c6, rfl, by go_num, by omega, ?_, C6.out⟩;have e : (r.a.path.take (i + 1)).map strV = (r.a.path.take i).map strV ++ [strV s] := by rw [List.take_add_one, List.getElem?_eq_getElem hlt, HS.out]; simp
        rw [e]; exact HK6.out
      case measure => simp [intOf]; omega
    · have hie : i = r.a.path.length := by omega
      subst hie;rw [List.take_length] at hK;clear hi hlt;have HKE : Hid (∀ W, Below wr.heap.size wr W -> W.heap[w.heap.size]? = some (.cells (recArr ⟨pa, pc, ta, tc⟩ r) 38 (0, 0))) := fun W hb => HBB.out W (hB.out.trans (hb.mono hB.out.size));have HZZ : Hid (∀ W, Below wr.heap.size wr W -> W.heap[w1.heap.size]? = some (.cells Raw.zero.arr 46 (0, 0))) := fun W hb => ((hB.out.trans (hb.mono hB.out.size)).block _ (heap_lt V2.out)).trans V2.out;have HLT : Hid (w.heap.size < wr.heap.size) := Nat.lt_of_lt_of_le (heap_lt V1.out) (Nat.le_trans B2.out.size hB.out.size);have HNE : Hid (¬ w.heap.size = w1.heap.size) := by have := heap_lt V1.out; show ¬ _; omega
      go_wp2_with fail
      refine wp_region_held_drew (S := (fun W => W.heap[w.heap.size]? = some (.cells (recArr ⟨pa, pc, ta, tc⟩ r) 38 (0, 0)))) (by kernel_rfl) ?_ (fun hHeld => ?_)
      · exact HKE.out _ (Below.refl _ _).drew
      have DR : Hid (Below wr.heap.size wr wr.drew) := (Below.refl _ _).drew;refine tk 1 ?_;refine tk 2 ?_;refine tk 3 ?_
      try simp only [nz]
      refine tk 4 ?_;refine tk 5 ?_;refine tv 6 (.string r.a.name) ?_ ?_
      · (intro w hs; have ee := (rec_cells (p := ⟨pa, pc, ta, tc⟩) hs).2.2.1; clear hs; go_simp <;> with_reducible rfl)
      try simp only [nz]
      refine tk 8 ?_;refine tv 9 (.string r.prov) ?_ ?_
      · (intro w hs; have ee := (rec_cells (p := ⟨pa, pc, ta, tc⟩) hs).2.2.2.2.2.2.1; clear hs; go_simp <;> with_reducible rfl)
      refine tk 11 ?_
      try simp only [nz]
      refine tk 12 ?_;refine tv 13 (.string r.a.type) ?_ ?_
      · (intro w hs; have ee := (rec_cells (p := ⟨pa, pc, ta, tc⟩) hs).2.1; clear hs; go_simp <;> with_reducible rfl)
      try simp only [nz]
      refine wpAnyH_ready (rs := [0, 7]) (by kernel_rfl) (by simp) ?_;refine (AllReadyH.cons rfl (fun K hK => ?_) (AllReadyH.cons rfl (fun K hK => ?_) AllReadyH.nil));obtain ⟨q0, hq0, KKq0, Eq0⟩ := keys_new wr.drew;have Dq0 := bel DR Eq0
      try simp only [nz]
      go_simp
      clear hq0;clear hHeld;refine hK.out _ _ ?_ (fun hHeld => ?_)
      · exact HKE.out _ Dq0.out
      clear hK K
      try simp only [nz]
      refine rd 7 (fun K hK => ?_)
      try simp only [nz]
      go_simp
      go_at_call 28; refine (Calls.mono (text_any r.a.name q0).out ?_); rintro z q1 ⟨rfl, hb⟩; have Dq1 := bel Dq0 hb; have Eq1 : Hid (Below q0.heap.size q0 q1) := hb; clear hb
      have KKq1 := hst KKq0 Eq1;clear hHeld;refine hK.out _ _ ?_ (fun hHeld => ?_)
      · exact HKE.out _ Dq1.out
      clear hK K
      try simp only [nz]
      refine rd 10 (fun K hK => ?_)
      try simp only [nz]
      go_simp
      go_at_call 28; refine (Calls.mono (text_any r.prov q1).out ?_); rintro z q2 ⟨rfl, hb⟩; have Dq2 := bel Dq1 hb; have Eq2 : Hid (Below q1.heap.size q1 q2) := hb; clear hb
      have KKq2 := hst KKq1 Eq2;clear hHeld;refine hK.out _ _ ?_ (fun hHeld => ?_)
      · exact HKE.out _ Dq2.out
      clear hK K
      try simp only [nz]
      refine rd 14 (fun K hK => ?_)
      try simp only [nz]
      go_simp
      go_at_call 28; refine (Calls.mono (text_any r.a.type q2).out ?_); rintro z q3 ⟨rfl, hb⟩; have Dq3 := bel Dq2 hb; have Eq3 : Hid (Below q2.heap.size q2 q3) := hb; clear hb
      have KKq3 := hst KKq2 Eq3;clear hHeld;refine hK.out _ _ ?_ (fun hHeld => ?_)
      · exact HKE.out _ Dq3.out
      clear hK K
      try simp only [nz]
      refine rd 15 (fun K hK => ?_);obtain ⟨q4, hq4, VBq4, Eq4⟩ := kids_new q3 a3 c3 r;have Dq4 := bel Dq3 Eq4
      try simp only [nz]
      go_simp
      clear hq4;have KKq4 := hst KKq3 Eq4;clear hHeld;refine hK.out _ _ ?_ (fun hHeld => ?_)
      · exact HKE.out _ Dq4.out
      clear hK K
      try simp only [nz]
      obtain ⟨kn, hkn⟩ : ∃ k, wr.heap.size = k := ⟨_, rfl⟩;obtain ⟨vn, hvn⟩ : ∃ k, q3.heap.size = k := ⟨_, rfl⟩;have KU : Hid (q4.heap[wr.heap.size]? = some (.cells (keysR.map Value.string).toArray 9 (0, 0))) := KKq4;have VU := VBq4;have CKN : Hid (wr.heap.size <= kn) := by rw [<-hkn]; exact DR.out.size
      have CVN : Hid (wr.heap.size <= vn) := by rw [<-hvn]; exact Dq3.out.size
      rw [hvn] at VU ⊢;rw [hkn] at KU ⊢;clear hkn hvn;have DU := Dq4;generalize q4 = u at *;rotate_left 1
      try simp only [nz]
      go_simp
      go_at_call 28; refine (Calls.mono (text_any r.a.name wr.drew).out ?_); rintro z q0 ⟨rfl, hb⟩; have Dq0 := bel DR hb; have Eq0 : Hid (Below wr.drew.heap.size wr.drew q0) := hb; clear hb
      clear hHeld;refine hK.out _ _ ?_ (fun hHeld => ?_)
      · exact HKE.out _ Dq0.out
      clear hK K
      try simp only [nz]
      refine wpAnyH_ready (rs := [0, 10]) (by kernel_rfl) (by simp) ?_;refine (AllReadyH.cons rfl (fun K hK => ?_) (AllReadyH.cons rfl (fun K hK => ?_) AllReadyH.nil));obtain ⟨q1, hq1, KKq1, Eq1⟩ := keys_new q0;have Dq1 := bel Dq0 Eq1
      try simp only [nz]
      go_simp
      clear hq1;clear hHeld;refine hK.out _ _ ?_ (fun hHeld => ?_)
      · exact HKE.out _ Dq1.out
      clear hK K
      try simp only [nz]
      refine rd 10 (fun K hK => ?_)
      try simp only [nz]
      go_simp
      go_at_call 28; refine (Calls.mono (text_any r.prov q1).out ?_); rintro z q2 ⟨rfl, hb⟩; have Dq2 := bel Dq1 hb; have Eq2 : Hid (Below q1.heap.size q1 q2) := hb; clear hb
      have KKq2 := hst KKq1 Eq2;clear hHeld;refine hK.out _ _ ?_ (fun hHeld => ?_)
      · exact HKE.out _ Dq2.out
      clear hK K
      try simp only [nz]
      refine rd 14 (fun K hK => ?_)
      try simp only [nz]
      go_simp
      go_at_call 28; refine (Calls.mono (text_any r.a.type q2).out ?_); rintro z q3 ⟨rfl, hb⟩; have Dq3 := bel Dq2 hb; have Eq3 : Hid (Below q2.heap.size q2 q3) := hb; clear hb
      have KKq3 := hst KKq2 Eq3;clear hHeld;refine hK.out _ _ ?_ (fun hHeld => ?_)
      · exact HKE.out _ Dq3.out
      clear hK K
      try simp only [nz]
      refine rd 15 (fun K hK => ?_);obtain ⟨q4, hq4, VBq4, Eq4⟩ := kids_new q3 a3 c3 r;have Dq4 := bel Dq3 Eq4
      try simp only [nz]
      go_simp
      clear hq4;have KKq4 := hst KKq3 Eq4;clear hHeld;refine hK.out _ _ ?_ (fun hHeld => ?_)
      · exact HKE.out _ Dq4.out
      clear hK K
      try simp only [nz]
      obtain ⟨kn, hkn⟩ : ∃ k, q0.heap.size = k := ⟨_, rfl⟩;obtain ⟨vn, hvn⟩ : ∃ k, q3.heap.size = k := ⟨_, rfl⟩;have KU : Hid (q4.heap[q0.heap.size]? = some (.cells (keysR.map Value.string).toArray 9 (0, 0))) := KKq4;have VU := VBq4;have CKN : Hid (wr.heap.size <= kn) := by rw [<-hkn]; exact Dq0.out.size
      have CVN : Hid (wr.heap.size <= vn) := by rw [<-hvn]; exact Dq3.out.size
      rw [hvn] at VU ⊢;rw [hkn] at KU ⊢;clear hkn hvn;have DU := Dq4;generalize q4 = u at *;rotate_left 1
      try simp only [nz]
      go_simp
      go_at_call 28; refine (Calls.mono (text_any r.prov q0).out ?_); rintro z q1 ⟨rfl, hb⟩; have Dq1 := bel Dq0 hb; have Eq1 : Hid (Below q0.heap.size q0 q1) := hb; clear hb
      clear hHeld;refine hK.out _ _ ?_ (fun hHeld => ?_)
      · exact HKE.out _ Dq1.out
      clear hK K
      try simp only [nz]
      refine wpAnyH_ready (rs := [0, 14]) (by kernel_rfl) (by simp) ?_;refine (AllReadyH.cons rfl (fun K hK => ?_) (AllReadyH.cons rfl (fun K hK => ?_) AllReadyH.nil));obtain ⟨q2, hq2, KKq2, Eq2⟩ := keys_new q1;have Dq2 := bel Dq1 Eq2
      try simp only [nz]
      go_simp
      clear hq2;clear hHeld;refine hK.out _ _ ?_ (fun hHeld => ?_)
      · exact HKE.out _ Dq2.out
      clear hK K
      try simp only [nz]
      refine rd 14 (fun K hK => ?_)
      try simp only [nz]
      go_simp
      go_at_call 28; refine (Calls.mono (text_any r.a.type q2).out ?_); rintro z q3 ⟨rfl, hb⟩; have Dq3 := bel Dq2 hb; have Eq3 : Hid (Below q2.heap.size q2 q3) := hb; clear hb
      have KKq3 := hst KKq2 Eq3;clear hHeld;refine hK.out _ _ ?_ (fun hHeld => ?_)
      · exact HKE.out _ Dq3.out
      clear hK K
      try simp only [nz]
      refine rd 15 (fun K hK => ?_);obtain ⟨q4, hq4, VBq4, Eq4⟩ := kids_new q3 a3 c3 r;have Dq4 := bel Dq3 Eq4
      try simp only [nz]
      go_simp
      clear hq4;have KKq4 := hst KKq3 Eq4;clear hHeld;refine hK.out _ _ ?_ (fun hHeld => ?_)
      · exact HKE.out _ Dq4.out
      clear hK K
      try simp only [nz]
      obtain ⟨kn, hkn⟩ : ∃ k, q1.heap.size = k := ⟨_, rfl⟩;obtain ⟨vn, hvn⟩ : ∃ k, q3.heap.size = k := ⟨_, rfl⟩;have KU : Hid (q4.heap[q1.heap.size]? = some (.cells (keysR.map Value.string).toArray 9 (0, 0))) := KKq4;have VU := VBq4;have CKN : Hid (wr.heap.size <= kn) := by rw [<-hkn]; exact Dq1.out.size
      have CVN : Hid (wr.heap.size <= vn) := by rw [<-hvn]; exact Dq3.out.size
      rw [hvn] at VU ⊢;rw [hkn] at KU ⊢;clear hkn hvn;have DU := Dq4;generalize q4 = u at *;rotate_left 1
      try simp only [nz]
      go_simp
      go_at_call 28; refine (Calls.mono (text_any r.a.type q1).out ?_); rintro z q2 ⟨rfl, hb⟩; have Dq2 := bel Dq1 hb; have Eq2 : Hid (Below q1.heap.size q1 q2) := hb; clear hb
      clear hHeld;refine hK.out _ _ ?_ (fun hHeld => ?_)
      · exact HKE.out _ Dq2.out
      clear hK K
      try simp only [nz]
      refine wpAnyH_ready (rs := [0, 15]) (by kernel_rfl) (by simp) ?_;refine (AllReadyH.cons rfl (fun K hK => ?_) (AllReadyH.cons rfl (fun K hK => ?_) AllReadyH.nil));obtain ⟨q3, hq3, KKq3, Eq3⟩ := keys_new q2;have Dq3 := bel Dq2 Eq3
      try simp only [nz]
      go_simp
      clear hq3;clear hHeld;refine hK.out _ _ ?_ (fun hHeld => ?_)
      · exact HKE.out _ Dq3.out
      clear hK K
      try simp only [nz]
      refine rd 15 (fun K hK => ?_);obtain ⟨q4, hq4, VBq4, Eq4⟩ := kids_new q3 a3 c3 r;have Dq4 := bel Dq3 Eq4
      try simp only [nz]
      go_simp
      clear hq4;have KKq4 := hst KKq3 Eq4;clear hHeld;refine hK.out _ _ ?_ (fun hHeld => ?_)
      · exact HKE.out _ Dq4.out
      clear hK K
      try simp only [nz]
      obtain ⟨kn, hkn⟩ : ∃ k, q2.heap.size = k := ⟨_, rfl⟩;obtain ⟨vn, hvn⟩ : ∃ k, q3.heap.size = k := ⟨_, rfl⟩;have KU : Hid (q4.heap[q2.heap.size]? = some (.cells (keysR.map Value.string).toArray 9 (0, 0))) := KKq4;have VU := VBq4;have CKN : Hid (wr.heap.size <= kn) := by rw [<-hkn]; exact Dq2.out.size
      have CVN : Hid (wr.heap.size <= vn) := by rw [<-hvn]; exact Dq3.out.size
      rw [hvn] at VU ⊢;rw [hkn] at KU ⊢;clear hkn hvn;have DU := Dq4;generalize q4 = u at *;rotate_left 1
      obtain ⟨q3, hq3, VBq3, Eq3⟩ := kids_new q2 a3 c3 r;have Dq3 := bel Dq2 Eq3
      try simp only [nz]
      go_simp
      clear hq3;clear hHeld;refine hK.out _ _ ?_ (fun hHeld => ?_)
      · exact HKE.out _ Dq3.out
      clear hK K
      try simp only [nz]
      refine rd 0 (fun K hK => ?_);obtain ⟨q4, hq4, KKq4, Eq4⟩ := keys_new q3;have Dq4 := bel Dq3 Eq4
      try simp only [nz]
      go_simp
      clear hq4;have VBq4 := hst VBq3 Eq4;clear hHeld;refine hK.out _ _ ?_ (fun hHeld => ?_)
      · exact HKE.out _ Dq4.out
      clear hK K
      try simp only [nz]
      obtain ⟨kn, hkn⟩ : ∃ k, q3.heap.size = k := ⟨_, rfl⟩;obtain ⟨vn, hvn⟩ : ∃ k, q2.heap.size = k := ⟨_, rfl⟩;have KU : Hid (q4.heap[q3.heap.size]? = some (.cells (keysR.map Value.string).toArray 9 (0, 0))) := KKq4;have VU := VBq4;have CKN : Hid (wr.heap.size <= kn) := by rw [<-hkn]; exact Dq3.out.size
      have CVN : Hid (wr.heap.size <= vn) := by rw [<-hvn]; exact Dq2.out.size
      rw [hvn] at VU ⊢;rw [hkn] at KU ⊢;clear hkn hvn;have DU := Dq4;generalize q4 = u at *;rotate_left 1
      all_goals
        refine rd 16 (fun K hK => ?_)
        try simp only [nz]
        go_simp
        go_at_call 27; refine (Calls.mono (object_any _ _ _ _ _ _ u).out ?_); rintro z q10 ⟨rfl, hb⟩; have Dq10 := bel DU hb; have Eq10 : Hid (Below u.heap.size u q10) := hb; clear hb
        have KKq10 := hst KU Eq10;have VBq10 := hst VU Eq10;clear hHeld;refine hK.out _ _ ?_ (fun hHeld => ?_)
        · exact HKE.out _ Dq10.out
        clear hK K
        try simp only [nz]
        refine rd 17 (fun K hK => ?_);have ZZ := hZz (HZZ.out q10 Dq10.out);obtain ⟨⟨z0, z1, z2, z3, z4, z5, z6, z7⟩, y0, y1, y2, y3, y4, y5, y6, y7⟩ := val_cells ZZ.out
        try simp only [nz]
        go_simp
        clear z0 z1 z2 z3 z4 z5 z6 z7 y0 y1 y2 y3 y4 y5 y6 y7;clear hHeld;refine hK.out _ _ ?_ (fun hHeld => ?_)
        · exact ((gb8 _ _ _ _ _ _ _ _ _ _).block _ (Nat.lt_of_lt_of_le HLT.out Dq10.out.size) (by simp; exact HNE.out)).trans (HKE.out _ Dq10.out)
        clear hK K
        try simp only [nz]
        refine wpAnyH_done (by kernel_rfl) ?_ _;clear hHeld;go_wp2_with fail
        refine val_ret (a := (objR (some ⟨kn, 0, none⟩) 5 5 (some ⟨vn, 0, none⟩) 5 5)) (b := w1.heap.size) rfl (set8 ZZ.out (objR (some ⟨kn, 0, none⟩) 5 5 (some ⟨vn, 0, none⟩) 5 5)) rfl ?_;exact resP_mk B02.out hB.out Dq10.out KKq10.out VBq10.out hK.out (heap_lt V2.out) B1.out.size CKN.out CVN.out
end Go.Proofs.YtfdjolfenghmaaaGreatDoor.Save
