/- What the function that state.All tells does. -/
import Derived.Test.YtckflnibkglheaaGreatDoorYSStX
namespace Go.Proofs.YtckflnibkglheaaGreatDoor.State
open Go.RowKit Go.Shelf Go.Proofs.YtckflnibkglheaaGreatDoor.Utf Go.Proofs.YtckflnibkglheaaGreatDoor.Strs Go.Proofs.YtckflnibkglheaaGreatDoor.Addr
open Go.Proofs.YtckflnibkglheaaGreatDoor.Jdec (IsTexts Turn infoStr gb_set gb_below gb_refl)
set_option linter.unusedVariables false
set_option linter.unusedSimpArgs false
set_option maxRecDepth 100000

attribute [local go_sem] Oper.semAt_some
/-- The list, its box, and the tables. -/
structure OwnA (w : World) (bs : Nat) (a : Option Addr) (c : Nat) (l : List Rec) : Prop where
 b : w.heap[bs]? = some (.cells #[.slice a l.length c] 22 (0, 0))
 r : RecsAt w a l
 t : TabsA w
theorem OwnA.stays {w w' : World} {bs : Nat} {a : Option Addr} {c : Nat} {l : List Rec} (h : OwnA w bs a c l) (hb : Below w.heap.size w w') : OwnA w' bs a c l := ⟨(hb.block _ (heap_lt h.b)).trans h.b, h.r.stays hb, h.t.stays hb⟩
/-- What is told: a print, and the record. -/
def toldV (x : At × Rec) : Array Value := #[.string ⟨(printA x.2.a).toArray⟩, .agg #[.slice x.1.pa x.2.a.path.length x.1.pc, .string x.2.a.type, .string x.2.a.name, .int .i64 x.2.a.key, .int .u64 x.2.a.place, .string x.2.a.word, .string x.2.prov, .string x.2.id, .slice x.1.ta x.2.attrs.length x.1.tc]]
/-- The record told is the next one. -/
structure Nxt (l : List Rec) (pre : List (At × Rec)) (x : At × Rec) (W : World) : Prop where
 m : pre.map (·.2) ++ [x.2] = l.take (pre.length + 1)
 i : IsRec W (fun _ => True) x.1 x.2
 s : Small x.2
set_option maxHeartbeats 16000000 in
theorem recs_stops (n bs : Nat) (a : Option Addr) (c : Nat) (l : List Rec) (hn : 1 ≤ n) (w : World) (hO : OwnA w bs a c l) :
  Ran.SeqV Fence.wide n Tryz.prog 59 #[.pointer (some ⟨bs, 0, none⟩)] toldV (Nxt l) (fun W => OwnA W bs a c l) (fun ys => ys.map (·.2) = l) (fun _ => True) l.length w := by
 intro l0 J Jx W hW hJ hNd hY h0
 have HO := hO.stays hW
 have HND : Hid (∀ pre W1, J pre W1 → OwnA W1 bs a c l) := hNd
 have HJ : Hid (∀ pre A B, J pre A → Below A.heap.size A B → J pre B) := fun pre A B h hb => hJ pre A B none h ⟨hb.os, hb.tape, hb.output, hb.size, fun k hk _ => hb.block k hk⟩ (fun r e => by cases e)
 have HY : Hid (∀ pre x W1, J pre W1 → Nxt l pre x W1 → pre.length < l.length → YieldAt Fence.wide (n - 1) Tryz.prog l0 (toldV x) W1 fun e W' => ∃ bb : Bool, e = .returned (.bool bb) ∧ Hid (bb = true → J (pre ++ [x]) W') ∧ Hid (bb = false → Jx (pre ++ [x]) W')) := fun pre x W1 h1 h2 h3 => (hY pre x W1 h1 h2 h3).mono fun e W' h => by
  rcases h with ⟨rfl, h⟩ | ⟨rfl, h⟩
  ·exact ⟨true, rfl, fun _ => h, fun e => by cases e⟩
  ·exact ⟨false, rfl, fun e => (by cases e), fun _ => h⟩
 have c0 : W.cell? ⟨bs, 0, none⟩ = some (.slice a l.length c) := cell_of HO.b 0
 have hln := HO.r.n
 clear hJ hNd hY hO hW HO
 refine callsIn_of_wp Tryz.func59 rfl trivial ?_ rfl
 simp only [Tryz.ntmps59, List.size_toArray, List.length_cons, List.length_nil, Nat.reduceAdd, Nat.reduceSub, Array.replicate_succ, Array.replicate_zero, List.push_toArray, List.append_toArray, List.nil_append, List.cons_append]
 gi_wp2_with fail
 clear c0
 gi_loopw [7] (fun p7 wr => ∃ (i : Nat) (pre : List (At × Rec)), i ≤ l.length ∧ p7 = .int .i64 i ∧ Hid (pre.length = i) ∧ Hid (pre.map (·.2) = l.take i) ∧ Hid (J pre wr)) (fun p7 _ => l.length - (intOf p7).toNat)
 case atStart => exact ⟨0, [], Nat.zero_le _, rfl, rfl, rfl, h0⟩
 case round =>
  obtain ⟨i, pre, hi, rfl, hpl, hpm, hj⟩ := hrel
  have HO : Hid (OwnA wr bs a c l) := HND.out pre wr hj.out
  by_cases hlt : i < l.length
  ·obtain ⟨b, o, p, hra, hb, hcr, hir⟩ := HO.out.r.get hlt
   have hsm := HO.out.r.s _ (List.getElem_mem hlt)
   have htk : l.take (i + 1) = l.take i ++ [l[i]] := by rw [List.take_add_one, List.getElem?_eq_getElem hlt]; rfl
   obtain ⟨r, hr⟩ : ∃ r, l[i] = r := ⟨_, rfl⟩
   rw [hr] at hcr hir hsm htk
   have HSM := Hid.out (p := Hid _) hsm
   have HTK := Hid.out (p := Hid _) htk
   obtain ⟨w4, hw4, V4, B4⟩ := rec_new wr p r
   have HIR : Hid (∀ W, Below w4.heap.size w4 W → IsRec W (fun _ => True) p r) := fun W hb => (hir.turn (Turn.below B4.out)).turn (Turn.below hb)
   have HKX : Hid (∀ W, Below w4.heap.size w4 W → W.heap[wr.heap.size]? = some (.cells (recArr p r) 32 (0, 0))) := fun W hb => (hb.block _ (heap_lt V4.out)).trans V4.out
   have hdr : Below w4.heap.size w4 w4.drew := (Below.refl _ _).drew
   have HDR : Hid (Below w4.heap.size w4 w4.drew) := hdr
   have HJ4 : Hid (∀ W, Below w4.heap.size w4 W → J pre W) := fun W hb => HJ.out pre wr W hj.out (B4.out.trans (hb.mono B4.out.size))
   obtain ⟨qs, hqs⟩ : ∃ q : ByteArray, (⟨(printA r.a).toArray⟩ : ByteArray) = q := ⟨_, rfl⟩
   have HPR := pr_ok r p w4.drew (HIR.out _ hdr) hsm ((HO.out.t.stays B4.out).stays hdr) qs hqs
   have HYY : Hid (∀ W q2, Below w4.heap.size w4 W → IsRec W (fun _ => True) q2 r → YieldAt Fence.wide (n - 1) Tryz.prog l0 #[.string qs, .agg #[.slice q2.pa r.a.path.length q2.pc, .string r.a.type, .string r.a.name, .int .i64 r.a.key, .int .u64 r.a.place, .string r.a.word, .string r.prov, .string r.id, .slice q2.ta r.attrs.length q2.tc]] W fun e W' => ∃ bb : Bool, e = .returned (.bool bb) ∧ Hid (bb = true → J (pre ++ [(q2, r)]) W') ∧ Hid (bb = false → Jx (pre ++ [(q2, r)]) W')) := fun W q2 hb hq => by
    have h := HY.out pre (q2, r) W (HJ4.out W hb) ⟨by rw [hpm.out, hpl.out, HTK.out], hq, HSM.out⟩ (by rw [hpl.out]; exact hlt)
    unfold toldV at h
    rw [hqs] at h
    exact h
   obtain ⟨z0, z1, z2, z3, z4, z5, z6, z7, z8⟩ := recs_nine hcr
   obtain ⟨y0, y1, y2, y3, y4, y5, y6, y7, y8⟩ := rec_cells V4.out
   obtain ⟨yd0, yd1, yd2, yd3, yd4, yd5, yd6, yd7, yd8⟩ := rec_cells (HKX.out _ hdr)
   rw [hra]
   clear hcr hir hsm htk hr hra hdr hqs
   gi_wp2_with fail
   gi_region_with (first
    | (refine RoundIn.mono HRR.out ?_; rintro e w7 ⟨bb, rfl, h7t, h7f⟩)
    | (refine ⟨trivial, ?_⟩; refine (callsIn_wide.2 HCP.out).mono ?_; rintro z w6 hz; obtain ⟨q2, rfl, hq2, hb6⟩ := hz.to; have B6 : Hid (Below w4.heap.size w4 w6) := B5.out.trans (hb6.out.mono B5.out.size); clear hz hb6; obtain ⟨cb0, cb1, cb2, cb3, cb4, cb5, cb6, cb7, cb8⟩ := rec_cells (HKX.out w6 B6.out); obtain ⟨fn, tmps, assign, body, hy, hR⟩ := HYY.out w6 q2 B6.out (hq2.out.any); (try dsimp only at hy hR); have HRR := Hid.out (p := Hid _) hR; clear hR hq2)
    | (refine ⟨trivial, ?_⟩; refine (callsIn_wide.2 HPR.out).mono ?_; rintro z w5 ⟨rfl, hb5⟩; have B5 : Hid (Below w4.heap.size w4 w5) := HDR.out.trans hb5; clear hb5; obtain ⟨ca0, ca1, ca2, ca3, ca4, ca5, ca6, ca7, ca8⟩ := rec_cells (HKX.out w5 B5.out); have HCP := cp_ok r p w5 ((HIR.out w5 B5.out)) HSM.out))
   all_goals
    cases bb
    case true =>
     have J7 : Hid (J (pre ++ [(q2, r)]) w7) := h7t.out rfl
     gi_wp2_with fail
     go_roundw
     case rel => exact ⟨i + 1, pre ++ [(q2, r)], by omega, by go_num, by show (pre ++ [(q2, r)]).length = i + 1; rw [List.length_append, hpl.out]; rfl, by show List.map _ _ = _; rw [List.map_append, hpm.out, HTK.out]; rfl, J7.out⟩
     case measure => simp [intOf]; omega
    case false =>
     have J7 : Hid (Jx (pre ++ [(q2, r)]) w7) := h7f.out rfl
     gi_wp2_with fail
     refine bodyPost_ret (results_none (by rfl) _ _ _) rfl ?_
     exact ⟨⟨_, rfl⟩, .inr ⟨_, J7.out⟩⟩
  ·have hie : i = l.length := by omega
   subst hie
   have HP : Hid (pre.map (·.2) = l) := by rw [Hid, hpm.out, List.take_length]
   gi_wp2_with fail
   first | go_ret2 | go_end0
   exact ⟨⟨_, rfl⟩, .inl ⟨pre, HP.out, hj.out⟩⟩
end Go.Proofs.YtckflnibkglheaaGreatDoor.State
