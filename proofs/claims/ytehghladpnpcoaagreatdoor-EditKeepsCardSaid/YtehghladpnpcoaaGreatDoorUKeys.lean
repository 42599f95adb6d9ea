/- slices.Sorted over maps.Keys at this dump, in plain words (written by the shelf tools). -/
import Derived.Test.YtehghladpnpcoaaGreatDoorProg
import Derived.Shelf.SlIter.Nil
import Derived.Shelf.SortM.Plain
import Derived.Shelf.SortM.SortNone
import Derived.Test.YtehghladpnpcoaaGreatDoorUEdP
import Derived.Shelf.RegionOpenPlain
set_option maxHeartbeats 1000000
namespace Go.Proofs
open Go.Shelf
def Tryz.keys91_ren : Go.Shelf.Ren := ⟨fun | 7 => 91 | 10 => 118 | n => n, fun | 23 => 132 | 26 => 9 | 3 => 38 | 28 => 147 | 0 => 0 | 27 => 146 | 33 => 67 | 4 => 4 | n => n, fun | n => n⟩
theorem Tryz.keys91 : Go.Proofs.SlLaysZ.n7 Tryz.prog Tryz.keys91_ren := {
  mixed := by kernel_rfl
  f7 := ⟨Tryz.f91.name, by decide, Tryz.func91.trans (congrArg some (by kernel_rfl))⟩
  f10 := ⟨Tryz.f118.name, by decide, Tryz.func118.trans (congrArg some (by kernel_rfl))⟩
  t0 := Tryz.underlying0
  a0 := Tryz.isAgg0
  z0 := Tryz.sizeOf0
  v0 := Tryz.zeroValue0
  t4 := Tryz.underlying4
  a4 := Tryz.isAgg4
  z4 := Tryz.sizeOf4
  v4 := Tryz.zeroValue4
  t23 := Tryz.underlying132
  a23 := Tryz.isAgg132
  z23 := Tryz.sizeOf132
  v23 := Tryz.zeroValue132
  t26 := Tryz.underlying9
  a26 := Tryz.isAgg9
  z26 := Tryz.sizeOf9
  v26 := Tryz.zeroValue9
  t27 := Tryz.underlying146
  a27 := Tryz.isAgg146
  z27 := Tryz.sizeOf146
  v27 := Tryz.zeroValue146
  t28 := Tryz.underlying147
  a28 := Tryz.isAgg147
  z28 := Tryz.sizeOf147
  v28 := Tryz.zeroValue147
  t33 := Tryz.underlying67
  a33 := Tryz.isAgg67
  z33 := Tryz.sizeOf67
  v33 := Tryz.zeroValue67 }
def Tryz.sorted90_ren : Go.Shelf.Ren := ⟨fun | 6 => 90 | 8 => 116 | 9 => 117 | 11 => 144 | 13 => 146 | 12 => 145 | 23 => 174 | 24 => 152 | 14 => 165 | 15 => 166 | 16 => 167 | 17 => 168 | 18 => 169 | 19 => 170 | 20 => 171 | 21 => 172 | 22 => 173 | 25 => 189 | 26 => 190 | 27 => 191 | 28 => 192 | 29 => 193 | 30 => 194 | 31 => 207 | n => n, fun | 26 => 9 | 28 => 147 | 24 => 33 | 0 => 0 | 3 => 3 | 37 => 164 | 48 => 215 | 50 => 22 | 4 => 4 | 40 => 227 | 39 => 226 | 45 => 102 | 5 => 5 | 9 => 9 | 51 => 245 | 55 => 249 | 57 => 264 | 58 => 154 | 33 => 67 | n => n, fun | n => n⟩
theorem Tryz.sorted90 : Go.Proofs.SlLaysZ.n6 Tryz.prog Tryz.sorted90_ren := {
  mixed := by kernel_rfl
  f6 := ⟨Tryz.f90.name, by decide, Tryz.func90.trans (congrArg some (by kernel_rfl))⟩
  f8 := ⟨Tryz.f116.name, by decide, Tryz.func116.trans (congrArg some (by kernel_rfl))⟩
  f11 := ⟨Tryz.f144.name, by decide, Tryz.func144.trans (congrArg some (by kernel_rfl))⟩
  t0 := Tryz.underlying0
  a0 := Tryz.isAgg0
  z0 := Tryz.sizeOf0
  v0 := Tryz.zeroValue0
  t24 := Tryz.underlying33
  a24 := Tryz.isAgg33
  z24 := Tryz.sizeOf33
  v24 := Tryz.zeroValue33
  t26 := Tryz.underlying9
  a26 := Tryz.isAgg9
  z26 := Tryz.sizeOf9
  v26 := Tryz.zeroValue9
  t28 := Tryz.underlying147
  a28 := Tryz.isAgg147
  z28 := Tryz.sizeOf147
  v28 := Tryz.zeroValue147
  i26 := by kernel_rfl }
def Tryz.sort117_ren : Go.Shelf.Ren := ⟨fun | 6 => 117 | 8 => 146 | 9 => 145 | 19 => 174 | 20 => 152 | 21 => 165 | 22 => 166 | 23 => 167 | 24 => 168 | 25 => 169 | 26 => 170 | 27 => 171 | 28 => 172 | 29 => 173 | 36 => 189 | 31 => 190 | 32 => 191 | 37 => 192 | 38 => 193 | 39 => 194 | 41 => 207 | n => n, fun | 27 => 33 | 29 => 9 | 3 => 3 | 32 => 164 | 26 => 33 | 0 => 0 | 44 => 215 | 46 => 22 | 4 => 4 | 36 => 227 | 35 => 226 | 41 => 102 | 5 => 5 | 9 => 9 | 53 => 245 | 57 => 249 | 63 => 264 | 64 => 154 | n => n, fun | n => n⟩
theorem Tryz.sort117 : Go.Proofs.SlLaysM.n6 Tryz.prog Tryz.sort117_ren := {
  mixed := by kernel_rfl
  f6 := ⟨Tryz.f117.name, by decide, Tryz.func117.trans (congrArg some (by kernel_rfl))⟩
  f8 := Tryz.func146.trans (congrArg some (by kernel_rfl))
  f9 := ⟨Tryz.f145.name, by decide, Tryz.func145.trans (congrArg some (by kernel_rfl))⟩
  f19 := Tryz.func174.trans (congrArg some (by kernel_rfl))
  f20 := Tryz.func152.trans (congrArg some (by kernel_rfl))
  f21 := ⟨Tryz.f165.name, by decide, Tryz.func165.trans (congrArg some (by kernel_rfl))⟩
  f22 := ⟨Tryz.f166.name, by decide, Tryz.func166.trans (congrArg some (by kernel_rfl))⟩
  f23 := ⟨Tryz.f167.name, by decide, Tryz.func167.trans (congrArg some (by kernel_rfl))⟩
  f24 := ⟨Tryz.f168.name, by decide, Tryz.func168.trans (congrArg some (by kernel_rfl))⟩
  f25 := ⟨Tryz.f169.name, by decide, Tryz.func169.trans (congrArg some (by kernel_rfl))⟩
  f26 := ⟨Tryz.f170.name, by decide, Tryz.func170.trans (congrArg some (by kernel_rfl))⟩
  f27 := ⟨Tryz.f171.name, by decide, Tryz.func171.trans (congrArg some (by kernel_rfl))⟩
  f28 := ⟨Tryz.f172.name, by decide, Tryz.func172.trans (congrArg some (by kernel_rfl))⟩
  f29 := ⟨Tryz.f173.name, by decide, Tryz.func173.trans (congrArg some (by kernel_rfl))⟩
  f31 := Tryz.func190.trans (congrArg some (by kernel_rfl))
  f32 := Tryz.func191.trans (congrArg some (by kernel_rfl))
  f36 := ⟨Tryz.f189.name, by decide, Tryz.func189.trans (congrArg some (by kernel_rfl))⟩
  f37 := ⟨Tryz.f192.name, by decide, Tryz.func192.trans (congrArg some (by kernel_rfl))⟩
  f38 := ⟨Tryz.f193.name, by decide, Tryz.func193.trans (congrArg some (by kernel_rfl))⟩
  f39 := ⟨Tryz.f194.name, by decide, Tryz.func194.trans (congrArg some (by kernel_rfl))⟩
  f41 := ⟨Tryz.f207.name, by decide, Tryz.func207.trans (congrArg some (by kernel_rfl))⟩
  t0 := Tryz.underlying0
  a0 := Tryz.isAgg0
  z0 := Tryz.sizeOf0
  v0 := Tryz.zeroValue0
  t3 := Tryz.underlying3
  a3 := Tryz.isAgg3
  z3 := Tryz.sizeOf3
  v3 := Tryz.zeroValue3
  t4 := Tryz.underlying4
  a4 := Tryz.isAgg4
  z4 := Tryz.sizeOf4
  v4 := Tryz.zeroValue4
  t5 := Tryz.underlying5
  a5 := Tryz.isAgg5
  z5 := Tryz.sizeOf5
  v5 := Tryz.zeroValue5
  t9 := Tryz.underlying9
  a9 := Tryz.isAgg9
  z9 := Tryz.sizeOf9
  v9 := Tryz.zeroValue9
  t26 := Tryz.underlying33
  a26 := Tryz.isAgg33
  z26 := Tryz.sizeOf33
  v26 := Tryz.zeroValue33
  t27 := Tryz.underlying33
  a27 := Tryz.isAgg33
  z27 := Tryz.sizeOf33
  v27 := Tryz.zeroValue33
  t29 := Tryz.underlying9
  a29 := Tryz.isAgg9
  z29 := Tryz.sizeOf9
  v29 := Tryz.zeroValue9
  t32 := Tryz.underlying164
  a32 := Tryz.isAgg164
  z32 := Tryz.sizeOf164
  v32 := Tryz.zeroValue164
  t35 := Tryz.underlying226
  a35 := Tryz.isAgg226
  z35 := Tryz.sizeOf226
  v35 := Tryz.zeroValue226
  t36 := Tryz.underlying227
  a36 := Tryz.isAgg227
  z36 := Tryz.sizeOf227
  v36 := Tryz.zeroValue227
  t41 := Tryz.underlying102
  a41 := Tryz.isAgg102
  z41 := Tryz.sizeOf102
  v41 := Tryz.zeroValue102
  t44 := Tryz.underlying215
  a44 := Tryz.isAgg215
  z44 := Tryz.sizeOf215
  v44 := Tryz.zeroValue215
  t46 := Tryz.underlying22
  a46 := Tryz.isAgg22
  z46 := Tryz.sizeOf22
  v46 := Tryz.zeroValue22
  t53 := Tryz.underlying245
  a53 := Tryz.isAgg245
  z53 := Tryz.sizeOf245
  v53 := Tryz.zeroValue245
  t57 := Tryz.underlying249
  a57 := Tryz.isAgg249
  z57 := Tryz.sizeOf249
  v57 := Tryz.zeroValue249
  t63 := Tryz.underlying264
  a63 := Tryz.isAgg264
  z63 := Tryz.sizeOf264
  v63 := Tryz.zeroValue264
  t64 := Tryz.underlying154
  a64 := Tryz.isAgg154
  z64 := Tryz.sizeOf154
  v64 := Tryz.zeroValue154 }
open Go.RowKit Go.Maps Go.Sort
theorem Tryz.sorts90 (m : Nat) : AnyZ.SortsIn Tryz.prog Tryz.sorted90_ren Fence.wide m :=
  ⟨fun blk off cap ss W hH hblk hsz => callsIn_wide.2 (AnyM.slices_Sort_string Tryz.sort117 blk off cap ss W hH hblk hsz),
   fun p cap W => callsIn_wide.2 (AnyM.slices_Sort_string_none Tryz.sort117 p cap W)⟩
theorem Tryz.maps_Keys_91 (mb : Option Nat) (W : World) : CallsIn Fence.wide 5 Tryz.prog 91 #[.map mb] W fun e w' => e = .returned (.func (.func 118) #[] #[.pointer (some ⟨W.heap.size, 0, none⟩)]) /\ w' = W.alloc (.cells #[.map mb] 132) :=
  AnyZ.keys_in Tryz.keys91 Fence.wide 5 trivial rfl mb W
theorem Tryz.slices_Sorted_keys_90_91 {H : Type} (b nn : Nat) (D0 : DataW H) (R : Value -> Option (DataW H × List MemPlace)) (w : World) (hown : w.ownsMap Tryz.prog 9 R b nn D0) (hmax : Maps.size D0 <= maxLen) (hbytes : Maps.size D0 * 16 <= 140737488355328) :
    CallsIn Fence.wide 5 Tryz.prog 90 #[.func (.func 118) #[] #[.pointer (some ⟨w.heap.size, 0, none⟩)]] (w.alloc (.cells #[.map (some b)] 132)) fun e w' => ∃ (v : Value) (ss : List (List UInt8)), e = .returned v /\ ss.Perm (strKeys D0) ∧
      w'.ownsRow (w.alloc (.cells #[.map (some b)] 132)).heap.size 9 1 v ss.length ((ss.mergeSort (fun x y => decide (x <= y))).map encStr) /\ (v = .slice none 0 0 ↔ ss = []) /\ Below (w.alloc (.cells #[.map (some b)] 132)).heap.size (w.alloc (.cells #[.map (some b)] 132)) w' := by
  have hbl := hown.lt;have hseq : SeqGives Fence.wide 2 Tryz.prog 118 #[.pointer (some ⟨w.heap.size, 0, none⟩)] encStr (fun ss => ss.Perm (strKeys D0)) (Maps.size D0) (w.alloc (.cells #[.map (some b)] 132)) :=
    AnyZ.keys_gives (ρ := Tryz.keys91_ren) { Tryz.keys91 with } Fence.wide _ trivial rfl (by omega) w.heap.size b nn D0 _ (by simp) (by simp) (by
      obtain ⟨es, clock, hb, Ft, hs, hD⟩ := hown;exact ⟨es, clock, (Below.heap_alloc _ _ b hbl).trans hb, Ft, hs, hD⟩)
  exact AnyZ.sorted_in Tryz.sorted90 Fence.wide 5 trivial trivial trivial trivial rfl (by omega) (Tryz.sorts90 _) (enters_of Tryz.func117 (by kernel_rfl) rfl) 118 #[.pointer (some ⟨w.heap.size, 0, none⟩)] trivial (enters_of Tryz.func118 (by kernel_rfl) rfl) _ _ hmax hbytes _ hseq
end Go.Proofs
set_option linter.unusedVariables false
set_option linter.unusedSimpArgs false
set_option maxRecDepth 100000
set_option maxHeartbeats 8000000
namespace Go.Proofs.YtehghladpnpcoaaGreatDoor.State.Edit
open Go.RowKit Go.Shelf Utf Strs Go.Proofs.YtehghladpnpcoaaGreatDoor.Addr Go.Proofs.YtehghladpnpcoaaGreatDoor.State
open Jdec (IsTexts Turn infoStr gb_set gb_below gb_refl)
theorem ext_lt : ∀ {l m : List (List UInt8)}, l.Pairwise (· < ·) -> m.Pairwise (· < ·) -> (∀ x, x ∈ l ↔ x ∈ m) -> l = m := by
  intro l
  induction l with
  | nil =>
    intro m _ _ h
    cases m with
    | nil => rfl
    | cons y u => have := (h y).2 (by simp); cases this
  | cons x t ih =>
    intro m hl hm h
    cases m with
    | nil => have := (h x).1 (by simp); cases this
    | cons y u =>
      rw [List.pairwise_cons] at hl hm;have e : x = y := by
        rcases List.mem_cons.1 ((h x).1 (by simp)) with e | hx
        · exact e
        · rcases List.mem_cons.1 ((h y).2 (by simp)) with e | hy
          · exact e.symm
          · exact absurd (List.lt_trans (hl.1 y hy) (hm.1 x hx)) (List.lt_irrefl x)
      subst e;rw [ih hl.2 hm.2 fun z => ⟨fun hz => ?_, fun hz => ?_⟩]
      · rcases List.mem_cons.1 ((h z).1 (List.mem_cons_of_mem _ hz)) with rfl | h2
        · exact absurd (hl.1 z hz) (List.lt_irrefl z)
        · exact h2
      · rcases List.mem_cons.1 ((h z).2 (List.mem_cons_of_mem _ hz)) with rfl | h2
        · exact absurd (hm.1 z hz) (List.lt_irrefl z)
        · exact h2
theorem sorted_keys {ss l : List (List UInt8)} (hn : ss.Nodup) (hl : l.Pairwise (· < ·)) (hm : ∀ x, x ∈ ss ↔ x ∈ l) : ss.mergeSort (fun x y => decide (x <= y)) = l := by
  have hp := List.mergeSort_perm ss (fun x y => decide (x <= y));refine ext_lt ?_ hl (fun x => hp.mem_iff.trans (hm x));have h1 := List.pairwise_mergeSort (le := fun (x y : List UInt8) => decide (x <= y)) (fun a b c h1 h2 => by simp only [dtQ] at *; exact List.le_trans h1 h2) (fun a b => by simpa using List.le_total a b) ss;have h2 : (ss.mergeSort (fun x y => decide (x <= y))).Nodup := hp.nodup_iff.2 hn;refine (h1.and h2).imp ?_;rintro a b ⟨h3, h4⟩;simp only [dtQ] at h3
  exact Decidable.byContradiction fun h5 => h4 (List.le_antisymm h3 (List.not_lt.1 h5))
theorem prints_lt {l : List Rec} (hg : Good l) : (l.map fun r => printA r.a).Pairwise (· < ·) := by
  rw [List.pairwise_map];refine hg.o.imp ?_;intro x y h
  rw [Lt, bytesLess_eq, dtQ] at h;exact h
theorem keys_ok {w0 W : World} {bm n : Nat} {l : List Rec} (h : BookAt w0 W bm n l) (hg : Good l) (hn : n <= 100000) : Hid (Calls Tryz.prog 90 #[.func (.func 118) #[] #[.pointer (some ⟨W.heap.size, 0, none⟩)]] (W.alloc (.cells #[.map (some bm)] 132)) fun e w' => ∃ a c ks, e = .returned (.slice a (List.length l) c) /\ Hid (ks.map (fun q : ByteArray => q.data.toList) = l.map (fun r => printA r.a)) /\ Hid (IsTexts w' (fun b => W.heap.size < b) a ks) /\ Hid (Below W.heap.size W w')) := by
  show Calls _ _ _ _ _;obtain ⟨m, ⟨D, ho, hh, ha⟩, h1, h2⟩ := h.mp;have hsz := ho.size_le;refine Calls.mono (callsIn_wide.1 (Tryz.slices_Sorted_keys_90_91 bm n D recR W ho (by unfold maxLen; omega) (by omega))) ?_;rintro e w' ⟨v, ss, rfl, hp, hrow, _, hb⟩;obtain ⟨hk1, hk2⟩ := held_keys hh;have hs : ss.mergeSort (fun x y => decide (x <= y)) = l.map fun r => printA r.a := sorted_keys (hp.nodup_iff.2 hk1) (prints_lt hg) fun x => by
    rw [hp.mem_iff, hk2, ha, List.mem_map];constructor
    · intro hx
      obtain ⟨v, hv⟩ := Option.isSome_iff_exists.1 hx;obtain ⟨p, r, _, hr, hpr, _⟩ := h1 x v hv;exact ⟨r, hr, hpr⟩
    · rintro ⟨r, hr, rfl⟩;exact h2 r hr
  rw [hs] at hrow;obtain ⟨ks, hks⟩ : ∃ ks : List ByteArray, ks = l.map fun r => ⟨(printA r.a).toArray⟩ := ⟨_, rfl⟩;have hlen : ss.length = l.length := by rw [<-(List.mergeSort_perm ss (fun x y => decide (x <= y))).length_eq, hs, List.length_map]
  have hkl : ks.length = l.length := by rw [hks, List.length_map]
  have hr : RowT w' (W.heap.size + 1) v ks := by
    have e : (l.map fun r => printA r.a).map encStr = ks.map Value.string := by
      rw [hks, List.map_map, List.map_map]
      rfl
    rw [RowT, hkl, <-hlen, <-e]
    simpa using hrow
  obtain ⟨a, c, rfl⟩ := hr.form;have hr2 := hr.texts;refine ⟨a, c, ks, by rw [hkl], ?_, hr2.turn (Turn.mono _ (fun b hb _ => hb)), ((Below.refl _ W).alloc (Nat.le_refl _) _).trans (hb.mono (by simp))⟩;rw [Hid, hks, List.map_map]
  rfl
theorem clone_eq (t e : TypeId) (ht : Tryz.prog.underlying t = some (.slice e)) : ∀ (w : World) (a : Option Addr) (n c n' c' : Nat), (binOp .eql t (.slice a n c) (.slice none n' c')).run Tryz.prog w = .ok (.bool a.isNone) w := fun w a n c n' c' => Lib.run_eql_slice_nil w _ _ a n c n' c' ht
theorem cloneT_any (ks : List ByteArray) (ka : Option Addr) (kc : Nat) (A : Nat -> Prop) (w : World) (ht : IsTexts w A ka ks) (hl : ks.length <= 3000) : Hid (Calls Tryz.prog 92 #[.slice ka ks.length kc] w fun e w' => ∃ ka' kc', e = .returned (.slice ka' ks.length kc') /\ Hid (IsTexts w' (PartT 9 w.heap.size w') ka' ks) /\ Hid (Below w.heap.size w w')) := by
  show Calls _ _ _ _ _;obtain ⟨i0, hi, hz0, hz1, hz2⟩ := info_parts infoStr;have q := clone_eq 33 _ Tryz.underlying33
  cases ka with
  | none =>
    have h0 : ks = [] := by
      rcases ht with h | ⟨b, o, e, _⟩
      · exact h
      · cases e
    subst h0;clear ht hl;go_enter Tryz.func92, Tryz.ntmps92
    go_wp2_with fail
    go_ret
    exact ⟨none, 0, rfl, .inl rfl, Below.refl _ _⟩
  | some a =>
    have HN : Hid (∀ o : Obj, ∀ j u, (ks.map Value.string)[j]? = some u -> (w.alloc o).cell? (a.add j) = some u) := fun o j u hu => by
      obtain ⟨hj, rfl⟩ := List.getElem?_eq_some_iff.1 hu;have hj' : j < ks.length := by simpa using hj
      obtain ⟨b, of, ea, _, hb, hc⟩ := ht.resolve_left (by rintro rfl; simp at hj');injection ea with ea
      subst ea;have e : (⟨b, of, none⟩ : Addr).add j = ⟨b, of + j, none⟩ := by unfold Addr.add; split <;> simp_all
      rw [e, cell_blk (((Below.refl _ w).alloc (Nat.le_refl _) o).block b hb), hc j hj', List.getElem_map]
    have HL : Hid (ks.length <= 3000) := hl;clear ht hl;go_enter Tryz.func92, Tryz.ntmps92
    go_wp2_with (at_builtin; refine wpList_append_own _ rfl _ _ 33 rfl w.heap.size 9 i0 (.string ⟨#[]⟩) 1 16 Tryz.underlying33 hi hz0 hz1 hz2 rfl (by decide) _ _ _ rfl (World.ownsRow_made w #[] 0 (Nat.le_refl _) (Nat.zero_le _) rfl) a ks.length kc (ks.map Value.string) rfl (by simp) (HN.out _) (fun u hu => by obtain ⟨x, _, rfl⟩ := List.mem_map.1 hu; rfl) (by have := HL.out; unfold maxLen; omega) (by have := HL.out; omega) (by simp) ?_)
    intro v' w1 hown hgrow hnil
    go_wp2_with fail
    go_ret
    have hrow : RowT w1 w.heap.size v' ks := by simpa [RowT] using hown
    obtain ⟨a', c', rfl⟩ := hrow.form;refine ⟨a', c', rfl, texts_and hrow.texts (fun b o e h0 hA => ⟨hA, ?_⟩), ((Below.refl _ w).alloc (Nat.le_refl _) _).grown hgrow (by simp) (by intro k hk; simp [Value.ownBlock] at hk; omega)⟩;rcases hrow.2 with ⟨hv, _⟩ | ⟨g, cap, cur, hv, _, hgb, _⟩
    · injection hv with hv
      rw [hv] at e;cases e
    · injection hv with hv
      rw [hv] at e;injection e with e
      injection e with e
      subst e;exact ⟨cur, hgb⟩
theorem cloneP_any (l : List (ByteArray × ByteArray)) (ta : Option Addr) (tc : Nat) (A : Nat -> Prop) (w : World) (ht : IsPairs w A ta l) (hl : l.length <= 3000) : Hid (Calls Tryz.prog 93 #[.slice ta l.length tc] w fun e w' => ∃ ta' tc', e = .returned (.slice ta' l.length tc') /\ Hid (IsPairs w' (PartT 72 w.heap.size w') ta' l) /\ Hid (Below w.heap.size w w')) := by
  show Calls _ _ _ _ _;obtain ⟨i0, hi, hz0, hz1, hz2⟩ := info_parts infoPair;have q := clone_eq 36 _ Tryz.underlying36
  cases ta with
  | none =>
    have h0 : l = [] := by
      rcases ht with h | ⟨b, o, e, _⟩
      · exact h
      · cases e
    subst h0;clear ht hl;go_enter Tryz.func93, Tryz.ntmps93
    go_wp2_with fail
    go_ret
    exact ⟨none, 0, rfl, .inl rfl, Below.refl _ _⟩
  | some a =>
    have HN : Hid (∀ o : Obj, ∀ j u, (l.flatMap pairC)[j]? = some u -> (w.alloc o).cell? (a.add j) = some u) := fun ob j u hu => by
      obtain ⟨hj, _⟩ := List.getElem?_eq_some_iff.1 hu;rw [pairs_len] at hj;obtain ⟨b, o, ea, _, hb, hc⟩ := ht.resolve_left (by rintro rfl; simp at hj);injection ea with ea
      subst ea;have e : (⟨b, o, none⟩ : Addr).add j = ⟨b, o + j, none⟩ := by unfold Addr.add; split <;> simp_all
      rw [e, cell_blk (((Below.refl _ w).alloc (Nat.le_refl _) ob).block b hb)];obtain ⟨i, hi2⟩ : ∃ i, j = i * 2 ∨ j = i * 2 + 1 := ⟨j / 2, by omega⟩;rcases hi2 with rfl | rfl
      · have h2 := (pairs_get l i (by omega)).1;rw [h2] at hu;rw [<-hu];exact (hc i (by omega)).1
      · have h2 := (pairs_get l i (by omega)).2;rw [h2] at hu;rw [<-hu];exact (hc i (by omega)).2
    have HL : Hid (l.length <= 3000) := hl;clear ht hl;go_enter Tryz.func93, Tryz.ntmps93
    go_wp2_with (at_builtin; refine wpList_append_own _ rfl _ _ 36 rfl w.heap.size 72 i0 (.agg #[.string ⟨#[]⟩, .string ⟨#[]⟩]) 2 32 Tryz.underlying36 hi hz0 hz1 hz2 rfl (by decide) _ _ _ rfl (World.ownsRow_made w #[] 0 (Nat.le_refl _) (Nat.zero_le _) rfl) a l.length tc (l.flatMap pairC) rfl (pairs_len l) (HN.out _) (pairs_one l) (by have := HL.out; unfold maxLen; omega) (by have := HL.out; omega) (by simp) ?_)
    intro v' w1 hown hgrow hnil
    go_wp2_with fail
    go_ret
    have hB : Below w.heap.size w w1 := ((Below.refl _ w).alloc (Nat.le_refl _) _).grown hgrow (by simp) (by intro k hk; simp [Value.ownBlock] at hk; omega);have ho : w1.ownsRow w.heap.size 72 2 v' l.length (l.flatMap pairC) := by simpa using hown
    rcases ho.2 with ⟨rfl, e0⟩ | ⟨g, cap, cur, rfl, _, hgb, _⟩
    · have h0 : l = [] := List.length_eq_zero_iff.1 e0;exact ⟨none, 0, by rw [h0]; rfl, .inl h0, hB⟩
    · have hgl := ho.lt g (by simp [Value.ownBlock]);refine ⟨some ⟨g, 0, none⟩, cap, rfl, .inr ⟨g, 0, rfl, ⟨hgl.1, cur, hgb⟩, hgl.2, fun i hi => ?_⟩, hB⟩;have h1 := World.ownsRow.cellAt ho (i * 2) (by omega);have h2 := World.ownsRow.cellAt ho (i * 2 + 1) (by omega);rw [Nat.zero_add];exact ⟨by rw [h1]; exact (pairs_get l i hi).1, by rw [h2]; exact (pairs_get l i hi).2⟩
end Go.Proofs.YtehghladpnpcoaaGreatDoor.State.Edit
