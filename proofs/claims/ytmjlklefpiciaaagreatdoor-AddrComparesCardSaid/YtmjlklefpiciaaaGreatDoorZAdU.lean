/- tabulariumref17.Parse: the walk. -/
import Derived.Test.YtmjlklefpiciaaaGreatDoorZAdT
namespace Go.Proofs.YtmjlklefpiciaaaGreatDoor.Addr
open Go.RowKit Go.Shelf Go.Proofs.YtmjlklefpiciaaaGreatDoor.Utf Go.Proofs.YtmjlklefpiciaaaGreatDoor.Strs Go.Proofs.YtmjlklefpiciaaaGreatDoor.Lex
open Go.Proofs.YtmjlklefpiciaaaGreatDoor.Jdec (gb_refl gb_drew gb_set gb_below IsTexts infoStr)
set_option linter.unusedVariables false
set_option linter.unusedSimpArgs false
set_option maxRecDepth 100000

/-- An append, one step of a region that draws, by what its run is. -/
theorem step_append_run {P : Program} {o : Oper} {a : Act} {w w' : World} {K : Act → World → Prop} {Q : Exit → Act → World → Prop} {E : Prop} {yl : Nat → Option Bool} {inst : Decidable (Region.wanted o yl = true)} {v' : Value} (v1 v2 : Value) (t : TypeId) (hr : (Builtin.append_ #[t, t] o.type #[v1, v2]).run P w = .ok v' w') (hgd : o.guard = none) (s x : Operand)
    (ho : o.op = .call { callee := .builtin .append, args := #[s, x], argTypes := #[t, t] }) (hs : a.eval s = v1) (hx : a.eval x = v2) (h : K (a.put o.dst v') w') : @ite _ (Region.wanted o yl = true) inst (Oper.wp P o a w K Q) E := by
  have hw : Region.wanted o yl = true := by simp [Region.wanted, hgd]
  rw [if_pos hw]
  unfold Oper.wp
  simp [execOp, ho, resolve, invoke, builtin, hs, hx, hr, Result.andThen]
  exact h
/-- What is behind the key: the result's block is zero, the address's has the key alone. -/
structure KI (w wr : World) (k : Int × Nat × ByteArray) : Prop where
  A : wr.heap[w.heap.size + 1]? = some (.cells (arrA none 0 (withKey zeroA k)) 29 (0, 0))
  R : wr.heap[w.heap.size]? = some (.cells (arrA none 0 zeroA) 29 (0, 0))
  B : Below w.heap.size w wr
  S : w.heap.size + 2 ≤ wr.heap.size
/-- Where the pieces are read. -/
structure MI (w w6 wr : World) (k : Int × Nat × ByteArray) (ps ks : List ByteArray) (pa : Option Addr) (pc i : Nat) : Prop where
  A : wr.heap[w.heap.size + 1]? = some (.cells (arrA pa pc (withKey (adr0 ks ⟨#[]⟩ ⟨#[]⟩) k)) 29 (0, 0))
  K : RowT wr w6.heap.size (.slice pa ks.length pc) ks
  G : w6.grownBy wr (some (w.heap.size + 1))
  I : i ≤ ps.length
  N : 2 * ks.length = i
  E : modsR (lists ps) = (ks ++ (modsR (lists (ps.drop i))).1, (modsR (lists (ps.drop i))).2)
  Z : ∀ x ∈ ks, x ∈ ps
theorem rowT_mono {w : World} {B B' : Nat} {v : Value} {l : List ByteArray} (h : RowT w B v l) (hb : B' ≤ B) : RowT w B' v l :=
  ⟨h.1, h.2.imp id fun ⟨g, cap, cur, h1, h2, h3⟩ => ⟨g, cap, cur, h1, Nat.le_trans hb h2, h3⟩⟩
theorem part_new (w : World) (S : ByteArray) (Z E : Int) : ∃ w1, w.alloc (.cells #[.string S, .int .i64 Z, .int .i64 E] 105) = w1 ∧ Hid (w1.heap[w.heap.size]? = some (.cells #[.string S, .int .i64 Z, .int .i64 E] 105 (0, 0))) ∧ Hid (Below w.heap.size w w1) :=
  ⟨_, rfl, heap_alloc_new _ _, (Below.refl _ _).alloc (Nat.le_refl _) _⟩
set_option maxHeartbeats 4000000 in
theorem rparse_any (s : ByteArray) (w : World) (hs : s.size ≤ 1000) :
    Calls Tryz.prog 40 #[.string s] w (RPost (parseR s.data.toList) w) := by
  have hl : s.data.toList.length = s.size := by simp
  have HL := Hid.out (p := Hid _) hl
  obtain ⟨w1, hw1, R1, B1, Z1⟩ := zero_new w
  obtain ⟨w2, hw2, A2, B2, Z2⟩ := zero_new w1
  have hK2 : Hid (KI w w2 (0, 0, ⟨#[]⟩)) := by
    have z1 := Z1.out
    have z2 := Z2.out
    refine ⟨?_, (B2.out.block _ (heap_lt R1.out)).trans R1.out, B1.out.trans (B2.out.mono (by omega)), by omega⟩
    have := A2.out
    rw [z1] at this
    exact this
  have hn1 : w1.heap.size = w.heap.size + 1 := Z1.out
  clear hl
  go_enter Tryz.func40, Tryz.ntmps40
  go_wp2_with fail
  clear hw1 hw2 hn1 R1 A2 B1 B2 Z1 Z2
  go_loopw [5] (fun p wr => w2 = wr ∧ ∃ e : Nat, p = .int .i64 e ∧ e ≤ s.size ∧ Hid (∀ c ∈ s.data.toList.take e, c ≠ 91)) (fun p _ => s.size - (intOf p).toNat)
  case atStart => exact ⟨rfl, 0, rfl, Nat.zero_le _, by simp [Hid]⟩
  case round =>
    obtain ⟨rfl, e, rfl, he, hN⟩ := hrel
    by_cases hgo : ∃ h : e < s.size, s[e].toNat ≠ 91
    · obtain ⟨hlt, hc⟩ := hgo
      have t1 : ((s[e].toNat : Int) != 91) = true := by rw [bne_iff_ne]; omega
      have HN : Hid (∀ c ∈ s.data.toList.take (e + 1), c ≠ 91) := by
        intro c hc'
        rw [List.take_add_one, List.mem_append] at hc'
        rcases hc' with hc' | hc'
        · exact hN.out c hc'
        · intro e9
          subst e9
          have h9 := (byte_at hlt 91).1 (by simpa using hc')
          exact hc h9
      clear hc
      go_wp2_with fail
      go_roundw
      case rel => exact ⟨trivial, e + 1, by go_num, by omega, HN.out⟩
      case measure => simp [intOf]; omega
    have hx : e = s.size ∨ s.data.toList[e]? = some 91 := by
      by_cases h : e = s.size
      · exact .inl h
      · have hlt : e < s.size := by omega
        right
        rw [byte_at hlt 91]
        rcases Nat.decEq s[e].toNat 91 with h9 | h9
        · exact absurd ⟨hlt, h9⟩ hgo
        · exact h9
    obtain ⟨hup, hfr⟩ := from_at he hN.out hx
    clear hgo
    have HFR := Hid.out (p := Hid _) hfr
    have HUP := Hid.out (p := Hid _) hup
    clear hfr hup
    by_cases hend : e = s.size
    case pos =>
      have t2 : decide ((e : Int) < (s.size : Int)) = false := by rw [decide_eq_false_iff_not]; omega
      have t2' : decide (e < s.size) = false := by rw [decide_eq_false_iff_not]; omega
      have HNIL : Hid (keyR (from91 s.data.toList) = some (0, 0, ⟨#[]⟩)) := keyR_nil (by rw [HFR.out, List.drop_of_length_le (by rw [HL.out]; omega)])
      clear hx
      have HEND := Hid.out (p := Hid _) hend
      clear hend
      go_upto_if 27 with (fail)
      go_cut [] (fun wx => ∃ k, Hid (KI w wx k) ∧ Hid (keyR (from91 s.data.toList) = some k))
      case first =>
        go_wp2_with fail
        go_meet
        exact ⟨_, hK2.out, HNIL.out⟩
      case rest =>
      obtain ⟨k, hKI, hKR⟩ := hcut
      obtain ⟨sp, hsp⟩ : ∃ sp, s.extract 0 e = sp := ⟨_, rfl⟩
      have hspd : sp.data.toList = upTo91 s.data.toList := by rw [← hsp, ext_take s 0 e (Nat.zero_le _), HUP.out]; rfl
      have hspz : sp.size ≤ s.size := by rw [← hsp, ByteArray.size_extract]; omega
      have hs1 : ∀ wx, (Instr.slice 9 (.string s) none (some (.int .i64 e)) none).run Tryz.prog wx = .ok (.string sp) wx := fun wx => by
        rw [run_slice_string_to_if (P := Tryz.prog) wx 9 s .i64 e Tryz.underlying9, if_pos ⟨by omega, by omega⟩, Int.toNat_natCast, hsp]
      have HFIN : Hid (parseR s.data.toList = fromParts k (partsB sp.data.toList)) := by rw [Hid, parseR, hKR.out, hspd]; rfl
      have HPT : Hid (Calls Tryz.prog 74 #[.string sp] wc (PtPost sp wc)) := parts_any sp wc (by omega)
      have HKW : Hid (k.2.2.size ≤ s.size) := by
        have h1 : keyP (from91 s.data.toList) = some k := by rw [keyP_eq _ (from_head _)]; exact hKR.out
        have h2 := keyP_word h1
        have h3 := congrArg List.length (up_from s.data.toList)
        rw [List.length_append, HL.out] at h3
        rw [Hid]; omega
      clear hsp hspd hKR HUP HFR hN
      go_wp2_with fail
      refine (Calls.mono HPT.out ?_)
      rintro z w6 ⟨pl, plc, ps, rfl, hps, hrow, hb6, hpz, hpn⟩
      have h6S := hb6.size
      have hcS := hKI.out.S
      have HM : Hid (MI w w6 w6 k ps [] none 0 0) := ⟨(hb6.block _ (by omega)).trans hKI.out.A, RowT.nil _ _, gb_refl _ _, Nat.zero_le _, rfl, rfl, fun x hx => by cases hx⟩
      have HPS : Hid (∀ wr, w6.grownBy wr (some (w.heap.size + 1)) → IsTexts wr (fun _ => True) pl ps) := fun wr hg => hrow.texts.turn ⟨hg.size, fun b hb hl => ⟨hg.block b hl (fun e => by injection e with e; omega), trivial⟩⟩
      have R6 : Hid (w6.heap[w.heap.size]? = some (.cells (arrA none 0 zeroA) 29 (0, 0))) := (hb6.block _ (by omega)).trans hKI.out.R
      have B6 : Hid (Below w.heap.size w w6) := hKI.out.B.trans (hb6.mono (by omega))
      have HLP : Hid (lists ps = partsB sp.data.toList) := hps
      have HPZ : Hid (∀ x ∈ ps, x.size ≤ sp.size) := hpz
      clear hb6 hrow hps hpz HPT
      go_wp2_with fail
      go_loopw [11] (fun p wr => ∃ (i : Nat) (ks : List ByteArray) (pa : Option Addr) (pc : Nat), p = .int .i64 i ∧ Hid (MI w w6 wr k ps ks pa pc i)) (fun p _ => ps.length - (intOf p).toNat)
      case atStart => exact ⟨0, [], none, 0, rfl, HM.out⟩
      case round =>
        obtain ⟨i, ks, pa, pc, rfl, hM⟩ := hrel
        have hps := HPS.out wr hM.out.G
        have hi := hM.out.I
        obtain ⟨i1, hi1⟩ : ∃ i1, i + 1 = i1 := ⟨_, rfl⟩
        obtain ⟨i2, hi2⟩ : ∃ i2, i + 2 = i2 := ⟨_, rfl⟩
        have hi1i : (i : Int) + 1 = (i1 : Int) := by omega
        have hi2i : (i : Int) + 2 = (i2 : Int) := by omega
        have hi1w : IntKind.i64.wrap (i1 : Int) = (i1 : Int) := IntWalk.i64_in _ (by omega)
        by_cases hgo : ∃ h : i + 2 < ps.length, ps[i].data.toList = moduleL
        · obtain ⟨hlt, hm⟩ := hgo
          have t1 : decide ((i2 : Int) < (ps.length : Int)) = true := by rw [decide_eq_true_eq]; omega
          have t1' : decide (i2 < ps.length) = true := by rw [decide_eq_true_eq]; omega
          obtain ⟨b, o, hpl, _, hb, hc⟩ := hps.resolve_left (by intro e; rw [e] at hlt; simp at hlt)
          have hil : i < ps.length := by omega
          have hi1l : i1 < ps.length := by omega
          have k0 := hc i (by omega)
          have k1 := hc i1 (by omega)
          obtain ⟨x, hx⟩ : ∃ x, ps[i] = x := ⟨_, rfl⟩
          obtain ⟨y, hy⟩ : ∃ y, ps[i1] = y := ⟨_, rfl⟩
          rw [hx] at k0 hm
          rw [hy] at k1
          have q1 : (x.toList == [109, 111, 100, 117, 108, 101]) = true := by rw [ByteArray.toList_eq, hm]; rfl
          have HE : Hid (modsR (lists ps) = ((ks ++ [y]) ++ (modsR (lists (ps.drop i2))).1, (modsR (lists (ps.drop i2))).2)) := by
            have hd := drop_two (ps := ps) (i := i) (by omega)
            rw [Hid, hM.out.E, hd]
            have hne : lists (ps.drop (i + 2)) ≠ [] := by
              intro e
              have := congrArg List.length e
              simp [lists] at this
              omega
            have hy' : ps[i + 1] = y := by subst hi1; exact hy
            rw [show lists (ps[i] :: ps[i + 1] :: ps.drop (i + 2)) = ps[i].data.toList :: ps[i + 1].data.toList :: lists (ps.drop (i + 2)) from rfl, modsR_skip hne (by rw [hx]; exact hm), hy', Jdec.str_back, hi2]
            simp
          have HYM : Hid (y ∈ ps) := by rw [← hy]; exact List.getElem_mem _
          subst hpl
          have hbl : b < wr.heap.size := hb
          obtain ⟨g, cap, w7, hr, K7, G7, hg7⟩ := app_one wr.drew w6.heap.size (.slice pa ks.length pc) ks y (hM.out.K.kept (gb_drew _ 1 none) (by cases (Value.slice pa ks.length pc).ownBlock <;> simp)) (by have := hM.out.N; omega) (by have := hM.out.G.size; simpa using this)
          have HR := Hid.out (p := Hid _) hr
          have a0 : wr.cell? ⟨w.heap.size + 1, 0, none⟩ = some (.slice pa ks.length pc) := cell_of hM.out.A 0
          have f0 := frozen_of hM.out.A 0
          have hAw : w.heap.size + 1 < w6.heap.size := by omega
          have A7 : Hid (w7.heap[w.heap.size + 1]? = some (.cells (arrA pa pc (withKey (adr0 ks ⟨#[]⟩ ⟨#[]⟩) k)) 29 (0, 0))) := (G7.out.block _ (heap_lt hM.out.A) (fun e => hM.out.K.ne hAw e.symm)).trans hM.out.A
          have b0 : w7.cell? ⟨w.heap.size + 1, 0, none⟩ = some (.slice pa ks.length pc) := cell_of A7.out 0
          have g0 := frozen_of A7.out 0
          have HM7 : Hid (MI w w6 (w7.setCell ⟨w.heap.size + 1, 0, none⟩ (.slice (some ⟨g, 0, none⟩) (ks.length + 1) cap)) k ps (ks ++ [y]) (some ⟨g, 0, none⟩) cap i2) := by
            refine ⟨?_, ?_, (gb_far hM.out.G ((gb_drew wr 1 _).trans G7.out) (fun j hj => (World.ownsRow.lt hM.out.K j hj).1)).trans (gb_set _ _ _ _), by omega, by have := hM.out.N; simp; omega, HE.out, ?_⟩
            · rw [heap_set_same A7.out]; simp [arrA, adr0, withKey]
            · rw [List.length_append, List.length_singleton]
              exact RowT.kept K7.out (gb_set _ _ _ _) (.inr (by simp [Value.ownBlock]; have := hg7.out; omega))
            · intro z hz
              rcases List.mem_append.1 hz with hz | hz
              · exact hM.out.Z z hz
              · rw [List.mem_singleton.1 hz]; exact HYM.out
          have hAwr : w.heap.size + 1 < wr.heap.size := heap_lt hM.out.A
          clear hx hy hm hr hi1 hc hps hAw
          go_wp2_with fail
          go_region_law (refine step_append_run (.slice pa ks.length pc) (.slice (some ⟨wr.heap.size, 0, none⟩) 1 1) 27 HR.out (by rfl) _ _ (by rfl) (by rfl) (by rfl) ?_)
          all_goals
            go_wp2_with fail
            go_roundw
            case rel => exact ⟨i2, ks ++ [y], _, _, by go_num, HM7.out⟩
            case measure => simp [intOf]; omega
        · have R9 : Hid (wr.heap[w.heap.size]? = some (.cells (arrA none 0 zeroA) 29 (0, 0))) := (hM.out.G.block _ (by omega) (by intro e; injection e with e; omega)).trans R6.out
          have B9 : Hid (Below w.heap.size w wr) := B6.out.grown hM.out.G B6.out.size (fun j hj => by injection hj with hj; omega)
          have HST : Hid (modsR (lists ps) = (ks, lists (ps.drop i))) := by
            have h9 : modsR (lists (ps.drop i)) = ([], lists (ps.drop i)) := modsR_stop (fun m x y t h => by
              intro hm
              apply hgo
              have hlen := congrArg List.length h
              simp only [lists, List.length_map, List.length_drop, List.length_cons] at hlen
              have hlt : i < ps.length := by omega
              refine ⟨by omega, ?_⟩
              rw [← List.getElem_cons_drop hlt] at h
              injection h with h _
              rw [← hm]; exact h)
            rw [Hid, hM.out.E, h9]; simp
          have HFP : Hid (parseR s.data.toList = match lists (ps.drop i) with | [ty, nm] => rightO (adrOf ks ty nm k) | _ => none) := by
            rw [Hid, HFIN.out, fromParts, ← HLP.out, HST.out]
            cases h : lists (ps.drop i) with
            | nil => rfl
            | cons a t => cases t with
              | nil => rfl
              | cons b t => cases t <;> rfl
          by_cases ha : ps.length = i + 2
          case neg =>
            have HF : Hid (parseR s.data.toList = none) := by
              rw [Hid, HFP.out]
              split
              · rename_i ty nm h
                have hlen := congrArg List.length h
                simp only [lists, List.length_map, List.length_drop, List.length_cons, List.length_nil] at hlen
                omega
              · rfl
            obtain ⟨d, hd⟩ : ∃ d : Int, (ps.length : Int) - (i : Int) = d := ⟨_, rfl⟩
            have q2 : (d != 2) = true := by rw [bne_iff_ne]; omega
            obtain ⟨f0, f1, f2, f3, f4, f5⟩ := adr_frozen R9.out
            obtain ⟨x0, x1, x2, x3, x4, x5⟩ := adr_cells R9.out
            by_cases hlt : i2 < ps.length
            · have t1 : decide ((i2 : Int) < (ps.length : Int)) = true := by rw [decide_eq_true_eq]; omega
              have hil : i < ps.length := by omega
              obtain ⟨b, o, hpl, _, hb, hc⟩ := hps.resolve_left (by intro e; rw [e] at hlt; simp at hlt)
              have k0 := hc i hil
              obtain ⟨x, hx⟩ : ∃ x, ps[i] = x := ⟨_, rfl⟩
              rw [hx] at k0
              have q1 : (x.toList == [109, 111, 100, 117, 108, 101]) = false := by
                rw [beq_eq_false_iff_ne, ByteArray.toList_eq]
                intro h
                exact hgo ⟨by omega, by rw [hx]; exact h⟩
              subst hpl
              clear hx hc hps hgo hi1 ha
              go_wp2_with fail
              exact rparse_none s w wr _ _ _ _ R9.out B9.out HF.out rfl rfl
            · have t1 : decide ((i2 : Int) < (ps.length : Int)) = false := by rw [decide_eq_false_iff_not]; omega
              have t1' : decide (i2 < ps.length) = false := by rw [decide_eq_false_iff_not]; omega
              clear hps hgo hi1 ha
              go_wp2_with fail
              exact rparse_none s w wr _ _ _ _ R9.out B9.out HF.out rfl rfl
          case pos =>
            have t1 : decide ((i2 : Int) < (ps.length : Int)) = false := by rw [decide_eq_false_iff_not]; omega
            have t1' : decide (i2 < ps.length) = false := by rw [decide_eq_false_iff_not]; omega
            have hd : (ps.length : Int) - (i : Int) = 2 := by omega
            have hil : i < ps.length := by omega
            have hi1l : i1 < ps.length := by omega
            obtain ⟨b, o, hpl, _, hb, hc⟩ := hps.resolve_left (by intro e; rw [e] at hil; simp at hil)
            have k0 := hc i hil
            obtain ⟨x, hx⟩ : ∃ x, ps[i] = x := ⟨_, rfl⟩
            obtain ⟨y, hy⟩ : ∃ y, ps[i1] = y := ⟨_, rfl⟩
            have hG8 : w6.grownBy (wr.setCell ⟨w.heap.size + 1, 1, none⟩ (.string x)) (some (w.heap.size + 1)) := hM.out.G.trans (gb_set _ _ _ _)
            have k1 : (wr.setCell ⟨w.heap.size + 1, 1, none⟩ (.string x)).cell? ⟨b, o + i1, none⟩ = some (.string y) := by
              rcases HPS.out _ hG8 with h | ⟨b', o', h1, _, _, h2⟩
              · rw [h] at hil; simp at hil
              · rw [hpl] at h1
                injection h1 with h1; injection h1 with h1 h3
                subst h1 h3
                rw [← hy]; exact h2 i1 hi1l
            rw [hx] at k0
            have hdr : lists (ps.drop i) = [x.data.toList, y.data.toList] := by
              have h8 := drop_two (ps := ps) (i := i) (by omega)
              have hy' : ps[i + 1] = y := by subst hi1; exact hy
              rw [h8, List.drop_of_length_le (by omega), hx, hy']; rfl
            obtain ⟨c, hcd⟩ : ∃ c, withKey (adr0 ks x y) k = c := ⟨_, rfl⟩
            have HF : Hid (parseR s.data.toList = rightO c) := by
              rw [Hid, HFP.out, hdr]
              simp only []
              rw [← hcd]
              unfold adrOf
              rw [Jdec.str_back, Jdec.str_back]; rfl
            obtain ⟨w7, hw7⟩ : ∃ w7, (wr.setCell ⟨w.heap.size + 1, 1, none⟩ (.string x)).setCell ⟨w.heap.size + 1, 2, none⟩ (.string y) = w7 := ⟨_, rfl⟩
            have A7 : Hid (w7.heap[w.heap.size + 1]? = some (.cells (arrA pa pc c) 29 (0, 0))) := by
              rw [Hid, ← hw7, heap_set_same (heap_set_same hM.out.A _), ← hcd]; simp [arrA, adr0, withKey]
            have G7 : Hid (wr.grownBy w7 (some (w.heap.size + 1))) := by rw [← hw7]; exact (gb_set _ _ _ _).trans (gb_set _ _ _ _)
            have hcp : ks = c.path := by rw [← hcd]; rfl
            have hct : x = c.type := by rw [← hcd]; rfl
            have hcn : y = c.name := by rw [← hcd]; rfl
            have hcw : k.2.2 = c.word := by rw [← hcd]; rfl
            have hAw : w.heap.size + 1 < w6.heap.size := by omega
            have K7 : Hid (RowT w7 w6.heap.size (.slice pa c.path.length pc) c.path) := by
              rw [← hcp]
              exact hM.out.K.kept G7.out (.inr (hM.out.K.ne hAw))
            have R7 : Hid (w7.heap[w.heap.size]? = some (.cells (arrA none 0 zeroA) 29 (0, 0))) := (G7.out.block _ (heap_lt R9.out) (by intro e; injection e with e; omega)).trans R9.out
            have B7 : Hid (Below w.heap.size w w7) := B9.out.grown G7.out B9.out.size (fun j hj => by injection hj with hj; omega)
            have hxz := HPZ.out x (by rw [← hx]; exact List.getElem_mem _)
            have hyz := HPZ.out y (by rw [← hy]; exact List.getElem_mem _)
            have hkw := HKW.out
            have hmn := hM.out.N
            have hra := rright_any c pa pc _ w7 K7.out.texts (by rw [← hcp]; omega) (by rw [← hcp]; exact fun z hz => Nat.le_trans (HPZ.out z (hM.out.Z z hz)) (by omega)) (by rw [← hct]; omega) (by rw [← hcn]; omega) (by rw [← hcw]; omega)
            have HRA0 : Hid (Calls Tryz.prog 43 #[wordsA pa pc c] w7 fun e w' => e = .returned (.bool (rightA c)) ∧ Below w7.heap.size w7 w') := hra
            obtain ⟨r, hr⟩ : ∃ r, rightA c = r := ⟨_, rfl⟩
            rw [hr] at HRA0
            have HRR := Hid.out (p := Hid _) hr
            have HRA := Hid.out (p := Hid _) HRA0.out
            have f1 := frozen_of hM.out.A 1
            have a1 : wr.cell? ⟨w.heap.size + 1, 1, none⟩ = some (.string ⟨#[]⟩) := cell_of hM.out.A 1
            have hA8 : (wr.setCell ⟨w.heap.size + 1, 1, none⟩ (.string x)).heap[w.heap.size + 1]? = _ := heap_set_same hM.out.A (.string x)
            have f2 := frozen_of hA8 2
            have a2 : (wr.setCell ⟨w.heap.size + 1, 1, none⟩ (.string x)).cell? ⟨w.heap.size + 1, 2, none⟩ = some (.string ⟨#[]⟩) := cell_of hA8 2
            have hS7 : w6.heap.size ≤ w7.heap.size := Nat.le_trans hM.out.G.size G7.out.size
            obtain ⟨y0, y1, y2, y3, y4, y5⟩ := adr_cells A7.out
            subst hpl
            clear hA8 hra HRA0 hr hcp hct hcn hcw hAw hxz hyz hkw hmn hcd hdr hx hy hG8 hc hps hgo hi1 ha
            go_wp2_with fail
            refine (Calls.mono HRA.out ?_)
            rintro z w8 ⟨rfl, hb8⟩
            have A8 : Hid (w8.heap[w.heap.size + 1]? = some (.cells (arrA pa pc c) 29 (0, 0))) := (hb8.block _ (by omega)).trans A7.out
            have R8 : Hid (w8.heap[w.heap.size]? = some (.cells (arrA none 0 zeroA) 29 (0, 0))) := (hb8.block _ (by omega)).trans R7.out
            have K8 : Hid (RowT w8 (w.heap.size + 2) (.slice pa c.path.length pc) c.path) := rowT_mono (K7.out.stays hb8) (by omega)
            have B8 : Hid (Below w.heap.size w w8) := B7.out.trans (hb8.mono (by omega))
            clear hb8 y0 y1 y2 y3 y4 y5 f1 f2 a1 a2 k0 k1 hw7
            obtain ⟨f0, f1, f2, f3, f4, f5⟩ := adr_frozen R8.out
            obtain ⟨x0, x1, x2, x3, x4, x5⟩ := adr_cells R8.out
            cases r
            · have HN : Hid (parseR s.data.toList = none) := by rw [Hid, HF.out, rightO, HRR.out]; rfl
              go_wp2_with fail
              exact rparse_none s w w8 _ _ _ _ R8.out B8.out HN.out rfl rfl
            · have HN : Hid (parseR s.data.toList = some c) := by rw [Hid, HF.out, rightO, HRR.out]; rfl
              obtain ⟨y0, y1, y2, y3, y4, y5⟩ := adr_cells A8.out
              go_wp2_with fail
              exact rparse_some _ w w8 _ _ pa _ pc _ c R8.out B8.out HN.out K8.out rfl rfl
    case neg =>
    have hlt : e < s.size := by omega
    have hc := (byte_at hlt 91).1 (hx.resolve_left hend)
    have t1 : ((s[e].toNat : Int) != 91) = false := by rw [hc]; rfl
    have t2 : decide ((e : Int) < (s.size : Int)) = true := by rw [decide_eq_true_eq]; omega
    clear hx
    go_upto_if 27 with (fail)
    go_cut [] (fun wx => ∃ k, Hid (KI w wx k) ∧ Hid (keyR (from91 s.data.toList) = some k))
    case first =>
      obtain ⟨q, hq⟩ : ∃ q, q + 1 = s.size := ⟨s.size - 1, by omega⟩
      have hqi : (s.size : Int) - 1 = (q : Int) := by omega
      have hqs : q < s.size := by omega
      have hdr : from91 s.data.toList = 91 :: s.data.toList.drop (e + 1) := by
        have hlen : e < s.data.toList.length := by rw [HL.out]; exact hlt
        rw [HFR.out, ← List.getElem_cons_drop hlen]
        congr 1
        exact UInt8.toNat_inj.1 hc
      have hbq := byt_ext (i := q) hqs
      have hls : ∀ d, (s.data.toList.drop (e + 1)).getLast? = some d ↔ (e < q ∧ s[q].toNat = d.toNat) := fun d => by
        rw [List.getLast?_drop, HL.out]
        by_cases h : s.size ≤ e + 1
        · rw [if_pos h]
          constructor
          · intro h; cases h
          · intro h; omega
        · rw [if_neg h, List.getLast?_eq_getElem?, HL.out, show s.size - 1 = q by omega, byte_at hqs d]
          constructor
          · intro h; exact ⟨by omega, h⟩
          · intro h; exact h.2
      obtain ⟨f0, f1, f2, f3, f4, f5⟩ := adr_frozen hK2.out.R
      obtain ⟨x0, x1, x2, x3, x4, x5⟩ := adr_cells hK2.out.R
      by_cases c1 : s[q].toNat = 93
      case neg =>
        have t3 : ((s[q].toNat : Int) != 93) = true := by rw [bne_iff_ne]; omega
        have HF : Hid (parseR s.data.toList = none) := by
          rw [Hid, parseR, hdr, keyR, if_neg (fun h => c1 ((hls 93).1 h).2)]
        clear hdr hls hbq hq c1 hc
        go_wp2_with fail
        exact rparse_none s w w2 _ _ _ _ hK2.out.R hK2.out.B HF.out rfl rfl
      case pos =>
      have t3 : ((s[q].toNat : Int) != 93) = false := by rw [c1]; rfl
      have heq : e < q := by
        rcases Nat.lt_or_ge e q with h | h
        · exact h
        · have : e = q := by omega
          subst this
          have : (91 : UInt8).toNat = 91 := rfl
          omega
      obtain ⟨e1, he1⟩ : ∃ e1, e + 1 = e1 := ⟨_, rfl⟩
      have he1i : (e : Int) + 1 = (e1 : Int) := by omega
      obtain ⟨m, hm⟩ : ∃ m, s.extract e1 q = m := ⟨_, rfl⟩
      have hsl : ∀ wx, (Instr.slice 9 (.string s) (some (.int .i64 e1)) (some (.int .i64 q)) none).run Tryz.prog wx = .ok (.string m) wx := fun wx => by
        rw [run_slice_string (P := Tryz.prog) wx 9 s .i64 .i64 e1 q Tryz.underlying9 (by omega) (by omega) (by omega), Int.toNat_natCast, Int.toNat_natCast, hm]
      have hmd : m.data.toList = (s.data.toList.drop (e + 1)).dropLast := by
        rw [← hm, ext_take s e1 q (by omega), ← he1, List.dropLast_eq_take, List.length_drop, HL.out]
        congr 1
        omega
      have HKR : Hid (keyR (from91 s.data.toList) = (match numB m.data.toList with
          | some n => some (1, n, ⟨#[]⟩)
          | none => match Quote.scan m.data.toList with
            | .ok (s, k) => if k = m.data.toList.length then some (2, 0, ⟨s.toArray⟩) else none
            | .error _ => none)) := by
        rw [Hid, hdr, keyR, if_pos ((hls 93).2 ⟨heq, c1⟩), hmd]; rfl
      have hms : m.size ≤ s.size := by rw [← hm, ByteArray.size_extract]; omega
      have hml : m.data.toList.length = m.size := by simp
      have hnu := number_any m w2 (by omega)
      have HNU : Hid (Calls Tryz.prog 75 #[.string m] w2 (NPst (numB m.data.toList) w2)) := hnu
      have hrs := Quote.rscan_any m w2 (by omega)
      clear hdr hls hbq hq c1 hc he1 hm hmd hnu
      go_wp2_with fail
      refine (Calls.mono HNU.out ?_)
      rintro z w2' ⟨n, rfl, hn, rfl⟩
      have HN := Hid.out (p := Hid _) hn
      cases hnb : numB m.data.toList with
      | some n0 =>
        obtain rfl : n = n0 := hn n0 hnb
        have HKF : Hid (keyR (from91 s.data.toList) = some (1, n, ⟨#[]⟩)) := by rw [Hid, HKR.out, hnb]
        obtain ⟨S, Z, E, hpv⟩ : ∃ (S : ByteArray) (Z E : Int), Quote.partV (Quote.scan m.data.toList) = .agg #[.string S, .int .i64 Z, .int .i64 E] := by
          cases Quote.scan m.data.toList with
          | error k => exact ⟨_, 0, k, rfl⟩
          | ok y => exact ⟨_, y.2, 0, rfl⟩
        unfold Quote.RScan at hrs
        rw [hpv] at hrs
        have HRS := Hid.out (p := Hid _) hrs
        clear hrs hpv hn HKR
        go_wp2_with fail
        refine (Calls.mono HRS.out ?_)
        rintro z w3 ⟨rfl, hb3⟩
        obtain ⟨w4, hw4, P4, B4⟩ := part_new w3 S Z E
        have hb4 : Below w2.heap.size w2 w4 := hb3.trans (B4.out.mono hb3.size)
        have A4 : Hid (w4.heap[w.heap.size + 1]? = some (.cells (arrA none 0 (withKey zeroA (0, 0, ⟨#[]⟩))) 29 (0, 0))) := (hb4.block _ (by have := hK2.out.S; omega)).trans hK2.out.A
        have HKI : Hid (KI w ((w4.setCell ⟨w.heap.size + 1, 3, none⟩ (.int .i64 1)).setCell ⟨w.heap.size + 1, 4, none⟩ (.int .u64 n)) (1, n, ⟨#[]⟩)) := by
          have hg := gb_two w2 w4 (w.heap.size + 1) 3 4 (.int .i64 1) (.int .u64 n) hb4
          exact ⟨two_set A4.out rfl n rfl, (hg.block _ (by have := hK2.out.S; omega) (by intro e; injection e with e; omega)).trans hK2.out.R, hK2.out.B.grown hg hK2.out.B.size (fun k hk => by injection hk with hk; omega), Nat.le_trans hK2.out.S hg.size⟩
        clear hb3 hb4 x0 x1 x2 x3 x4 x5 f0 f1 f2 f3 f4 f5
        have f3 := frozen_of A4.out 3
        have f4 := frozen_of A4.out 4
        have x3 := cell_of A4.out 3
        have x4 := cell_of A4.out 4
        go_wp2_with fail
        go_meet
        exact ⟨_, HKI.out, HKF.out⟩
      | none =>
        have HKF : Hid (keyR (from91 s.data.toList) = (match Quote.scan m.data.toList with
            | .ok (s, k) => if k = m.data.toList.length then some (2, 0, ⟨s.toArray⟩) else none
            | .error _ => none)) := by rw [Hid, HKR.out, hnb]
        unfold Quote.RScan at hrs
        cases hsc : Quote.scan m.data.toList with
        | error k =>
          rw [hsc] at hrs
          have hk := Jdec.scan_err hsc
          have q1 : ((k : Int) == 0) = false := by rw [beq_eq_false_iff_ne]; omega
          have HF : Hid (parseR s.data.toList = none) := by rw [Hid, parseR, HKF.out, hsc]
          have HRS : Hid (Calls Tryz.prog 79 #[.string m] w2 (fun e w' => e = .returned (.agg #[.string ⟨#[]⟩, .int .i64 0, .int .i64 k]) ∧ Below w2.heap.size w2 w')) := hrs
          clear hrs hn HKR HKF hsc hk
          go_wp2_with fail
          refine (Calls.mono HRS.out ?_)
          rintro z w3 ⟨rfl, hb3⟩
          obtain ⟨w4, hw4, P4, B4⟩ := part_new w3 ⟨#[]⟩ 0 k
          have hb4 : Below w2.heap.size w2 w4 := hb3.trans (B4.out.mono hb3.size)
          have R4 : Hid (w4.heap[w.heap.size]? = some (.cells (arrA none 0 zeroA) 29 (0, 0))) := (hb4.block _ (by have := hK2.out.S; omega)).trans hK2.out.R
          have B4w : Hid (Below w.heap.size w w4) := hK2.out.B.trans (hb4.mono (by have := hK2.out.S; omega))
          clear hb3 hb4 x0 x1 x2 x3 x4 x5 f0 f1 f2 f3 f4 f5
          have p2 := cell_of P4.out 2
          have p1 := cell_of P4.out 1
          obtain ⟨f0, f1, f2, f3, f4, f5⟩ := adr_frozen R4.out
          obtain ⟨x0, x1, x2, x3, x4, x5⟩ := adr_cells R4.out
          go_wp2_with fail
          exact rparse_none s w w4 _ _ _ _ R4.out B4w.out HF.out rfl rfl
        | ok y =>
          obtain ⟨o, kk⟩ := y
          rw [hsc] at hrs
          obtain ⟨x, hx⟩ : ∃ x : ByteArray, (⟨o.toArray⟩ : ByteArray) = x := ⟨_, rfl⟩
          have HRS0 : Calls Tryz.prog 79 #[.string m] w2 (fun e w' => e = .returned (.agg #[.string ⟨o.toArray⟩, .int .i64 kk, .int .i64 0]) ∧ Below w2.heap.size w2 w') := hrs
          obtain ⟨z0, hz0⟩ : ∃ z0 : Int, (0 : Int) = z0 := ⟨_, rfl⟩
          have q0 : (z0 == 0) = true := by rw [← hz0]; rfl
          rw [hx, hz0] at HRS0
          have HRS := Hid.out (p := Hid _) HRS0
          clear hz0
          by_cases hkk : kk = m.size
          · have q1 : ((kk : Int) == (m.size : Int)) = true := by rw [hkk]; simp
            have HKG : Hid (keyR (from91 s.data.toList) = some (2, 0, x)) := by rw [Hid, HKF.out, hsc]; simp only []; rw [if_pos (by omega), hx]
            clear hrs hn HKR HKF hsc hkk hx HRS0
            go_wp2_with fail
            refine (Calls.mono HRS.out ?_)
            rintro z w3 ⟨rfl, hb3⟩
            obtain ⟨w4, hw4, P4, B4⟩ := part_new w3 x kk z0
            have hb4 : Below w2.heap.size w2 w4 := hb3.trans (B4.out.mono hb3.size)
            have A4 : Hid (w4.heap[w.heap.size + 1]? = some (.cells (arrA none 0 (withKey zeroA (0, 0, ⟨#[]⟩))) 29 (0, 0))) := (hb4.block _ (by have := hK2.out.S; omega)).trans hK2.out.A
            have HKI : Hid (KI w ((w4.setCell ⟨w.heap.size + 1, 3, none⟩ (.int .i64 2)).setCell ⟨w.heap.size + 1, 5, none⟩ (.string x)) (2, 0, x)) := by
              have hg := gb_two w2 w4 (w.heap.size + 1) 3 5 (.int .i64 2) (.string x) hb4
              exact ⟨two_word A4.out x rfl, (hg.block _ (by have := hK2.out.S; omega) (by intro e; injection e with e; omega)).trans hK2.out.R, hK2.out.B.grown hg hK2.out.B.size (fun k hk => by injection hk with hk; omega), Nat.le_trans hK2.out.S hg.size⟩
            clear hb3 hb4 x0 x1 x2 x3 x4 x5 f0 f1 f2 f3 f4 f5
            have p2 := cell_of P4.out 2
            have p1 := cell_of P4.out 1
            have p0 : (w4.setCell ⟨w.heap.size + 1, 3, none⟩ (.int .i64 2)).cell? ⟨w3.heap.size, 0, none⟩ = some (.string x) := by
              rw [cell_of (heap_set_other P4.out (by have := heap_lt A4.out; have := B4.out.size; intro e; have h9 := A4.out; rw [← e, P4.out] at h9; injection h9 with h9; injection h9 with _ h9 _; exact absurd h9 (by decide)) _) 0]; rfl
            have f3 := frozen_of A4.out 3
            have f5 := frozen_of A4.out 5
            have x3 := cell_of A4.out 3
            have x5 := cell_of A4.out 5
            go_wp2_with fail
            go_meet
            exact ⟨_, HKI.out, HKG.out⟩
          · have q1 : ((kk : Int) == (m.size : Int)) = false := by rw [beq_eq_false_iff_ne]; omega
            have HF : Hid (parseR s.data.toList = none) := by rw [Hid, parseR, HKF.out, hsc]; simp only []; rw [if_neg (by omega)]
            clear hrs hn HKR HKF hsc hkk hx HRS0
            go_wp2_with fail
            refine (Calls.mono HRS.out ?_)
            rintro z w3 ⟨rfl, hb3⟩
            obtain ⟨w4, hw4, P4, B4⟩ := part_new w3 x kk z0
            have hb4 : Below w2.heap.size w2 w4 := hb3.trans (B4.out.mono hb3.size)
            have R4 : Hid (w4.heap[w.heap.size]? = some (.cells (arrA none 0 zeroA) 29 (0, 0))) := (hb4.block _ (by have := hK2.out.S; omega)).trans hK2.out.R
            have B4w : Hid (Below w.heap.size w w4) := hK2.out.B.trans (hb4.mono (by have := hK2.out.S; omega))
            clear hb3 hb4 x0 x1 x2 x3 x4 x5 f0 f1 f2 f3 f4 f5
            have p2 := cell_of P4.out 2
            have p1 := cell_of P4.out 1
            obtain ⟨f0, f1, f2, f3, f4, f5⟩ := adr_frozen R4.out
            obtain ⟨x0, x1, x2, x3, x4, x5⟩ := adr_cells R4.out
            go_wp2_with fail
            exact rparse_none s w w4 _ _ _ _ R4.out B4w.out HF.out rfl rfl
    case rest =>
    obtain ⟨k, hKI, hKR⟩ := hcut
    obtain ⟨sp, hsp⟩ : ∃ sp, s.extract 0 e = sp := ⟨_, rfl⟩
    have hspd : sp.data.toList = upTo91 s.data.toList := by rw [← hsp, ext_take s 0 e (Nat.zero_le _), HUP.out]; rfl
    have hspz : sp.size ≤ s.size := by rw [← hsp, ByteArray.size_extract]; omega
    have hs1 : ∀ wx, (Instr.slice 9 (.string s) none (some (.int .i64 e)) none).run Tryz.prog wx = .ok (.string sp) wx := fun wx => by
      rw [run_slice_string_to_if (P := Tryz.prog) wx 9 s .i64 e Tryz.underlying9, if_pos ⟨by omega, by omega⟩, Int.toNat_natCast, hsp]
    have HFIN : Hid (parseR s.data.toList = fromParts k (partsB sp.data.toList)) := by rw [Hid, parseR, hKR.out, hspd]; rfl
    have HPT : Hid (Calls Tryz.prog 74 #[.string sp] wc (PtPost sp wc)) := parts_any sp wc (by omega)
    have HKW : Hid (k.2.2.size ≤ s.size) := by
      have h1 : keyP (from91 s.data.toList) = some k := by rw [keyP_eq _ (from_head _)]; exact hKR.out
      have h2 := keyP_word h1
      have h3 := congrArg List.length (up_from s.data.toList)
      rw [List.length_append, HL.out] at h3
      rw [Hid]; omega
    clear hsp hspd hKR HUP HFR hN
    go_wp2_with fail
    refine (Calls.mono HPT.out ?_)
    rintro z w6 ⟨pl, plc, ps, rfl, hps, hrow, hb6, hpz, hpn⟩
    have h6S := hb6.size
    have hcS := hKI.out.S
    have HM : Hid (MI w w6 w6 k ps [] none 0 0) := ⟨(hb6.block _ (by omega)).trans hKI.out.A, RowT.nil _ _, gb_refl _ _, Nat.zero_le _, rfl, rfl, fun x hx => by cases hx⟩
    have HPS : Hid (∀ wr, w6.grownBy wr (some (w.heap.size + 1)) → IsTexts wr (fun _ => True) pl ps) := fun wr hg => hrow.texts.turn ⟨hg.size, fun b hb hl => ⟨hg.block b hl (fun e => by injection e with e; omega), trivial⟩⟩
    have R6 : Hid (w6.heap[w.heap.size]? = some (.cells (arrA none 0 zeroA) 29 (0, 0))) := (hb6.block _ (by omega)).trans hKI.out.R
    have B6 : Hid (Below w.heap.size w w6) := hKI.out.B.trans (hb6.mono (by omega))
    have HLP : Hid (lists ps = partsB sp.data.toList) := hps
    have HPZ : Hid (∀ x ∈ ps, x.size ≤ sp.size) := hpz
    clear hb6 hrow hps hpz HPT
    go_wp2_with fail
    go_loopw [11] (fun p wr => ∃ (i : Nat) (ks : List ByteArray) (pa : Option Addr) (pc : Nat), p = .int .i64 i ∧ Hid (MI w w6 wr k ps ks pa pc i)) (fun p _ => ps.length - (intOf p).toNat)
    case atStart => exact ⟨0, [], none, 0, rfl, HM.out⟩
    case round =>
      obtain ⟨i, ks, pa, pc, rfl, hM⟩ := hrel
      have hps := HPS.out wr hM.out.G
      have hi := hM.out.I
      obtain ⟨i1, hi1⟩ : ∃ i1, i + 1 = i1 := ⟨_, rfl⟩
      obtain ⟨i2, hi2⟩ : ∃ i2, i + 2 = i2 := ⟨_, rfl⟩
      have hi1i : (i : Int) + 1 = (i1 : Int) := by omega
      have hi2i : (i : Int) + 2 = (i2 : Int) := by omega
      have hi1w : IntKind.i64.wrap (i1 : Int) = (i1 : Int) := IntWalk.i64_in _ (by omega)
      by_cases hgo : ∃ h : i + 2 < ps.length, ps[i].data.toList = moduleL
      · obtain ⟨hlt, hm⟩ := hgo
        have t1 : decide ((i2 : Int) < (ps.length : Int)) = true := by rw [decide_eq_true_eq]; omega
        have t1' : decide (i2 < ps.length) = true := by rw [decide_eq_true_eq]; omega
        obtain ⟨b, o, hpl, _, hb, hc⟩ := hps.resolve_left (by intro e; rw [e] at hlt; simp at hlt)
        have hil : i < ps.length := by omega
        have hi1l : i1 < ps.length := by omega
        have k0 := hc i (by omega)
        have k1 := hc i1 (by omega)
        obtain ⟨x, hx⟩ : ∃ x, ps[i] = x := ⟨_, rfl⟩
        obtain ⟨y, hy⟩ : ∃ y, ps[i1] = y := ⟨_, rfl⟩
        rw [hx] at k0 hm
        rw [hy] at k1
        have q1 : (x.toList == [109, 111, 100, 117, 108, 101]) = true := by rw [ByteArray.toList_eq, hm]; rfl
        have HE : Hid (modsR (lists ps) = ((ks ++ [y]) ++ (modsR (lists (ps.drop i2))).1, (modsR (lists (ps.drop i2))).2)) := by
          have hd := drop_two (ps := ps) (i := i) (by omega)
          rw [Hid, hM.out.E, hd]
          have hne : lists (ps.drop (i + 2)) ≠ [] := by
            intro e
            have := congrArg List.length e
            simp [lists] at this
            omega
          have hy' : ps[i + 1] = y := by subst hi1; exact hy
          rw [show lists (ps[i] :: ps[i + 1] :: ps.drop (i + 2)) = ps[i].data.toList :: ps[i + 1].data.toList :: lists (ps.drop (i + 2)) from rfl, modsR_skip hne (by rw [hx]; exact hm), hy', Jdec.str_back, hi2]
          simp
        have HYM : Hid (y ∈ ps) := by rw [← hy]; exact List.getElem_mem _
        subst hpl
        have hbl : b < wr.heap.size := hb
        obtain ⟨g, cap, w7, hr, K7, G7, hg7⟩ := app_one wr.drew w6.heap.size (.slice pa ks.length pc) ks y (hM.out.K.kept (gb_drew _ 1 none) (by cases (Value.slice pa ks.length pc).ownBlock <;> simp)) (by have := hM.out.N; omega) (by have := hM.out.G.size; simpa using this)
        have HR := Hid.out (p := Hid _) hr
        have a0 : wr.cell? ⟨w.heap.size + 1, 0, none⟩ = some (.slice pa ks.length pc) := cell_of hM.out.A 0
        have f0 := frozen_of hM.out.A 0
        have hAw : w.heap.size + 1 < w6.heap.size := by omega
        have A7 : Hid (w7.heap[w.heap.size + 1]? = some (.cells (arrA pa pc (withKey (adr0 ks ⟨#[]⟩ ⟨#[]⟩) k)) 29 (0, 0))) := (G7.out.block _ (heap_lt hM.out.A) (fun e => hM.out.K.ne hAw e.symm)).trans hM.out.A
        have b0 : w7.cell? ⟨w.heap.size + 1, 0, none⟩ = some (.slice pa ks.length pc) := cell_of A7.out 0
        have g0 := frozen_of A7.out 0
        have HM7 : Hid (MI w w6 (w7.setCell ⟨w.heap.size + 1, 0, none⟩ (.slice (some ⟨g, 0, none⟩) (ks.length + 1) cap)) k ps (ks ++ [y]) (some ⟨g, 0, none⟩) cap i2) := by
          refine ⟨?_, ?_, (gb_far hM.out.G ((gb_drew wr 1 _).trans G7.out) (fun j hj => (World.ownsRow.lt hM.out.K j hj).1)).trans (gb_set _ _ _ _), by omega, by have := hM.out.N; simp; omega, HE.out, ?_⟩
          · rw [heap_set_same A7.out]; simp [arrA, adr0, withKey]
          · rw [List.length_append, List.length_singleton]
            exact RowT.kept K7.out (gb_set _ _ _ _) (.inr (by simp [Value.ownBlock]; have := hg7.out; omega))
          · intro z hz
            rcases List.mem_append.1 hz with hz | hz
            · exact hM.out.Z z hz
            · rw [List.mem_singleton.1 hz]; exact HYM.out
        have hAwr : w.heap.size + 1 < wr.heap.size := heap_lt hM.out.A
        clear hx hy hm hr hi1 hc hps hAw
        go_wp2_with fail
        go_region_law (refine step_append_run (.slice pa ks.length pc) (.slice (some ⟨wr.heap.size, 0, none⟩) 1 1) 27 HR.out (by rfl) _ _ (by rfl) (by rfl) (by rfl) ?_)
        all_goals
          go_wp2_with fail
          go_roundw
          case rel => exact ⟨i2, ks ++ [y], _, _, by go_num, HM7.out⟩
          case measure => simp [intOf]; omega
      · have R9 : Hid (wr.heap[w.heap.size]? = some (.cells (arrA none 0 zeroA) 29 (0, 0))) := (hM.out.G.block _ (by omega) (by intro e; injection e with e; omega)).trans R6.out
        have B9 : Hid (Below w.heap.size w wr) := B6.out.grown hM.out.G B6.out.size (fun j hj => by injection hj with hj; omega)
        have HST : Hid (modsR (lists ps) = (ks, lists (ps.drop i))) := by
          have h9 : modsR (lists (ps.drop i)) = ([], lists (ps.drop i)) := modsR_stop (fun m x y t h => by
            intro hm
            apply hgo
            have hlen := congrArg List.length h
            simp only [lists, List.length_map, List.length_drop, List.length_cons] at hlen
            have hlt : i < ps.length := by omega
            refine ⟨by omega, ?_⟩
            rw [← List.getElem_cons_drop hlt] at h
            injection h with h _
            rw [← hm]; exact h)
          rw [Hid, hM.out.E, h9]; simp
        have HFP : Hid (parseR s.data.toList = match lists (ps.drop i) with | [ty, nm] => rightO (adrOf ks ty nm k) | _ => none) := by
          rw [Hid, HFIN.out, fromParts, ← HLP.out, HST.out]
          cases h : lists (ps.drop i) with
          | nil => rfl
          | cons a t => cases t with
            | nil => rfl
            | cons b t => cases t <;> rfl
        by_cases ha : ps.length = i + 2
        case neg =>
          have HF : Hid (parseR s.data.toList = none) := by
            rw [Hid, HFP.out]
            split
            · rename_i ty nm h
              have hlen := congrArg List.length h
              simp only [lists, List.length_map, List.length_drop, List.length_cons, List.length_nil] at hlen
              omega
            · rfl
          obtain ⟨d, hd⟩ : ∃ d : Int, (ps.length : Int) - (i : Int) = d := ⟨_, rfl⟩
          have q2 : (d != 2) = true := by rw [bne_iff_ne]; omega
          obtain ⟨f0, f1, f2, f3, f4, f5⟩ := adr_frozen R9.out
          obtain ⟨x0, x1, x2, x3, x4, x5⟩ := adr_cells R9.out
          by_cases hlt : i2 < ps.length
          · have t1 : decide ((i2 : Int) < (ps.length : Int)) = true := by rw [decide_eq_true_eq]; omega
            have hil : i < ps.length := by omega
            obtain ⟨b, o, hpl, _, hb, hc⟩ := hps.resolve_left (by intro e; rw [e] at hlt; simp at hlt)
            have k0 := hc i hil
            obtain ⟨x, hx⟩ : ∃ x, ps[i] = x := ⟨_, rfl⟩
            rw [hx] at k0
            have q1 : (x.toList == [109, 111, 100, 117, 108, 101]) = false := by
              rw [beq_eq_false_iff_ne, ByteArray.toList_eq]
              intro h
              exact hgo ⟨by omega, by rw [hx]; exact h⟩
            subst hpl
            clear hx hc hps hgo hi1 ha
            go_wp2_with fail
            exact rparse_none s w wr _ _ _ _ R9.out B9.out HF.out rfl rfl
          · have t1 : decide ((i2 : Int) < (ps.length : Int)) = false := by rw [decide_eq_false_iff_not]; omega
            have t1' : decide (i2 < ps.length) = false := by rw [decide_eq_false_iff_not]; omega
            clear hps hgo hi1 ha
            go_wp2_with fail
            exact rparse_none s w wr _ _ _ _ R9.out B9.out HF.out rfl rfl
        case pos =>
          have t1 : decide ((i2 : Int) < (ps.length : Int)) = false := by rw [decide_eq_false_iff_not]; omega
          have t1' : decide (i2 < ps.length) = false := by rw [decide_eq_false_iff_not]; omega
          have hd : (ps.length : Int) - (i : Int) = 2 := by omega
          have hil : i < ps.length := by omega
          have hi1l : i1 < ps.length := by omega
          obtain ⟨b, o, hpl, _, hb, hc⟩ := hps.resolve_left (by intro e; rw [e] at hil; simp at hil)
          have k0 := hc i hil
          obtain ⟨x, hx⟩ : ∃ x, ps[i] = x := ⟨_, rfl⟩
          obtain ⟨y, hy⟩ : ∃ y, ps[i1] = y := ⟨_, rfl⟩
          have hG8 : w6.grownBy (wr.setCell ⟨w.heap.size + 1, 1, none⟩ (.string x)) (some (w.heap.size + 1)) := hM.out.G.trans (gb_set _ _ _ _)
          have k1 : (wr.setCell ⟨w.heap.size + 1, 1, none⟩ (.string x)).cell? ⟨b, o + i1, none⟩ = some (.string y) := by
            rcases HPS.out _ hG8 with h | ⟨b', o', h1, _, _, h2⟩
            · rw [h] at hil; simp at hil
            · rw [hpl] at h1
              injection h1 with h1; injection h1 with h1 h3
              subst h1 h3
              rw [← hy]; exact h2 i1 hi1l
          rw [hx] at k0
          have hdr : lists (ps.drop i) = [x.data.toList, y.data.toList] := by
            have h8 := drop_two (ps := ps) (i := i) (by omega)
            have hy' : ps[i + 1] = y := by subst hi1; exact hy
            rw [h8, List.drop_of_length_le (by omega), hx, hy']; rfl
          obtain ⟨c, hcd⟩ : ∃ c, withKey (adr0 ks x y) k = c := ⟨_, rfl⟩
          have HF : Hid (parseR s.data.toList = rightO c) := by
            rw [Hid, HFP.out, hdr]
            simp only []
            rw [← hcd]
            unfold adrOf
            rw [Jdec.str_back, Jdec.str_back]; rfl
          obtain ⟨w7, hw7⟩ : ∃ w7, (wr.setCell ⟨w.heap.size + 1, 1, none⟩ (.string x)).setCell ⟨w.heap.size + 1, 2, none⟩ (.string y) = w7 := ⟨_, rfl⟩
          have A7 : Hid (w7.heap[w.heap.size + 1]? = some (.cells (arrA pa pc c) 29 (0, 0))) := by
            rw [Hid, ← hw7, heap_set_same (heap_set_same hM.out.A _), ← hcd]; simp [arrA, adr0, withKey]
          have G7 : Hid (wr.grownBy w7 (some (w.heap.size + 1))) := by rw [← hw7]; exact (gb_set _ _ _ _).trans (gb_set _ _ _ _)
          have hcp : ks = c.path := by rw [← hcd]; rfl
          have hct : x = c.type := by rw [← hcd]; rfl
          have hcn : y = c.name := by rw [← hcd]; rfl
          have hcw : k.2.2 = c.word := by rw [← hcd]; rfl
          have hAw : w.heap.size + 1 < w6.heap.size := by omega
          have K7 : Hid (RowT w7 w6.heap.size (.slice pa c.path.length pc) c.path) := by
            rw [← hcp]
            exact hM.out.K.kept G7.out (.inr (hM.out.K.ne hAw))
          have R7 : Hid (w7.heap[w.heap.size]? = some (.cells (arrA none 0 zeroA) 29 (0, 0))) := (G7.out.block _ (heap_lt R9.out) (by intro e; injection e with e; omega)).trans R9.out
          have B7 : Hid (Below w.heap.size w w7) := B9.out.grown G7.out B9.out.size (fun j hj => by injection hj with hj; omega)
          have hxz := HPZ.out x (by rw [← hx]; exact List.getElem_mem _)
          have hyz := HPZ.out y (by rw [← hy]; exact List.getElem_mem _)
          have hkw := HKW.out
          have hmn := hM.out.N
          have hra := rright_any c pa pc _ w7 K7.out.texts (by rw [← hcp]; omega) (by rw [← hcp]; exact fun z hz => Nat.le_trans (HPZ.out z (hM.out.Z z hz)) (by omega)) (by rw [← hct]; omega) (by rw [← hcn]; omega) (by rw [← hcw]; omega)
          have HRA0 : Hid (Calls Tryz.prog 43 #[wordsA pa pc c] w7 fun e w' => e = .returned (.bool (rightA c)) ∧ Below w7.heap.size w7 w') := hra
          obtain ⟨r, hr⟩ : ∃ r, rightA c = r := ⟨_, rfl⟩
          rw [hr] at HRA0
          have HRR := Hid.out (p := Hid _) hr
          have HRA := Hid.out (p := Hid _) HRA0.out
          have f1 := frozen_of hM.out.A 1
          have a1 : wr.cell? ⟨w.heap.size + 1, 1, none⟩ = some (.string ⟨#[]⟩) := cell_of hM.out.A 1
          have hA8 : (wr.setCell ⟨w.heap.size + 1, 1, none⟩ (.string x)).heap[w.heap.size + 1]? = _ := heap_set_same hM.out.A (.string x)
          have f2 := frozen_of hA8 2
          have a2 : (wr.setCell ⟨w.heap.size + 1, 1, none⟩ (.string x)).cell? ⟨w.heap.size + 1, 2, none⟩ = some (.string ⟨#[]⟩) := cell_of hA8 2
          have hS7 : w6.heap.size ≤ w7.heap.size := Nat.le_trans hM.out.G.size G7.out.size
          obtain ⟨y0, y1, y2, y3, y4, y5⟩ := adr_cells A7.out
          subst hpl
          clear hA8 hra HRA0 hr hcp hct hcn hcw hAw hxz hyz hkw hmn hcd hdr hx hy hG8 hc hps hgo hi1 ha
          go_wp2_with fail
          refine (Calls.mono HRA.out ?_)
          rintro z w8 ⟨rfl, hb8⟩
          have A8 : Hid (w8.heap[w.heap.size + 1]? = some (.cells (arrA pa pc c) 29 (0, 0))) := (hb8.block _ (by omega)).trans A7.out
          have R8 : Hid (w8.heap[w.heap.size]? = some (.cells (arrA none 0 zeroA) 29 (0, 0))) := (hb8.block _ (by omega)).trans R7.out
          have K8 : Hid (RowT w8 (w.heap.size + 2) (.slice pa c.path.length pc) c.path) := rowT_mono (K7.out.stays hb8) (by omega)
          have B8 : Hid (Below w.heap.size w w8) := B7.out.trans (hb8.mono (by omega))
          clear hb8 y0 y1 y2 y3 y4 y5 f1 f2 a1 a2 k0 k1 hw7
          obtain ⟨f0, f1, f2, f3, f4, f5⟩ := adr_frozen R8.out
          obtain ⟨x0, x1, x2, x3, x4, x5⟩ := adr_cells R8.out
          cases r
          · have HN : Hid (parseR s.data.toList = none) := by rw [Hid, HF.out, rightO, HRR.out]; rfl
            go_wp2_with fail
            exact rparse_none s w w8 _ _ _ _ R8.out B8.out HN.out rfl rfl
          · have HN : Hid (parseR s.data.toList = some c) := by rw [Hid, HF.out, rightO, HRR.out]; rfl
            obtain ⟨y0, y1, y2, y3, y4, y5⟩ := adr_cells A8.out
            go_wp2_with fail
            exact rparse_some _ w w8 _ _ pa _ pc _ c R8.out B8.out HN.out K8.out rfl rfl
end Go.Proofs.YtmjlklefpiciaaaGreatDoor.Addr
