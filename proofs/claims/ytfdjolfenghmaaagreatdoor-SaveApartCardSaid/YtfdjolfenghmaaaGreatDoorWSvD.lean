/- How great the tree is that package save makes, in plain Lean. -/
import Derived.Test.YtfdjolfenghmaaaGreatDoorWSvA
import Derived.Test.YtfdjolfenghmaaaGreatDoorWStA
import Derived.Test.YtfdjolfenghmaaaGreatDoorWOpS
import Derived.Test.YtfdjolfenghmaaaGreatDoorWShelf
import Derived.Shelf.Strings.Builder1
import Derived.Shelf.Strings.Builder2
import Derived.Shelf.Strings.OnBuilder
import Derived.Shelf.Strings.BuilderF
import Derived.Shelf.Unicode.Decode
import Derived.Ground.Names2Prog
import Derived.Shelf.Slices.Clone
import Derived.Ground.SlgnProg
import Derived.Shelf.SlicesE.Clone
import Derived.Ground.SlgmProg
import Derived.Shelf.SortM.Plain
import Derived.Shelf.SortM.SortNone
import Derived.Maps.AppendAt
set_option linter.unusedVariables false
set_option linter.unusedSimpArgs false
namespace Go.Proofs.YtfdjolfenghmaaaGreatDoor.Save
open Go.Proofs.YtfdjolfenghmaaaGreatDoor.Addr Go.Proofs.YtfdjolfenghmaaaGreatDoor.State Jdec
theorem masses_all (n : Nat) : ∀ l : List JV, (∀ v ∈ l, v.mass <= n) -> masses l <= n * l.length
  | [], _ => by rw [masses_nil]; omega
  | v :: t, h => by
    rw [masses_cons, List.length_cons, Nat.mul_succ];have := masses_all n t fun u hu => h u (by simp [hu]);have := h v (by simp);omega
theorem masses_add : ∀ a b : List JV, masses (a ++ b) = masses a + masses b
  | [], b => by rw [List.nil_append, masses_nil]; omega
  | v :: t, b => by rw [List.cons_append, masses_cons, masses_cons, masses_add t b]; omega
theorem masses_set : ∀ (l : List JV) (i : Nat) (h : i < l.length) (v : JV), masses (l.set i v) + l[i].mass = masses l + v.mass
  | u :: t, 0, h, v => by rw [List.set_cons_zero, masses_cons, masses_cons, List.getElem_cons_zero]; omega
  | u :: t, i + 1, h, v => by
    rw [List.set_cons_succ, masses_cons, masses_cons, List.getElem_cons_succ];have := masses_set t i (by simpa using h) v;omega
theorem strV_mass (s : ByteArray) : (strV s).mass = 1 := by rw [strV, mass_mk, masses_nil]; rfl
theorem numV_mass (n : Nat) : (numV n).mass = 1 := by rw [numV, mass_mk, masses_nil]; rfl
theorem keyV_mass (a : Adr) : (keyV a).mass = 1 := by
  unfold keyV;split
  · exact numV_mass _
  · split
    · exact strV_mass _
    · rw [nullV, mass_mk, masses_nil]; rfl
theorem attV_mass (l : List (ByteArray × ByteArray)) : (attV l).mass <= 1 + 2 * l.length := by
  rw [attV, objectOf, mass_mk, List.length_map];have := masses_all 1 (l.map fun x => strV x.2) (fun v hv => by obtain ⟨y, _, rfl⟩ := List.mem_map.1 hv; rw [strV_mass]; omega);rw [List.length_map] at this;omega
theorem insV_mass {r : Rec} (h : r.attrs.length <= 60) : (insV r).mass <= 127 := by
  have := attV_mass r.attrs;rw [insV, objectOf, mass_mk, masses_cons, masses_cons, masses_cons, masses_nil, strV_mass, keyV_mass];simp only [List.length_cons, List.length_nil]
  omega
theorem resO_mass {r : Rec} (h : r.a.path.length <= 20) (ins : List JV) : (resO r ins).mass <= 31 + masses ins := by
  have := masses_all 1 (r.a.path.map strV) (fun v hv => by obtain ⟨y, _, rfl⟩ := List.mem_map.1 hv; rw [strV_mass]; omega);rw [List.length_map] at this;rw [resO, objectOf, mass_mk, masses_cons, masses_cons, masses_cons, masses_cons, masses_cons, masses_nil, strV_mass, strV_mass, strV_mass, listOf, listOf, mass_mk, mass_mk];simp only [List.length_cons, List.length_nil]
  omega
theorem resV_snoc {g : List Rec} (h : g ≠ []) (r : Rec) : (resV (g ++ [r])).mass = (resV g).mass + (insV r).mass := by
  cases g with
  | nil => exact absurd rfl h
  | cons x t =>
    rw [resV, resV, List.cons_append, List.headD_cons, List.headD_cons, <-List.cons_append, List.map_append];simp only [resO, objectOf, mass_mk, masses_cons, listOf, masses_add, List.map_cons, List.map_nil, masses_nil]
    omega
theorem mass_add {gs : List (List Rec)} (ne : ∀ g ∈ gs, g ≠ []) {r : Rec} (h1 : r.a.path.length <= 20) (h2 : r.attrs.length <= 60) : masses ((addG gs r).map resV) <= masses (gs.map resV) + 158 := by
  have hi := insV_mass h2;unfold addG;split
  next i hp =>
    obtain ⟨hlt, _⟩ := place_some hp;have hd : gs.getD i [] = gs[i] := by rw [List.getD_eq_getElem?_getD, List.getElem?_eq_getElem hlt]; rfl
    rw [hd, List.map_set];have := masses_set (gs.map resV) i (by simpa using hlt) (resV (gs[i] ++ [r]));rw [List.getElem_map, resV_snoc (ne _ (List.getElem_mem hlt))] at this;omega
  next hp =>
    rw [List.map_append, masses_add, List.map_cons, List.map_nil, masses_cons, masses_nil];have := resO_mass h1 [insV r];rw [masses_cons, masses_nil] at this;have e : resV [r] = resO r [insV r] := rfl;rw [e];omega
theorem mass_fold : ∀ (m l : List Rec) (gs : List (List Rec)), GInv l gs -> (∀ r ∈ m, r.a.path.length <= 20 /\ r.attrs.length <= 60) -> masses ((m.foldl addG gs).map resV) <= masses (gs.map resV) + 158 * m.length
  | [], l, gs, _, _ => by simp
  | r :: m, l, gs, h, hm => by
    rw [List.foldl_cons, List.length_cons, Nat.mul_succ];have h1 := mass_fold m _ _ (ginv_add h r) fun x hx => hm x (by simp [hx]);have h2 := mass_add h.ne (hm r (by simp)).1 (hm r (by simp)).2;omega
theorem save_mass {s : Sta} (h : State.Good s.recs) (hn : s.recs.length <= 30) : (saveV s).mass <= 9000 := by
  have := mass_fold s.recs [] [] ⟨(fun g h => by cases h), (fun g h => by cases h), (fun r => ⟨fun h => (by cases h), fun ⟨g, h, _⟩ => (by cases h)⟩), Nat.le_refl _⟩ fun r hr => ⟨(right_parts (recB_right (h.r r hr))).2.2.2.2, (h.s r hr).m⟩;rw [List.map_nil, masses_nil] at this;rw [saveV, objectOf, mass_mk, masses_cons, masses_cons, masses_cons, masses_cons, masses_nil, strV_mass, numV_mass, numV_mass, listOf, mass_mk];simp only [List.length_cons, List.length_nil]
  unfold groups;omega
theorem deeps_le (d : Nat) : ∀ l : List JV, (∀ v ∈ l, v.deepN <= d) -> deepNs l <= d
  | [], _ => by rw [deepNs_nil]; omega
  | v :: t, h => by
    rw [deepNs_cons];have := deeps_le d t fun u hu => h u (by simp [hu]);have := h v (by simp);omega
theorem strV_deep (s : ByteArray) : (strV s).deepN = 1 := by rw [strV, deepN_mk, if_neg (by decide)]
theorem keyV_deep (a : Adr) : (keyV a).deepN = 1 := by
  unfold keyV;split
  · rw [numV, deepN_mk, if_neg (by decide)]
  · split
    · exact strV_deep _
    · rw [nullV, deepN_mk, if_neg (by decide)]
theorem insV_deep (r : Rec) : (insV r).deepN <= 3 := by
  rw [insV, (object_n _ _).1];have := deeps_le 2 [attV r.attrs, strV r.id, keyV r.a] fun v hv => by
    simp only [List.mem_cons, List.mem_nil_iff, or_false] at hv
    rcases hv with rfl | rfl | rfl
    · rw [attV, (object_n _ _).1];have := deeps_le 1 (r.attrs.map fun x => strV x.2) fun v hv => by obtain ⟨y, _, rfl⟩ := List.mem_map.1 hv; rw [strV_deep]; omega
      omega
    · rw [strV_deep]; omega
    · rw [keyV_deep]; omega
  omega
theorem resO_deep (r : Rec) (ins : List JV) (h : ∀ v ∈ ins, v.deepN <= 3) : (resO r ins).deepN <= 5 := by
  rw [resO, (object_n _ _).1];have := deeps_le 4 [listOf ins, listOf (r.a.path.map strV), strV r.a.name, strV r.prov, strV r.a.type] fun v hv => by
    simp only [List.mem_cons, List.mem_nil_iff, or_false] at hv
    rcases hv with rfl | rfl | rfl | rfl | rfl
    · rw [(list_n _).1];have := deeps_le 3 ins h;omega
    · rw [(list_n _).1];have := deeps_le 1 (r.a.path.map strV) fun v hv => by obtain ⟨y, _, rfl⟩ := List.mem_map.1 hv; rw [strV_deep]; omega
      omega
    all_goals rw [strV_deep]; omega
  omega
theorem resV_deep (g : List Rec) : (resV g).deepN <= 5 := resO_deep _ _ fun v hv => by obtain ⟨y, _, rfl⟩ := List.mem_map.1 hv; exact insV_deep y
theorem save_deep (s : Sta) : (saveV s).deepN <= 64 := by
  rw [saveV, (object_n _ _).1];have := deeps_le 6 [strV s.lin, listOf ((groups s.recs).map resV), numV s.serial, numV 4] fun v hv => by
    simp only [List.mem_cons, List.mem_nil_iff, or_false] at hv
    rcases hv with rfl | rfl | rfl | rfl
    · rw [strV_deep]; omega
    · rw [(list_n _).1];have := deeps_le 5 ((groups s.recs).map resV) fun v hv => by obtain ⟨y, _, rfl⟩ := List.mem_map.1 hv; exact resV_deep y
      omega
    all_goals rw [numV, deepN_mk, if_neg (by decide)]; omega
  omega
theorem strV_fine {s : ByteArray} (h : s.size <= 6000) : Fine (strV s) := .mk _ _ _ _ _ _ _ _ (by decide) h (fun x hx => by cases hx) (fun j h => absurd h (Nat.not_lt_zero _))
theorem ofD_len {n : Nat} (hn : n <= 18446744073709551615) : (ofN n).1.length <= 20 := by
  unfold ofN;split
  · simp
  · have hl := digits_le 19 n (by omega);have := congrArg List.length (trim_split (Lib.decDigits n) 48);rw [List.length_append] at this;simp only []
    unfold ofD;omega
theorem numV_fine {n : Nat} (hn : n <= 18446744073709551615) : Fine (numV n) := .mk _ _ _ _ _ _ _ _ (by have := ofD_len hn; rw [Lib.size_mk]; omega) (by decide) (fun x hx => by cases hx) (fun j h => absurd h (Nat.not_lt_zero _))
theorem keyV_fine {a : Adr} (hw : a.word.size <= 6000) (hp : a.place < 18446744073709551616) : Fine (keyV a) := by
  unfold keyV;split
  · exact numV_fine (by omega)
  · split
    · exact strV_fine hw
    · exact .mk _ _ _ _ _ _ _ _ (by decide) (by decide) (fun x hx => by cases hx) (fun j h => absurd h (Nat.not_lt_zero _))
theorem listOf_fine {vs : List JV} (h : ∀ v ∈ vs, Fine v) : Fine (listOf vs) := .mk _ _ _ _ _ _ _ _ (by decide) (by decide) (fun x hx => by cases hx) (fun j hj => h _ (List.getElem_mem hj))
theorem objectOf_fine {ks : List ByteArray} {vs : List JV} (hk : ∀ x ∈ ks, x.size <= 6000) (h : ∀ v ∈ vs, Fine v) : Fine (objectOf ks vs) := .mk _ _ _ _ _ _ _ _ (by decide) (by decide) hk (fun j hj => h _ (List.getElem_mem hj))
theorem insV_fine {r : Rec} (h : Small r) : Fine (insV r) := by
  refine objectOf_fine (by decide) fun v hv => ?_;simp only [List.mem_cons, List.mem_nil_iff, or_false] at hv
  rcases hv with rfl | rfl | rfl
  · refine objectOf_fine (fun x hx => ?_) (fun v hv => ?_)
    · obtain ⟨y, hy, rfl⟩ := List.mem_map.1 hx;exact h.at1 y hy
    · obtain ⟨y, hy, rfl⟩ := List.mem_map.1 hv;exact strV_fine (h.at2 y hy)
  · exact strV_fine h.id
  · exact keyV_fine (by have := h.wd; omega) h.p
theorem resO_fine {r : Rec} (h : Small r) {ins : List JV} (hi : ∀ v ∈ ins, Fine v) : Fine (resO r ins) := by
  refine objectOf_fine (by decide) fun v hv => ?_;simp only [List.mem_cons, List.mem_nil_iff, or_false] at hv
  rcases hv with rfl | rfl | rfl | rfl | rfl
  · exact listOf_fine hi
  · refine listOf_fine fun v hv => ?_;obtain ⟨y, hy, rfl⟩ := List.mem_map.1 hv;exact strV_fine (by have := h.s y hy; omega)
  · exact strV_fine (by have := h.nm; omega)
  · exact strV_fine h.pr
  · exact strV_fine (by have := h.ty; omega)
theorem save_fine {s : Sta} (h : State.Good s.recs) (hl : s.lin.size <= 6000) (hs : s.serial <= 18446744073709551615) : Fine (saveV s) := by
  have I := ginv s.recs;refine objectOf_fine (by decide) fun v hv => ?_;simp only [List.mem_cons, List.mem_nil_iff, or_false] at hv
  rcases hv with rfl | rfl | rfl | rfl
  · exact strV_fine hl
  · refine listOf_fine fun v hv => ?_;obtain ⟨g, hg, rfl⟩ := List.mem_map.1 hv;have hs : ∀ r ∈ g, Small r := fun r hr => h.s r ((I.mem r).2 ⟨g, hg, hr⟩);have hne := I.ne g hg
    cases g with
    | nil => exact absurd rfl hne
    | cons x t =>
      refine resO_fine (hs x (by simp)) fun v hv => ?_;obtain ⟨y, hy, rfl⟩ := List.mem_map.1 hv;exact insV_fine (hs y hy)
  · exact numV_fine hs
  · exact numV_fine (by omega)
theorem save_apart {a b : Sta} (ha : State.Good a.recs) (hb : State.Good b.recs) (la : Utf.validB a.lin.data.toList = true) (lb : Utf.validB b.lin.data.toList = true) (sa : a.serial <= 18446744073709551615) (sb : b.serial <= 18446744073709551615) : (saveV a).print false 0 = (saveV b).print false 0 ↔ a = b :=
  ⟨fun h => save_inj ha hb sa sb (print_inj (save_good ha la sa) (save_good hb lb sb) (save_deep a) (save_deep b) h), fun h => by rw [h]⟩
open Go.RowKit Go.Shelf Utf Strs Go.Proofs.YtfdjolfenghmaaaGreatDoor.Addr Go.Proofs.YtfdjolfenghmaaaGreatDoor.State
open Jdec (Raw JV IsV IsTexts Turn gb_set gb8 set8 val_ret val_cells own_new)
set_option maxRecDepth 100000
set_option maxHeartbeats 4000000
def strR (s : ByteArray) : Raw := ⟨4, false, false, ⟨#[]⟩, 0, s, none, 0, 0, none, 0, 0⟩
def objR (ka : Option Addr) (kn kc : Nat) (va : Option Addr) (vn vc : Nat) : Raw := ⟨6, false, false, ⟨#[]⟩, 0, ⟨#[]⟩, ka, kn, kc, va, vn, vc⟩
def lstR (va : Option Addr) (vn vc : Nat) : Raw := ⟨5, false, false, ⟨#[]⟩, 0, ⟨#[]⟩, none, 0, 0, va, vn, vc⟩
def numR (d : ByteArray) (e : Int) : Raw := ⟨3, false, false, d, e, ⟨#[]⟩, none, 0, 0, none, 0, 0⟩
def nullR : Raw := ⟨1, false, false, ⟨#[]⟩, 0, ⟨#[]⟩, none, 0, 0, none, 0, 0⟩
theorem strR_is (w : World) (A : Nat -> Prop) (s : ByteArray) : IsV w A (strR s) (strV s) := IsV.bare w A 4 false false ⟨#[]⟩ 0 s none none 0 0
theorem text_any (s : ByteArray) (w : World) : Hid (Calls Tryz.prog 28 #[.string s] w fun e w' => e = .returned (.agg #[.int .i64 4, .bool false, .bool false, .string ⟨#[]⟩, .int .i64 0, .string s, .slice none 0 0, .slice none 0 0]) /\ Below w.heap.size w w') := by
  show Calls _ _ _ _ _;obtain ⟨w1, hw1, V1, B1⟩ := own_new w Raw.zero
  dsimp only [Raw.zero] at hw1
  have hl := heap_lt V1.out;obtain ⟨⟨z0, z1, z2, z3, z4, z5, z6, z7⟩, y0, y1, y2, y3, y4, y5, y6, y7⟩ := val_cells V1.out;go_enter Tryz.func28, Tryz.ntmps28
  go_wp2_with fail
  refine val_ret (a := strR s) (b := w.heap.size) rfl (set8 V1.out (strR s)) rfl ?_;exact ⟨rfl, B1.out.grown (gb8 _ _ _ _ _ _ _ _ _ _) B1.out.size (fun x hx => by injection hx with hx; omega)⟩
theorem object_any (ka : Option Addr) (kn kc : Nat) (va : Option Addr) (vn vc : Nat) (w : World) : Hid (Calls Tryz.prog 27 #[.slice ka kn kc, .slice va vn vc] w fun e w' => e = .returned (.agg #[.int .i64 6, .bool false, .bool false, .string ⟨#[]⟩, .int .i64 0, .string ⟨#[]⟩, .slice ka kn kc, .slice va vn vc]) /\ Below w.heap.size w w') := by
  show Calls _ _ _ _ _;obtain ⟨w1, hw1, V1, B1⟩ := own_new w Raw.zero
  dsimp only [Raw.zero] at hw1
  obtain ⟨⟨z0, z1, z2, z3, z4, z5, z6, z7⟩, y0, y1, y2, y3, y4, y5, y6, y7⟩ := val_cells V1.out;go_enter Tryz.func27, Tryz.ntmps27
  go_wp2_with fail
  refine val_ret (a := objR ka kn kc va vn vc) (b := w.heap.size) rfl (set8 V1.out (objR ka kn kc va vn vc)) rfl ?_;exact ⟨rfl, B1.out.grown (gb8 _ _ _ _ _ _ _ _ _ _) B1.out.size (fun x hx => by injection hx with hx; omega)⟩
theorem infoNum : (Tryz.prog.info? 43).map (·.size) = some 3 := by kernel_rfl
theorem num_ret {F : Func} {p : Tmp} (hr : F.results = #[.cell p 43]) {tm : Array Value} {x y z : Value} {R : Ending -> World -> Prop} {w' : World} {b : Nat}
    (hb : w'.heap[b]? = some (.cells #[x, y, z] 43 (0, 0))) (hp : tm.getD p undef = .pointer (some ⟨b, 0, none⟩)) (hR : R (.returned (.agg #[x, y, z])) w') :
    bodyPost Tryz.prog F R Exit.ret { tmps := tm, defers := [] } w' :=
  bodyPost_ret (results_cell_row hr tm w' b _ _ _ _ hp hb Tryz.underlying43 rfl infoNum) rfl hR
theorem num_new (w : World) : ∃ w1, w.alloc (.cells #[.bool false, .string ⟨#[]⟩, .int .i64 0] 43) = w1 /\ Hid (w1.heap[w.heap.size]? = some (.cells #[.bool false, .string ⟨#[]⟩, .int .i64 0] 43 (0, 0))) /\ Hid (Below w.heap.size w w1) :=
  ⟨_, rfl, heap_alloc_new _ _, (Below.refl _ _).alloc (Nat.le_refl _) _⟩
theorem set3n {w : World} {b : Nat} {x y z : Value} {T : TypeId} (h : w.heap[b]? = some (.cells #[x, y, z] T (0, 0))) (a c d : Value) : (((w.setCell ⟨b, 0, none⟩ a).setCell ⟨b, 1, none⟩ c).setCell ⟨b, 2, none⟩ d).heap[b]? = some (.cells #[a, c, d] T (0, 0)) := by
  rw [heap_set_same (heap_set_same (heap_set_same h (i := 0) a) (i := 1) c) (i := 2) d]; simp
theorem ofD_empty {n : Nat} {q : ByteArray} (hq : (⟨(Lib.trimRightB (Lib.decDigits n) 48).toArray⟩ : ByteArray) = q) (b : Bool) (hb : q.toList.isEmpty = b) : (b = true -> ofD n = []) /\ (b = false -> ofD n ≠ []) := by
  rw [ByteArray.toList_eq, <-hq] at hb;simp only [] at hb
  unfold ofD
  cases b with
  | true => exact ⟨fun _ => List.isEmpty_iff.1 hb, fun h => by cases h⟩
  | false => exact ⟨(fun h => by cases h), fun _ e => by rw [e] at hb; cases hb⟩
def OfPost (n : Nat) (w : World) (e : Ending) (w' : World) : Prop := e = .returned (.agg #[.bool false, .string ⟨(ofN n).1.toArray⟩, .int .i64 ((ofN n).2 : Nat)]) /\ Below w.heap.size w w'
theorem OfPost.to {n : Nat} {w w' : World} {e : Ending} (h : OfPost n w e w') : ∃ (d : ByteArray) (x : Nat), e = .returned (.agg #[.bool false, .string d, .int .i64 x]) /\ Hid ((⟨(ofN n).1.toArray⟩ : ByteArray) = d /\ (ofN n).2 = x) /\ Hid (Below w.heap.size w w') := ⟨_, _, h.1, ⟨rfl, rfl⟩, h.2⟩
theorem of_any (n : Nat) (hn : n < 18446744073709551616) (w : World) (htab : Jdec.Pow10 w) : Hid (Calls Tryz.prog 29 #[.int .u64 n] w (OfPost n w)) := by
  show Calls _ _ _ _ _;obtain ⟨w1, hw1, V1, B1⟩ := num_new w;have HT := hZz (htab.stays B1.out);have HF := hZz (formatUint_any n hn w1 HT.out);obtain ⟨d, hd⟩ : ∃ d : ByteArray, (⟨(Lib.decDigits n).toArray⟩ : ByteArray) = d := ⟨_, rfl⟩;obtain ⟨q, hq⟩ : ∃ q : ByteArray, (⟨(Lib.trimRightB (Lib.decDigits n) 48).toArray⟩ : ByteArray) = q := ⟨_, rfl⟩;have hl := digits_le 19 n (by omega);have hds : d.size = (Lib.decDigits n).length := by rw [<-hd, Lib.size_mk]
  have hqs : q.size = (ofD n).length := by rw [<-hq, Lib.size_mk]; rfl
  have hle : (ofD n).length <= (Lib.decDigits n).length := by
    have := congrArg List.length (trim_split (Lib.decDigits n) 48);rw [List.length_append] at this;unfold ofD; omega
  rw [hd] at HF;have HTR : Hid (∀ W : World, Calls Tryz.prog 44 #[.string d, .string ⟨#[48]⟩] W fun e w' => e = .returned (.string q) /\ W = w') := fun W => by
    have := Tryz.strings_TrimRight_one d 48 (by decide) W (by omega);rw [show d.data.toList = Lib.decDigits n by rw [<-hd], hq] at this;exact this.mono fun e w' h => ⟨h.1, h.2.symm⟩
  obtain ⟨x, hx⟩ : ∃ x : Nat, x = d.size - q.size := ⟨_, rfl⟩;have hx2 : (d.size : Int) - (q.size : Int) = (x : Int) := by omega
  have hx3 : IntKind.i64.wrap (x : Int) = (x : Int) := IntWalk.i64_in _ (by omega);obtain ⟨b, hb⟩ : ∃ b, q.toList.isEmpty = b := ⟨_, rfl⟩;have HE := hZz (ofD_empty hq b hb);have HQ : Hid (ofN n = if b = true then ([], 0) else (q.data.toList, x)) := by
    unfold ofN Hid
    cases b with
    | true => rw [if_pos (HE.out.1 rfl), if_pos rfl]
    | false =>
      rw [if_neg (HE.out.2 rfl), if_neg (by decide)];refine Prod.ext ?_ ?_
      · show ofD n = _; rw [<-hq]; rfl
      · show (Lib.decDigits n).length - (ofD n).length = x; omega
  clear hd hq hds hqs hle hl hx HE htab;obtain ⟨⟨z0, z1, z2⟩, f0, f1, f2⟩ : (w1.cell? ⟨w.heap.size, 0, none⟩ = some (.bool false) /\ w1.cell? ⟨w.heap.size, 1, none⟩ = some (.string ⟨#[]⟩) /\ w1.cell? ⟨w.heap.size, 2, none⟩ = some (.int .i64 0)) /\ w1.frozen? ⟨w.heap.size, 0, none⟩ = false /\ w1.frozen? ⟨w.heap.size, 1, none⟩ = false /\ w1.frozen? ⟨w.heap.size, 2, none⟩ = false := ⟨⟨cell_of V1.out 0, cell_of V1.out 1, cell_of V1.out 2⟩, frozen_of V1.out 0, frozen_of V1.out 1, frozen_of V1.out 2⟩;clear z0 z1 z2 f0 f1 f2;go_enter Tryz.func29, Tryz.ntmps29
  go_wp2_with fail
  refine (Calls.mono HF.out ?_);rintro z w2 ⟨rfl, h2⟩;have B2 := bel B1 h2;have V2 := hst V1 h2;clear h2 hw1;go_wp2_with fail
  refine (Calls.mono (HTR.out w2) ?_);rintro z w3 ⟨rfl, rfl⟩;have z0 := cell_of V2.out 0;have z1 := cell_of V2.out 1;have z2 := cell_of V2.out 2;have f0 := frozen_of V2.out 0;have f1 := frozen_of V2.out 1;have f2 := frozen_of V2.out 2
  cases b with
  | true =>
    go_wp2_with fail
    refine num_ret (b := w.heap.size) rfl (set3n V2.out _ _ _) rfl ?_;refine ⟨?_, B2.out.grown (((gb_set _ _ _ _).trans (gb_set _ _ _ _)).trans (gb_set _ _ _ _)) B2.out.size (fun x hx => by injection hx with hx; omega)⟩;rw [HQ.out]; rfl
  | false =>
    go_wp2_with fail
    refine num_ret (b := w.heap.size) rfl (set3n V2.out _ _ _) rfl ?_;refine ⟨?_, B2.out.grown (((gb_set _ _ _ _).trans (gb_set _ _ _ _)).trans (gb_set _ _ _ _)) B2.out.size (fun x hx => by injection hx with hx; omega)⟩;rw [HQ.out]; rfl
end Go.Proofs.YtfdjolfenghmaaaGreatDoor.Save
namespace Go.Proofs
open Go.Shelf
def Tryz.lays156_ren : Go.Shelf.Ren := ⟨fun | 156 => 24 | 165 => 40 | 166 => 41 | 169 => 42 | 240 => 57 | 241 => 58 | 276 => 73 | 277 => 74 | n => n, fun | 31 => 33 | 9 => 9 | 3 => 3 | 4 => 4 | 0 => 0 | 20 => 20 | 72 => 72 | 76 => 84 | 70 => 69 | 37 => 70 | 75 => 83 | 127 => 101 | 164 => 120 | 5 => 5 | 80 => 86 | n => n, fun | n => n⟩
theorem Tryz.lays156 : Go.Proofs.Lays.n156 Tryz.prog Tryz.lays156_ren := {
 mixed := by kernel_rfl
 f156 := Tryz.func24.trans (congrArg some (by kernel_rfl))
 f165 := Tryz.func40.trans (congrArg some (by kernel_rfl))
 f166 := Tryz.func41.trans (congrArg some (by kernel_rfl))
 f169 := Tryz.func42.trans (congrArg some (by kernel_rfl))
 f240 := Tryz.func57.trans (congrArg some (by kernel_rfl))
 f241 := Tryz.func58.trans (congrArg some (by kernel_rfl))
 f276 := Tryz.func73.trans (congrArg some (by kernel_rfl))
 f277 := Tryz.func74.trans (congrArg some (by kernel_rfl))
 t0 := Tryz.underlying0
 a0 := Tryz.isAgg0
 z0 := Tryz.sizeOf0
 v0 := Tryz.zeroValue0
 t3 := Tryz.underlying3
 a3 := Tryz.isAgg3
 z3 := Tryz.sizeOf3
 v3 := Tryz.zeroValue3
 t4 := Tryz.underlying4
 a4 := Tryz.isAgg4
 z4 := Tryz.sizeOf4
 v4 := Tryz.zeroValue4
 t9 := Tryz.underlying9
 a9 := Tryz.isAgg9
 z9 := Tryz.sizeOf9
 v9 := Tryz.zeroValue9
 t20 := Tryz.underlying20
 a20 := Tryz.isAgg20
 z20 := Tryz.sizeOf20
 v20 := Tryz.zeroValue20
 t31 := Tryz.underlying33
 a31 := Tryz.isAgg33
 z31 := Tryz.sizeOf33
 v31 := Tryz.zeroValue33
 t37 := Tryz.underlying70
 a37 := Tryz.isAgg70
 z37 := Tryz.sizeOf70
 v37 := Tryz.zeroValue70
 t70 := Tryz.underlying69
 a70 := Tryz.isAgg69
 z70 := Tryz.sizeOf69
 v70 := Tryz.zeroValue69
 t72 := Tryz.underlying72
 a72 := Tryz.isAgg72
 z72 := Tryz.sizeOf72
 v72 := Tryz.zeroValue72
 t75 := Tryz.underlying83
 a75 := Tryz.isAgg83
 z75 := Tryz.sizeOf83
 v75 := Tryz.zeroValue83
 t76 := Tryz.underlying84
 a76 := Tryz.isAgg84
 z76 := Tryz.sizeOf84
 v76 := Tryz.zeroValue84
 t127 := Tryz.underlying101
 a127 := Tryz.isAgg101
 z127 := Tryz.sizeOf101
 v127 := Tryz.zeroValue101
 t164 := Tryz.underlying120
 a164 := Tryz.isAgg120
 z164 := Tryz.sizeOf120
 v164 := Tryz.zeroValue120 }
theorem Tryz.Builder_Extra_156 : Builder.Extra Tryz.prog Tryz.lays156_ren := {
 sizeBuilder := by kernel_rfl
 liesBuilder := by kernel_rfl
 t5 := Tryz.underlying5
 a5 := Tryz.isAgg5
 z5 := Tryz.sizeOf5
 v5 := Tryz.zeroValue5
 infoByte := by kernel_rfl
 cellsByte := by kernel_rfl
 sizeByte := by kernel_rfl
 neB5 := by decide }
open Go.RowKit in
theorem Tryz.strings_Join_none (a : Option Addr) (c : Nat) (sep : ByteArray) (w : World) :
  Calls Tryz.prog 24 #[.slice a 0 c, .string sep] w fun e w' => e = .returned (.string ⟨#[]⟩) ∧ w' = w := Any.strings_Join_none Tryz.lays156 Tryz.Builder_Extra_156 a c sep w
open Go.RowKit in
theorem Tryz.strings_Join (bk o c : Nat) (xs : List ByteArray) (sep : ByteArray) (w : World) (hcells : ∀ (j : Nat) x, xs[j]? = some x → w.cell? ⟨bk, o + j, none⟩ = some (.string x)) (hbk : bk < w.heap.size) (hN : xs.length <= 140737488355328) (hcap : xs.length <= c) (hlen : (Lib.join (xs.map (·.data.toList)) sep.data.toList).length <= 140737488355328) :
  Calls Tryz.prog 24 #[.slice (some ⟨bk, o, none⟩) xs.length c, .string sep] w fun e w' => e = .returned (.string ⟨(Lib.join (xs.map (·.data.toList)) sep.data.toList).toArray⟩) ∧ Below w.heap.size w w' := Any.strings_Join Tryz.lays156 Tryz.Builder_Extra_156 bk o c xs sep w hcells hbk hN hcap hlen
end Go.Proofs
namespace Go.Proofs.YtfdjolfenghmaaaGreatDoor.Save
open Go.RowKit Go.Shelf Utf Strs Go.Proofs.YtfdjolfenghmaaaGreatDoor.Addr Go.Proofs.YtfdjolfenghmaaaGreatDoor.State
open Jdec (Raw JV IsV IsTexts Turn gb_set gb_below gb_refl gb8 set8 val_ret val_cells own_new KidsA infoKid flat_cells_len flat_cells_at listOf objectOf row_setCells setL_mid)
/-! ## strings.Join -/
theorem lens_le (n : Nat) : ∀ l : List (List UInt8), (∀ x ∈ l, x.length <= n) -> Lib.lens l <= n * l.length
  | [], _ => by simp [Lib.lens]
  | x :: t, h => by
    have := lens_le n t fun y hy => h y (by simp [hy]);have := h x (by simp);simp only [Lib.lens, List.map_cons, List.sum_cons, List.length_cons, Nat.mul_succ] at *
    omega
theorem joinP_size {ks : List ByteArray} (hl : ks.length <= 20) (hs : ∀ x ∈ ks, x.size <= 3000) : (Lib.join (ks.map (·.data.toList)) [46]).length <= 60020 := by
  cases ks with
  | nil => rw [List.map_nil, Lib.join_nil]; simp
  | cons k t =>
    rw [List.map_cons, Lib.join_length];have := lens_le 3000 (k.data.toList :: t.map (·.data.toList)) fun x hx => by
      have hx : x ∈ (k :: t).map (·.data.toList) := hx;obtain ⟨y, hy, rfl⟩ := List.mem_map.1 hx;have := hs y hy
      simpa using this
    simp only [List.length_cons, List.length_map, List.length_nil] at *
    omega
theorem join_ok {ks : List ByteArray} {ka : Option Addr} {kc : Nat} {A : Nat -> Prop} {w : World} (h : IsTexts w A ka ks) (hc : ks.length <= kc) (hl : ks.length <= 20) (hs : ∀ x ∈ ks, x.size <= 3000) : Hid (Calls Tryz.prog 24 #[.slice ka ks.length kc, .string ⟨#[46]⟩] w fun e w' => e = .returned (.string (joinP ks)) /\ Below w.heap.size w w') := by
  rcases h with rfl | ⟨b, o, rfl, _, hb, hcs⟩
  · exact (Tryz.strings_Join_none ka kc ⟨#[46]⟩ w).mono fun e w' h => ⟨h.1, by rw [h.2]; exact Below.refl _ _⟩
  · have := joinP_size hl hs;exact Tryz.strings_Join b o kc ks ⟨#[46]⟩ w (fun j x hx => by
      obtain ⟨hj, rfl⟩ := List.getElem?_eq_some_iff.1 hx;exact hcs j hj) hb (by omega) hc (by show (Lib.join (ks.map (·.data.toList)) [46]).length <= _; omega)
theorem bel {w a b : World} (h : Hid (Below w.heap.size w a)) (e : Hid (Below a.heap.size a b)) : Hid (Below w.heap.size w b) := h.out.trans (e.out.mono h.out.size)
theorem hst {w a : World} {b : Nat} {o : Obj} (h : Hid (w.heap[b]? = some o)) (e : Hid (Below w.heap.size w a)) : Hid (a.heap[b]? = some o) := (e.out.block _ (heap_lt h.out)).trans h.out
/-! ## Rows of values -/
theorem KidsA.nil (w : World) (B : Nat) (C : Nat -> Prop) : KidsA w B C (.slice none 0 0) [] := ⟨[], rfl, World.ownsRow_nil _ _ _ _, fun i h => absurd h (Nat.not_lt_zero _)⟩
theorem KidsA.form {w : World} {B : Nat} {C : Nat -> Prop} {v : Value} {ts : List JV} (h : KidsA w B C v ts) : ∃ a c, v = .slice a ts.length c /\ ts.length <= c /\ (ts = [] ∨ ∃ g, a = some ⟨g, 0, none⟩) := by
  obtain ⟨rs, h1, h2, h3⟩ := h;rcases h2.2 with ⟨rfl, h0⟩ | ⟨g, cap, cur, rfl, _, _, hc, _⟩
  · exact ⟨none, 0, by rw [h0], by omega, .inl (List.length_eq_zero_iff.1 h0)⟩
  · exact ⟨_, _, rfl, hc, .inr ⟨g, rfl⟩⟩
theorem KidsA.lt {w : World} {B : Nat} {C : Nat -> Prop} {v : Value} {ts : List JV} (h : KidsA w B C v ts) : ∀ k, v.ownBlock = some k -> B <= k /\ k < w.heap.size := by
  obtain ⟨rs, h1, h2, h3⟩ := h;exact fun k hk => h2.lt k hk
theorem KidsA.below {w w' : World} {B : Nat} {C C' : Nat -> Prop} {v : Value} {ts : List JV} (h : KidsA w B C v ts) (hb : Below w.heap.size w w') (hC : ∀ b, C b -> b < w.heap.size -> C' b) : KidsA w' B C' v ts :=
  h.turn (gb_below hb none) (by cases v.ownBlock <;> simp) (fun b h1 h2 => ⟨by simp, hC b h1 h2⟩)
theorem cells_one (r : Raw) : ∀ u ∈ r.cells, u.oneCell' = true := by
  intro u hu
  simp only [Raw.cells, List.mem_cons, List.mem_nil_iff, or_false] at hu
  rcases hu with rfl | rfl | rfl | rfl | rfl | rfl | rfl | rfl <;> rfl
theorem cell_add (b o j : Nat) : (⟨b, o, none⟩ : Addr).add j = ⟨b, o + j, none⟩ := by unfold Addr.add; split <;> simp_all
theorem app_kids {w : World} {B : Nat} {C : Nat -> Prop} {v : Value} {ts : List JV} (h : KidsA w B C v ts) (b : Nat) (r : Raw) (t : JV) (hb : w.heap[b]? = some (.cells r.arr 46 (0, 0)))
    (hr : IsV w (fun x => C x /\ some x ≠ v.ownBlock) r t) (hn : ts.length <= 3000) (hB : B <= w.heap.size) :
    ∃ a c w', (Builtin.append_ #[44, 44] 44 #[v, .slice (some ⟨b, 0, none⟩) 1 1]).run Tryz.prog w = .ok (.slice a (ts.length + 1) c) w' /\ KidsA w' B C (.slice a (ts.length + 1) c) (ts ++ [t]) /\ w.grownBy w' v.ownBlock /\ ((Value.slice a (ts.length + 1) c).ownBlock = v.ownBlock ∨ (Value.slice a (ts.length + 1) c).ownBlock = some w.heap.size) := by
  obtain ⟨i0, hi, hz0, hz1, hz2⟩ := info_parts infoKid;obtain ⟨rs, h1, h2, h3⟩ := h;obtain ⟨v', w', hrun, hown, hg, _, hl⟩ := run_append_own_at (P := Tryz.prog) w B 44 44 46 i0 _ 8 _ Tryz.underlying44 hi hz0 hz1 hz2 rfl (by decide) v ts.length (rs.flatMap Raw.cells) h2 ⟨b, 0, none⟩ 1 1 r.cells rfl
    (fun j u hu => by rw [cell_add, Nat.zero_add, cell_of hb, <-hu]; simp [Raw.arr, Raw.cells]) (cells_one r) (by unfold maxLen; omega) (by omega) hB
  have hk := KidsA.snoc rs h1 h2 h3 hr hown hg hl;obtain ⟨a, c, rfl, _⟩ := KidsA.form hk;rw [List.length_append, List.length_singleton] at hk hrun hl;exact ⟨a, c, w', hrun, hk, hg, hl⟩
theorem put_last {w : World} {B : Nat} {C : Nat -> Prop} {g c : Nat} {ts : List JV} {t0 t : JV} {r : Raw} (h : KidsA w B C (.slice (some ⟨g, 0, none⟩) (ts.length + 1) c) (ts ++ [t0])) (hr : IsV w (fun x => C x /\ some x ≠ some g) r t) : KidsA (w.setCells g (ts.length * 8) r.cells) B C (.slice (some ⟨g, 0, none⟩) (ts.length + 1) c) (ts ++ [t]) /\ w.grownBy (w.setCells g (ts.length * 8) r.cells) (some g) := by
  obtain ⟨rs, h1, h2, h3⟩ := h;rw [List.length_append, List.length_singleton] at h1 h2;obtain ⟨rs, r0, rfl⟩ : ∃ rs' r0, rs = rs' ++ [r0] := by
    rcases List.eq_nil_or_concat rs with rfl | ⟨l, x, rfl⟩
    · simp at h1
    · exact ⟨l, x, by simp⟩
  have hl : rs.length = ts.length := by simpa using h1
  obtain ⟨h4, h5⟩ := row_setCells (w := w) r.cells (ts.length * 8) w _ h2;have e1 : (rs ++ [r0]).flatMap Raw.cells = rs.flatMap Raw.cells ++ r0.cells ++ [] := by simp
  have e2 := setL_mid r.cells r0.cells (rs.flatMap Raw.cells) [] rfl;rw [e1, <-hl, <-flat_cells_len, e2, flat_cells_len, hl] at h4;have T : Turn w (w.setCells g (ts.length * 8) r.cells) (fun x => C x /\ some x ≠ some g) (fun x => C x /\ some x ≠ some g) := ⟨h5.size, fun b hb hlt => ⟨h5.block b hlt hb.2, hb⟩⟩;refine ⟨⟨rs ++ [r], by simp [hl], ?_, fun i hi hi' => ?_⟩, h5⟩
  · rw [List.length_append, List.length_singleton]
    simpa using h4
  · by_cases hlt : i < rs.length
    · have := (h3 i (by simp; omega) (by simp; omega)).turn T;rw [List.getElem_append_left hlt] at this ⊢;rw [List.getElem_append_left (by omega)] at this ⊢;exact this
    · have he : i = rs.length := by simp at hi; omega
      subst he;have e3 : (rs ++ [r])[rs.length] = r := by simp
      have e4 : (ts ++ [t])[rs.length]'(by simp [hl]) = t := by simp [hl]
      rw [e3, e4];exact hr.turn T
theorem list_is {w : World} {B : Nat} {C : Nat -> Prop} {a : Option Addr} {c : Nat} {ts : List JV} (h : KidsA w B C (.slice a ts.length c) ts) (hC : ∀ k, (Value.slice a ts.length c).ownBlock = some k -> C k) : IsV w C (lstR a ts.length c) (listOf ts) := by
  obtain ⟨rs, h1, h2, h3⟩ := h;refine .mk (lstR a ts.length c) [] ts (fun i => rs.getD i Raw.zero) rfl rfl (.inl rfl) ?_ (fun i hi => ?_)
  · rcases h2.2 with ⟨hx, h0⟩ | ⟨g, cap, cur, hx, hg, _⟩
    · exact .inl (List.length_eq_zero_iff.1 h0)
    · injection hx with x1 x2 x3
      refine .inr ⟨g, 0, x1, hC g (by rw [x1]; rfl), (h2.lt g (by rw [x1]; rfl)).2, fun i hi j u hu => ?_⟩;have hir : i < rs.length := by omega
      have hu' : rs[i].cells[j]? = some u := by
        have : rs.getD i Raw.zero = rs[i] := by simp [List.getD, hir]
        rw [<-this]; exact hu
      have := h2.cells (g := g) (by rw [x1]; rfl) _ _ (flat_cells_at rs i hir j u hu');rw [Addr.add_lit, Nat.zero_add] at this;rw [Nat.zero_add]; exact this
  · have hir : i < rs.length := by omega
    have : rs.getD i Raw.zero = rs[i] := by simp [List.getD, hir]
    show IsV w C (rs.getD i Raw.zero) ts[i];rw [this];exact (h3 i hir hi).turn (Turn.mono w (fun b hb _ => hb.1))
end Go.Proofs.YtfdjolfenghmaaaGreatDoor.Save
