/- tabulariumref08.room, Great: how great a value is. -/
import Derived.Test.YtehffmcfmdjknaaGreatDoorRigG
namespace Go.Proofs.YtehffmcfmdjknaaGreatDoor.Jdec
open Go.RowKit Go.Proofs.YtehffmcfmdjknaaGreatDoor.Strs
set_option linter.unusedVariables false
set_option linter.unusedSimpArgs false
set_option maxRecDepth 100000

/-- What the keys leave; nothing, if one of them is too long. -/
def keysRoom : List ByteArray → Int → Option Int
  | [], l => some l
  | k :: t, l => if l < 0 then some l else if 2000 < k.size then none else keysRoom t (l - ((k.size / 50 : Nat) : Int))
mutual
/-- How much more a value may be. -/
def JV.room : JV → Int → Int → Int
  | .mk k is ng d e s ks vs, dp, l =>
    if 70 < dp ∨ 2000 < s.size ∨ 1200 < d.size then -1
    else match keysRoom ks (l - 1 - (ks.length : Int) - (((s.size + d.size) / 50 : Nat) : Int)) with
      | none => -1
      | some l2 => roomsL vs (dp + 1) l2
def roomsL : List JV → Int → Int → Int
  | [], _, l => l
  | v :: t, dp, l => if l < 0 then l else roomsL t dp (v.room dp l)
end
theorem roomsL_nil (dp l : Int) : roomsL [] dp l = l := by rw [roomsL]
theorem roomsL_neg (vs : List JV) (dp l : Int) (h : l < 0) : roomsL vs dp l = l := by
  cases vs with
  | nil => exact roomsL_nil dp l
  | cons v t => rw [roomsL, if_pos h]
theorem roomsL_next (v : JV) (t : List JV) (dp l : Int) (h : 0 ≤ l) : roomsL (v :: t) dp l = roomsL t dp (v.room dp l) := by rw [roomsL, if_neg (by omega)]
theorem keysRoom_neg (ks : List ByteArray) (l : Int) (h : l < 0) : keysRoom ks l = some l := by
  cases ks with
  | nil => rfl
  | cons v t => rw [keysRoom, if_pos h]
theorem keysRoom_le : ∀ (ks : List ByteArray) (l r : Int), keysRoom ks l = some r → r ≤ l
  | [], l, r, h => by injection h with h; omega
  | k :: t, l, r, h => by
    unfold keysRoom at h
    split at h
    · injection h with h; omega
    · split at h
      · cases h
      · have := keysRoom_le t _ r h; omega
/-- Its lists aren't longer, and its texts no greater, than what lies in memory is. -/
inductive Held (N : Nat) : JV → Prop where
  | mk (k : Int) (i n : Bool) (d : ByteArray) (e : Int) (s : ByteArray) (ks : List ByteArray) (vs : List JV) : d.size ≤ N → s.size ≤ N → ks.length ≤ N → vs.length ≤ N → (∀ x ∈ ks, x.size ≤ N) → (∀ j (h : j < vs.length), Held N vs[j]) → Held N (.mk k i n d e s ks vs)
mutual
theorem room_le (v : JV) (dp l : Int) (h : 0 ≤ l) : v.room dp l ≤ l := by
  cases v with
  | mk k is ng d e s ks vs =>
    rw [JV.room]
    split
    · omega
    · cases hk : keysRoom ks (l - 1 - (ks.length : Int) - (((s.size + d.size) / 50 : Nat) : Int)) with
      | none => simp only; omega
      | some r =>
        simp only
        have h1 := keysRoom_le _ _ _ hk
        have h2 := rooms_le vs (dp + 1) r
        omega
theorem rooms_le (vs : List JV) (dp l : Int) : roomsL vs dp l ≤ l := by
  cases vs with
  | nil => rw [roomsL_nil]; exact Int.le_refl _
  | cons v t =>
    by_cases h : l < 0
    · rw [roomsL_neg _ _ _ h]; exact Int.le_refl _
    · rw [roomsL_next _ _ _ _ (by omega)]
      have h1 := room_le v dp l (by omega)
      have h2 := rooms_le t dp (v.room dp l)
      omega
end

end Go.Proofs.YtehffmcfmdjknaaGreatDoor.Jdec
