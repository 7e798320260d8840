/-
  The elimination of the reference (l7Reduce), RowReduce, Rank, IsReduced: contracts. Condition: a valid matrix, of at most 2^20 rows.
-/
import Derived.Test.YtjlcnbicehjjjaaMx3
import Derived.Deep.RegionHeld3
import Derived.Deep.RegionWith
namespace Go.Proofs.Ytjlcnbicehjjjaa
open Go.ChangeShapes Go.WideShapes Go.ChangeAt Go.RowKit
set_option linter.unusedVariables false
set_option maxRecDepth 100000

/-- The first j rows are cleared. -/
def clrTo (S : List (List Int)) (t k j : Nat) : List (List Int) := S.mapIdx fun i r => if i < j then (if i = t then r else clr1 r (rw_ S t) k) else r
theorem clrTo_len (S : List (List Int)) (t k j : Nat) : (clrTo S t k j).length = S.length := by simp [clrTo]
theorem clrTo_row {S : List (List Int)} {t k j i : Nat} (h : i < S.length) : rw_ (clrTo S t k j) i = if i < j then (if i = t then rw_ S i else clr1 (rw_ S i) (rw_ S t) k) else rw_ S i := by
  apply rw_in; simp [clrTo, List.getElem?_mapIdx, rw_get h]
theorem clrTo_zero (S : List (List Int)) (t k : Nat) : clrTo S t k 0 = S := by
  apply mat_ext (clrTo_len _ _ _ _)
  intro i hi
  rw [clrTo_len] at hi
  rw [clrTo_row hi, if_neg (by omega)]
theorem clrTo_all (S : List (List Int)) (t k : Nat) : clrTo S t k S.length = clr S t k := by
  apply mat_ext (by rw [clrTo_len, clr_len])
  intro i hi
  rw [clrTo_len] at hi
  rw [clrTo_row hi, if_pos hi]
  by_cases e : i = t
  · subst e; rw [if_pos rfl, clr_t]
  · rw [if_neg e, clr_o hi e]
theorem clrTo_same {S : List (List Int)} {t k j : Nat} (h : j = t ∨ ent (rw_ S j) k = 0) : clrTo S t k (j + 1) = clrTo S t k j := by
  apply mat_ext (by rw [clrTo_len, clrTo_len])
  intro i hi
  rw [clrTo_len] at hi
  rw [clrTo_row hi, clrTo_row hi]
  rcases Nat.lt_trichotomy i j with h1 | h1 | h1
  · rw [if_pos (by omega), if_pos h1]
  · subst h1
    rw [if_pos (show i < i + 1 by omega), if_neg (show ¬ i < i by omega)]
    by_cases e : i = t
    · rw [if_pos e]
    · rw [if_neg e]
      rcases h with h | h
      · exact absurd h e
      · exact clr1_0 h
  · rw [if_neg (by omega), if_neg (by omega)]
theorem clrTo_step {S : List (List Int)} {t k j : Nat} (hj : j < S.length) (hne : j ≠ t) (hx : (ent (rw_ S j) k != 0) = true) : clrTo S t k (j + 1) = (clrTo S t k j).set j (addsZ (rw_ S j) (rw_ S t) (1019 - ent (rw_ S j) k)) := by
  apply mat_ext (by rw [List.length_set, clrTo_len, clrTo_len])
  intro i hi
  rw [clrTo_len] at hi
  rw [clrTo_row hi]
  by_cases e : i = j
  · subst e
    rw [if_pos (by omega), if_neg hne]
    have : rw_ ((clrTo S t k i).set i (addsZ (rw_ S i) (rw_ S t) (1019 - ent (rw_ S i) k))) i = addsZ (rw_ S i) (rw_ S t) (1019 - ent (rw_ S i) k) := by
      apply rw_in; rw [List.getElem?_set_self (by rw [clrTo_len]; exact hi)]
    rw [this]
    unfold clr1
    rw [hx]; rfl
  · have : rw_ ((clrTo S t k j).set j (addsZ (rw_ S j) (rw_ S t) (1019 - ent (rw_ S j) k))) i = rw_ (clrTo S t k j) i := by
      unfold rw_ List.getD; rw [List.getElem?_set_ne (Ne.symm e)]
    rw [this, clrTo_row hi]
    rcases Nat.lt_trichotomy i j with h1 | h1 | h1
    · rw [if_pos (by omega), if_pos h1]
    · omega
    · rw [if_neg (by omega), if_neg (by omega)]
theorem redS_full {m : List (List Int)} {k : Nat} (h : (redS m k).2 = m.length) : ∀ j, k ≤ j → redS m j = redS m k := by
  intro j hj
  induction j with
  | zero => have : k = 0 := by omega
            subst this; rfl
  | succ j ih =>
    rcases Nat.lt_or_eq_of_le hj with h1 | h1
    · have e := ih (by omega)
      show stp (redS m j) j = _
      rw [e]
      unfold stp
      rw [if_neg]
      have := piv_ge (redS m k).1 (redS m k).2 j
      rw [redS_len]
      omega
    · rw [h1]
theorem piv_is {rows : List (List Int)} {t k q : Nat} (htq : t ≤ q) (hq : q < rows.length) (h0 : ∀ i, t ≤ i → i < q → ent (rw_ rows i) k = 0) (h : (ent (rw_ rows q) k == 0) = false) : piv rows t k = q := by
  have hne : ent (rw_ rows q) k ≠ 0 := by simpa using h
  rcases Nat.lt_trichotomy (piv rows t k) q with h1 | h1 | h1
  · exact absurd (h0 _ (piv_ge _ _ _) h1) (piv_hit (by omega))
  · exact h1
  · exact absurd (piv_before htq h1 hq) hne
theorem piv_none {rows : List (List Int)} {t k : Nat} (h0 : ∀ i, t ≤ i → i < rows.length → ent (rw_ rows i) k = 0) : ¬ piv rows t k < rows.length :=
  fun h => piv_hit h (h0 _ (piv_ge _ _ _) h)
theorem pair_rows {c : Nat} {a b : List Int} (ha : Row c a) (hb : Row c b) (hc : c ≤ 40) : pairB a b = true := by
  unfold pairB
  rw [row_vecB ha hc, row_vecB hb hc, ha.1, hb.1]
  simp
theorem redS_hit {m : List (List Int)} {k p : Nat} (h : piv (redS m k).1 (redS m k).2 k = p) (hp : p < m.length) : redS m (k + 1) = (clr (swp (redS m k).1 (redS m k).2 p k) (redS m k).2 k, (redS m k).2 + 1) := by
  show stp (redS m k) k = _
  unfold stp
  rw [h, redS_len, if_pos hp]
theorem redS_miss {m : List (List Int)} {k : Nat} (h : ¬ piv (redS m k).1 (redS m k).2 k < (redS m k).1.length) : redS m (k + 1) = redS m k := by
  show stp (redS m k) k = _
  unfold stp
  rw [if_neg h]
end Go.Proofs.Ytjlcnbicehjjjaa
