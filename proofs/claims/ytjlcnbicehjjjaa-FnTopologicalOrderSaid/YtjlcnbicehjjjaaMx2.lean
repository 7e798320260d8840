/-
  The program's IsReduced: its contract. No condition.
-/
import Derived.Test.YtjlcnbicehjjjaaMx1
namespace Go.Proofs.Ytjlcnbicehjjjaa
open Go.ChangeShapes Go.WideShapes Go.ChangeAt Go.RowKit
set_option linter.unusedVariables false
set_option maxRecDepth 100000

def redB (m : List (List Int)) : Bool := mtxB m && rdB m
theorem redB_no {m : List (List Int)} (h : mtxB m = false) : redB m = false := by unfold redB; rw [h]; rfl
theorem redB_row {m : List (List Int)} {k : Nat} (hk : k < m.length) (h : rowB m k = false) : redB m = false := by
  unfold redB
  have : rdB m = false := by
    unfold rdB
    rw [decide_eq_false_iff_not]
    intro hall
    rw [hall k hk] at h
    cases h
  rw [this, Bool.and_false]
theorem redB_yes {m : List (List Int)} (h : mtxB m = true) (hr : ∀ i, i < m.length → rowB m i = true) : redB m = true := by
  unfold redB rdB; rw [h, decide_eq_true hr]; rfl
/-- The pivot of the row before row k, as the program keeps it. -/
def lastV (m : List (List Int)) (k : Nat) : Int := if k = 0 then -1 else (lead (rw_ m (k - 1)) : Int)
theorem last_le {m : List (List Int)} {k : Nat} (h : ¬ (lead (rw_ m k) < (rw_ m k).length ∧ (k = 0 ∨ lead (rw_ m (k - 1)) < lead (rw_ m k)))) : decide (leadV (rw_ m k) ≤ lastV m k) = true := by
  rw [decide_eq_true_eq]
  unfold leadV lastV
  split
  · split <;> omega
  · split <;> omega
theorem last_gt {m : List (List Int)} {k : Nat} (h : lead (rw_ m k) < (rw_ m k).length ∧ (k = 0 ∨ lead (rw_ m (k - 1)) < lead (rw_ m k))) : decide ((lead (rw_ m k) : Int) ≤ lastV m k) = false := by
  rw [decide_eq_false_iff_not]
  unfold lastV
  split <;> omega
theorem row_piv {m : List (List Int)} {k : Nat} (h : ¬ (lead (rw_ m k) < (rw_ m k).length ∧ (k = 0 ∨ lead (rw_ m (k - 1)) < lead (rw_ m k)))) : rowB m k = false := by
  cases hr : rowB m k
  · rfl
  · exfalso
    simp only [rowB, Bool.and_eq_true, decide_eq_true_eq] at hr
    exact h ⟨hr.1.1.1, hr.1.1.2⟩
theorem row_one {m : List (List Int)} {k : Nat} (h : (ent (rw_ m k) (lead (rw_ m k)) != 1) = true) : rowB m k = false := by
  cases hr : rowB m k
  · rfl
  · exfalso
    simp only [rowB, Bool.and_eq_true, decide_eq_true_eq, beq_iff_eq] at hr
    simp at h
    exact h hr.1.2
theorem row_col {m : List (List Int)} {k q : Nat} (hq : q < m.length) (hne : q ≠ k) (h : (ent (rw_ m q) (lead (rw_ m k)) != 0) = true) : rowB m k = false := by
  cases hr : rowB m k
  · rfl
  · exfalso
    simp only [rowB, Bool.and_eq_true, decide_eq_true_eq] at hr
    simp at h
    exact h (hr.2 q hq hne)
theorem row_yes {m : List (List Int)} {k : Nat} (h : lead (rw_ m k) < (rw_ m k).length ∧ (k = 0 ∨ lead (rw_ m (k - 1)) < lead (rw_ m k))) (h1 : (ent (rw_ m k) (lead (rw_ m k)) != 1) = false) (hc : ∀ i, i < m.length → i ≠ k → ent (rw_ m i) (lead (rw_ m k)) = 0) : rowB m k = true := by
  simp only [rowB, Bool.and_eq_true, decide_eq_true_eq, beq_iff_eq]
  exact ⟨⟨h, by simpa using h1⟩, hc⟩
theorem lastV_succ (m : List (List Int)) (k : Nat) : lastV m (k + 1) = (lead (rw_ m k) : Int) := by unfold lastV; rw [if_neg (by omega)]; rfl

end Go.Proofs.Ytjlcnbicehjjjaa
