/-
  The field and the group: contracts of IsElement, powMod, IsGroupElement, of the program and of the reference. No condition but for powMod's range.
-/
import Derived.Test.YtmngpenoijmgiaaBits
import Derived.Test.YtmngpenoijmgiaaNum
import Derived.Deep.LoopGhost
namespace Go.Proofs.Ytmngpenoijmgiaa
open Go.ChangeShapes Go.WideShapes Go.ChangeAt Go.RowKit
set_option linter.unusedVariables false
set_option maxRecDepth 100000


/-- A field element. -/
def elB (x : Int) : Bool := decide (0 ≤ x ∧ x ≤ 1018)
theorem elB_yes {x : Int} (h : 0 ≤ x ∧ x ≤ 1018) : elB x = true := decide_eq_true h
theorem elB_no {x : Int} (h : x < 0 ∨ 1018 < x) : elB x = false := decide_eq_false (by omega)
theorem elB_facts {x : Int} (h : elB x = true) : 0 ≤ x ∧ x ≤ 1018 := of_decide_eq_true h
/-- A group element. -/
def grB (x : Int) : Bool := decide (1 ≤ x ∧ x ≤ 2038) && (x ^ 1019 % 2039 == 1)
theorem grB_no {x : Int} (h : x < 1 ∨ 2038 < x) : grB x = false := by unfold grB; rw [decide_eq_false (by omega)]; rfl
theorem grB_in {x : Int} (h : 1 ≤ x ∧ x ≤ 2038) : grB x = (x ^ 1019 % 2039 == 1) := by unfold grB; rw [decide_eq_true h]; rfl
theorem grB_facts {x : Int} (h : grB x = true) : (1 ≤ x ∧ x ≤ 2038) ∧ x ^ 1019 % 2039 = 1 := by
  unfold grB at h
  rw [Bool.and_eq_true, decide_eq_true_eq, beq_iff_eq] at h
  exact h
theorem elI (x : Int) (w : World) : Calls Try.prog 157 #[.int .i64 x] w fun e w' => e = .returned (.bool (elB x)) ∧ w = w' := by
  by_cases h : 0 ≤ x ∧ x ≤ 1018
  · rw [elB_yes h]
    go_enter Try.func157, Try.ntmps157
    go_wp2_with fail
    refine (inR_yes _ _ _ _ (by omega) (by omega)).mono ?_
    rintro e w1 ⟨rfl, rfl⟩
    go_wp2
    go_ret
    exact ⟨rfl, rfl⟩
  · rw [elB_no (by omega)]
    go_enter Try.func157, Try.ntmps157
    go_wp2_with fail
    refine (inR_no _ _ _ _ (by omega)).mono ?_
    rintro e w1 ⟨rfl, rfl⟩
    go_wp2
    go_ret
    exact ⟨rfl, rfl⟩
theorem elS (x : Int) (w : World) : Calls Try.prog 155 #[.int .i64 x] w fun e w' => e = .returned (.bool (elB x)) ∧ w = w' := by
  by_cases h : 0 ≤ x ∧ x ≤ 1018
  · rw [elB_yes h]
    go_enter Try.func155, Try.ntmps155
    go_wp2_with fail
    refine (l1In_yes _ _ _ _ (by omega) (by omega)).mono ?_
    rintro e w1 ⟨rfl, rfl⟩
    go_wp2
    go_ret
    exact ⟨rfl, rfl⟩
  · rw [elB_no (by omega)]
    go_enter Try.func155, Try.ntmps155
    go_wp2_with fail
    refine (l1In_no _ _ _ _ (by omega)).mono ?_
    rintro e w1 ⟨rfl, rfl⟩
    go_wp2
    go_ret
    exact ⟨rfl, rfl⟩
end Go.Proofs.Ytmngpenoijmgiaa
