/-
  Contracts of IsValidFeedback, of the program and of the reference, and of toFeedback. No condition.
-/
import Derived.Test.YtchodlfkoafeaaaWords
namespace Go.Proofs.Ytchodlfkoafeaaa
open Go.ChangeShapes Go.WideShapes Go.ChangeAt Go.RowKit
set_option linter.unusedVariables false

abbrev fbk (s g m : Int) : Value := .agg #[.int .i64 s, .int .i64 g, .int .i64 m]
def fbB (s g m : Int) : Bool := decide (0 ≤ s ∧ s ≤ 7 ∧ 0 ≤ g ∧ g ≤ 1000000000000 ∧ 0 ≤ m ∧ m ≤ 8)
theorem fbB_no {s g m : Int} (h : ¬ (0 ≤ s ∧ s ≤ 7 ∧ 0 ≤ g ∧ g ≤ 1000000000000 ∧ 0 ≤ m ∧ m ≤ 8)) : fbB s g m = false := decide_eq_false h
theorem fbB_yes {s g m : Int} (h : 0 ≤ s ∧ s ≤ 7 ∧ 0 ≤ g ∧ g ≤ 1000000000000 ∧ 0 ≤ m ∧ m ≤ 8) : fbB s g m = true := decide_eq_true h
theorem fbB_facts {s g m : Int} (h : fbB s g m = true) : 0 ≤ s ∧ s ≤ 7 ∧ 0 ≤ g ∧ g ≤ 1000000000000 ∧ 0 ≤ m ∧ m ≤ 8 := of_decide_eq_true h
set_option maxHeartbeats 400000 in
theorem fbI_any (s g m : Int) (w : World) : Calls Try.prog 51 #[fbk s g m] w fun e w' => e = .returned (.bool (fbB s g m)) ∧ Bel w w' := by
  by_cases h1 : s < 0 ∨ 7 < s
  · rw [fbB_no (by omega)]
    go_enter Try.func51, Try.ntmps51
    go_wp2_with fail
    refine (inR_no _ _ _ _ (by omega)).mono ?_
    rintro e w1 ⟨rfl, rfl⟩
    go_wp2
    go_ret
    exact ⟨rfl, (Bel.refl _).alloc _⟩
  by_cases h2 : g < 0 ∨ 1000000000000 < g
  · rw [fbB_no (by omega)]
    go_enter Try.func51, Try.ntmps51
    go_wp2_with fail
    refine (inR_yes _ _ _ _ (by omega) (by omega)).mono ?_
    rintro e w1 ⟨rfl, rfl⟩
    go_wp2_with fail
    refine (inR_no _ _ _ _ (by omega)).mono ?_
    rintro e w1 ⟨rfl, rfl⟩
    go_wp2
    go_ret
    exact ⟨rfl, (Bel.refl _).alloc _⟩
  by_cases h3 : m < 0 ∨ 8 < m
  · rw [fbB_no (by omega)]
    go_enter Try.func51, Try.ntmps51
    go_wp2_with fail
    refine (inR_yes _ _ _ _ (by omega) (by omega)).mono ?_
    rintro e w1 ⟨rfl, rfl⟩
    go_wp2_with fail
    refine (inR_yes _ _ _ _ (by omega) (by omega)).mono ?_
    rintro e w1 ⟨rfl, rfl⟩
    go_wp2_with fail
    refine (inR_no _ _ _ _ (by omega)).mono ?_
    rintro e w1 ⟨rfl, rfl⟩
    go_wp2
    go_ret
    exact ⟨rfl, (Bel.refl _).alloc _⟩
  · rw [fbB_yes (by omega)]
    go_enter Try.func51, Try.ntmps51
    go_wp2_with fail
    refine (inR_yes _ _ _ _ (by omega) (by omega)).mono ?_
    rintro e w1 ⟨rfl, rfl⟩
    go_wp2_with fail
    refine (inR_yes _ _ _ _ (by omega) (by omega)).mono ?_
    rintro e w1 ⟨rfl, rfl⟩
    go_wp2_with fail
    refine (inR_yes _ _ _ _ (by omega) (by omega)).mono ?_
    rintro e w1 ⟨rfl, rfl⟩
    go_wp2
    go_ret
    exact ⟨rfl, (Bel.refl _).alloc _⟩
set_option maxHeartbeats 400000 in
theorem fbS_any (s g m : Int) (w : World) : Calls Try.prog 23 #[fbk s g m] w fun e w' => e = .returned (.bool (fbB s g m)) ∧ Bel w w' := by
  by_cases h1 : s < 0 ∨ 7 < s
  · rw [fbB_no (by omega)]
    go_enter Try.func23, Try.ntmps23
    go_wp2_with fail
    refine (l1In_no _ _ _ _ (by omega)).mono ?_
    rintro e w1 ⟨rfl, rfl⟩
    go_wp2
    go_ret
    exact ⟨rfl, (Bel.refl _).alloc _⟩
  by_cases h2 : g < 0 ∨ 1000000000000 < g
  · rw [fbB_no (by omega)]
    go_enter Try.func23, Try.ntmps23
    go_wp2_with fail
    refine (l1In_yes _ _ _ _ (by omega) (by omega)).mono ?_
    rintro e w1 ⟨rfl, rfl⟩
    go_wp2_with fail
    refine (l1In_no _ _ _ _ (by omega)).mono ?_
    rintro e w1 ⟨rfl, rfl⟩
    go_wp2
    go_ret
    exact ⟨rfl, (Bel.refl _).alloc _⟩
  by_cases h3 : m < 0 ∨ 8 < m
  · rw [fbB_no (by omega)]
    go_enter Try.func23, Try.ntmps23
    go_wp2_with fail
    refine (l1In_yes _ _ _ _ (by omega) (by omega)).mono ?_
    rintro e w1 ⟨rfl, rfl⟩
    go_wp2_with fail
    refine (l1In_yes _ _ _ _ (by omega) (by omega)).mono ?_
    rintro e w1 ⟨rfl, rfl⟩
    go_wp2_with fail
    refine (l1In_no _ _ _ _ (by omega)).mono ?_
    rintro e w1 ⟨rfl, rfl⟩
    go_wp2
    go_ret
    exact ⟨rfl, (Bel.refl _).alloc _⟩
  · rw [fbB_yes (by omega)]
    go_enter Try.func23, Try.ntmps23
    go_wp2_with fail
    refine (l1In_yes _ _ _ _ (by omega) (by omega)).mono ?_
    rintro e w1 ⟨rfl, rfl⟩
    go_wp2_with fail
    refine (l1In_yes _ _ _ _ (by omega) (by omega)).mono ?_
    rintro e w1 ⟨rfl, rfl⟩
    go_wp2_with fail
    refine (l1In_yes _ _ _ _ (by omega) (by omega)).mono ?_
    rintro e w1 ⟨rfl, rfl⟩
    go_wp2
    go_ret
    exact ⟨rfl, (Bel.refl _).alloc _⟩
set_option maxHeartbeats 400000 in
theorem toFb_any (s g m : Int) (w : World) : Calls Try.prog 15 #[fbk s g m] w fun e w' => e = .returned (fbk s g m) ∧ Bel w w' := by
  go_enter Try.func15, Try.ntmps15
  go_wp2
  refine bodyPost_ret (v := fbk s g m) (by simp [results, Try.results15, go_sem]) rfl ⟨rfl, ?_⟩
  repeat (first | exact Bel.refl _ | apply Bel.alloc)
end Go.Proofs.Ytchodlfkoafeaaa
