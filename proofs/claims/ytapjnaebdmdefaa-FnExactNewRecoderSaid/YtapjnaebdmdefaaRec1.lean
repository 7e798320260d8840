/-
  NewRecoder: contracts of NewRecoder, of the program and of the reference, and of the laws' helpers at a recoder without packets. No condition.
-/
import Derived.Test.YtapjnaebdmdefaaMani2
namespace Go.Proofs.Ytapjnaebdmdefaa
open Go.ChangeShapes Go.WideShapes Go.ChangeAt Go.RowKit
set_option linter.unusedVariables false
set_option maxRecDepth 100000

abbrev rec0 (a b c : Int) : Value := .agg #[.int .i64 a, .int .i64 b, .int .i64 c, .slice none 0 0, .int .i64 0]
def recV (a b c : Int) : Int × Int × Int := if fmtB a b c = true then (a, b, c) else (0, 0, 0)
set_option maxHeartbeats 400000 in
theorem newRI (a b c : Int) (w : World) : Calls Try.prog 47 #[.int .i64 a, .int .i64 b, .int .i64 c] w fun e w' => e = .returned (rec0 (recV a b c).1 (recV a b c).2.1 (recV a b c).2.2) ∧ Bel w w' := by
  cases h : fmtB a b c
  · have HR : Hid (recV a b c = (0, 0, 0)) := if_neg (by simp [h])
    go_enter Try.func47, Try.ntmps47
    go_wp2_with fail
    refine (fmtI a b c _).mono ?_
    rintro e w1 ⟨rfl, rfl⟩
    rw [h]
    go_wp2
    refine bodyPost_ret (v := rec0 0 0 0) (by simp [results, Try.results47, go_sem]) rfl ⟨by rw [HR.out], ?_⟩
    repeat (first | exact Bel.refl _ | apply Bel.alloc)
  · have HR : Hid (recV a b c = (a, b, c)) := if_pos h
    go_enter Try.func47, Try.ntmps47
    go_wp2_with fail
    refine (fmtI a b c _).mono ?_
    rintro e w1 ⟨rfl, rfl⟩
    rw [h]
    go_wp2
    refine bodyPost_ret (v := rec0 a b c) (by simp [results, Try.results47, go_sem]) rfl ⟨by rw [HR.out], ?_⟩
    repeat (first | exact Bel.refl _ | apply Bel.alloc)
set_option maxHeartbeats 400000 in
theorem newRS (a b c : Int) (w : World) : Calls Try.prog 46 #[.int .i64 a, .int .i64 b, .int .i64 c] w fun e w' => e = .returned (rec0 (recV a b c).1 (recV a b c).2.1 (recV a b c).2.2) ∧ Bel w w' := by
  cases h : fmtB a b c
  · have HR : Hid (recV a b c = (0, 0, 0)) := if_neg (by simp [h])
    go_enter Try.func46, Try.ntmps46
    go_wp2_with fail
    refine (fmtS a b c _).mono ?_
    rintro e w1 ⟨rfl, rfl⟩
    rw [h]
    go_wp2
    refine bodyPost_ret (v := rec0 0 0 0) (by simp [results, Try.results46, go_sem]) rfl ⟨by rw [HR.out], ?_⟩
    repeat (first | exact Bel.refl _ | apply Bel.alloc)
  · have HR : Hid (recV a b c = (a, b, c)) := if_pos h
    go_enter Try.func46, Try.ntmps46
    go_wp2_with fail
    refine (fmtS a b c _).mono ?_
    rintro e w1 ⟨rfl, rfl⟩
    rw [h]
    go_wp2
    refine bodyPost_ret (v := rec0 a b c) (by simp [results, Try.results46, go_sem]) rfl ⟨by rw [HR.out], ?_⟩
    repeat (first | exact Bel.refl _ | apply Bel.alloc)
theorem eqPs0 (w : World) : Calls Try.prog 91 #[.slice none 0 0, .slice none 0 0] w fun e w' => e = .returned (.bool true) ∧ w = w' := by
  go_enter Try.func91, Try.ntmps91
  go_wp2
  refine wp_loop_rounds 1 ?_
  rw [rounds_succ]
  go_wp2
  go_ret
  exact ⟨rfl, rfl⟩
theorem markPs0 (k : Int) (w : World) : Calls Try.prog 92 #[.slice none 0 0, .int .i64 k] w fun e w' => e = .returned (.int .i64 k) ∧ w = w' := by
  go_enter Try.func92, Try.ntmps92
  go_wp2
  refine wp_loop_rounds 1 ?_
  rw [rounds_succ]
  go_wp2
  go_ret
  exact ⟨rfl, rfl⟩
theorem heldPs0 (k : Int) (w : World) : Calls Try.prog 93 #[.slice none 0 0, .int .i64 k] w fun e w' => e = .returned (.int .i64 k) ∧ w = w' := by
  go_enter Try.func93, Try.ntmps93
  go_wp2
  refine wp_loop_rounds 1 ?_
  rw [rounds_succ]
  go_wp2
  go_ret
  exact ⟨rfl, rfl⟩
set_option maxHeartbeats 400000 in
theorem eqRec0 (a b c : Int) (w : World) : Calls Try.prog 45 #[rec0 a b c, rec0 a b c] w fun e w' => e = .returned (.bool true) ∧ Bel w w' := by
  go_enter Try.func45, Try.ntmps45
  go_wp2_with fail
  refine (eqPs0 _).mono ?_
  rintro e w1 ⟨rfl, rfl⟩
  go_wp2
  go_ret
  exact ⟨rfl, ((Bel.refl _).alloc _).alloc _⟩
set_option maxHeartbeats 400000 in
theorem markRec0 (a b c k : Int) (w : World) : Calls Try.prog 48 #[rec0 a b c, .int .i64 k] w fun e w' => e = .returned (.int .i64 k) ∧ Bel w w' := by
  go_enter Try.func48, Try.ntmps48
  go_wp2_with fail
  refine (markPs0 k _).mono ?_
  rintro e w1 ⟨rfl, rfl⟩
  go_wp2
  go_ret
  exact ⟨rfl, (Bel.refl _).alloc _⟩
set_option maxHeartbeats 400000 in
theorem heldRec0 (a b c k : Int) (w : World) (hk : 0 ≤ k) : Calls Try.prog 49 #[rec0 a b c, .int .i64 k] w fun e w' => e = .returned (.int .i64 k) ∧ Bel w w' := by
  have hd : decide (k < 0) = false := by simp; omega
  go_enter Try.func49, Try.ntmps49
  go_wp2_with fail
  refine (heldPs0 k _).mono ?_
  rintro e w1 ⟨rfl, rfl⟩
  go_wp2
  go_ret
  exact ⟨rfl, (Bel.refl _).alloc _⟩
end Go.Proofs.Ytapjnaebdmdefaa
