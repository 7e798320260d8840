/-
  Contracts of EqualNullKeys, EqualBases and EqualDecoders, of the program and of the reference. No condition.
-/
import Derived.Test.YtmngpenoijmgiaaMat3
namespace Go.Proofs.Ytmngpenoijmgiaa
open Go.ChangeShapes Go.WideShapes Go.ChangeAt Go.RowKit
set_option linter.unusedVariables false
set_option maxRecDepth 100000

def eqBasesB (d1 d2 : Int) (xs ys : List (List Int)) : Bool := (d1 == d2) && decide (xs = ys)
set_option maxHeartbeats 400000 in
theorem eqBasesI_0 (d1 d2 : Int) (v1 v2 : Value) (xs ys : List (List Int)) (w : World) (h1 : RII w v1 xs) (h2 : RII w v2 ys) (e0 : (d1 == d2) = false) :
    Calls Try.prog 129 #[.agg #[.int .i64 d1, v1], .agg #[.int .i64 d2, v2]] w fun e w' => e = .returned (.bool (eqBasesB d1 d2 xs ys)) ∧ Bel w w' := by
  have HB : Hid ((eqBasesB d1 d2 xs ys) = false) := by show _ = _; simp only [eqBasesB, e0]; simp
  go_enter Try.func129, Try.ntmps129
  go_wp2
  go_ret
  exact ⟨by rw [HB.out]; rfl, ((Bel.refl _).alloc _).alloc _⟩
set_option maxHeartbeats 400000 in
theorem eqBasesI_1 (d1 d2 : Int) (v1 v2 : Value) (xs ys : List (List Int)) (w : World) (h1 : RII w v1 xs) (h2 : RII w v2 ys) (e0 : (d1 == d2) = true) :
    Calls Try.prog 129 #[.agg #[.int .i64 d1, v1], .agg #[.int .i64 d2, v2]] w fun e w' => e = .returned (.bool (eqBasesB d1 d2 xs ys)) ∧ Bel w w' := by
  have HB : Hid ((eqBasesB d1 d2 xs ys) = decide (xs = ys)) := by show _ = _; simp only [eqBasesB, e0]; simp
  go_enter Try.func129, Try.ntmps129
  go_wp2_with fail
  refine (matEqI _ _ xs ys _ (h1.keep (((Bel.refl _).alloc _).alloc _)) (h2.keep (((Bel.refl _).alloc _).alloc _))).mono ?_
  rintro e w1 ⟨rfl, hb1⟩
  go_wp2
  go_ret
  exact ⟨by rw [HB.out]; rfl, (((Bel.refl _).alloc _).alloc _).trans hb1⟩
theorem eqBasesI (d1 d2 : Int) (v1 v2 : Value) (xs ys : List (List Int)) (w : World) (h1 : RII w v1 xs) (h2 : RII w v2 ys) :
    Calls Try.prog 129 #[.agg #[.int .i64 d1, v1], .agg #[.int .i64 d2, v2]] w fun e w' => e = .returned (.bool (eqBasesB d1 d2 xs ys)) ∧ Bel w w' := by
  cases e0 : (d1 == d2)
  · exact eqBasesI_0 d1 d2 v1 v2 xs ys w h1 h2 e0
  exact eqBasesI_1 d1 d2 v1 v2 xs ys w h1 h2 e0
set_option maxHeartbeats 400000 in
theorem eqBasesS_0 (d1 d2 : Int) (v1 v2 : Value) (xs ys : List (List Int)) (w : World) (h1 : RII w v1 xs) (h2 : RII w v2 ys) (e0 : (d1 == d2) = false) :
    Calls Try.prog 127 #[.agg #[.int .i64 d1, v1], .agg #[.int .i64 d2, v2]] w fun e w' => e = .returned (.bool (eqBasesB d1 d2 xs ys)) ∧ Bel w w' := by
  have HB : Hid ((eqBasesB d1 d2 xs ys) = false) := by show _ = _; simp only [eqBasesB, e0]; simp
  go_enter Try.func127, Try.ntmps127
  go_wp2
  go_ret
  exact ⟨by rw [HB.out]; rfl, ((Bel.refl _).alloc _).alloc _⟩
set_option maxHeartbeats 400000 in
theorem eqBasesS_1 (d1 d2 : Int) (v1 v2 : Value) (xs ys : List (List Int)) (w : World) (h1 : RII w v1 xs) (h2 : RII w v2 ys) (e0 : (d1 == d2) = true) :
    Calls Try.prog 127 #[.agg #[.int .i64 d1, v1], .agg #[.int .i64 d2, v2]] w fun e w' => e = .returned (.bool (eqBasesB d1 d2 xs ys)) ∧ Bel w w' := by
  have HB : Hid ((eqBasesB d1 d2 xs ys) = decide (xs = ys)) := by show _ = _; simp only [eqBasesB, e0]; simp
  go_enter Try.func127, Try.ntmps127
  go_wp2_with fail
  refine (matEqS _ _ xs ys _ (h1.keep (((Bel.refl _).alloc _).alloc _)) (h2.keep (((Bel.refl _).alloc _).alloc _))).mono ?_
  rintro e w1 ⟨rfl, hb1⟩
  go_wp2
  go_ret
  exact ⟨by rw [HB.out]; rfl, (((Bel.refl _).alloc _).alloc _).trans hb1⟩
theorem eqBasesS (d1 d2 : Int) (v1 v2 : Value) (xs ys : List (List Int)) (w : World) (h1 : RII w v1 xs) (h2 : RII w v2 ys) :
    Calls Try.prog 127 #[.agg #[.int .i64 d1, v1], .agg #[.int .i64 d2, v2]] w fun e w' => e = .returned (.bool (eqBasesB d1 d2 xs ys)) ∧ Bel w w' := by
  cases e0 : (d1 == d2)
  · exact eqBasesS_0 d1 d2 v1 v2 xs ys w h1 h2 e0
  exact eqBasesS_1 d1 d2 v1 v2 xs ys w h1 h2 e0
def eqNkB (a1 b1 c1 a2 b2 c2 : Int) (xs ys : List (List Int)) : Bool := (a1 == a2) && (b1 == b2) && (c1 == c2) && decide (xs = ys)
set_option maxHeartbeats 400000 in
theorem eqNkI_0 (a1 b1 c1 a2 b2 c2 : Int) (v1 v2 : Value) (xs ys : List (List Int)) (w : World) (h1 : RII w v1 xs) (h2 : RII w v2 ys) (e0 : (a1 == a2) = false) :
    Calls Try.prog 58 #[.agg #[.int .i64 a1, .int .i64 b1, .int .i64 c1, v1], .agg #[.int .i64 a2, .int .i64 b2, .int .i64 c2, v2]] w fun e w' => e = .returned (.bool (eqNkB a1 b1 c1 a2 b2 c2 xs ys)) ∧ Bel w w' := by
  have HB : Hid ((eqNkB a1 b1 c1 a2 b2 c2 xs ys) = false) := by show _ = _; simp only [eqNkB, e0]; simp
  go_enter Try.func58, Try.ntmps58
  go_wp2
  go_ret
  exact ⟨by rw [HB.out]; rfl, ((Bel.refl _).alloc _).alloc _⟩
set_option maxHeartbeats 400000 in
theorem eqNkI_1 (a1 b1 c1 a2 b2 c2 : Int) (v1 v2 : Value) (xs ys : List (List Int)) (w : World) (h1 : RII w v1 xs) (h2 : RII w v2 ys) (e0 : (a1 == a2) = true) (e1 : (b1 == b2) = false) :
    Calls Try.prog 58 #[.agg #[.int .i64 a1, .int .i64 b1, .int .i64 c1, v1], .agg #[.int .i64 a2, .int .i64 b2, .int .i64 c2, v2]] w fun e w' => e = .returned (.bool (eqNkB a1 b1 c1 a2 b2 c2 xs ys)) ∧ Bel w w' := by
  have HB : Hid ((eqNkB a1 b1 c1 a2 b2 c2 xs ys) = false) := by show _ = _; simp only [eqNkB, e0, e1]; simp
  go_enter Try.func58, Try.ntmps58
  go_wp2
  go_ret
  exact ⟨by rw [HB.out]; rfl, ((Bel.refl _).alloc _).alloc _⟩
set_option maxHeartbeats 400000 in
theorem eqNkI_2 (a1 b1 c1 a2 b2 c2 : Int) (v1 v2 : Value) (xs ys : List (List Int)) (w : World) (h1 : RII w v1 xs) (h2 : RII w v2 ys) (e0 : (a1 == a2) = true) (e1 : (b1 == b2) = true) (e2 : (c1 == c2) = false) :
    Calls Try.prog 58 #[.agg #[.int .i64 a1, .int .i64 b1, .int .i64 c1, v1], .agg #[.int .i64 a2, .int .i64 b2, .int .i64 c2, v2]] w fun e w' => e = .returned (.bool (eqNkB a1 b1 c1 a2 b2 c2 xs ys)) ∧ Bel w w' := by
  have HB : Hid ((eqNkB a1 b1 c1 a2 b2 c2 xs ys) = false) := by show _ = _; simp only [eqNkB, e0, e1, e2]; simp
  go_enter Try.func58, Try.ntmps58
  go_wp2
  go_ret
  exact ⟨by rw [HB.out]; rfl, ((Bel.refl _).alloc _).alloc _⟩
set_option maxHeartbeats 400000 in
theorem eqNkI_3 (a1 b1 c1 a2 b2 c2 : Int) (v1 v2 : Value) (xs ys : List (List Int)) (w : World) (h1 : RII w v1 xs) (h2 : RII w v2 ys) (e0 : (a1 == a2) = true) (e1 : (b1 == b2) = true) (e2 : (c1 == c2) = true) :
    Calls Try.prog 58 #[.agg #[.int .i64 a1, .int .i64 b1, .int .i64 c1, v1], .agg #[.int .i64 a2, .int .i64 b2, .int .i64 c2, v2]] w fun e w' => e = .returned (.bool (eqNkB a1 b1 c1 a2 b2 c2 xs ys)) ∧ Bel w w' := by
  have HB : Hid ((eqNkB a1 b1 c1 a2 b2 c2 xs ys) = decide (xs = ys)) := by show _ = _; simp only [eqNkB, e0, e1, e2]; simp
  go_enter Try.func58, Try.ntmps58
  go_wp2_with fail
  refine (matEqI _ _ xs ys _ (h1.keep (((Bel.refl _).alloc _).alloc _)) (h2.keep (((Bel.refl _).alloc _).alloc _))).mono ?_
  rintro e w1 ⟨rfl, hb1⟩
  go_wp2
  go_ret
  exact ⟨by rw [HB.out]; rfl, (((Bel.refl _).alloc _).alloc _).trans hb1⟩
theorem eqNkI (a1 b1 c1 a2 b2 c2 : Int) (v1 v2 : Value) (xs ys : List (List Int)) (w : World) (h1 : RII w v1 xs) (h2 : RII w v2 ys) :
    Calls Try.prog 58 #[.agg #[.int .i64 a1, .int .i64 b1, .int .i64 c1, v1], .agg #[.int .i64 a2, .int .i64 b2, .int .i64 c2, v2]] w fun e w' => e = .returned (.bool (eqNkB a1 b1 c1 a2 b2 c2 xs ys)) ∧ Bel w w' := by
  cases e0 : (a1 == a2)
  · exact eqNkI_0 a1 b1 c1 a2 b2 c2 v1 v2 xs ys w h1 h2 e0
  cases e1 : (b1 == b2)
  · exact eqNkI_1 a1 b1 c1 a2 b2 c2 v1 v2 xs ys w h1 h2 e0 e1
  cases e2 : (c1 == c2)
  · exact eqNkI_2 a1 b1 c1 a2 b2 c2 v1 v2 xs ys w h1 h2 e0 e1 e2
  exact eqNkI_3 a1 b1 c1 a2 b2 c2 v1 v2 xs ys w h1 h2 e0 e1 e2
set_option maxHeartbeats 400000 in
theorem eqNkS_0 (a1 b1 c1 a2 b2 c2 : Int) (v1 v2 : Value) (xs ys : List (List Int)) (w : World) (h1 : RII w v1 xs) (h2 : RII w v2 ys) (e0 : (a1 == a2) = false) :
    Calls Try.prog 56 #[.agg #[.int .i64 a1, .int .i64 b1, .int .i64 c1, v1], .agg #[.int .i64 a2, .int .i64 b2, .int .i64 c2, v2]] w fun e w' => e = .returned (.bool (eqNkB a1 b1 c1 a2 b2 c2 xs ys)) ∧ Bel w w' := by
  have HB : Hid ((eqNkB a1 b1 c1 a2 b2 c2 xs ys) = false) := by show _ = _; simp only [eqNkB, e0]; simp
  go_enter Try.func56, Try.ntmps56
  go_wp2
  go_ret
  exact ⟨by rw [HB.out]; rfl, ((Bel.refl _).alloc _).alloc _⟩
set_option maxHeartbeats 400000 in
theorem eqNkS_1 (a1 b1 c1 a2 b2 c2 : Int) (v1 v2 : Value) (xs ys : List (List Int)) (w : World) (h1 : RII w v1 xs) (h2 : RII w v2 ys) (e0 : (a1 == a2) = true) (e1 : (b1 == b2) = false) :
    Calls Try.prog 56 #[.agg #[.int .i64 a1, .int .i64 b1, .int .i64 c1, v1], .agg #[.int .i64 a2, .int .i64 b2, .int .i64 c2, v2]] w fun e w' => e = .returned (.bool (eqNkB a1 b1 c1 a2 b2 c2 xs ys)) ∧ Bel w w' := by
  have HB : Hid ((eqNkB a1 b1 c1 a2 b2 c2 xs ys) = false) := by show _ = _; simp only [eqNkB, e0, e1]; simp
  go_enter Try.func56, Try.ntmps56
  go_wp2
  go_ret
  exact ⟨by rw [HB.out]; rfl, ((Bel.refl _).alloc _).alloc _⟩
set_option maxHeartbeats 400000 in
theorem eqNkS_2 (a1 b1 c1 a2 b2 c2 : Int) (v1 v2 : Value) (xs ys : List (List Int)) (w : World) (h1 : RII w v1 xs) (h2 : RII w v2 ys) (e0 : (a1 == a2) = true) (e1 : (b1 == b2) = true) (e2 : (c1 == c2) = false) :
    Calls Try.prog 56 #[.agg #[.int .i64 a1, .int .i64 b1, .int .i64 c1, v1], .agg #[.int .i64 a2, .int .i64 b2, .int .i64 c2, v2]] w fun e w' => e = .returned (.bool (eqNkB a1 b1 c1 a2 b2 c2 xs ys)) ∧ Bel w w' := by
  have HB : Hid ((eqNkB a1 b1 c1 a2 b2 c2 xs ys) = false) := by show _ = _; simp only [eqNkB, e0, e1, e2]; simp
  go_enter Try.func56, Try.ntmps56
  go_wp2
  go_ret
  exact ⟨by rw [HB.out]; rfl, ((Bel.refl _).alloc _).alloc _⟩
set_option maxHeartbeats 400000 in
theorem eqNkS_3 (a1 b1 c1 a2 b2 c2 : Int) (v1 v2 : Value) (xs ys : List (List Int)) (w : World) (h1 : RII w v1 xs) (h2 : RII w v2 ys) (e0 : (a1 == a2) = true) (e1 : (b1 == b2) = true) (e2 : (c1 == c2) = true) :
    Calls Try.prog 56 #[.agg #[.int .i64 a1, .int .i64 b1, .int .i64 c1, v1], .agg #[.int .i64 a2, .int .i64 b2, .int .i64 c2, v2]] w fun e w' => e = .returned (.bool (eqNkB a1 b1 c1 a2 b2 c2 xs ys)) ∧ Bel w w' := by
  have HB : Hid ((eqNkB a1 b1 c1 a2 b2 c2 xs ys) = decide (xs = ys)) := by show _ = _; simp only [eqNkB, e0, e1, e2]; simp
  go_enter Try.func56, Try.ntmps56
  go_wp2_with fail
  refine (matEqS _ _ xs ys _ (h1.keep (((Bel.refl _).alloc _).alloc _)) (h2.keep (((Bel.refl _).alloc _).alloc _))).mono ?_
  rintro e w1 ⟨rfl, hb1⟩
  go_wp2
  go_ret
  exact ⟨by rw [HB.out]; rfl, (((Bel.refl _).alloc _).alloc _).trans hb1⟩
theorem eqNkS (a1 b1 c1 a2 b2 c2 : Int) (v1 v2 : Value) (xs ys : List (List Int)) (w : World) (h1 : RII w v1 xs) (h2 : RII w v2 ys) :
    Calls Try.prog 56 #[.agg #[.int .i64 a1, .int .i64 b1, .int .i64 c1, v1], .agg #[.int .i64 a2, .int .i64 b2, .int .i64 c2, v2]] w fun e w' => e = .returned (.bool (eqNkB a1 b1 c1 a2 b2 c2 xs ys)) ∧ Bel w w' := by
  cases e0 : (a1 == a2)
  · exact eqNkS_0 a1 b1 c1 a2 b2 c2 v1 v2 xs ys w h1 h2 e0
  cases e1 : (b1 == b2)
  · exact eqNkS_1 a1 b1 c1 a2 b2 c2 v1 v2 xs ys w h1 h2 e0 e1
  cases e2 : (c1 == c2)
  · exact eqNkS_2 a1 b1 c1 a2 b2 c2 v1 v2 xs ys w h1 h2 e0 e1 e2
  exact eqNkS_3 a1 b1 c1 a2 b2 c2 v1 v2 xs ys w h1 h2 e0 e1 e2
def eqDecB (a1 b1 c1 d1 a2 b2 c2 d2 : Int) (xs ys : List (List Int)) : Bool := (a1 == a2) && (b1 == b2) && (c1 == c2) && eqBasesB d1 d2 xs ys
set_option maxHeartbeats 400000 in
theorem eqDecI_0 (a1 b1 c1 d1 a2 b2 c2 d2 : Int) (v1 v2 : Value) (xs ys : List (List Int)) (w : World) (h1 : RII w v1 xs) (h2 : RII w v2 ys) (e0 : (a1 == a2) = false) :
    Calls Try.prog 65 #[.agg #[.int .i64 a1, .int .i64 b1, .int .i64 c1, .int .i64 d1, v1], .agg #[.int .i64 a2, .int .i64 b2, .int .i64 c2, .int .i64 d2, v2]] w fun e w' => e = .returned (.bool (eqDecB a1 b1 c1 d1 a2 b2 c2 d2 xs ys)) ∧ Bel w w' := by
  have HB : Hid ((eqDecB a1 b1 c1 d1 a2 b2 c2 d2 xs ys) = false) := by show _ = _; simp only [eqDecB, e0]; simp
  go_enter Try.func65, Try.ntmps65
  go_wp2
  go_ret
  exact ⟨by rw [HB.out]; rfl, ((Bel.refl _).alloc _).alloc _⟩
set_option maxHeartbeats 400000 in
theorem eqDecI_1 (a1 b1 c1 d1 a2 b2 c2 d2 : Int) (v1 v2 : Value) (xs ys : List (List Int)) (w : World) (h1 : RII w v1 xs) (h2 : RII w v2 ys) (e0 : (a1 == a2) = true) (e1 : (b1 == b2) = false) :
    Calls Try.prog 65 #[.agg #[.int .i64 a1, .int .i64 b1, .int .i64 c1, .int .i64 d1, v1], .agg #[.int .i64 a2, .int .i64 b2, .int .i64 c2, .int .i64 d2, v2]] w fun e w' => e = .returned (.bool (eqDecB a1 b1 c1 d1 a2 b2 c2 d2 xs ys)) ∧ Bel w w' := by
  have HB : Hid ((eqDecB a1 b1 c1 d1 a2 b2 c2 d2 xs ys) = false) := by show _ = _; simp only [eqDecB, e0, e1]; simp
  go_enter Try.func65, Try.ntmps65
  go_wp2
  go_ret
  exact ⟨by rw [HB.out]; rfl, ((Bel.refl _).alloc _).alloc _⟩
set_option maxHeartbeats 400000 in
theorem eqDecI_2 (a1 b1 c1 d1 a2 b2 c2 d2 : Int) (v1 v2 : Value) (xs ys : List (List Int)) (w : World) (h1 : RII w v1 xs) (h2 : RII w v2 ys) (e0 : (a1 == a2) = true) (e1 : (b1 == b2) = true) (e2 : (c1 == c2) = false) :
    Calls Try.prog 65 #[.agg #[.int .i64 a1, .int .i64 b1, .int .i64 c1, .int .i64 d1, v1], .agg #[.int .i64 a2, .int .i64 b2, .int .i64 c2, .int .i64 d2, v2]] w fun e w' => e = .returned (.bool (eqDecB a1 b1 c1 d1 a2 b2 c2 d2 xs ys)) ∧ Bel w w' := by
  have HB : Hid ((eqDecB a1 b1 c1 d1 a2 b2 c2 d2 xs ys) = false) := by show _ = _; simp only [eqDecB, e0, e1, e2]; simp
  go_enter Try.func65, Try.ntmps65
  go_wp2
  go_ret
  exact ⟨by rw [HB.out]; rfl, ((Bel.refl _).alloc _).alloc _⟩
set_option maxHeartbeats 400000 in
theorem eqDecI_3 (a1 b1 c1 d1 a2 b2 c2 d2 : Int) (v1 v2 : Value) (xs ys : List (List Int)) (w : World) (h1 : RII w v1 xs) (h2 : RII w v2 ys) (e0 : (a1 == a2) = true) (e1 : (b1 == b2) = true) (e2 : (c1 == c2) = true) :
    Calls Try.prog 65 #[.agg #[.int .i64 a1, .int .i64 b1, .int .i64 c1, .int .i64 d1, v1], .agg #[.int .i64 a2, .int .i64 b2, .int .i64 c2, .int .i64 d2, v2]] w fun e w' => e = .returned (.bool (eqDecB a1 b1 c1 d1 a2 b2 c2 d2 xs ys)) ∧ Bel w w' := by
  have HB : Hid ((eqDecB a1 b1 c1 d1 a2 b2 c2 d2 xs ys) = eqBasesB d1 d2 xs ys) := by show _ = _; simp only [eqDecB, e0, e1, e2]; simp
  go_enter Try.func65, Try.ntmps65
  go_wp2_with fail
  refine (eqBasesI d1 d2 _ _ xs ys _ (h1.keep (((Bel.refl _).alloc _).alloc _)) (h2.keep (((Bel.refl _).alloc _).alloc _))).mono ?_
  rintro e w1 ⟨rfl, hb1⟩
  go_wp2
  go_ret
  exact ⟨by rw [HB.out]; rfl, (((Bel.refl _).alloc _).alloc _).trans hb1⟩
theorem eqDecI (a1 b1 c1 d1 a2 b2 c2 d2 : Int) (v1 v2 : Value) (xs ys : List (List Int)) (w : World) (h1 : RII w v1 xs) (h2 : RII w v2 ys) :
    Calls Try.prog 65 #[.agg #[.int .i64 a1, .int .i64 b1, .int .i64 c1, .int .i64 d1, v1], .agg #[.int .i64 a2, .int .i64 b2, .int .i64 c2, .int .i64 d2, v2]] w fun e w' => e = .returned (.bool (eqDecB a1 b1 c1 d1 a2 b2 c2 d2 xs ys)) ∧ Bel w w' := by
  cases e0 : (a1 == a2)
  · exact eqDecI_0 a1 b1 c1 d1 a2 b2 c2 d2 v1 v2 xs ys w h1 h2 e0
  cases e1 : (b1 == b2)
  · exact eqDecI_1 a1 b1 c1 d1 a2 b2 c2 d2 v1 v2 xs ys w h1 h2 e0 e1
  cases e2 : (c1 == c2)
  · exact eqDecI_2 a1 b1 c1 d1 a2 b2 c2 d2 v1 v2 xs ys w h1 h2 e0 e1 e2
  exact eqDecI_3 a1 b1 c1 d1 a2 b2 c2 d2 v1 v2 xs ys w h1 h2 e0 e1 e2
set_option maxHeartbeats 400000 in
theorem eqDecS_0 (a1 b1 c1 d1 a2 b2 c2 d2 : Int) (v1 v2 : Value) (xs ys : List (List Int)) (w : World) (h1 : RII w v1 xs) (h2 : RII w v2 ys) (e0 : (a1 == a2) = false) :
    Calls Try.prog 63 #[.agg #[.int .i64 a1, .int .i64 b1, .int .i64 c1, .int .i64 d1, v1], .agg #[.int .i64 a2, .int .i64 b2, .int .i64 c2, .int .i64 d2, v2]] w fun e w' => e = .returned (.bool (eqDecB a1 b1 c1 d1 a2 b2 c2 d2 xs ys)) ∧ Bel w w' := by
  have HB : Hid ((eqDecB a1 b1 c1 d1 a2 b2 c2 d2 xs ys) = false) := by show _ = _; simp only [eqDecB, e0]; simp
  go_enter Try.func63, Try.ntmps63
  go_wp2
  go_ret
  exact ⟨by rw [HB.out]; rfl, ((Bel.refl _).alloc _).alloc _⟩
set_option maxHeartbeats 400000 in
theorem eqDecS_1 (a1 b1 c1 d1 a2 b2 c2 d2 : Int) (v1 v2 : Value) (xs ys : List (List Int)) (w : World) (h1 : RII w v1 xs) (h2 : RII w v2 ys) (e0 : (a1 == a2) = true) (e1 : (b1 == b2) = false) :
    Calls Try.prog 63 #[.agg #[.int .i64 a1, .int .i64 b1, .int .i64 c1, .int .i64 d1, v1], .agg #[.int .i64 a2, .int .i64 b2, .int .i64 c2, .int .i64 d2, v2]] w fun e w' => e = .returned (.bool (eqDecB a1 b1 c1 d1 a2 b2 c2 d2 xs ys)) ∧ Bel w w' := by
  have HB : Hid ((eqDecB a1 b1 c1 d1 a2 b2 c2 d2 xs ys) = false) := by show _ = _; simp only [eqDecB, e0, e1]; simp
  go_enter Try.func63, Try.ntmps63
  go_wp2
  go_ret
  exact ⟨by rw [HB.out]; rfl, ((Bel.refl _).alloc _).alloc _⟩
set_option maxHeartbeats 400000 in
theorem eqDecS_2 (a1 b1 c1 d1 a2 b2 c2 d2 : Int) (v1 v2 : Value) (xs ys : List (List Int)) (w : World) (h1 : RII w v1 xs) (h2 : RII w v2 ys) (e0 : (a1 == a2) = true) (e1 : (b1 == b2) = true) (e2 : (c1 == c2) = false) :
    Calls Try.prog 63 #[.agg #[.int .i64 a1, .int .i64 b1, .int .i64 c1, .int .i64 d1, v1], .agg #[.int .i64 a2, .int .i64 b2, .int .i64 c2, .int .i64 d2, v2]] w fun e w' => e = .returned (.bool (eqDecB a1 b1 c1 d1 a2 b2 c2 d2 xs ys)) ∧ Bel w w' := by
  have HB : Hid ((eqDecB a1 b1 c1 d1 a2 b2 c2 d2 xs ys) = false) := by show _ = _; simp only [eqDecB, e0, e1, e2]; simp
  go_enter Try.func63, Try.ntmps63
  go_wp2
  go_ret
  exact ⟨by rw [HB.out]; rfl, ((Bel.refl _).alloc _).alloc _⟩
set_option maxHeartbeats 400000 in
theorem eqDecS_3 (a1 b1 c1 d1 a2 b2 c2 d2 : Int) (v1 v2 : Value) (xs ys : List (List Int)) (w : World) (h1 : RII w v1 xs) (h2 : RII w v2 ys) (e0 : (a1 == a2) = true) (e1 : (b1 == b2) = true) (e2 : (c1 == c2) = true) :
    Calls Try.prog 63 #[.agg #[.int .i64 a1, .int .i64 b1, .int .i64 c1, .int .i64 d1, v1], .agg #[.int .i64 a2, .int .i64 b2, .int .i64 c2, .int .i64 d2, v2]] w fun e w' => e = .returned (.bool (eqDecB a1 b1 c1 d1 a2 b2 c2 d2 xs ys)) ∧ Bel w w' := by
  have HB : Hid ((eqDecB a1 b1 c1 d1 a2 b2 c2 d2 xs ys) = eqBasesB d1 d2 xs ys) := by show _ = _; simp only [eqDecB, e0, e1, e2]; simp
  go_enter Try.func63, Try.ntmps63
  go_wp2_with fail
  refine (eqBasesS d1 d2 _ _ xs ys _ (h1.keep (((Bel.refl _).alloc _).alloc _)) (h2.keep (((Bel.refl _).alloc _).alloc _))).mono ?_
  rintro e w1 ⟨rfl, hb1⟩
  go_wp2
  go_ret
  exact ⟨by rw [HB.out]; rfl, (((Bel.refl _).alloc _).alloc _).trans hb1⟩
theorem eqDecS (a1 b1 c1 d1 a2 b2 c2 d2 : Int) (v1 v2 : Value) (xs ys : List (List Int)) (w : World) (h1 : RII w v1 xs) (h2 : RII w v2 ys) :
    Calls Try.prog 63 #[.agg #[.int .i64 a1, .int .i64 b1, .int .i64 c1, .int .i64 d1, v1], .agg #[.int .i64 a2, .int .i64 b2, .int .i64 c2, .int .i64 d2, v2]] w fun e w' => e = .returned (.bool (eqDecB a1 b1 c1 d1 a2 b2 c2 d2 xs ys)) ∧ Bel w w' := by
  cases e0 : (a1 == a2)
  · exact eqDecS_0 a1 b1 c1 d1 a2 b2 c2 d2 v1 v2 xs ys w h1 h2 e0
  cases e1 : (b1 == b2)
  · exact eqDecS_1 a1 b1 c1 d1 a2 b2 c2 d2 v1 v2 xs ys w h1 h2 e0 e1
  cases e2 : (c1 == c2)
  · exact eqDecS_2 a1 b1 c1 d1 a2 b2 c2 d2 v1 v2 xs ys w h1 h2 e0 e1 e2
  exact eqDecS_3 a1 b1 c1 d1 a2 b2 c2 d2 v1 v2 xs ys w h1 h2 e0 e1 e2
end Go.Proofs.Ytmngpenoijmgiaa
