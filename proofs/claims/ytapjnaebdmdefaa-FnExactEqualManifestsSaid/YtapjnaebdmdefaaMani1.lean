/-
  Contracts of EqualManifests, of the program and of the reference. No condition.
-/
import Derived.Test.YtapjnaebdmdefaaEqI
namespace Go.Proofs.Ytapjnaebdmdefaa
open Go.ChangeShapes Go.WideShapes Go.ChangeAt Go.RowKit
set_option linter.unusedVariables false
set_option maxRecDepth 100000

def eqManiB (a1 b1 c1 d1 m1 a2 b2 c2 d2 m2 : Int) (xs ys : List Int) : Bool := (a1 == a2) && (b1 == b2) && (c1 == c2) && (d1 == d2) && (m1 == m2) && decide (xs = ys)
set_option maxHeartbeats 400000 in
theorem eqManiI_0 (a1 b1 c1 d1 m1 a2 b2 c2 d2 m2 : Int) (v1 v2 : Value) (xs ys : List Int) (w : World) (h1 : RI w v1 xs) (h2 : RI w v2 ys)  (e0 : (a1 == a2) = false) :
    Calls Try.prog 18 #[.agg #[.int .i64 a1, .int .i64 b1, .int .i64 c1, .int .i64 d1, v1, .int .i64 m1], .agg #[.int .i64 a2, .int .i64 b2, .int .i64 c2, .int .i64 d2, v2, .int .i64 m2]] w fun e w' => e = .returned (.bool (eqManiB a1 b1 c1 d1 m1 a2 b2 c2 d2 m2 xs ys)) ∧ Bel w w' := by
  have HB : Hid ((eqManiB a1 b1 c1 d1 m1 a2 b2 c2 d2 m2 xs ys) = false) := by show _ = _; simp only [eqManiB, e0]; simp
  go_enter Try.func18, Try.ntmps18
  go_wp2
  go_ret
  exact ⟨by rw [HB.out]; rfl, ((Bel.refl _).alloc _).alloc _⟩
set_option maxHeartbeats 400000 in
theorem eqManiI_1 (a1 b1 c1 d1 m1 a2 b2 c2 d2 m2 : Int) (v1 v2 : Value) (xs ys : List Int) (w : World) (h1 : RI w v1 xs) (h2 : RI w v2 ys) (e0 : (a1 == a2) = true) (e1 : (b1 == b2) = false) :
    Calls Try.prog 18 #[.agg #[.int .i64 a1, .int .i64 b1, .int .i64 c1, .int .i64 d1, v1, .int .i64 m1], .agg #[.int .i64 a2, .int .i64 b2, .int .i64 c2, .int .i64 d2, v2, .int .i64 m2]] w fun e w' => e = .returned (.bool (eqManiB a1 b1 c1 d1 m1 a2 b2 c2 d2 m2 xs ys)) ∧ Bel w w' := by
  have HB : Hid ((eqManiB a1 b1 c1 d1 m1 a2 b2 c2 d2 m2 xs ys) = false) := by show _ = _; simp only [eqManiB, e0, e1]; simp
  go_enter Try.func18, Try.ntmps18
  go_wp2
  go_ret
  exact ⟨by rw [HB.out]; rfl, ((Bel.refl _).alloc _).alloc _⟩
set_option maxHeartbeats 400000 in
theorem eqManiI_2 (a1 b1 c1 d1 m1 a2 b2 c2 d2 m2 : Int) (v1 v2 : Value) (xs ys : List Int) (w : World) (h1 : RI w v1 xs) (h2 : RI w v2 ys) (e0 : (a1 == a2) = true) (e1 : (b1 == b2) = true) (e2 : (c1 == c2) = false) :
    Calls Try.prog 18 #[.agg #[.int .i64 a1, .int .i64 b1, .int .i64 c1, .int .i64 d1, v1, .int .i64 m1], .agg #[.int .i64 a2, .int .i64 b2, .int .i64 c2, .int .i64 d2, v2, .int .i64 m2]] w fun e w' => e = .returned (.bool (eqManiB a1 b1 c1 d1 m1 a2 b2 c2 d2 m2 xs ys)) ∧ Bel w w' := by
  have HB : Hid ((eqManiB a1 b1 c1 d1 m1 a2 b2 c2 d2 m2 xs ys) = false) := by show _ = _; simp only [eqManiB, e0, e1, e2]; simp
  go_enter Try.func18, Try.ntmps18
  go_wp2
  go_ret
  exact ⟨by rw [HB.out]; rfl, ((Bel.refl _).alloc _).alloc _⟩
set_option maxHeartbeats 400000 in
theorem eqManiI_3 (a1 b1 c1 d1 m1 a2 b2 c2 d2 m2 : Int) (v1 v2 : Value) (xs ys : List Int) (w : World) (h1 : RI w v1 xs) (h2 : RI w v2 ys) (e0 : (a1 == a2) = true) (e1 : (b1 == b2) = true) (e2 : (c1 == c2) = true) (e3 : (d1 == d2) = false) :
    Calls Try.prog 18 #[.agg #[.int .i64 a1, .int .i64 b1, .int .i64 c1, .int .i64 d1, v1, .int .i64 m1], .agg #[.int .i64 a2, .int .i64 b2, .int .i64 c2, .int .i64 d2, v2, .int .i64 m2]] w fun e w' => e = .returned (.bool (eqManiB a1 b1 c1 d1 m1 a2 b2 c2 d2 m2 xs ys)) ∧ Bel w w' := by
  have HB : Hid ((eqManiB a1 b1 c1 d1 m1 a2 b2 c2 d2 m2 xs ys) = false) := by show _ = _; simp only [eqManiB, e0, e1, e2, e3]; simp
  go_enter Try.func18, Try.ntmps18
  go_wp2
  go_ret
  exact ⟨by rw [HB.out]; rfl, ((Bel.refl _).alloc _).alloc _⟩
set_option maxHeartbeats 400000 in
theorem eqManiI_4 (a1 b1 c1 d1 m1 a2 b2 c2 d2 m2 : Int) (v1 v2 : Value) (xs ys : List Int) (w : World) (h1 : RI w v1 xs) (h2 : RI w v2 ys) (e0 : (a1 == a2) = true) (e1 : (b1 == b2) = true) (e2 : (c1 == c2) = true) (e3 : (d1 == d2) = true) (e4 : (m1 == m2) = false) :
    Calls Try.prog 18 #[.agg #[.int .i64 a1, .int .i64 b1, .int .i64 c1, .int .i64 d1, v1, .int .i64 m1], .agg #[.int .i64 a2, .int .i64 b2, .int .i64 c2, .int .i64 d2, v2, .int .i64 m2]] w fun e w' => e = .returned (.bool (eqManiB a1 b1 c1 d1 m1 a2 b2 c2 d2 m2 xs ys)) ∧ Bel w w' := by
  have HB : Hid ((eqManiB a1 b1 c1 d1 m1 a2 b2 c2 d2 m2 xs ys) = false) := by show _ = _; simp only [eqManiB, e0, e1, e2, e3, e4]; simp
  go_enter Try.func18, Try.ntmps18
  go_wp2
  go_ret
  exact ⟨by rw [HB.out]; rfl, ((Bel.refl _).alloc _).alloc _⟩
set_option maxHeartbeats 400000 in
theorem eqManiI_5 (a1 b1 c1 d1 m1 a2 b2 c2 d2 m2 : Int) (v1 v2 : Value) (xs ys : List Int) (w : World) (h1 : RI w v1 xs) (h2 : RI w v2 ys) (e0 : (a1 == a2) = true) (e1 : (b1 == b2) = true) (e2 : (c1 == c2) = true) (e3 : (d1 == d2) = true) (e4 : (m1 == m2) = true) :
    Calls Try.prog 18 #[.agg #[.int .i64 a1, .int .i64 b1, .int .i64 c1, .int .i64 d1, v1, .int .i64 m1], .agg #[.int .i64 a2, .int .i64 b2, .int .i64 c2, .int .i64 d2, v2, .int .i64 m2]] w fun e w' => e = .returned (.bool (eqManiB a1 b1 c1 d1 m1 a2 b2 c2 d2 m2 xs ys)) ∧ Bel w w' := by
  have HB : Hid ((eqManiB a1 b1 c1 d1 m1 a2 b2 c2 d2 m2 xs ys) = decide (xs = ys)) := by show _ = _; simp only [eqManiB, e0, e1, e2, e3, e4]; simp
  go_enter Try.func18, Try.ntmps18
  go_wp2_with fail
  refine (sEqI _ _ xs ys _ (h1.keep (((Bel.refl _).alloc _).alloc _)) (h2.keep (((Bel.refl _).alloc _).alloc _))).mono ?_
  rintro e w1 ⟨rfl, hb1⟩
  go_wp2
  go_ret
  exact ⟨by rw [HB.out]; rfl, (((Bel.refl _).alloc _).alloc _).trans hb1⟩
theorem eqManiI (a1 b1 c1 d1 m1 a2 b2 c2 d2 m2 : Int) (v1 v2 : Value) (xs ys : List Int) (w : World) (h1 : RI w v1 xs) (h2 : RI w v2 ys) :
    Calls Try.prog 18 #[.agg #[.int .i64 a1, .int .i64 b1, .int .i64 c1, .int .i64 d1, v1, .int .i64 m1], .agg #[.int .i64 a2, .int .i64 b2, .int .i64 c2, .int .i64 d2, v2, .int .i64 m2]] w fun e w' => e = .returned (.bool (eqManiB a1 b1 c1 d1 m1 a2 b2 c2 d2 m2 xs ys)) ∧ Bel w w' := by
  cases e0 : (a1 == a2)
  · exact eqManiI_0 a1 b1 c1 d1 m1 a2 b2 c2 d2 m2 v1 v2 xs ys w h1 h2 e0
  cases e1 : (b1 == b2)
  · exact eqManiI_1 a1 b1 c1 d1 m1 a2 b2 c2 d2 m2 v1 v2 xs ys w h1 h2 e0 e1
  cases e2 : (c1 == c2)
  · exact eqManiI_2 a1 b1 c1 d1 m1 a2 b2 c2 d2 m2 v1 v2 xs ys w h1 h2 e0 e1 e2
  cases e3 : (d1 == d2)
  · exact eqManiI_3 a1 b1 c1 d1 m1 a2 b2 c2 d2 m2 v1 v2 xs ys w h1 h2 e0 e1 e2 e3
  cases e4 : (m1 == m2)
  · exact eqManiI_4 a1 b1 c1 d1 m1 a2 b2 c2 d2 m2 v1 v2 xs ys w h1 h2 e0 e1 e2 e3 e4
  exact eqManiI_5 a1 b1 c1 d1 m1 a2 b2 c2 d2 m2 v1 v2 xs ys w h1 h2 e0 e1 e2 e3 e4 
set_option maxHeartbeats 400000 in
theorem eqManiS_0 (a1 b1 c1 d1 m1 a2 b2 c2 d2 m2 : Int) (v1 v2 : Value) (xs ys : List Int) (w : World) (h1 : RI w v1 xs) (h2 : RI w v2 ys)  (e0 : (a1 == a2) = false) :
    Calls Try.prog 16 #[.agg #[.int .i64 a1, .int .i64 b1, .int .i64 c1, .int .i64 d1, v1, .int .i64 m1], .agg #[.int .i64 a2, .int .i64 b2, .int .i64 c2, .int .i64 d2, v2, .int .i64 m2]] w fun e w' => e = .returned (.bool (eqManiB a1 b1 c1 d1 m1 a2 b2 c2 d2 m2 xs ys)) ∧ Bel w w' := by
  have HB : Hid ((eqManiB a1 b1 c1 d1 m1 a2 b2 c2 d2 m2 xs ys) = false) := by show _ = _; simp only [eqManiB, e0]; simp
  go_enter Try.func16, Try.ntmps16
  go_wp2
  go_ret
  exact ⟨by rw [HB.out]; rfl, ((Bel.refl _).alloc _).alloc _⟩
set_option maxHeartbeats 400000 in
theorem eqManiS_1 (a1 b1 c1 d1 m1 a2 b2 c2 d2 m2 : Int) (v1 v2 : Value) (xs ys : List Int) (w : World) (h1 : RI w v1 xs) (h2 : RI w v2 ys) (e0 : (a1 == a2) = true) (e1 : (b1 == b2) = false) :
    Calls Try.prog 16 #[.agg #[.int .i64 a1, .int .i64 b1, .int .i64 c1, .int .i64 d1, v1, .int .i64 m1], .agg #[.int .i64 a2, .int .i64 b2, .int .i64 c2, .int .i64 d2, v2, .int .i64 m2]] w fun e w' => e = .returned (.bool (eqManiB a1 b1 c1 d1 m1 a2 b2 c2 d2 m2 xs ys)) ∧ Bel w w' := by
  have HB : Hid ((eqManiB a1 b1 c1 d1 m1 a2 b2 c2 d2 m2 xs ys) = false) := by show _ = _; simp only [eqManiB, e0, e1]; simp
  go_enter Try.func16, Try.ntmps16
  go_wp2
  go_ret
  exact ⟨by rw [HB.out]; rfl, ((Bel.refl _).alloc _).alloc _⟩
set_option maxHeartbeats 400000 in
theorem eqManiS_2 (a1 b1 c1 d1 m1 a2 b2 c2 d2 m2 : Int) (v1 v2 : Value) (xs ys : List Int) (w : World) (h1 : RI w v1 xs) (h2 : RI w v2 ys) (e0 : (a1 == a2) = true) (e1 : (b1 == b2) = true) (e2 : (c1 == c2) = false) :
    Calls Try.prog 16 #[.agg #[.int .i64 a1, .int .i64 b1, .int .i64 c1, .int .i64 d1, v1, .int .i64 m1], .agg #[.int .i64 a2, .int .i64 b2, .int .i64 c2, .int .i64 d2, v2, .int .i64 m2]] w fun e w' => e = .returned (.bool (eqManiB a1 b1 c1 d1 m1 a2 b2 c2 d2 m2 xs ys)) ∧ Bel w w' := by
  have HB : Hid ((eqManiB a1 b1 c1 d1 m1 a2 b2 c2 d2 m2 xs ys) = false) := by show _ = _; simp only [eqManiB, e0, e1, e2]; simp
  go_enter Try.func16, Try.ntmps16
  go_wp2
  go_ret
  exact ⟨by rw [HB.out]; rfl, ((Bel.refl _).alloc _).alloc _⟩
set_option maxHeartbeats 400000 in
theorem eqManiS_3 (a1 b1 c1 d1 m1 a2 b2 c2 d2 m2 : Int) (v1 v2 : Value) (xs ys : List Int) (w : World) (h1 : RI w v1 xs) (h2 : RI w v2 ys) (e0 : (a1 == a2) = true) (e1 : (b1 == b2) = true) (e2 : (c1 == c2) = true) (e3 : (d1 == d2) = false) :
    Calls Try.prog 16 #[.agg #[.int .i64 a1, .int .i64 b1, .int .i64 c1, .int .i64 d1, v1, .int .i64 m1], .agg #[.int .i64 a2, .int .i64 b2, .int .i64 c2, .int .i64 d2, v2, .int .i64 m2]] w fun e w' => e = .returned (.bool (eqManiB a1 b1 c1 d1 m1 a2 b2 c2 d2 m2 xs ys)) ∧ Bel w w' := by
  have HB : Hid ((eqManiB a1 b1 c1 d1 m1 a2 b2 c2 d2 m2 xs ys) = false) := by show _ = _; simp only [eqManiB, e0, e1, e2, e3]; simp
  go_enter Try.func16, Try.ntmps16
  go_wp2
  go_ret
  exact ⟨by rw [HB.out]; rfl, ((Bel.refl _).alloc _).alloc _⟩
set_option maxHeartbeats 400000 in
theorem eqManiS_4 (a1 b1 c1 d1 m1 a2 b2 c2 d2 m2 : Int) (v1 v2 : Value) (xs ys : List Int) (w : World) (h1 : RI w v1 xs) (h2 : RI w v2 ys) (e0 : (a1 == a2) = true) (e1 : (b1 == b2) = true) (e2 : (c1 == c2) = true) (e3 : (d1 == d2) = true) (e4 : (m1 == m2) = false) :
    Calls Try.prog 16 #[.agg #[.int .i64 a1, .int .i64 b1, .int .i64 c1, .int .i64 d1, v1, .int .i64 m1], .agg #[.int .i64 a2, .int .i64 b2, .int .i64 c2, .int .i64 d2, v2, .int .i64 m2]] w fun e w' => e = .returned (.bool (eqManiB a1 b1 c1 d1 m1 a2 b2 c2 d2 m2 xs ys)) ∧ Bel w w' := by
  have HB : Hid ((eqManiB a1 b1 c1 d1 m1 a2 b2 c2 d2 m2 xs ys) = false) := by show _ = _; simp only [eqManiB, e0, e1, e2, e3, e4]; simp
  go_enter Try.func16, Try.ntmps16
  go_wp2
  go_ret
  exact ⟨by rw [HB.out]; rfl, ((Bel.refl _).alloc _).alloc _⟩
set_option maxHeartbeats 400000 in
theorem eqManiS_5 (a1 b1 c1 d1 m1 a2 b2 c2 d2 m2 : Int) (v1 v2 : Value) (xs ys : List Int) (w : World) (h1 : RI w v1 xs) (h2 : RI w v2 ys) (e0 : (a1 == a2) = true) (e1 : (b1 == b2) = true) (e2 : (c1 == c2) = true) (e3 : (d1 == d2) = true) (e4 : (m1 == m2) = true) :
    Calls Try.prog 16 #[.agg #[.int .i64 a1, .int .i64 b1, .int .i64 c1, .int .i64 d1, v1, .int .i64 m1], .agg #[.int .i64 a2, .int .i64 b2, .int .i64 c2, .int .i64 d2, v2, .int .i64 m2]] w fun e w' => e = .returned (.bool (eqManiB a1 b1 c1 d1 m1 a2 b2 c2 d2 m2 xs ys)) ∧ Bel w w' := by
  have HB : Hid ((eqManiB a1 b1 c1 d1 m1 a2 b2 c2 d2 m2 xs ys) = decide (xs = ys)) := by show _ = _; simp only [eqManiB, e0, e1, e2, e3, e4]; simp
  go_enter Try.func16, Try.ntmps16
  go_wp2_with fail
  refine (sEqS _ _ xs ys _ (h1.keep (((Bel.refl _).alloc _).alloc _)) (h2.keep (((Bel.refl _).alloc _).alloc _))).mono ?_
  rintro e w1 ⟨rfl, hb1⟩
  go_wp2
  go_ret
  exact ⟨by rw [HB.out]; rfl, (((Bel.refl _).alloc _).alloc _).trans hb1⟩
theorem eqManiS (a1 b1 c1 d1 m1 a2 b2 c2 d2 m2 : Int) (v1 v2 : Value) (xs ys : List Int) (w : World) (h1 : RI w v1 xs) (h2 : RI w v2 ys) :
    Calls Try.prog 16 #[.agg #[.int .i64 a1, .int .i64 b1, .int .i64 c1, .int .i64 d1, v1, .int .i64 m1], .agg #[.int .i64 a2, .int .i64 b2, .int .i64 c2, .int .i64 d2, v2, .int .i64 m2]] w fun e w' => e = .returned (.bool (eqManiB a1 b1 c1 d1 m1 a2 b2 c2 d2 m2 xs ys)) ∧ Bel w w' := by
  cases e0 : (a1 == a2)
  · exact eqManiS_0 a1 b1 c1 d1 m1 a2 b2 c2 d2 m2 v1 v2 xs ys w h1 h2 e0
  cases e1 : (b1 == b2)
  · exact eqManiS_1 a1 b1 c1 d1 m1 a2 b2 c2 d2 m2 v1 v2 xs ys w h1 h2 e0 e1
  cases e2 : (c1 == c2)
  · exact eqManiS_2 a1 b1 c1 d1 m1 a2 b2 c2 d2 m2 v1 v2 xs ys w h1 h2 e0 e1 e2
  cases e3 : (d1 == d2)
  · exact eqManiS_3 a1 b1 c1 d1 m1 a2 b2 c2 d2 m2 v1 v2 xs ys w h1 h2 e0 e1 e2 e3
  cases e4 : (m1 == m2)
  · exact eqManiS_4 a1 b1 c1 d1 m1 a2 b2 c2 d2 m2 v1 v2 xs ys w h1 h2 e0 e1 e2 e3 e4
  exact eqManiS_5 a1 b1 c1 d1 m1 a2 b2 c2 d2 m2 v1 v2 xs ys w h1 h2 e0 e1 e2 e3 e4 
end Go.Proofs.Ytapjnaebdmdefaa
