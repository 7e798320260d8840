/-
  The product of two vectors: contracts of the program's dot and of the reference's DotProduct. Conditions: valid vectors of one length.
-/
import Derived.Test.YtjaagabbbnokdaaVec
import Derived.Test.YtjaagabbbnokdaaBq
namespace Go.Proofs.Ytjaagabbbnokdaa
open Go.ChangeShapes Go.WideShapes Go.ChangeAt Go.RowKit
set_option linter.unusedVariables false
set_option maxRecDepth 100000

/-- The sum of the first k products. -/
def dotSum (xs ys : List Int) : Nat → Int
  | 0 => 0
  | k + 1 => dotSum xs ys k + xs.getD k 0 * ys.getD k 0
def dotZ (xs ys : List Int) : Int := dotSum xs ys xs.length % 1019
theorem dotSum_step {xs ys : List Int} {k : Nat} {x y : Int} (hx : xs[k]? = some x) (hy : ys[k]? = some y) : dotSum xs ys (k + 1) = dotSum xs ys k + x * y := by
  simp [dotSum, List.getD, hx, hy]
theorem dotSum_comm (xs ys : List Int) (k : Nat) : dotSum xs ys k = dotSum ys xs k := by
  induction k with
  | zero => rfl
  | succ k ih => simp only [dotSum, ih, Int.mul_comm]
theorem dotZ_comm {xs ys : List Int} (h : xs.length = ys.length) : dotZ xs ys = dotZ ys xs := by
  unfold dotZ; rw [dotSum_comm, h]
theorem getD_bd {xs : List Int} (h : ∀ x ∈ xs, 0 ≤ x ∧ x ≤ 1018) (k : Nat) : 0 ≤ xs.getD k 0 ∧ xs.getD k 0 ≤ 1018 := by
  rcases Nat.lt_or_ge k xs.length with hk | hk
  · have : xs.getD k 0 = xs[k] := by simp [List.getD, List.getElem?_eq_getElem hk]
    rw [this]; exact h _ (List.getElem_mem hk)
  · have : xs.getD k 0 = 0 := by simp [List.getD, List.getElem?_eq_none hk]
    rw [this]; omega
theorem mul_bd {x y : Int} (hx : 0 ≤ x ∧ x ≤ 1018) (hy : 0 ≤ y ∧ y ≤ 1018) : 0 ≤ x * y ∧ x * y ≤ 1036324 := by
  have h1 : 0 ≤ x * y := Int.mul_nonneg hx.1 hy.1
  have h2 : x * y ≤ 1018 * 1018 := Int.mul_le_mul hx.2 hy.2 hy.1 (by omega)
  omega
theorem dotSum_bd {xs ys : List Int} (hx : ∀ x ∈ xs, 0 ≤ x ∧ x ≤ 1018) (hy : ∀ x ∈ ys, 0 ≤ x ∧ x ≤ 1018) (k : Nat) : 0 ≤ dotSum xs ys k ∧ dotSum xs ys k ≤ k * 1036324 := by
  induction k with
  | zero => simp [dotSum]
  | succ k ih =>
    have := mul_bd (getD_bd hx k) (getD_bd hy k)
    simp only [dotSum]
    omega
def pairB (xs ys : List Int) : Bool := vecB xs && vecB ys && ((xs.length : Int) == (ys.length : Int))
theorem pairB_facts {xs ys : List Int} (h : pairB xs ys = true) : vecB xs = true ∧ vecB ys = true ∧ xs.length = ys.length := by
  unfold pairB at h
  rw [Bool.and_eq_true, Bool.and_eq_true] at h
  exact ⟨h.1.1, h.1.2, by have := h.2; simp at this; omega⟩

theorem pairS (v u : Value) (xs ys : List Int) (w : World) (hv : RI w v xs) (hu : RI w u ys) :
    Calls Try.prog 156 #[v, u] w fun e w' => e = .returned (.bool (pairB xs ys)) ∧ w = w' := by
  have HM : Hid (pairB xs ys = (vecB xs && vecB ys && ((xs.length : Int) == (ys.length : Int)))) := rfl
  obtain ⟨A, c, rfl, h2, h3, hA⟩ := id hv
  obtain ⟨B, d, rfl, h4, h5, hB⟩ := id hu
  go_enter Try.func156, Try.ntmps156
  go_wp2_with fail
  refine (vecS _ xs _ hv).mono ?_
  rintro e w1 ⟨rfl, rfl⟩
  cases q1 : vecB xs
  · go_wp2
    go_ret
    exact ⟨by rw [HM.out, q1]; rfl, rfl⟩
  go_wp2_with fail
  refine (vecS _ ys _ hu).mono ?_
  rintro e w1 ⟨rfl, rfl⟩
  cases q2 : vecB ys
  · go_wp2
    go_ret
    exact ⟨by rw [HM.out, q1, q2]; rfl, rfl⟩
  go_wp2
  go_ret
  exact ⟨by rw [HM.out, q1, q2]; rfl, rfl⟩
end Go.Proofs.Ytjaagabbbnokdaa
