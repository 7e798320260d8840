/-
  The product of two vectors: contracts of the program's dot and of the reference's DotProduct. Conditions: valid vectors of one length.
-/
import Derived.Test.YtjaagabbbnokdaaGreatVec
import Derived.Test.YtjaagabbbnokdaaGreatBq
namespace Go.Proofs.YtjaagabbbnokdaaGreat
open Go.ChangeShapes Go.WideShapes Go.ChangeAt Go.RowKit
set_option linter.unusedVariables false
set_option maxRecDepth 100000

/-- The sum of the first k products. -/
def dotSum (xs ys : List Int) : Nat → Int
  | 0 => 0
  | k + 1 => dotSum xs ys k + xs.getD k 0 * ys.getD k 0
def dotZ (xs ys : List Int) : Int := dotSum xs ys xs.length % 1019
theorem dotSum_step {xs ys : List Int} {k : Nat} {x y : Int} (hx : xs[k]? = some x) (hy : ys[k]? = some y) : dotSum xs ys (k + 1) = dotSum xs ys k + x * y := by
  simp [dotSum, List.getD, hx, hy]
theorem dotSum_comm (xs ys : List Int) (k : Nat) : dotSum xs ys k = dotSum ys xs k := by
  induction k with
  | zero => rfl
  | succ k ih => simp only [dotSum, ih, Int.mul_comm]
theorem dotZ_comm {xs ys : List Int} (h : xs.length = ys.length) : dotZ xs ys = dotZ ys xs := by
  unfold dotZ; rw [dotSum_comm, h]
theorem getD_bd {xs : List Int} (h : ∀ x ∈ xs, 0 ≤ x ∧ x ≤ 1018) (k : Nat) : 0 ≤ xs.getD k 0 ∧ xs.getD k 0 ≤ 1018 := by
  rcases Nat.lt_or_ge k xs.length with hk | hk
  · have : xs.getD k 0 = xs[k] := by simp [List.getD, List.getElem?_eq_getElem hk]
    rw [this]; exact h _ (List.getElem_mem hk)
  · have : xs.getD k 0 = 0 := by simp [List.getD, List.getElem?_eq_none hk]
    rw [this]; omega
theorem mul_bd {x y : Int} (hx : 0 ≤ x ∧ x ≤ 1018) (hy : 0 ≤ y ∧ y ≤ 1018) : 0 ≤ x * y ∧ x * y ≤ 1036324 := by
  have h1 : 0 ≤ x * y := Int.mul_nonneg hx.1 hy.1
  have h2 : x * y ≤ 1018 * 1018 := Int.mul_le_mul hx.2 hy.2 hy.1 (by omega)
  omega
theorem dotSum_bd {xs ys : List Int} (hx : ∀ x ∈ xs, 0 ≤ x ∧ x ≤ 1018) (hy : ∀ x ∈ ys, 0 ≤ x ∧ x ≤ 1018) (k : Nat) : 0 ≤ dotSum xs ys k ∧ dotSum xs ys k ≤ k * 1036324 := by
  induction k with
  | zero => simp [dotSum]
  | succ k ih =>
    have := mul_bd (getD_bd hx k) (getD_bd hy k)
    simp only [dotSum]
    omega
def pairB (xs ys : List Int) : Bool := vecB xs && vecB ys && ((xs.length : Int) == (ys.length : Int))
theorem pairB_facts {xs ys : List Int} (h : pairB xs ys = true) : vecB xs = true ∧ vecB ys = true ∧ xs.length = ys.length := by
  unfold pairB at h
  rw [Bool.and_eq_true, Bool.and_eq_true] at h
  exact ⟨h.1.1, h.1.2, by have := h.2; simp at this; omega⟩

set_option maxHeartbeats 400000 in
theorem dotI (v u : Value) (xs ys : List Int) (w : World) (hv : RI w v xs) (hu : RI w u ys) (hl : xs.length ≤ ys.length) (hn : xs.length ≤ 40) (hg : ∀ x ∈ xs, 0 ≤ x ∧ x ≤ 1018) (he : ∀ x ∈ ys, 0 ≤ x ∧ x ≤ 1018) :
    Calls Tryz.prog 59 #[v, u] w fun e w' => e = .returned (.int .i64 (dotZ xs ys)) ∧ w = w' := by
  obtain ⟨A, c, rfl, h2, h3, hA⟩ := hv
  obtain ⟨B, d, rfl, h4, h5, hB⟩ := hu
  have HG := Lib.hid hg
  have HE := Lib.hid he
  clear hg he
  go_enter Tryz.func59, Tryz.ntmps59
  go_wp2
  go_loopg [5, 10] xs.length (fun f o i wr => ∃ k : Nat, k + f = xs.length ∧ i = .int .i64 k ∧ o = .int .i64 (dotSum xs ys k) ∧ wr = w)
  case atStart => exact ⟨0, by omega, rfl, rfl, rfl⟩
  case round =>
    obtain ⟨k, hk, rfl, rfl, rfl⟩ := hrel
    have hk2 : k ≤ xs.length := by omega
    have HK := Lib.hid hk
    clear hk
    obtain ⟨q1, q2⟩ := dotSum_bd HG.out HE.out k
    by_cases hlt : k < xs.length
    · obtain ⟨b1, o1, rfl, hb1, hc1⟩ := hA (by omega)
      obtain ⟨b2, o2, rfl, hb2, hc2⟩ := hB (by omega)
      have hx : xs[k]? = some (xs[k]'hlt) := List.getElem?_eq_getElem hlt
      have hy : ys[k]? = some (ys[k]'(by omega)) := List.getElem?_eq_getElem (by omega)
      have g1 := hc1 k _ hx
      have g2 := hc2 k _ hy
      obtain ⟨u3, u4⟩ := mul_bd (HG.out _ (List.getElem_mem hlt)) (HE.out _ (List.getElem_mem (show k < ys.length by omega)))
      have HS := Lib.hid (dotSum_step hx hy)
      clear hc1 hc2 hA hB hx hy
      generalize xs[k]'hlt = x at *
      generalize ys[k]'(by omega) = y at *
      have i0 : (0 : Int) ≤ (k : Int) := by omega
      have i1 : (k : Int) < (xs.length : Int) := by omega
      have i2 : (k : Int) < (ys.length : Int) := by omega
      generalize dotSum xs ys k = p at *
      go_wp2
      go_roundg (xs.length - (k + 1))
      case measure => have := HK.out; omega
      case rel => exact ⟨k + 1, by omega, by go_num, by rw [HS.out], rfl⟩
    · obtain rfl : k = xs.length := by omega
      have i1 : ¬ (xs.length : Int) < (xs.length : Int) := by omega
      have HD : Hid (dotZ xs ys = dotSum xs ys xs.length % 1019) := rfl
      generalize dotSum xs ys xs.length = p at *
      go_wp2
      go_ret
      exact ⟨by rw [HD.out]; rfl, rfl⟩
theorem pairS (v u : Value) (xs ys : List Int) (w : World) (hv : RI w v xs) (hu : RI w u ys) :
    Calls Tryz.prog 105 #[v, u] w fun e w' => e = .returned (.bool (pairB xs ys)) ∧ w = w' := by
  have HM : Hid (pairB xs ys = (vecB xs && vecB ys && ((xs.length : Int) == (ys.length : Int)))) := rfl
  obtain ⟨A, c, rfl, h2, h3, hA⟩ := id hv
  obtain ⟨B, d, rfl, h4, h5, hB⟩ := id hu
  go_enter Tryz.func105, Tryz.ntmps105
  go_wp2_with fail
  refine (vecS _ xs _ hv).mono ?_
  rintro e w1 ⟨rfl, rfl⟩
  cases q1 : vecB xs
  · go_wp2
    go_ret
    exact ⟨by rw [HM.out, q1]; rfl, rfl⟩
  go_wp2_with fail
  refine (vecS _ ys _ hu).mono ?_
  rintro e w1 ⟨rfl, rfl⟩
  cases q2 : vecB ys
  · go_wp2
    go_ret
    exact ⟨by rw [HM.out, q1, q2]; rfl, rfl⟩
  go_wp2
  go_ret
  exact ⟨by rw [HM.out, q1, q2]; rfl, rfl⟩
end Go.Proofs.YtjaagabbbnokdaaGreat
